/- Search: SearchLooks, the card. -/
import Derived.Test.YtccplipiahdhiaaGreatDoorProg
import Derived.Shelf.SlSortCmp.NoneTotal
import Derived.Laws.CopyRow
import Derived.Lib.SliceRun
import Derived.Test.YtccplipiahdhiaaGreatDoorSl4
namespace Go.Proofs.YtccplipiahdhiaaGreatDoor
open Go.RowKit Go.Vc
set_option linter.unusedVariables false
set_option linter.unusedSimpArgs false
set_option maxRecDepth 100000
structure IxR (w:World) (gx gd mt mh:Nat) (D:Im) (o:Nat→Nat) (S:PS) (nv:Sv) (tv:Nat→Sv) (hv:ByteArray→Sv):Prop where
 wf:Wf D
 sd:S.D=D
 pm:PM w o ⟨gd,98,[]⟩ S
 blk:Blk w gx #[.pointer (some ⟨gd,0,none⟩),slV nv,.map (some mt),.map (some mh)] 136
 nod:RdV LHn w (allD' D) nv
 tm:Mp .u64 w mt (mpTx (slA D.sl) (allD' D) tv)
 to:∀n∈allD' D,isT (slA D.sl) n=true→RdV LS w (wsF (slA D.sl) n) (tv n)
 hm:Ms w mh (mpHt (stsF (slA D.sl) (allD' D)) hv)
 ho:∀k,RdV LHt w (hitF (stsF (slA D.sl) (allD' D)) k) (hv k)
def Ix (w:World) (gx:Nat) (D:Im):Prop:=∃gd mt mh o S nv tv hv,IxR w gx gd mt mh D o S nv tv hv
section
variable {w w0 w1:World}{o:Nat→Nat}{gx gd mt mh:Nat}{D:Im}{S:PS}{nv:Sv}{tv:Nat→Sv}{hv:ByteArray→Sv}{R:Ending→World→Prop}{θ:Th}
theorem IxR.keep (h:IxR w gx gd mt mh D o S nv tv hv) (hb:Below w.heap.size w w1):IxR w1 gx gd mt mh D o S nv tv hv :=
 ⟨h.wf,h.sd,h.pm.below hb,h.blk.keep hb,h.nod.keep hb,h.tm.fm (M:=fun _=>False) (.below hb) (fun h=>h),fun n hn ht=>(h.to n hn ht).keep hb,h.hm.fm (M:=fun _=>False) (.below hb) (fun h=>h),fun k=>(h.ho k).keep hb⟩
theorem Ix.keep (h:Ix w gx D) (hb:Below w.heap.size w w1):Ix w1 gx D:=by
 obtain⟨gd,mt,mh,o,S,nv,tv,hv,h⟩:=h
 exact⟨gd,mt,mh,o,S,nv,tv,hv,h.keep hb⟩
theorem All0_calls (h:PM w o θ S) (hS:WfS S.D.sl) (hA:WfA (slA S.D.sl) S.D.roots []) (hK:∀v w',Below w.heap.size w w'→Own LHn w' w.heap.size 65 (slV v) (allD' S.D)→R (.returned (.tuple #[slV v,.int .i64 0])) w') :
  Calls Tryz.prog 56 #[.pointer (some ⟨θ.g,0,none⟩),.int .u64 0] w R:=by
 refine ok56 (some ⟨θ.g,0,none⟩) 0 ?_
 unfold F56
 refine bre (fun _=>?_) (fun h0=>absurd rfl h0)
 obtain⟨nv,rv,hd⟩:=h.doc
 have c1:w.cell? ⟨θ.g,1,none⟩=some (.slice rv.1 rv.2.1 rv.2.2):=by rw [hd.blk.cell];rfl
 simp only [NonNil_some,Addr.add_mk,Nat.zero_add,c1,lds]
 obtain⟨q1,q2⟩:=rdO hd.r1
 rw [List.length_map] at q1
 have hfew:=rootsAll_few hS hA
 refine allP_calls h hA 65 (v:=rv) (cc:=1) (xs:=[]) q1 q2 h.rts.2 (fun x hx=>by
  obtain⟨_,u,u1,u2⟩:=hA.root.2 x hx
  exact⟨u,u1,.succ (hA.ne0 u1) u1 (by rw [u2];exact .zero)⟩) (by omega) (.refl _ _) (Own.nil _ _ _ _) (by simp only [List.length_nil];omega) fun A' n' c' w' hb ho=>⟨_,_,_,rfl,?_⟩
 rw [List.nil_append] at ho
 exact hK (A',n',c') w' hb ho
theorem rdHeld {α:Type}{L:Lay α}{A:Option Addr}{c:Nat}{xs:List α}{Q:World→Prop} (h:Rd L w A c xs) (hS:∀w1,Q w1→Rd L w1 A c xs) {n:Nat} (hn:n=xs.length) {i:Int} (h0:0≤i) (h1:i < n) {sz:Nat} (hsz:sz=L.n) {K:Addr→Prop}
  (hK:∀b o,(∀j u,(L.cells (xs[i.toNat]'(by omega)))[j]?=some u→Held Q ⟨b,o+j,none⟩ u)→K ⟨b,o,none⟩):IdxA A n i sz K:=by
 subst hsz
 have hlt:i.toNat < xs.length:=by omega
 obtain⟨b,o,hA,hc⟩:=h.at i.toNat hlt
 subst hA
 rw [IdxA_some h0 h1,Addr.add_mk]
 refine hK _ _ fun j u hj w1 hw=>?_
 obtain⟨b',o',hA',hc'⟩:=(hS w1 hw).at i.toNat hlt
 simp only [Option.some.injEq,Addr.mk.injEq,and_true] at hA'
 obtain⟨rfl,rfl⟩:=hA'
 exact hc' j u hj
theorem hits_loop {w6:World}{N:List Nat}{n:Nat}{st0:List (ByteArray × Hit)}{A:Nat→Option Sl}{u u2:Sv}{l:List (ByteArray × Nat)} (hl:l.length≤16384) (hst:st0.length≤67108864) {o:Nat→Nat} (h:IxO w6 w o mt mh A N st0 tv hv) {xs:List Value}
  (hgx:gx < w6.heap.size) (hgt:gx≠mt∧gx≠mh) (hB:Blk w gx #[.pointer (some ⟨gd,0,none⟩),slV nv,.map (some mt),.map (some mh)] 136)
  (hu:Own LS w w6.heap.size 9 (slV u) (l.map (·.1))) (hu2:Own LI w w6.heap.size 3 (slV u2) (l.map fun p=>(p.2:Int))) (huc:∀x,rowOf (slV u)=some x→o x≠5) (huc2:∀x,rowOf (slV u2)=some x→o x=0) {J:World→Prop}
  (hJ:∀w' o' hv',IxO w6 w' o' mt mh A N (st0++numF n 0 l) tv hv'→Blk w' gx #[.pointer (some ⟨gd,0,none⟩),slV nv,.map (some mt),.map (some mh)] 136→J w') :
  ∃(I:Int→World→Prop) (m:Int→World→Nat),I (0:Int) w ∧
   ∀(x67:Int) (w1_16:World),I x67 w1_16→F26_l13 ⟨gx,0,none⟩ J (n:Nat) u.1 u.2.1 u2.1 u2.2.1 (fun x67' w2=>I x67' w2∧m x67' w2 < m x67 w1_16) x67 w1_16 R:=by
 obtain⟨z1,z2⟩:=rdO hu
 obtain⟨y1,y2⟩:=rdO hu2
 rw [List.length_map] at z1 y1
 refine⟨fun i w'=>∃(k:Nat) (o':Nat→Nat) (hv':ByteArray→Sv),i=k∧k≤l.length∧IxO w6 w' o' mt mh A N (st0++numF n 0 (l.take k)) tv hv'∧Blk w' gx #[.pointer (some ⟨gd,0,none⟩),slV nv,.map (some mt),.map (some mh)] 136 ∧
   Own LS w' w6.heap.size 9 (slV u) (l.map (·.1))∧Own LI w' w6.heap.size 3 (slV u2) (l.map fun p=>(p.2:Int))∧(∀x,rowOf (slV u)=some x→o' x≠5)∧(∀x,rowOf (slV u2)=some x→o' x≠5),
  fun i _=>l.length-i.toNat,⟨0,o,hv,rfl,by omega,by simpa [numF] using h,hB,hu,hu2,huc,fun x hx=>by rw [huc2 x hx];decide⟩,?_⟩
 rintro _ w1 ⟨k,o1,hv1,rfl,hk,h1,b1,u1,v1,c1,d1⟩
 unfold F26_l13
 refine brd (fun hlt=>?_) (fun hge=>?_)
 ·have hk2:k < l.length:=by omega
  refine⟨fun w'=>∃(o':Nat→Nat) (hv':ByteArray→Sv),IxO w6 w' o' mt mh A N (st0++numF n 0 (l.take (k+1))) tv hv'∧Blk w' gx #[.pointer (some ⟨gd,0,none⟩),slV nv,.map (some mt),.map (some mh)] 136 ∧
   Own LS w' w6.heap.size 9 (slV u) (l.map (·.1))∧Own LI w' w6.heap.size 3 (slV u2) (l.map fun p=>(p.2:Int))∧(∀x,rowOf (slV u)=some x→o' x≠5)∧(∀x,rowOf (slV u2)=some x→o' x≠5),?_,?_⟩
  ·rintro w' ⟨o',hv',q⟩
   exact⟨inR_i64 (by omega) (by omega),⟨k+1,o',hv',by simp,by omega,q⟩,(by first | omega | (dsimp only;omega))⟩
  refine (rdO u1).2.str (by rw [List.length_map,z1]) rfl (k:=k) (by rw [List.length_map];exact hk2) fun b oo c0=>?_
  rw [List.getElem_map] at c0
  simp only [c0,lds]
  have hdr:Below w1.heap.size w1 w1.drew:=(Below.refl _ _).drew
  refine⟨fun w'=>Blk w' gx #[.pointer (some ⟨gd,0,none⟩),slV nv,.map (some mt),.map (some mh)] 136∧Rd LI w' u2.1 u2.2.2 (l.map fun p=>(p.2:Int)),⟨b1.keep hdr,((rdO v1).2).keep hdr⟩,?_⟩
  simp only [Addr.add_mk,Nat.zero_add]
  refine⟨_,fun w' hw=>by rw [hw.1.cell];rfl,_,fun w' hw=>by rw [hw.1.cell];rfl,?_⟩
  refine rdHeld (Q:=fun w'=>Blk w' gx #[.pointer (some ⟨gd,0,none⟩),slV nv,.map (some mt),.map (some mh)] 136∧Rd LI w' u2.1 u2.2.2 (l.map fun p=>(p.2:Int))) (rdO v1).2 (fun w' hw=>hw.2) (by rw [List.length_map,y1]) (by omega) (by omega) rfl fun b2 o2 cc=>?_
  have cc:=cc 0 _ rfl
  simp only [Int.toNat_natCast,List.getElem_map,Nat.add_zero] at cc
  refine⟨_,cc,?_⟩
  have hnum:numF n 0 (l.take (k+1))=numF n 0 (l.take k)++[(l[k].1,(n,k,l[k].2))]:=by
   rw [List.take_succ_eq_append_getElem hk2,numF_app,List.length_take,Nat.min_eq_left hk]
   simp [numF]
  have hh:=h1.below hdr
  have hb1l:=b1.lt
  have hsz1:=h1.fr.size
  have fin:∀(w2 w3:World) (v v1':Sv),Below w1.heap.size w1 w2→Own LHt w2 0 67 (slV v) (hitF (st0++numF n 0 (l.take k)) l[k].1)→(∀x,rowOf (slV v)=some x→o1 x=5)→(∀k',k'≠l[k].1→Apart (slV (hv1 k')) (slV v)) →
    Own LHt w3 0 67 (slV v1') (hitF (st0++numF n 0 (l.take k)) l[k].1++[(n,k,l[k].2)])→Grew 0 w2 w3 (slV v) (slV v1') →
    (Blk w3 gx #[.pointer (some ⟨gd,0,none⟩),slV nv,.map (some mt),.map (some mh)] 136∧Rd LI w3 u2.1 u2.2.2 (l.map fun p=>(p.2:Int)))∧Raw Tryz.prog (Instr.mapUpdate 134 (.map (some mh)) (.string l[k].1) (slV v1')) w3 fun _ w'=>∃(o':Nat→Nat) (hv':ByteArray→Sv),IxO w6 w' o' mt mh A N (st0++numF n 0 (l.take (k+1))) tv hv'∧Blk w' gx #[.pointer (some ⟨gd,0,none⟩),slV nv,.map (some mt),.map (some mh)] 136 ∧
   Own LS w' w6.heap.size 9 (slV u) (l.map (·.1))∧Own LI w' w6.heap.size 3 (slV u2) (l.map fun p=>(p.2:Int))∧(∀x,rowOf (slV u)=some x→o' x≠5)∧(∀x,rowOf (slV u2)=some x→o' x≠5):=by
   intro w2 w3 v v1' hb2 ow oc oa ow1 g
   have h2:=h1.below hb2
   have b2:=b1.keep hb2
   have FG:Fm (fun b=>rowOf (slV v)=some b) w2 w3:=Fm.grown g.grown fun b hb=>hb
   have hnx:∀x,o1 x≠5→rowOf (slV v)≠some x:=fun x hx e=>hx (oc x e)
   have hox:∀x,o1 x≠0→w6.heap.size≤x:=fun x hx=>(h1.lt x hx).1
   have hgv:rowOf (slV v)≠some gx:=fun e=>by have:=hox gx (by rw [oc gx e];decide);omega
   refine⟨⟨FG.blk b2 hgv,(rdO (own_fm (v1.keep hb2) FG fun x hx e=>hnx x (d1 x hx) e)).2⟩,?_⟩
   refine h2.hit ow oc oa g ow1 fun w' o' h' ff hs1 hs2=>⟨o',fun k'=>if k'=l[k].1 then v1' else hv1 k',?_,?_,?_,?_,fun x hx=>?_,fun x hx=>?_⟩
   ·rw [hnum,←List.append_assoc];exact h'
   ·exact ff.blk b2 fun e=>by
     rcases e with e | e
     ·exact hgt.2 e
     ·exact hgv e
   ·exact own_fm (u1.keep hb2) ff fun x hx e=>by
     rcases e with e | e
     ·have:=(u1.lt x hx).1;have:=h1.hl;omega
     ·exact hnx x (c1 x hx) e
   ·exact own_fm (v1.keep hb2) ff fun x hx e=>by
     rcases e with e | e
     ·have:=(v1.lt x hx).1;have:=h1.hl;omega
     ·exact hnx x (d1 x hx) e
   ·have hxl:=(u1.lt x hx).2
    by_cases e:o1 x=0
    ·rw [hs2 x fun e2=>?_,e];decide
     rcases g.row with q | q | ⟨z,q,q2⟩
     ·rw [q] at e2;rw [oc x e2] at e;cases e
     ·rw [q] at e2;cases e2
     ·rw [q] at e2;cases e2;have:=hb2.size;omega
    ·rw [hs1 x e];exact c1 x hx
   ·have hxl:=(v1.lt x hx).2
    by_cases e:o1 x=0
    ·rw [hs2 x fun e2=>?_,e];decide
     rcases g.row with q | q | ⟨z,q,q2⟩
     ·rw [q] at e2;rw [oc x e2] at e;cases e
     ·rw [q] at e2;cases e2
     ·rw [q] at e2;cases e2;have:=hb2.size;omega
    ·rw [hs1 x e];exact d1 x hx
  have hlen:(hitF (st0++numF n 0 (l.take k)) l[k].1).length≤67125248:=by
   unfold hitF
   rw [List.length_map]
   refine Nat.le_trans (List.length_filter_le _ _) ?_
   rw [List.length_append,numF_len,List.length_take];omega
  constructor
  ·refine hh.look l[k].1 fun v ow oc oa=>⟨_,_,_,rfl,⟨b1.keep hdr,((rdO v1).2).keep hdr⟩,?_⟩
   refine ap1S (L:=LHt) (x:=(n,k,l[k].2)) (base:=0) (.agg #[.int .u64 0,.int .i64 0,.int .i64 0]) 24 rfl (by kernel_rfl) (by kernel_rfl) (by kernel_rfl) ow (Nat.zero_le _) (by omega) (by simp [maxLen];omega) (fun w' hb=>⟨(b1.keep hdr).keep hb,(((rdO v1).2).keep hdr).keep hb⟩) fun A' c' w4 o4 g4=>⟨A',_,c',rfl,?_⟩
   exact fin w1.drew w4 v (A',_,c') hdr ow oc oa o4 g4
  ·refine al fun g90 w2 hb2 b90 hge=>⟨⟨(b1.keep hdr).keep hb2,(((rdO v1).2).keep hdr).keep hb2⟩,?_⟩
   refine (hh.below hb2).look l[k].1 fun v ow oc oa=>⟨_,_,_,rfl,⟨(b1.keep hdr).keep hb2,(((rdO v1).2).keep hdr).keep hb2⟩,?_⟩
   have hlit:Own LHt w2 0 67 (.slice (some ⟨g90,0,none⟩) 1 1) [(n,k,l[k].2)]:=Own.lit' (xs:=[(n,k,l[k].2)]) b90 (Nat.zero_le _) (by simp [Lay.all,LHt]) (by simp [maxLen])
   refine ap (L:=LHt) (base:=0) (.agg #[.int .u64 0,.int .i64 0,.int .i64 0]) 24 rfl (by kernel_rfl) (by kernel_rfl) (by kernel_rfl) ow hlit.rd.2 (Nat.zero_le _) (by simp only [List.length_singleton];omega) (by simp [maxLen];omega) fun A' c' w4 o4 g4=>⟨A',_,c',rfl,?_⟩
   exact fin w2 w4 v (A',_,c') (btr hdr hdr.size hb2) ow oc oa o4 g4
 ·have hk2:k=l.length:=by omega
  subst hk2
  rw [List.take_length] at h1
  exact hJ w1 o1 hv1 h1 b1
theorem IxO.skip {w6:World}{A:Nat→Option Sl}{N:List Nat}{st:List (ByteArray × Hit)} (h:IxO w6 w o mt mh A N st tv hv) {n:Nat} (hn:isT A n=false):IxO w6 w o mt mh A (N++[n]) st tv hv:=by
 refine⟨h.fr,h.lt,h.ne,h.tl,h.hl,?_,fun m hm ht=>?_,h.hm,h.ho,h.hc,h.ha⟩
 ·have:mpTx A (N++[n]) tv=mpTx A N tv:=by
   funext k
   unfold mpTx
   by_cases e:k.toNat=n
   ·rw [if_neg (fun q=>by rw [e,hn] at q;cases q.2.2),if_neg (fun q=>by rw [e,hn] at q;cases q.2.2)]
   ·simp only [List.mem_append,List.mem_singleton,e,or_false]
  rw [this];exact h.tm
 ·rcases List.mem_append.1 hm with q | q
  ·exact h.to m q ht
  ·rw [List.mem_singleton] at q;subst q;rw [hn] at ht;cases ht
theorem sts_len (hw:Wf D) (l:List Nat):(stsF (slA D.sl) l).length≤l.length*16384:=by
 unfold stsF
 have:∀l:List Nat,(l.flatMap (stF (slA D.sl))).length≤l.length*16384:=by
  intro l
  induction l with
  | nil=>simp
  | cons x l ih =>
   rw [List.flatMap_cons,List.length_append,List.length_cons,Nat.add_mul]
   have:(stF (slA D.sl) x).length≤16384:=by
    unfold stF
    rw [numF_len]
    unfold wdF
    cases hs:slA D.sl x with
    | none=>simp
    | some s =>
     show (txF s).length≤_
     unfold txF
     split
     ·rename_i hk
      have h1:=(hw.a.ok x s hs).1
      unfold ownF at h1
      rw [if_neg (by omega),if_pos hk] at h1
      have:=textS_ok (s:=s.text) (by omega)
      have:=wordsF_len s.text 0
      omega
     ·simp
   omega
 exact this l
theorem alm {K:Nat→World→Prop} (h:∀r w1,Below w.heap.size w w1→w.heap.size≤r→r < w1.heap.size→w1.heap[r]?=some (.map #[] 0)→K r w1):AlM w K :=
 h _ _ ((Below.refl _ _).alloc (Nat.le_refl _) _) (Nat.le_refl _) (by simp) (heap_alloc_new _ _)
theorem mp_empty (q:IntKind) {r:Nat} (h:w.heap[r]?=some (.map #[] 0)):Mp q w r fun _=>none:=⟨#[],0,h,⟨fun x hx=>by simp at hx,fun k v h=>by simp at h,by simp,fun x hx=>by simp at hx,by simp⟩⟩
theorem ms_empty {r:Nat} (h:w.heap[r]?=some (.map #[] 0)):Ms w r fun _=>none:=⟨#[],0,h,⟨fun x hx=>by simp at hx,fun k v h=>by simp at h,by simp,fun x hx=>by simp at hx,by simp⟩⟩
theorem New_callsF {k g : Nat} {ty : TypeId} (h : LD k g ty w o D) (hw : Wf D) (hK : ∀ gx w', Below w.heap.size w w' → (∀ (M : Nat → Prop) (w'' : World), Fm M w' w'' → (∀ b, b < w'.heap.size → M b → b < w.heap.size) → Ix w'' gx D) → R (.returned (.tuple #[.pointer (some ⟨gx, 0, none⟩), .int .i64 0])) w') :
  Calls Tryz.prog 26 #[.pointer (some ⟨g,0,none⟩)] w R:=by
 refine ok26 (some ⟨g,0,none⟩) ?_
 unfold F26
 simp only [Option.isNone_some,Br_f]
 refine Tree_calls h ?_
 intro gd bs o1 w1 S hb1 hSD hp1 _ ho1 _
 refine⟨_,rfl,?_⟩
 subst hSD
 refine alm fun mt w2 hb2 hge2 hlt2 hm2=>alm fun mh w3 hb3 hge3 hlt3 hm3=>?_
 have hmp2:=mp_empty .u64 hm2
 have hms3:=ms_empty hm3
 refine al fun gx w4 hb4 b4 hge4=>?_
 have B3:=btr hb2 hb2.size hb3
 have B4:=btr B3 B3.size hb4
 simp only [b4.cell,lds]
 have hp4:=hp1.below B4
 refine All0_calls (θ:=⟨gd,98,[]⟩) hp4 hw.s hw.a ?_
 intro nv w5 hb5 on
 refine⟨_,_,_,_,rfl,?_⟩
 refine st_blk (b4.keep hb5) (by simp) fun w6 b6 f6=>?_
 simp only [List.setIfInBounds_toArray,List.set_cons_zero,List.set_cons_succ] at b6
 have b6:Blk w6 gx #[.pointer (some ⟨gd,0,none⟩),slV nv,.map (some mt),.map (some mh)] 136:=b6
 have c1:w6.cell? ⟨gx,1,none⟩=some (.slice nv.1 nv.2.1 nv.2.2):=by rw [b6.cell];rfl
 simp only [Addr.add_mk,Nat.zero_add,c1,lds]
 have B5:=btr B4 B4.size hb5
 have hsz4:=b4.lt
 have hs5:=hb5.size
 have hs6:=f6.size
 have B6:Below w1.heap.size w1 w6:=B5.trans (f6.toBelow B5.size fun b hb e=>by have e:b=gx:=e;omega)
 have hnb:=rootsAll_nodup (roots:=S.D.roots) hw.a
 have hnf:(allD' S.D).length≤4096:=rootsAll_few hw.s hw.a
 have on6:Own LHn w6 w4.heap.size 65 (slV nv) (allD' S.D):=own_fm on f6 fun x hx e=>by have e:x=gx:=e;have:=(on.lt x hx).1;omega
 have hmt6:Mp .u64 w6 mt (fun _=>none):=by
  have h3:=hmp2.fm (M:=fun _=>False) (.below hb3) (fun h=>h)
  have h4:=h3.fm (M:=fun _=>False) (.below hb4) (fun h=>h)
  have h5:=h4.fm (M:=fun _=>False) (.below hb5) (fun h=>h)
  exact h5.fm f6 fun e=>by have e:mt=gx:=e;omega
 have hmh6:Ms w6 mh (fun _=>none):=by
  have h4:=hms3.fm (M:=fun _=>False) (.below hb4) (fun h=>h)
  have h5:=h4.fm (M:=fun _=>False) (.below hb5) (fun h=>h)
  exact h5.fm f6 fun e=>by have e:mh=gx:=e;omega
 have i0:IxO w6 w6 (fun _=>0) mt mh (slA S.D.sl) [] [] (fun _=>(none,0,0)) (fun _=>(none,0,0)):=by
  refine⟨.refl _ _,fun b hb=>absurd rfl hb,by omega,by omega,by omega,?_,fun n hn=>by simp at hn,?_,fun k=>?_,fun k x hx=>(by cases hx),fun k k' _=>.inl rfl⟩
  ·have:mpTx (slA S.D.sl) [] (fun _=>(none,0,0))=fun _=>none:=by funext k;unfold mpTx;rw [if_neg (fun q=>by simp at q)]
   rw [this];exact hmt6
  ·exact hmh6
  ·exact Own.nil _ _ _ _
 refine⟨fun i w'=>∃(m:Nat) (o':Nat→Nat) (tv:Nat→Sv) (hv:ByteArray→Sv),i=m∧m≤(allD' S.D).length∧IxO w6 w' o' mt mh (slA S.D.sl) ((allD' S.D).take m) (stsF (slA S.D.sl) ((allD' S.D).take m)) tv hv∧Blk w' gx #[.pointer (some ⟨gd,0,none⟩),slV nv,.map (some mt),.map (some mh)] 136,
  fun i _=>(allD' S.D).length-i.toNat,⟨0,_,_,_,rfl,by omega,i0,b6⟩,?_⟩
 rintro _ w7 ⟨m,o7,tv7,hv7,rfl,hm,h7,b7⟩
 have hfr:=h7.fr
 have B7:Below w1.heap.size w1 w7:=B6.trans (hfr.toBelow B6.size fun b hb e=>by omega)
 have on7:Own LHn w7 w4.heap.size 65 (slV nv) (allD' S.D):=own_fm on6 hfr fun x hx e=>by have:=(on6.lt x hx).1;omega
 obtain⟨n1,n2⟩:=rdO on7
 unfold F26_l6
 refine brd (fun hlt=>?_) (fun hge=>?_)
 ·have hml:m < (allD' S.D).length:=by omega
  refine⟨fun w'=>∃(o':Nat→Nat) (tv:Nat→Sv) (hv:ByteArray→Sv),IxO w6 w' o' mt mh (slA S.D.sl) ((allD' S.D).take (m+1)) (stsF (slA S.D.sl) ((allD' S.D).take (m+1))) tv hv∧Blk w' gx #[.pointer (some ⟨gd,0,none⟩),slV nv,.map (some mt),.map (some mh)] 136,?_,?_⟩
  ·rintro w' ⟨o',tv',hv',q1,q2⟩
   exact⟨inR_i64 (by omega) (by omega),⟨m+1,o',tv',hv',by simp,by omega,q1,q2⟩,(by first | omega | (dsimp only;omega))⟩
  refine n2.hn n1 rfl hml fun b oo c0=>?_
  have htk:(allD' S.D).take (m+1)=(allD' S.D).take m++[(allD' S.D)[m]]:=List.take_succ_eq_append_getElem hml
  have hget:(allD' S.D)[m]?=some (allD' S.D)[m]:=List.getElem?_eq_getElem hml
  have hnew:(allD' S.D)[m]∉(allD' S.D).take m:=fun hm2=>by
   obtain⟨j,hj⟩:=List.mem_iff_getElem?.1 hm2
   rw [List.getElem?_take] at hj
   split at hj
   ·have:=nd_get hnb hj hget;omega
   ·cases hj
  generalize (allD' S.D)[m]=n at *
  rw [htk,stsF_app]
  have hstn:stsF (slA S.D.sl) [n]=stF (slA S.D.sl) n:=by unfold stsF;simp
  rw [hstn]
  simp only [c0,b7.cell,lds]
  obtain⟨s,hs⟩:=(mem_all_roots hw.a).1 (List.mem_of_getElem? hget)
  have hp7:=hp1.below B7
  refine Get_calls (θ:=⟨gd,98,[]⟩) hp7 hs ?_
  intro va w8 hb8 _
  refine⟨s.kind,s.nm,va.1,va.2.1,va.2.2,s.text,none,0,0,0,rfl,?_⟩
  refine al fun gt w9 hb9 b9 hge9=>?_
  refine st_blk b9 (by simp) fun u1 q1 f1=>st_blk q1 (by simp) fun u2 q2 f2=>st_blk q2 (by simp) fun u3 q3 f3=>st_blk q3 (by simp) fun u4 q4 f4=>st_blk q4 (by simp) fun w10 b10 f5=>?_
  simp only [List.setIfInBounds_toArray,List.set_cons_zero,List.set_cons_succ] at b10
  have F10:Fm (·=gt) w9 w10:=(((f1.trans f2).trans f3).trans f4).trans f5
  have hs8:=hb8.size
  have D9:=btr hb8 hb8.size hb9
  have D10:Below w7.heap.size w7 w10:=D9.trans (F10.toBelow D9.size fun b hb e=>by have e:b=gt:=e;omega)
  have h10:=h7.below D10
  have bx10:=b7.keep D10
  simp only [Addr.add_mk,Nat.zero_add,b10.cell,lds]
  refine brn (fun hk=>?_) (fun hk=>?_)
  ·have ht:isT (slA S.D.sl) n=false:=by unfold isT;rw [hs];exact decide_eq_false hk
   have hst:stF (slA S.D.sl) n=[]:=by unfold stF;rw [wd_notT ht];rfl
   rw [hst,List.append_nil]
   exact⟨o7,tv7,hv7,h10.skip ht,bx10⟩
  ·have ht:isT (slA S.D.sl) n=true:=by unfold isT;rw [hs];exact decide_eq_true hk
   have htx:wdF (slA S.D.sl) n=wordsF s.text 0:=by unfold wdF;rw [hs];show txF s=_;unfold txF;rw [if_pos hk]
   have hok:s.text.size≤16384:=by
    have h1:=(hw.a.ok n s hs).1
    unfold ownF at h1
    rw [if_neg (by omega),if_pos hk] at h1
    exact textS_ok (by omega)
   refine words_calls s.text hok fun A1 c1n c1c A2 c2n c2c w11 ws=>⟨_,_,_,_,_,_,rfl,?_⟩
   have hb11:=ws.below
   have h11:=h10.below hb11
   have bx11:=bx10.keep hb11
   have hs10:=D10.size
   have hsf:=hfr.size
   have hz:∀x,w10.heap.size≤x→o7 x=0:=fun x hx=>Classical.byContradiction fun e=>by have:=(h10.lt x e).2;omega
   simp only [Addr.add_mk,Nat.zero_add,bx11.cell,lds]
   have hwsF:(wordsF s.text 0).map (·.1)=wsF (slA S.D.sl) n:=by unfold wsF;rw [htx]
   have ow:Own LS w11 w10.heap.size 9 (slV (A1,c1n,c1c)) ((wordsF s.text 0).map (·.1)):=ws.ws
   have ow2:Own LI w11 w10.heap.size 3 (slV (A2,c2n,c2c)) ((wordsF s.text 0).map fun p=>(p.2:Int)):=ws.at_
   have hap:Apart (slV (A1,c1n,c1c)) (slV (A2,c2n,c2c)):=ws.ap
   refine h11.text ht hnew (v:=(A1,c1n,c1c)) ((by rw [←hwsF];exact ow:Own LS w11 w10.heap.size 9 (slV (A1,c1n,c1c)) (wsF (slA S.D.sl) n)).rebase fun x hx=>by have:=(ow.lt x hx).1;omega) (fun x hx=>hz x (ow.lt x hx).1) fun w12 o12 h12 f12 hs1 hs2=>?_
   have hmtl:=h7.tl
   have bx12:=f12.blk bx11 fun e=>by have e:gx=mt:=e;omega
   have ow12:=own_fm ow f12 fun x hx e=>by have e:x=mt:=e;have:=(ow.lt x hx).1;omega
   have ow22:=own_fm ow2 f12 fun x hx e=>by have e:x=mt:=e;have:=(ow2.lt x hx).1;omega
   have h4:=(h12.to n (by simp) ht).2
   simp only [if_pos rfl] at h4
   have hwl:=wordsF_len s.text 0
   have hsl:=sts_len hw ((allD' S.D).take m)
   have htl:((allD' S.D).take m).length≤4096:=by rw [List.length_take];omega
   refine hits_loop (n:=n) (u:=(A1,c1n,c1c)) (u2:=(A2,c2n,c2c)) (l:=wordsF s.text 0) (xs:=[]) (by omega) (by omega) h12 (by omega) ⟨by omega,by omega⟩ bx12 (ow12.rebase fun x hx=>by have:=(ow.lt x hx).1;omega) (ow22.rebase fun x hx=>by have:=(ow2.lt x hx).1;omega)
    (fun x hx=>by rw [h4 x hx];decide) (fun x hx=>?_) fun w' o' hv' q1 q2=>⟨o',fun k=>if k=n then (A1,c1n,c1c) else tv7 k,hv',?_,q2⟩
   ·rw [hs2 x fun e=>?_]
    ·exact hz x (ow2.lt x hx).1
    ·rcases hap with p | p
     ·rw [p] at e;cases e
     ·exact p (e.trans hx.symm)
   ·have:stF (slA S.D.sl) n=numF n 0 (wordsF s.text 0):=by unfold stF;rw [htx]
    rw [this];exact q1
 ·have hm2:m=(allD' S.D).length:=by omega
  subst hm2
  rw [List.take_length] at h7
  have hsl:=sts_len hw (allD' S.D)
  refine hK gx w7 (hb1.trans (B7.mono hb1.size)) fun M w8 hf hm=>?_
  have hs1:=hb1.size
  have hM:∀b,w1.heap.size≤b→b < w7.heap.size→¬M b:=fun b h1 h2 e=>by have:=hm b h2 e;omega
  have hs7:=hfr.size
  have hp7:=hp1.below B7
  have hM1:∀b,o1 b≠0→¬M b:=fun b hb e=>by
   have:=hm b (hp7.lt b hb) e
   have:=ho1 b hb
   omega
  refine⟨gd,mt,mh,o1,S,nv,tv7,hv7,hw,rfl,hp7.keep hf (fun b hb=>hM1 b fun e=>by rw [e] at hb;unfold pc at hb;omega) (fun _ _=>rfl) (fun b hb=>Nat.lt_of_lt_of_le (hp7.lt b hb) hf.size),hf.blk b7 (hM gx (by have:=hb3.size;have:=hb2.size;omega) b7.lt),rdV_own (own_fm on7 hf fun x hx=>hM x (by have:=(on7.lt x hx).1;have:=B4.size;omega) (on7.lt x hx).2) (by omega),h7.tm.fm hf (hM mt (by omega) (by omega)),fun n hn ht=>?_,h7.hm.fm hf (hM mh (by have:=hb2.size;omega) (by omega)),fun k=>?_⟩
  ·refine rdV_own (own_fm (h7.to n hn ht).1 hf fun x hx=>hM x (by have:=(h7.lt x (by rw [(h7.to n hn ht).2 x hx];decide)).1;have:=B6.size;omega) ((h7.to n hn ht).1.lt x hx).2) ?_
   have h1:=sts_len hw [n]
   have:(stsF (slA S.D.sl) [n]).length=(wsF (slA S.D.sl) n).length:=by
    unfold stsF wsF;simp [stF,numF_len]
   simp only [List.length_singleton] at h1
   omega
  ·refine rdV_own (own_fm (h7.ho k) hf fun x hx=>hM x (by have:=(h7.lt x (by rw [h7.hc k x hx];decide)).1;have:=B6.size;omega) ((h7.ho k).lt x hx).2) ?_
   unfold hitF
   rw [List.length_map]
   have:=List.length_filter_le (fun p:ByteArray × Hit=>decide (p.1=k)) (stsF (slA S.D.sl) (allD' S.D))
   omega
end
end Go.Proofs.YtccplipiahdhiaaGreatDoor
set_option linter.unusedVariables false
set_option maxRecDepth 100000
namespace Go.Proofs.YtccplipiahdhiaaGreatDoor
open Go.Vc
def F15_j5 (L4:Option Addr→Nat→Nat→Int→World→Prop) (i:Int) (out2:Option Addr) (outN2:Nat) (outC2:Nat) (a:World) (R:Ending→World→Prop):Prop :=
 InR .i64 (i+(1:Int))∧L4 out2 outN2 outC2 (i+(1:Int)) a
def F15_l10 (f:Option Addr) (a:Nat) (i:Int) (J5:Option Addr→Nat→Nat→World→Prop) (e:Option Addr) (c:Nat) (d:Option Addr) (b:Nat) (L10:Option Addr→Nat→Nat→Int→World→Prop) (out2:Option Addr) (outN2:Nat) (outC2:Nat) (k:Int) (v:World) (R:Ending→World→Prop):Prop :=
 Br (decide (k < ((c:Nat):Int)))
 (∃S:World→Prop,S v.drew∧IdxA e c k 1 fun u =>
 ∃(t:ByteArray),Held S u (.string t)∧IdxA f a i 1 fun p =>
 ∃(q:Int),Held S p (.int .u64 q)∧IdxA d b k 1 fun n =>
 ∃(r:Int),Held S n (.int .i64 r)∧Al v.drew #[(.string t),(.int .u64 q),(.int .i64 k),(.int .i64 r)] 130 fun g63 h =>
 Raw Tryz.prog (Builtin.append_ #[40,40] 40 #[(.slice out2 outN2 outC2),(.slice (some g63) 1 1)]) h fun v4 g =>
 ∃(s:Option Addr) (j:Nat) (m:Nat),v4=(.slice s j m) ∧
 InR .i64 (k+(1:Int))∧L10 s j m (k+(1:Int)) g)
 (J5 out2 outN2 outC2 v)
def F15_l4 (d:Option Addr) (aa:Option Addr) (q:Nat) (L4:Option Addr→Nat→Nat→Int→World→Prop) (out:Option Addr) (outN:Nat) (outC:Nat) (i:Int) (ma:World) (R:Ending→World→Prop):Prop :=
 Br (decide (i < ((q:Nat):Int)))
 (∃J5:Option Addr→Nat→Nat→World→Prop,(∀(out2:Option Addr) (outN2:Nat) (outC2:Nat) (ca:World),J5 out2 outN2 outC2 ca→F15_j5 L4 i out2 outN2 outC2 ca R) ∧
 (IdxA aa q i 1 fun ka =>
 LdI .u64 (ma.cell? ka) fun pa =>
 Calls Tryz.prog 48 #[(.pointer d),(.int .u64 pa)] ma (post R fun v2 ca =>
 ∃(f:Int) (g:ByteArray) (j:Option Addr) (b:Nat) (c:Nat) (n:ByteArray) (h:Option Addr) (e:Nat) (a:Nat) (v:Int),v2=(.tuple #[(.agg #[(.int .i64 f),(.string g),(.slice j b c),(.string n),(.slice h e a)]),(.int .i64 v)]) ∧
 Al ca #[(.int .i64 0),(.string (ByteArray.mk #[])),(.slice none 0 0),(.string (ByteArray.mk #[])),(.slice none 0 0)] 84 fun t ea =>
 St ea t (.int .i64 f) fun da =>
 St da (t.add 1) (.string g) fun ha =>
 St ha (t.add 2) (.slice j b c) fun fa =>
 St fa (t.add 3) (.string n) fun ja =>
 St ja (t.add 4) (.slice h e a) fun ia =>
 LdI .i64 (ia.cell? t) fun na =>
 Br (na != (2:Int))
 (J5 out outN outC ia)
 (LdStr (ia.cell? (t.add 3)) fun qa =>
 Calls Tryz.prog 49 #[(.string qa)] ia (post R fun v3 ga =>
 ∃(z:Option Addr) (s:Nat) (u:Nat) (ba:Option Addr) (r:Nat) (p:Nat),v3=(.tuple #[(.slice z s u),(.slice ba r p)]) ∧
 ∃(I:Option Addr→Nat→Nat→Int→World→Prop) (m:Option Addr→Nat→Nat→Int→World→Nat),I out outN outC (0:Int) ga ∧
 ∀(out2:Option Addr) (outN2:Nat) (outC2:Nat) (k:Int) (y:World),I out2 outN2 outC2 k y→F15_l10 aa q i J5 z s ba r (fun out2' outN2' outC2' k' w2=>I out2' outN2' outC2' k' w2∧m out2' outN2' outC2' k' w2 < m out2 outN2 outC2 k y) out2 outN2 outC2 k y R)))))
 (R (.returned (.slice out outN outC)) ma)
def F15 (d:Option Addr) (g:World) (R:Ending→World→Prop):Prop :=
 Calls Tryz.prog 47 #[(.pointer d),(.int .u64 0)] g (post R fun v w1 =>
 ∃(c:Option Addr) (a:Nat) (b:Nat) (e:Int),v=(.tuple #[(.slice c a b),(.int .i64 e)]) ∧
 ∃(I:Option Addr→Nat→Nat→Int→World→Prop) (m:Option Addr→Nat→Nat→Int→World→Nat),I none 0 0 (0:Int) w1 ∧
 ∀(out:Option Addr) (outN:Nat) (outC:Nat) (i:Int) (f:World),I out outN outC i f→F15_l4 d c a (fun out' outN' outC' i' w2=>I out' outN' outC' i' w2∧m out' outN' outC' i' w2 < m out outN outC i f) out outN outC i f R)
theorem ok15 (d:Option Addr) {w:World}{R:Ending→World→Prop} (h:F15 d w R):Calls Tryz.prog 15 #[(.pointer d)] w R :=
 vc_calls (pl:=⟨66,⟨[]⟩,[(5,⟨[(3,(.s .slice))],[(3,4),(7,65)]⟩)],[(10,⟨[(3,(.s .slice)),(11,(.s (.int .i64)))],[(3,4),(11,65)]⟩),(4,⟨[(3,(.s .slice)),(6,(.s (.int .i64)))],[(3,4),(6,65)]⟩)]⟩) Tryz.func15 (by kernel_rfl) (by kernel_rfl) (by kernel_rfl) (Eq.mp (by kernel_rfl) h)
def F10_j9 (L8:Option Addr→Nat→Nat→Int→World→Prop) (i:Int) (some_2:Option Addr) (someN2:Nat) (someC2:Nat) (a:World) (R:Ending→World→Prop):Prop :=
 InR .i64 (i+(1:Int))∧L8 some_2 someN2 someC2 (i+(1:Int)) a
def F10_j15 (L14:Int→World→Prop) (i2:Int) (a:World) (R:Ending→World→Prop):Prop :=
 InR .i64 (i2+(1:Int))∧L14 (i2+(1:Int)) a
def F10_j29 (n:Option Addr) (c:Nat) (b:Nat) (z:Int) (some_:Option Addr) (someN:Nat) (f:Addr) (i2:Int) (J15:World→Prop) (g71:Addr) (aa:World) (R:Ending→World→Prop):Prop :=
 IdxA some_ someN i2 3 fun t =>
 LdI .u64 (aa.cell? t) fun a =>
 LdI .i64 (aa.cell? (t.add 1)) fun d =>
 LdI .i64 (aa.cell? (t.add 2)) fun e =>
 Calls Tryz.prog 44 #[(.agg #[(.int .u64 a),(.int .i64 d),(.int .i64 e)]),(.slice n c b),(.slice (some g71) (z).toNat (z).toNat)] aa (post R fun v6 p =>
 ∃(u:Bool),v6=(.bool u) ∧
 Br u
 (∃S2:World→Prop,S2 p.drew∧∃(r:Option Addr) (j:Nat) (q:Nat),Held S2 (f.add 2) (.slice r j q)∧IdxA some_ someN i2 3 fun y =>
 ∃(v:Int),Held S2 y (.int .u64 v)∧Al p.drew #[(.int .u64 v)] 65 fun g136 m =>
 S2 m∧Raw Tryz.prog (Builtin.append_ #[23,23] 23 #[(.slice r j q),(.slice (some g136) 1 1)]) m fun v7 i =>
 ∃(s:Option Addr) (k:Nat) (g:Nat),v7=(.slice s k g) ∧
 St i (f.add 2) (.slice s k g) fun h =>
 J15 h)
 (J15 p))
def F10_j27 (d:Option Addr) (b:Nat) (a:Nat) (s:Int) (some_:Option Addr) (someN:Nat) (f:Addr) (i2:Int) (J15:World→Prop) (g71:Addr) (inner:Bool) (t:World) (R:Ending→World→Prop):Prop :=
 ∃J29:World→Prop,(∀ (j:World),J29 j→F10_j29 d b a s some_ someN f i2 J15 g71 j R) ∧
 (Br (!inner)
 (∃S2:World→Prop,S2 t.drew∧∃(q:Option Addr) (m:Nat) (c:Nat),Held S2 (f.add 1) (.slice q m c)∧IdxA some_ someN i2 3 fun p =>
 ∃(r:Int),Held S2 p (.int .u64 r)∧Al t.drew #[(.int .u64 r)] 65 fun g119 g =>
 S2 g∧Raw Tryz.prog (Builtin.append_ #[23,23] 23 #[(.slice q m c),(.slice (some g119) 1 1)]) g fun v6 i =>
 ∃(n:Option Addr) (e:Nat) (h:Nat),v6=(.slice n e h) ∧
 St i (f.add 1) (.slice n e h) fun k =>
 J29 k)
 (J29 t))
def F10_l24 (e:Int) (some_:Option Addr) (someN:Nat) (g71:Addr) (L20:Bool→Int→World→Prop) (k:Int) (L24:Int→World→Prop) (j:Int) (f:World) (R:Ending→World→Prop):Prop :=
 IdxA some_ someN k 3 fun b =>
 LdI .i64 (f.cell? (b.add 2)) fun d =>
 Br (decide (j < d))
 (IdxA (some g71) (e).toNat j 1 fun c =>
 St f c (.bool true) fun a =>
 InR .i64 (j+(1:Int))∧L24 (j+(1:Int)) a)
 (InR .i64 (k+(1:Int))∧L20 true (k+(1:Int)) f)
def F10_j22 (b:Int) (some_:Option Addr) (someN:Nat) (g71:Addr) (L20:Bool→Int→World→Prop) (k:Int) (d:World) (R:Ending→World→Prop):Prop :=
 IdxA some_ someN k 3 fun c =>
 LdI .i64 (d.cell? (c.add 1)) fun e =>
 ∃(I:Int→World→Prop) (m:Int→World→Nat),I e d ∧
 ∀(j:Int) (a:World),I j a→F10_l24 b some_ someN g71 L20 k (fun j' w2=>I j' w2∧m j' w2 < m j a) j a R
def F10_l20 (b:Int) (some_:Option Addr) (someN:Nat) (i2:Int) (g71:Addr) (J27:Bool→World→Prop) (L20:Bool→Int→World→Prop) (inner:Bool) (k:Int) (g:World) (R:Ending→World→Prop):Prop :=
 ∃J22:World→Prop,(∀ (a:World),J22 a→F10_j22 b some_ someN g71 L20 k a R) ∧
 (Dr g fun a =>
 Br (decide (k < ((someN:Nat):Int)))
 (IdxA some_ someN k 3 fun e =>
 LdI .i64 (a.cell? (e.add 1)) fun d =>
 IdxA some_ someN i2 3 fun c =>
 LdI .i64 (a.cell? (c.add 2)) fun f =>
 Br (decide (d < f))
 (J22 a)
 (J27 inner a))
 (J27 inner a))
def F10_l14 (g4:Addr) (t:Option Addr) (n:Nat) (i:Nat) (ea:Int) (some_:Option Addr) (someN:Nat) (f:Addr) (L14:Int→World→Prop) (i2:Int) (ia:World) (R:Ending→World→Prop):Prop :=
 Br (decide (i2 < ((someN:Nat):Int)))
 (∃J15:World→Prop,(∀ (aa:World),J15 aa→F10_j15 L14 i2 aa R) ∧
 (∃S:World→Prop,S ia.drew∧∃(ga:Option Addr) (ca:Nat) (z:Nat),Held S f (.slice ga ca z)∧IdxA some_ someN i2 3 fun da =>
 ∃(fa:Int),Held S da (.int .u64 fa)∧Al ia.drew #[(.int .u64 fa)] 65 fun g67 v =>
 S v∧Raw Tryz.prog (Builtin.append_ #[23,23] 23 #[(.slice ga ca z),(.slice (some g67) 1 1)]) v fun v5 r =>
 ∃(ha:Option Addr) (y:Nat) (ba:Nat),v5=(.slice ha y ba) ∧
 St r f (.slice ha y ba) fun s =>
 0≤ea∧ea≤ea∧((1:Nat):Int)*ea≤281474976710656∧Al s (zrow #[(.bool false)] ((ea).toNat*1)) 4 fun g71 q =>
 ∃J27:Bool→World→Prop,(∀(inner:Bool) (u:World),J27 inner u→F10_j27 t n i ea some_ someN f i2 J15 g71 inner u R) ∧
 (InR .i64 (i2+(1:Int))∧∃(I:Bool→Int→World→Prop) (m:Bool→Int→World→Nat),I false (i2+(1:Int)) q ∧
 ∀(inner:Bool) (k:Int) (u:World),I inner k u→F10_l20 ea some_ someN i2 g71 J27 (fun inner' k' w2=>I inner' k' w2∧m inner' k' w2 < m inner k u) inner k u R)))
 (LdSl (ia.cell? f) fun h a g =>
 LdSl (ia.cell? (f.add 1)) fun j c d =>
 LdSl (ia.cell? (f.add 2)) fun p e b =>
 St ia g4 (.slice h a g) fun aa =>
 St aa (g4.add 1) (.slice j c d) fun v =>
 St v (g4.add 2) (.slice p e b) fun r =>
 LdSl (r.cell? g4) fun res0_0 res0_0N res0_0C =>
 LdSl (r.cell? (g4.add 1)) fun res0_1 res0_1N res0_1C =>
 LdSl (r.cell? (g4.add 2)) fun res0_2 res0_2N res0_2C =>
 R (.returned (.tuple #[(.agg #[(.slice res0_0 res0_0N res0_0C),(.slice res0_1 res0_1N res0_1C),(.slice res0_2 res0_2N res0_2C)]),(.int .i64 0)])) r)
def F10_l8 (g4:Addr) (j:Option Addr) (b:Nat) (n:Option Addr) (c:Nat) (a:Nat) (v:Int) (g33:Addr) (L8:Option Addr→Nat→Nat→Int→World→Prop) (some_:Option Addr) (someN:Nat) (someC:Nat) (i:Int) (z:World) (R:Ending→World→Prop):Prop :=
 Br (decide (i < ((b:Nat):Int)))
 (∃J9:Option Addr→Nat→Nat→World→Prop,(∀(some_2:Option Addr) (someN2:Nat) (someC2:Nat) (u:World),J9 some_2 someN2 someC2 u→F10_j9 L8 i some_2 someN2 someC2 u R) ∧
 (IdxA j b i 3 fun ba =>
 LdI .u64 (z.cell? ba) fun p =>
 LdI .i64 (z.cell? (ba.add 1)) fun e =>
 LdI .i64 (z.cell? (ba.add 2)) fun d =>
 Calls Tryz.prog 44 #[(.agg #[(.int .u64 p),(.int .i64 e),(.int .i64 d)]),(.slice n c a),(.slice (some g33) (v).toNat (v).toNat)] z (post R fun v5 u =>
 ∃(y:Bool),v5=(.bool y) ∧
 Br y
 (IdxA j b i 3 fun ca =>
 LdI .u64 (u.cell? ca) fun k =>
 LdI .i64 (u.cell? (ca.add 1)) fun g =>
 LdI .i64 (u.cell? (ca.add 2)) fun h =>
 Al u #[(.int .u64 k),(.int .i64 g),(.int .i64 h)] 119 fun g52 s =>
 Raw Tryz.prog (Builtin.append_ #[111,111] 111 #[(.slice some_ someN someC),(.slice (some g52) 1 1)]) s fun v6 q =>
 ∃(aa:Option Addr) (r:Nat) (t:Nat),v6=(.slice aa r t) ∧
 J9 aa r t q)
 (J9 some_ someN someC u))))
 (Al z #[(.slice none 0 0),(.slice none 0 0),(.slice none 0 0)] 32 fun f u =>
 ∃(I:Int→World→Prop) (m:Int→World→Nat),I (0:Int) u ∧
 ∀(i2:Int) (s:World),I i2 s→F10_l14 g4 n c a v some_ someN f (fun i2' w2=>I i2' w2∧m i2' w2 < m i2 s) i2 s R)
def F10 (d:Option Addr) (words:Option Addr) (wordsN:Nat) (wordsC:Nat) (z:World) (R:Ending→World→Prop):Prop :=
 Al z #[(.slice none 0 0),(.slice none 0 0),(.slice none 0 0)] 32 fun g4 w1 =>
 Calls Tryz.prog 41 #[(.slice words wordsN wordsC)] w1 (post R fun v j =>
 ∃(y:Bool),v=(.bool y) ∧
 Br (!y)
 (St j g4 (.slice none 0 0) fun p =>
 St p (g4.add 1) (.slice none 0 0) fun k =>
 St k (g4.add 2) (.slice none 0 0) fun s =>
 LdSl (s.cell? g4) fun res0_0 res0_0N res0_0C =>
 LdSl (s.cell? (g4.add 1)) fun res0_1 res0_1N res0_1C =>
 LdSl (s.cell? (g4.add 2)) fun res0_2 res0_2N res0_2C =>
 R (.returned (.tuple #[(.agg #[(.slice res0_0 res0_0N res0_0C),(.slice res0_1 res0_1N res0_1C),(.slice res0_2 res0_2N res0_2C)]),(.int .i64 1)])) s)
 (Calls Tryz.prog 15 #[(.pointer d)] j (post R fun v2 p =>
 ∃(t:Option Addr) (h:Nat) (n:Nat),v2=(.slice t h n) ∧
 Calls Tryz.prog 42 #[(.pointer d),(.slice t h n),(.slice words wordsN wordsC)] p (post R fun v3 k =>
 ∃(f:Option Addr) (b:Nat) (c:Nat) (g:Option Addr) (e:Nat) (a:Nat),v3=(.tuple #[(.slice f b c),(.slice g e a)]) ∧
 Calls Tryz.prog 43 #[(.pointer d)] k (post R fun v4 s =>
 ∃(u:Int),v4=(.int .i64 u) ∧
 0≤u∧u≤u∧((1:Nat):Int)*u≤281474976710656∧Al s (zrow #[(.bool false)] ((u).toNat*1)) 4 fun g33 q =>
 ∃(I:Option Addr→Nat→Nat→Int→World→Prop) (m:Option Addr→Nat→Nat→Int→World→Nat),I none 0 0 (0:Int) q ∧
 ∀(some_:Option Addr) (someN:Nat) (someC:Nat) (i:Int) (r:World),I some_ someN someC i r→F10_l8 g4 f b g e a u g33 (fun some_' someN' someC' i' w2=>I some_' someN' someC' i' w2∧m some_' someN' someC' i' w2 < m some_ someN someC i r) some_ someN someC i r R)))))
theorem ok10 (d:Option Addr) (words:Option Addr) (wordsN:Nat) (wordsC:Nat) {w:World}{R:Ending→World→Prop} (h:F10 d words wordsN wordsC w R):Calls Tryz.prog 10 #[(.pointer d),(.slice words wordsN wordsC)] w R :=
 vc_calls (pl:=⟨140,⟨[]⟩,[(9,⟨[(10,(.s .slice))],[(10,11),(40,54)]⟩),(22,⟨[],[(74,91)]⟩),(29,⟨[],[(110,122)]⟩),(27,⟨[(15,(.s .bool))],[(15,110)]⟩),(15,⟨[],[(14,139)]⟩)],[(8,⟨[(10,(.s .slice)),(11,(.s (.int .i64)))],[(10,54)]⟩),(24,⟨[(17,(.s (.int .i64)))],[(17,110)]⟩),(20,⟨[(15,(.s .bool)),(16,(.s (.int .i64)))],[(15,110)]⟩),(14,⟨[(13,(.s (.int .i64)))],[(13,139)]⟩)]⟩) Tryz.func10 (by kernel_rfl) (by kernel_rfl) (by kernel_rfl) (Eq.mp (by kernel_rfl) h)
def F41_l4 (l:Option Addr) (lN:Nat) (L4:Int→World→Prop) (i:Int) (c:World) (R:Ending→World→Prop):Prop :=
 Br (decide (i < ((lN:Nat):Int)))
 (IdxA l lN i 1 fun d =>
 LdStr (c.cell? d) fun b =>
 Calls Tryz.prog 52 #[(.string b)] c (post R fun v w1 =>
 ∃(a:Bool),v=(.bool a) ∧
 Br (!a)
 (R (.returned (.bool false)) w1)
 (InR .i64 (i+(1:Int))∧L4 (i+(1:Int)) w1)))
 (R (.returned (.bool true)) c)
def F41_j3 (l:Option Addr) (lN:Nat) (a:World) (R:Ending→World→Prop):Prop :=
 ∃(I:Int→World→Prop) (m:Int→World→Nat),I (0:Int) a ∧
 ∀(i:Int) (w1:World),I i w1→F41_l4 l lN (fun i' w2=>I i' w2∧m i' w2 < m i w1) i w1 R
def F41 (l:Option Addr) (lN:Nat) (lC:Nat) (a:World) (R:Ending→World→Prop):Prop :=
 ∃J3:World→Prop,(∀ (w1:World),J3 w1→F41_j3 l lN w1 R) ∧
 (Br (decide (((lN:Nat):Int) < (1:Int)))
 (R (.returned (.bool false)) a)
 (Br (decide (((lN:Nat):Int) > (16:Int)))
 (R (.returned (.bool false)) a)
 (J3 a)))
theorem ok41 (l:Option Addr) (lN:Nat) (lC:Nat) {w:World}{R:Ending→World→Prop} (h:F41 l lN lC w R):Calls Tryz.prog 41 #[(.slice l lN lC)] w R :=
 vc_calls (pl:=⟨24,⟨[]⟩,[(3,⟨[],[(2,12)]⟩)],[(4,⟨[(3,(.s (.int .i64)))],[(2,24)]⟩)]⟩) Tryz.func41 (by kernel_rfl) (by kernel_rfl) (by kernel_rfl) (Eq.mp (by kernel_rfl) h)
def F44_j9 (L2:Int→World→Prop) (k:Int) (is:Bool) (a:World) (R:Ending→World→Prop):Prop :=
 Br (!is)
 (R (.returned (.bool false)) a)
 (InR .i64 (k+(1:Int))∧L2 (k+(1:Int)) a)
def F44_j7 (L6:Bool→Int→World→Prop) (i:Int) (is2:Bool) (a:World) (R:Ending→World→Prop):Prop :=
 InR .i64 (i+(1:Int))∧L6 is2 (i+(1:Int)) a
def F44_j8 (at_:Option Addr) (atN:Nat) (out:Option Addr) (outN:Nat) (k:Int) (L6:Bool→Int→World→Prop) (i:Int) (m:World) (R:Ending→World→Prop):Prop :=
 ∃J7:Bool→World→Prop,(∀(is2:Bool) (a:World),J7 is2 a→F44_j7 L6 i is2 a R) ∧
 (IdxA at_ atN k 1 fun f =>
 LdSl (m.cell? f) fun e c b =>
 IdxA e c i 1 fun g =>
 LdB (m.cell? g) fun h =>
 Br h
 (IdxA out outN i 1 fun d =>
 LdB (m.cell? d) fun j =>
 J7 (!j) m)
 (J7 false m))
def F44_l6 (at_:Option Addr) (atN:Nat) (out:Option Addr) (outN:Nat) (p:Addr) (k:Int) (J9:Bool→World→Prop) (L6:Bool→Int→World→Prop) (is:Bool) (i:Int) (c:World) (R:Ending→World→Prop):Prop :=
 ∃J8:World→Prop,(∀ (a:World),J8 a→F44_j8 at_ atN out outN k L6 i a R) ∧
 (LdI .i64 (c.cell? (p.add 2)) fun b =>
 Br (decide (i < b))
 (Br (!is)
 (J8 c)
 (J9 is c))
 (J9 is c))
def F44_l2 (at_:Option Addr) (atN:Nat) (out:Option Addr) (outN:Nat) (p:Addr) (L2:Int→World→Prop) (k:Int) (b:World) (R:Ending→World→Prop):Prop :=
 Br (decide (k < ((atN:Nat):Int)))
 (∃J9:Bool→World→Prop,(∀(is:Bool) (a:World),J9 is a→F44_j9 L2 k is a R) ∧
 (LdI .i64 (b.cell? (p.add 1)) fun c =>
 ∃(I:Bool→Int→World→Prop) (m:Bool→Int→World→Nat),I false c b ∧
 ∀(is:Bool) (i:Int) (a:World),I is i a→F44_l6 at_ atN out outN p k J9 (fun is' i' w2=>I is' i' w2∧m is' i' w2 < m is i a) is i a R))
 (R (.returned (.bool true)) b)
def F44 (p_0:Int) (p_1:Int) (p_2:Int) (at_:Option Addr) (atN:Nat) (atC:Nat) (out:Option Addr) (outN:Nat) (outC:Nat) (b:World) (R:Ending→World→Prop):Prop :=
 Al b #[(.int .u64 p_0),(.int .i64 p_1),(.int .i64 p_2)] 119 fun p w1 =>
 ∃(I:Int→World→Prop) (m:Int→World→Nat),I (0:Int) w1 ∧
 ∀(k:Int) (a:World),I k a→F44_l2 at_ atN out outN p (fun k' w2=>I k' w2∧m k' w2 < m k a) k a R
theorem ok44 (p_0:Int) (p_1:Int) (p_2:Int) (at_:Option Addr) (atN:Nat) (atC:Nat) (out:Option Addr) (outN:Nat) (outC:Nat) {w:World}{R:Ending→World→Prop} (h:F44 p_0 p_1 p_2 at_ atN atC out outN outC w R):Calls Tryz.prog 44 #[(.agg #[(.int .u64 p_0),(.int .i64 p_1),(.int .i64 p_2)]),(.slice at_ atN atC),(.slice out outN outC)] w R :=
 vc_calls (pl:=⟨44,⟨[]⟩,[(7,⟨[(8,(.s .bool))],[(8,9),(28,42)]⟩),(8,⟨[],[(18,26)]⟩),(9,⟨[(8,(.s .bool))],[(8,42)]⟩)],[(6,⟨[(8,(.s .bool)),(9,(.s (.int .i64)))],[(8,42)]⟩),(2,⟨[(7,(.s (.int .i64)))],[(6,44)]⟩)]⟩) Tryz.func44 (by kernel_rfl) (by kernel_rfl) (by kernel_rfl) (Eq.mp (by kernel_rfl) h)
def F42_j5 (L4:Option Addr→Nat→Nat→Int→World→Prop) (i:Int) (out2:Option Addr) (outN2:Nat) (outC2:Nat) (a:World) (R:Ending→World→Prop):Prop :=
 InR .i64 (i+(1:Int))∧L4 out2 outN2 outC2 (i+(1:Int)) a
def F42_j18 (L17:Int→Int→World→Prop) (i2:Int) (j2:Int) (a:World) (R:Ending→World→Prop):Prop :=
 InR .i64 (i2+(1:Int))∧L17 j2 (i2+(1:Int)) a
def F42_l19 (l:Option Addr) (lN:Nat) (words:Option Addr) (wordsN:Nat) (b:Option Addr) (a:Nat) (k:Int) (g74:Addr) (i2:Int) (J18:Int→World→Prop) (L19:Int→World→Prop) (j2:Int) (q:World) (R:Ending→World→Prop):Prop :=
 Dr q fun e =>
 IdxA b a j2 1 fun m =>
 LdI .u64 (e.cell? m) fun n =>
 IdxA l lN i2 4 fun j =>
 LdI .u64 (e.cell? (j.add 1)) fun s =>
 Br (n != s)
 (InR .i64 (j2+(1:Int))∧L19 (j2+(1:Int)) e)
 (∃S:World→Prop,S e.drew∧IdxA (some g74) (((a:Nat):Int)).toNat j2 1 fun r =>
 ∃(p:Bool),Held S r (.bool p)∧Br p
 (IdxA (some g74) (((a:Nat):Int)).toNat j2 1 fun d =>
 St e.drew d (.bool true) fun i =>
 J18 j2 i)
 (IdxA l lN i2 4 fun g =>
 ∃(h:ByteArray),Held S g (.string h)∧IdxA words wordsN k 1 fun f =>
 ∃(c:ByteArray),Held S f (.string c)∧IdxA (some g74) (((a:Nat):Int)).toNat j2 1 fun d =>
 St e.drew d (.bool (h.toList == c.toList)) fun i =>
 J18 j2 i))
def F42_l17 (l:Option Addr) (lN:Nat) (words:Option Addr) (wordsN:Nat) (c:Option Addr) (a:Nat) (L12:Option Addr→Nat→Nat→Int→World→Prop) (at_:Option Addr) (atN:Nat) (atC:Nat) (k:Int) (g74:Addr) (L17:Int→Int→World→Prop) (j:Int) (i2:Int) (h:World) (R:Ending→World→Prop):Prop :=
 Br (decide (i2 < ((lN:Nat):Int)))
 (∃J18:Int→World→Prop,(∀(j2:Int) (f:World),J18 j2 f→F42_j18 L17 i2 j2 f R) ∧
 (∃(I:Int→World→Prop) (m:Int→World→Nat),I j h ∧
 ∀(j2:Int) (f:World),I j2 f→F42_l19 l lN words wordsN c a k g74 i2 J18 (fun j2' w2=>I j2' w2∧m j2' w2 < m j2 f) j2 f R))
 (Al h #[(.slice (some g74) (((a:Nat):Int)).toNat (((a:Nat):Int)).toNat)] 116 fun g115 f =>
 Raw Tryz.prog (Builtin.append_ #[112,112] 112 #[(.slice at_ atN atC),(.slice (some g115) 1 1)]) f fun v2 e =>
 ∃(g:Option Addr) (b:Nat) (d:Nat),v2=(.slice g b d) ∧
 InR .i64 (k+(1:Int))∧L12 g b d (k+(1:Int)) e)
def F42_l12 (l:Option Addr) (lN:Nat) (words:Option Addr) (wordsN:Nat) (b:Option Addr) (a:Nat) (out:Option Addr) (outN:Nat) (outC:Nat) (L12:Option Addr→Nat→Nat→Int→World→Prop) (at_:Option Addr) (atN:Nat) (atC:Nat) (k:Int) (e:World) (R:Ending→World→Prop):Prop :=
 Br (decide (k < ((wordsN:Nat):Int)))
 (0≤((a:Nat):Int)∧((a:Nat):Int)≤((a:Nat):Int)∧((1:Nat):Int)*((a:Nat):Int)≤281474976710656∧Al e (zrow #[(.bool false)] ((((a:Nat):Int)).toNat*1)) 4 fun g74 c =>
 ∃(I:Int→Int→World→Prop) (m:Int→Int→World→Nat),I (0:Int) (0:Int) c ∧
 ∀(j:Int) (i2:Int) (d:World),I j i2 d→F42_l17 l lN words wordsN b a L12 at_ atN atC k g74 (fun j' i2' w2=>I j' i2' w2∧m j' i2' w2 < m j i2 d) j i2 d R)
 (R (.returned (.tuple #[(.slice out outN outC),(.slice at_ atN atC)])) e)
def F42_l4 (d:Option Addr) (l:Option Addr) (lN:Nat) (words:Option Addr) (wordsN:Nat) (v:Option Addr) (p:Nat) (L4:Option Addr→Nat→Nat→Int→World→Prop) (out:Option Addr) (outN:Nat) (outC:Nat) (i:Int) (pa:World) (R:Ending→World→Prop):Prop :=
 Br (decide (i < ((p:Nat):Int)))
 (∃J5:Option Addr→Nat→Nat→World→Prop,(∀(out2:Option Addr) (outN2:Nat) (outC2:Nat) (ba:World),J5 out2 outN2 outC2 ba→F42_j5 L4 i out2 outN2 outC2 ba R) ∧
 (IdxA v p i 1 fun ma =>
 LdI .u64 (pa.cell? ma) fun va =>
 Calls Tryz.prog 48 #[(.pointer d),(.int .u64 va)] pa (post R fun v2 ba =>
 ∃(h:Int) (j:ByteArray) (n:Option Addr) (e:Nat) (c:Nat) (g:ByteArray) (f:Option Addr) (b:Nat) (a:Nat) (aa:Int),v2=(.tuple #[(.agg #[(.int .i64 h),(.string j),(.slice n e c),(.string g),(.slice f b a)]),(.int .i64 aa)]) ∧
 Al ba #[(.int .i64 0),(.string (ByteArray.mk #[])),(.slice none 0 0),(.string (ByteArray.mk #[])),(.slice none 0 0)] 84 fun t da =>
 St da t (.int .i64 h) fun ca =>
 St ca (t.add 1) (.string j) fun ha =>
 St ha (t.add 2) (.slice n e c) fun ea =>
 St ea (t.add 3) (.string g) fun ka =>
 St ka (t.add 4) (.slice f b a) fun ia =>
 LdI .i64 (ia.cell? t) fun na =>
 Br (na == (1:Int))
 (IdxA v p i 1 fun ua =>
 LdI .u64 (ia.cell? ua) fun ta =>
 Calls Tryz.prog 47 #[(.pointer d),(.int .u64 ta)] ia (post R fun v3 ga =>
 ∃(u:Option Addr) (q:Nat) (r:Nat) (y:Int),v3=(.tuple #[(.slice u q r),(.int .i64 y)]) ∧
 IdxA v p i 1 fun qa =>
 LdI .u64 (ga.cell? qa) fun ra =>
 InR .i64 (i+((q:Nat):Int))∧Al ga #[(.int .u64 ra),(.int .i64 i),(.int .i64 (i+((q:Nat):Int)))] 119 fun g64 s =>
 Raw Tryz.prog (Builtin.append_ #[111,111] 111 #[(.slice out outN outC),(.slice (some g64) 1 1)]) s fun v4 z =>
 ∃(sa:Option Addr) (fa:Nat) (ja:Nat),v4=(.slice sa fa ja) ∧
 J5 sa fa ja z))
 (J5 out outN outC ia))))
 (∃(I:Option Addr→Nat→Nat→Int→World→Prop) (m:Option Addr→Nat→Nat→Int→World→Nat),I none 0 0 (0:Int) pa ∧
 ∀(at_:Option Addr) (atN:Nat) (atC:Nat) (k:Int) (ba:World),I at_ atN atC k ba→F42_l12 l lN words wordsN v p out outN outC (fun at_' atN' atC' k' w2=>I at_' atN' atC' k' w2∧m at_' atN' atC' k' w2 < m at_ atN atC k ba) at_ atN atC k ba R)
def F42 (d:Option Addr) (l:Option Addr) (lN:Nat) (lC:Nat) (words:Option Addr) (wordsN:Nat) (wordsC:Nat) (g:World) (R:Ending→World→Prop):Prop :=
 Calls Tryz.prog 47 #[(.pointer d),(.int .u64 0)] g (post R fun v w1 =>
 ∃(e:Option Addr) (a:Nat) (b:Nat) (c:Int),v=(.tuple #[(.slice e a b),(.int .i64 c)]) ∧
 ∃(I:Option Addr→Nat→Nat→Int→World→Prop) (m:Option Addr→Nat→Nat→Int→World→Nat),I none 0 0 (0:Int) w1 ∧
 ∀(out:Option Addr) (outN:Nat) (outC:Nat) (i:Int) (f:World),I out outN outC i f→F42_l4 d l lN words wordsN e a (fun out' outN' outC' i' w2=>I out' outN' outC' i' w2∧m out' outN' outC' i' w2 < m out outN outC i f) out outN outC i f R)
theorem ok42 (d:Option Addr) (l:Option Addr) (lN:Nat) (lC:Nat) (words:Option Addr) (wordsN:Nat) (wordsC:Nat) {w:World}{R:Ending→World→Prop} (h:F42 d l lN lC words wordsN wordsC w R):Calls Tryz.prog 42 #[(.pointer d),(.slice l lN lC),(.slice words wordsN wordsC)] w R :=
 vc_calls (pl:=⟨119,⟨[]⟩,[(5,⟨[(10,(.s .slice))],[(10,11),(12,66)]⟩),(18,⟨[(19,(.s (.int .i64)))],[(19,20),(81,113)]⟩)],[(4,⟨[(10,(.s .slice)),(11,(.s (.int .i64)))],[(10,66)]⟩),(19,⟨[(19,(.s (.int .i64)))],[(19,20),(81,94)]⟩),(17,⟨[(19,(.s (.int .i64))),(20,(.s (.int .i64)))],[(19,113)]⟩),(12,⟨[(16,(.s .slice)),(17,(.s (.int .i64)))],[(16,117)]⟩)]⟩) Tryz.func42 (by kernel_rfl) (by kernel_rfl) (by kernel_rfl) (Eq.mp (by kernel_rfl) h)
def F52 (s:ByteArray) (m:World) (R:Ending→World→Prop):Prop :=
 Calls Tryz.prog 89 #[(.string s)] m (post R fun v w1 =>
 ∃(g:Int) (i:Int),v=(.tuple #[(.int .i64 g),(.int .i64 i)]) ∧
 Br (i != (0:Int))
 (R (.returned (.bool false)) w1)
 (Calls Tryz.prog 49 #[(.string s)] w1 (post R fun v2 h =>
 ∃(f:Option Addr) (c:Nat) (b:Nat) (e:Option Addr) (a:Nat) (d:Nat),v2=(.tuple #[(.slice f c b),(.slice e a d)]) ∧
 Br (((c:Nat):Int) == (1:Int))
 (IdxA f c (0:Int) 1 fun k =>
 LdStr (h.cell? k) fun j =>
 R (.returned (.bool (j.toList == s.toList))) h)
 (R (.returned (.bool false)) h))))
theorem ok52 (s:ByteArray) {w:World}{R:Ending→World→Prop} (h:F52 s w R):Calls Tryz.prog 52 #[(.string s)] w R :=
 vc_calls (pl:=⟨29,⟨[]⟩,[],[]⟩) Tryz.func52 (by kernel_rfl) (by kernel_rfl) (by kernel_rfl) (Eq.mp (by kernel_rfl) h)
end Go.Proofs.YtccplipiahdhiaaGreatDoor
namespace Go.Proofs.YtccplipiahdhiaaGreatDoor
open Go.RowKit Go.Vc
set_option linter.unusedVariables false
set_option linter.unusedSimpArgs false
set_option maxRecDepth 100000
section
variable {A:Nat→Option Sl}{N:List Nat}{ws:List ByteArray}
end
set_option maxRecDepth 100000
section
variable {w w0 w1:World}{o:Nat→Nat}{gx gd mt mh:Nat}{D:Im}{S:PS}{nv:Sv}{tv:Nat→Sv}{hv:ByteArray→Sv}{R:Ending→World→Prop}
abbrev stD (D:Im):List (ByteArray × Hit):=stsF (slA D.sl) (allD' D)
theorem rdV_nil {α:Type} (L:Lay α) (w:World):RdV L w [] (none,0,0):=⟨rfl,by simp,Rd.nil _ _⟩
end
set_option maxRecDepth 100000
abbrev Std:=ByteArray × Hit
def LStd:Lay Std:=⟨4,fun p=>[.string p.1,.int .u64 (p.2.1:Nat),.int .i64 (p.2.2.1:Nat),.int .i64 (p.2.2.2:Nat)],fun _=>rfl,fun _=>by simp [Value.oneCell'],by decide⟩
section
variable {w w0:World}{R:Ending→World→Prop}{g:Nat}{D:Im}{vs vr:Sv}{es:List S8}
theorem wordR_calls (s:ByteArray) (h:∀w',Below w.heap.size w w'→R (.returned (.bool (oneF s))) w'):Calls Tryz.prog 52 #[.string s] w R:=by
 refine ok52 s ?_
 unfold F52
 refine refText_calls s fun w1 hb=>⟨_,_,rfl,?_⟩
 have no:∀w',Below w.heap.size w w'→¬oneF s=true→R (.returned (.bool false)) w':=fun w' hb hn=>by
  have:=h w' hb
  rw [Bool.eq_false_iff.2 hn] at this;exact this
 refine brn (fun hne=>no w1 hb fun ho=>?_) (fun he=>?_)
 ·have:=(one_words ho).1;omega
 ·have he':(textS s).2=0:=by omega
  refine split_calls s (textS_ok he') fun A n c A2 n2 c2 w2 hw=>⟨_,_,_,_,_,_,rfl,?_⟩
  have B2:=btr hb hb.size hw.below
  obtain⟨en,r1⟩:=hw.ws.rd
  refine bre (fun h1=>?_) (fun h1=>no w2 B2 fun ho=>h1 ?_)
  ·have hl:((wordsF s 0).map (·.1)).length=1:=by omega
   refine r1.str en rfl (k:=0) (by omega) fun b oo cs=>?_
   simp only [cs,lds]
   rw [bytes_eq]
   have:decide (((wordsF s 0).map (·.1))[0]'(by omega)=s)=oneF s:=by
    rw [Bool.eq_iff_iff,decide_eq_true_eq,one_iff]
    constructor
    ·intro hh
     refine⟨he',?_⟩
     cases hF:wordsF s 0 with
     | nil=>rw [hF] at hl;simp at hl
     | cons p l =>
      cases l with
      | nil =>
       have:p.1=s:=by
        have h2:((wordsF s 0).map (·.1))[0]?=some s:=by rw [List.getElem?_eq_getElem (by omega),hh]
        rw [hF] at h2;simpa using h2
       exact⟨p.2,by rw [←this]⟩
      | cons q l=>rw [hF] at hl;simp at hl
    ·rintro ⟨_,a,ha⟩
     simp [ha]
   rw [this]
   exact h w2 B2
  ·have:=(one_words ho).2
   rw [this] at en
   simp at en
   omega
theorem canR_calls (ws:List ByteArray) (v:Sv) (hl:RdV LS w ws v) (h:∀w',Below w.heap.size w w'→R (.returned (.bool (canS ws))) w'):Calls Tryz.prog 41 #[.slice v.1 v.2.1 v.2.2] w R:=by
 refine ok41 v.1 v.2.1 v.2.2 ?_
 unfold F41
 have hn:=hl.1
 have no:∀w',Below w.heap.size w w'→¬canS ws=true→R (.returned (.bool false)) w':=fun w' hb hn=>by
  have:=h w' hb
  rw [Bool.eq_false_iff.2 hn] at this;exact this
 refine⟨fun w'=>w=w'∧0 < ws.length∧ws.length≤16,?_,brd (fun h0=>no w (.refl _ _) fun hc=>?_) fun h0=>brd (fun h1=>no w (.refl _ _) fun hc=>?_) fun h1=>⟨rfl,by omega,by omega⟩⟩
 rotate_left
 ·unfold canS at hc;simp only [Bool.and_eq_true,decide_eq_true_eq] at hc;omega
 ·unfold canS at hc;simp only [Bool.and_eq_true,decide_eq_true_eq] at hc;omega
 rintro _ ⟨rfl,h0,h16⟩
 unfold F41_j3
 refine⟨fun i w'=>∃k:Nat,i=k∧k≤ws.length∧Below w.heap.size w w'∧(∀x∈ws.take k,oneF x=true),fun i _=>ws.length-i.toNat,⟨0,rfl,by omega,.refl _ _,by simp⟩,?_⟩
 rintro _ w1 ⟨k,rfl,hk,hb1,ha⟩
 unfold F41_l4
 refine brd (fun hlt=>?_) (fun hge=>?_)
 ·have hk2:k < ws.length:=by omega
  obtain⟨z1,z0,z2⟩:=hl.keep hb1
  refine z2.str z1 rfl (k:=k) hk2 fun b oo cs=>?_
  simp only [cs,lds]
  refine wordR_calls ws[k] fun w2 hb2=>⟨_,rfl,?_⟩
  have B2:=btr hb1 hb1.size hb2
  rw [brnot]
  refine br (fun ho=>?_) (fun ho=>no w2 B2 fun hc=>?_)
  ·refine⟨inR_i64 (by omega) (by omega),⟨k+1,by simp,by omega,B2,fun x hx=>?_⟩,(by first | omega | (dsimp only;omega))⟩
   rw [List.take_succ_eq_append_getElem hk2,List.mem_append,List.mem_singleton] at hx
   rcases hx with hx | hx
   ·exact ha x hx
   ·rw [hx];exact ho
  ·unfold canS at hc
   simp only [Bool.and_eq_true,Bool.not_eq_true',List.any_eq_false,Bool.not_eq_true] at hc
   have:=hc.2.2 ws[k] (List.getElem_mem hk2)
   exact this ho
 ·have hk2:k=ws.length:=by omega
  subst hk2
  rw [List.take_length] at ha
  have:canS ws=true:=by
   unfold canS
   simp only [Bool.and_eq_true,decide_eq_true_eq,Bool.not_eq_true',List.any_eq_false,Bool.not_eq_true]
   exact⟨h0,h16,fun x hx=>by rw [ha x hx];decide⟩
  have h2:=h w1 hb1
  rw [this] at h2;exact h2
theorem All26_calls (h:RW [] w g D vs vr es) (hw:Wf D) (hK:∀v w',Below w.heap.size w w'→Own LStd w' w.heap.size 130 (slV v) (stD D)→R (.returned (slV v)) w') :
  Calls Tryz.prog 15 #[.pointer (some ⟨g,0,none⟩)] w R:=by
 refine ok15 (some ⟨g,0,none⟩) ?_
 unfold F15
 refine AllW h hw (n:=0) (by decide) fun va w1 hb1 oa _=>⟨_,_,_,_,rfl,?_⟩
 have oa:=oa (.inl rfl)
 have e0:allI D 0=allD' D:=rfl
 rw [e0] at oa
 have hfew:(allD' D).length≤4096:=rootsAll_few hw.s hw.a
 obtain⟨a1,a2⟩:=rdO oa
 refine⟨fun A n c i w'=>∃m:Nat,i=m∧m≤(allD' D).length∧Below w1.heap.size w1 w'∧Own LStd w' w1.heap.size 130 (.slice A n c) (stsF (slA D.sl) ((allD' D).take m)),fun _ _ _ i _=>(allD' D).length-i.toNat,
  ⟨0,rfl,by omega,.refl _ _,Own.nil _ _ _ _⟩,?_⟩
 rintro A n c _ w2 ⟨m,rfl,hm,hb2,oo⟩
 have B2:=btr hb1 hb1.size hb2
 have hs1:=hb1.size
 unfold F15_l4
 refine brd (fun hlt=>?_) (fun hge=>?_)
 ·have hml:m < (allD' D).length:=by omega
  have htk:(allD' D).take (m+1)=(allD' D).take m++[(allD' D)[m]]:=List.take_succ_eq_append_getElem hml
  have hget:(allD' D)[m]?=some (allD' D)[m]:=List.getElem?_eq_getElem hml
  have hsts:=sts_len hw ((allD' D).take m)
  have htl:((allD' D).take m).length≤4096:=by rw [List.length_take];omega
  have hin:m < (allD' D).length∧(allD' D)[m]?=some (allD' D)[m]:=⟨hml,hget⟩
  refine⟨fun A' n' c' w'=>Below w1.heap.size w1 w'∧Own LStd w' w1.heap.size 130 (.slice A' n' c') (stsF (slA D.sl) ((allD' D).take (m+1))),?_,?_⟩
  ·rintro A' n' c' w' ⟨q1,q2⟩
   exact⟨inR_i64 (by omega) (by omega),⟨m+1,by simp,by omega,q1,q2⟩,(by first | omega | (dsimp only;omega))⟩
  refine (a2.keep hb2).hn a1 rfl hml fun b oo2 c0=>?_
  simp only [c0,lds]
  rw [htk,stsF_app]
  have hstn:stsF (slA D.sl) [(allD' D)[m]]=stF (slA D.sl) (allD' D)[m]:=by unfold stsF;simp
  rw [hstn]
  have hn':∃n,(allD' D)[m]=n:=⟨_,rfl⟩
  obtain⟨nn,hnn⟩:=hn'
  simp only [hnn]
  rw [hnn] at hget
  obtain⟨s,hs⟩:=(mem_all_roots hw.a).1 (List.mem_of_getElem? hget)
  refine getR_calls (h.keep B2) (.refl _ _) hs fun w3 e hb3 _=>⟨_,_,_,_,_,_,_,_,_,_,rfl,?_⟩
  refine al fun gt w4 hb4 b4 hge4=>?_
  refine st_blk b4 (by simp) fun u1 q1 f1=>st_blk q1 (by simp) fun u2 q2 f2=>st_blk q2 (by simp) fun u3 q3 f3=>st_blk q3 (by simp) fun u4 q4 f4=>st_blk q4 (by simp) fun w5 b5 f5=>?_
  simp only [List.setIfInBounds_toArray,List.set_cons_zero,List.set_cons_succ] at b5
  have F5:Fm (·=gt) w4 w5:=(((f1.trans f2).trans f3).trans f4).trans f5
  have hs3:=hb3.size
  have C4:=btr hb3 hb3.size hb4
  have C5:Below w2.heap.size w2 w5:=C4.trans (F5.toBelow C4.size fun b hb e=>by have e:b=gt:=e;omega)
  have B5:=btr hb2 hb2.size C5
  have o5:=oo.keep C5
  simp only [Addr.add_mk,Nat.zero_add,b5.cell,lds]
  refine brn (fun hk=>?_) (fun hk=>?_)
  ·have ht:isT (slA D.sl) nn=false:=by unfold isT;rw [hs];exact decide_eq_false hk
   have hst:stF (slA D.sl) nn=[]:=by unfold stF;rw [wd_notT ht];rfl
   rw [hst,List.append_nil]
   exact⟨B5,o5⟩
  ·have ht:isT (slA D.sl) nn=true:=by unfold isT;rw [hs];exact decide_eq_true hk
   have htx:wdF (slA D.sl) nn=wordsF s.text 0:=by unfold wdF;rw [hs];show txF s=_;unfold txF;rw [if_pos hk]
   have hok:s.text.size≤16384:=by
    have h1:=(hw.a.ok nn s hs).1
    unfold ownF at h1
    rw [if_neg (by omega),if_pos hk] at h1
    exact textS_ok (by omega)
   have hstF:stF (slA D.sl) nn=numF nn 0 (wordsF s.text 0):=by unfold stF;rw [htx]
   rw [hstF]
   have hwl:=wordsF_len s.text 0
   refine split_calls s.text hok fun A1 n1 c1 A2 n2 c2 w6 ws=>⟨_,_,_,_,_,_,rfl,?_⟩
   have B6:=btr B5 B5.size ws.below
   have o6:=o5.keep ws.below
   have aw:Apart (.slice A1 n1 c1) (.slice A n c):=(o5.apart_new (by
    cases hr7:rowOf (.slice A1 n1 c1) with
    | none=>exact .inl rfl
    | some x=>exact .inr ⟨x,rfl,(ws.ws.lt x hr7).1⟩)).symm
   have ai:Apart (.slice A2 n2 c2) (.slice A n c):=(o5.apart_new (by
    cases hr7:rowOf (.slice A2 n2 c2) with
    | none=>exact .inl rfl
    | some x=>exact .inr ⟨x,rfl,(ws.at_.lt x hr7).1⟩)).symm
   have ows:=ws.ws
   have oat:=ws.at_
   generalize hL:wordsF s.text 0=l at *
   refine⟨fun A' n' c' k w'=>∃q:Nat,k=q∧q≤l.length∧Below w1.heap.size w1 w'∧Own LStd w' w1.heap.size 130 (.slice A' n' c') (stsF (slA D.sl) ((allD' D).take m)++numF nn 0 (l.take q)) ∧
    Own LS w' w5.heap.size 9 (.slice A1 n1 c1) (l.map (·.1))∧Own LI w' w5.heap.size 3 (.slice A2 n2 c2) (l.map fun p=>(p.2:Int))∧Apart (.slice A1 n1 c1) (.slice A' n' c')∧Apart (.slice A2 n2 c2) (.slice A' n' c'),fun _ _ _ k _=>l.length-k.toNat,⟨0,rfl,by omega,B6,by simpa [numF] using o6,ows,oat,aw,ai⟩,?_⟩
   rintro A' n' c' _ w7 ⟨q,rfl,hq,B7,o7,ows7,oat7,aw7,ai7⟩
   obtain⟨z1,z2⟩:=ows7.rd
   obtain⟨y1,y2⟩:=oat7.rd
   rw [List.length_map] at z1 y1
   unfold F15_l10
   refine brd (fun hqlt=>?_) (fun hqge=>?_)
   ·have hq2:q < l.length:=by omega
    have hdr:Below w7.heap.size w7 w7.drew:=(Below.refl _ _).drew
    have hnum:numF nn 0 (l.take (q+1))=numF nn 0 (l.take q)++[(l[q].1,(nn,q,l[q].2))]:=by
     rw [List.take_succ_eq_append_getElem hq2,numF_app,List.length_take,Nat.min_eq_left hq]
     simp [numF]
    refine⟨fun w'=>Below w7.drew.heap.size w7.drew w',.refl _ _,?_⟩
    refine (z2.keep hdr).held (fun _ h=>h) (by rw [List.length_map,z1]) (by omega) (by omega) rfl fun b1 o1 cc=>?_
    have cc:=cc 0 _ rfl
    simp only [Int.toNat_natCast,List.getElem_map,Nat.add_zero] at cc
    refine⟨_,cc,?_⟩
    have B7d:=btr B7 B7.size hdr
    refine (a2.keep B7d).held (fun _ h=>h) a1 (by omega) (by omega) rfl fun b2 o2 c2=>?_
    have c2:=c2 0 _ rfl
    simp only [Int.toNat_natCast,Nat.add_zero,hnn] at c2
    refine⟨_,c2,?_⟩
    refine (y2.keep hdr).held (fun _ h=>h) (by rw [List.length_map,y1]) (by omega) (by omega) rfl fun b3 o3 c3=>?_
    have c3:=c3 0 _ rfl
    simp only [Int.toNat_natCast,List.getElem_map,Nat.add_zero] at c3
    refine⟨_,c3,?_⟩
    have hsz:=B7d.size
    have hll:(stsF (slA D.sl) ((allD' D).take m)++numF nn 0 (l.take q)).length≤67125248:=by rw [List.length_append,numF_len,List.length_take];omega
    refine ap1 (L:=LStd) (x:=(l[q].1,(nn,q,l[q].2))) (base:=w1.heap.size) (.agg #[.string (ByteArray.mk #[]),.int .u64 0,.int .i64 0,.int .i64 0]) 40 rfl (by kernel_rfl) (by kernel_rfl) (by kernel_rfl) (o7.keep hdr) hsz (by omega) (by unfold maxLen;omega) fun A3 c3 w8 o8 g8=>⟨A3,_,c3,rfl,?_⟩
    have g1:=g8.own (ows7.keep hdr) aw7
    have g2:=g8.own (oat7.keep hdr) ai7
    exact⟨inR_i64 (by omega) (by omega),⟨q+1,by simp,by omega,B7d.trans g8.below,by rw [hnum,←List.append_assoc];exact o8,g1.1,g2.1,g1.2,g2.2⟩,(by first | omega | (dsimp only;omega))⟩
   ·have hq2:q=l.length:=by omega
    subst hq2
    rw [List.take_length] at o7
    exact⟨B7,o7⟩
 ·have hm2:m=(allD' D).length:=by omega
  subst hm2
  rw [List.take_length] at oo
  exact hK (A,n,c) w2 B2 (oo.rebase fun x hx=>by have:=(oo.lt x hx).1;omega)
end
end Go.Proofs.YtccplipiahdhiaaGreatDoor
set_option linter.unusedVariables false
namespace Go.Proofs
open Go.Shelf
end Go.Proofs
namespace Go.Proofs.YtccplipiahdhiaaGreatDoor
open Go.RowKit Go.Vc
open Go.Lib
open Go.Sort (SWO HoldsK PermIn SortedIn grow putRow putRowK flatK Holds)
set_option linter.unusedVariables false
set_option linter.unusedSimpArgs false
set_option maxRecDepth 100000
abbrev Nm:=ByteArray × Nat
instance:Inhabited Nm:=⟨(ByteArray.empty,0)⟩
end Go.Proofs.YtccplipiahdhiaaGreatDoor
namespace Go.Proofs.YtccplipiahdhiaaGreatDoor
open Go.RowKit Go.Vc
set_option linter.unusedVariables false
set_option linter.unusedSimpArgs false
set_option maxRecDepth 100000
theorem mapTypeW:Tryz.prog.underlying 167=some (.map 9 230):=by kernel_rfl
theorem zeroW (w:World):(zeroValue 230).run Tryz.prog w=.ok (.agg #[]) w:=by kernel_rfl
def mpW (l:List ByteArray) (k:ByteArray):Option Value:=if memB k l=true then some (.agg #[]) else none
def SetR (w:World) (m:Nat) (l:List ByteArray):Prop:=Ms w m (mpW l)
def SetO (w:World) (m:Option Nat) (l:List ByteArray):Prop:=match m with | some r=>SetR w r l | none=>l=[]
theorem memB_app {k:ByteArray}{l m:List ByteArray}:memB k (l++m)=(memB k l || memB k m):=by unfold memB;rw [List.any_append]
theorem mpW_ext {l m:List ByteArray} (h:∀k,memB k l=memB k m):mpW l=mpW m:=by funext k;unfold mpW;rw [h]
section
variable {w w1:World}{m m2 b g:Nat}{l s:List ByteArray}{M:Nat→Prop}{R:Ending→World→Prop}
theorem SetR.fm (h:SetR w m l) (hf:Fm M w w1) (hm:¬M m):SetR w1 m l:=Ms.fm h hf hm
theorem SetR.lt (h:SetR w m l):m < w.heap.size:=Ms.lt h
theorem SetR.ext (h:SetR w m l) (he:∀k,memB k l=memB k s):SetR w m s:=by unfold SetR at *;rw [←mpW_ext he];exact h
theorem set_empty {r:Nat} (h:w.heap[r]?=some (.map #[] 0)):SetR w r []:=by
 have e:mpW []=fun _=>none:=by funext k;unfold mpW memB;simp
 unfold SetR;rw [e];exact ms_empty h
theorem SetR.put (h:SetR w m l) (k:ByteArray) {K:World→Prop} (hK:∀w',SetR w' m (l++[k])→Fm (·=m) w w'→K w'):Raw Tryz.prog (Instr.mapUpdate 167 (.map (some m)) (.string k) (.agg #[])) w fun _ w'=>K w':=by
 refine Ms.update h mapTypeW keyTypeS k (.agg #[]) fun w' h' hf=>hK w' ?_ hf
 have e:mpW (l++[k])=updS (mpW l) k (some (.agg #[])):=by
  funext j
  unfold mpW updS
  rw [memB_app]
  by_cases hj:j=k
  ·subst hj
   rw [if_pos rfl,if_pos]
   rw [Bool.or_eq_true];exact .inr (memB_iff.2 (by simp))
  ·rw [if_neg hj]
   have:memB j [k]=false:=by
    cases hb:memB j [k] with
    | false=>rfl
    | true=>exact absurd (List.mem_singleton.1 (memB_iff.1 hb)) hj
   rw [this,Bool.or_false]
 unfold SetR;rw [e];exact h'
theorem SetO.look {mo:Option Nat} (h:SetO w mo l) (k:ByteArray) {K:Value→World→Prop} (hK:K (.tuple #[.agg #[],.bool (memB k l)]) w):Raw Tryz.prog (Instr.lookup 167 (.map mo) (.string k) true) w K:=by
 cases mo with
 | some r =>
  refine Ms.look h mapTypeW keyTypeS (zeroW w) k true ?_
  unfold mpW
  by_cases e:memB k l=true
  ·rw [e] at hK;rw [if_pos e];exact hK
  ·rw [show memB k l=false by simpa using e] at hK;rw [if_neg e];exact hK
 | none =>
  have h:l=[]:=h
  subst h
  have hz:memB k []=false:=rfl
  rw [hz] at hK
  have hc:(Instr.checkKey true 10000 9 (.string k)).run Tryz.prog w=.ok () w:=MapKept.run_checkKey (k:=.string k) keyTypeS (by simp [MapKept.IsKey]) _ 9999
  exact⟨_,w,by simp [Instr.lookup,run_underlying mapTypeW,hc,MapKept.run_findKey keyTypeS (show Instr.findNow .string (.string k) [] 0=some none from rfl),zeroW w,Result.andThen],hK⟩
theorem itM_fm (hf:Fm M w w1) (hb:b < w.heap.size) (hg:g < w.heap.size) (h1:¬M b) (h2:¬M g):itM b g w1=itM b g w:=by
 unfold itM;rw [hf.block b hb h1,hf.block g hg h2]
theorem union_loop (hm:SetR w m s) {mo:Option Nat} (ho:SetO w mo l) (hne:mo≠some m) {X:World→Prop}{step:Nat→(World→Prop)→World→Prop}
  (hstep:∀it L w',(Raw Tryz.prog (Instr.next (.pointer (some ⟨it,0,none⟩)) false 0) w' fun v5 w1_7=>(v5=.tuple #[.bool false]∧X w1_7)∨(∃(k:Value) (e:Value),v5=.tuple #[.bool true,k,e] ∧
   Raw Tryz.prog (Instr.entry (.pointer (some ⟨it,0,none⟩))) w1_7 fun v6 w1_8=>∃(x78_0:ByteArray) (e2:Value),v6=.tuple #[(.string x78_0),e2] ∧
   Raw Tryz.prog (Instr.mapUpdate 167 (.map (some m)) (.string x78_0) (.agg #[])) w1_8 fun _ w1_9=>L w1_9))→step it L w')
  (hX:∀w',SetR w' m (s++l)→Fm (·=m) w w'→X w') :
  Raw Tryz.prog (Instr.range 167 (.map mo)) w fun v4 w1_6=>∃it75:Nat,v4=.pointer (some ⟨it75,0,none⟩)∧∃(I:World→Prop) (mm:World→Nat),I w1_6∧∀(w1_7:World),I w1_7→step it75 (fun w2=>I w2∧mm w2 < mm w1_7) w1_7:=by
 cases mo with
 | none =>
  have ho:l=[]:=ho
  subst ho
  refine nilMap_range mapTypeW ⟨_,rfl,fun w'=>w'=w.alloc (.mapIter none 0 #[] 0),fun _=>0,rfl,?_⟩
  rintro _ rfl
  refine hstep _ _ _ ⟨_,_,run_next_nilMap w 0 0 0 #[],.inl ⟨rfl,hX _ ?_ (.below ((Below.refl _ _).alloc (Nat.le_refl _) _))⟩⟩
  rw [List.append_nil]
  exact hm.fm (M:=fun _=>False) (.below ((Below.refl _ _).alloc (Nat.le_refl _) _)) fun h=>h
 | some b =>
  have hb:SetR w b l:=ho
  have hbm:b≠m:=fun e=>hne (by rw [e])
  refine Ms.range hb mapTypeW fun w1 hb1 hI=>⟨_,rfl,?_⟩
  have hbl:=hb.lt
  have hml:=hm.lt
  have hIl:w.heap.size < w1.heap.size:=by
   obtain⟨es,clock,since,seen,last,_,_,h3,_⟩:=hI
   exact (Array.getElem?_eq_some_iff.1 h3).1
  refine⟨fun w'=>∃(t:List ByteArray) (left:ByteArray→Prop) (cur:Option ByteArray),Its w' b w.heap.size (mpW l) left cur∧SetR w' m t∧(∀k,memB k t=true↔memB k s=true∨(memB k l=true∧¬left k))∧Fm (fun x=>x=m) w w'∧w.heap.size < w'.heap.size,itM b w.heap.size,
   ⟨s,_,none,hI,hm.fm (M:=fun _=>False) (.below hb1) fun h=>h,fun k=>?_,.below hb1,hIl⟩,?_⟩
  ·unfold mpW
   by_cases e:memB k l=true
   ·rw [if_pos e];simp
   ·simp [e]
  rintro w2 ⟨t,left,cur,i2,s2,ht,f2,hl2⟩
  refine hstep _ _ _ ?_
  refine i2.next 0 (fun hno=>.inl ⟨rfl,hX w2 (s2.ext fun k=>?_) f2⟩) fun k v w3 hk hv f3 i3 hlt=>.inr ⟨_,_,rfl,?_⟩
  ·rw [Bool.eq_iff_iff,ht k,memB_app,Bool.or_eq_true]
   constructor
   ·rintro (e | e)
    ·exact .inl e
    ·exact .inr e.1
   ·rintro (e | e)
    ·exact .inl e
    ·exact .inr ⟨e,hno k⟩
  ·refine i3.entry hv ⟨k,v,rfl,?_⟩
   have s3:SetR w3 m t:=s2.fm f3 fun e=>by have e:m=w.heap.size:=e;omega
   have hmg:m≠w.heap.size:=by omega
   have hs3:=f3.size
   refine s3.put k fun w4 h4 f4=>⟨⟨t++[k],_,some k,i3.fm f4 (fun e=>hbm e) (fun e=>hmg e.symm),h4,fun j=>?_,?_,by have:=f4.size;omega⟩,?_⟩
   ·have hkl:memB k l=true:=by
     unfold mpW at hv
     by_cases e:memB k l=true
     ·exact e
     ·rw [if_neg e] at hv;cases hv
    rw [memB_app,Bool.or_eq_true,ht j]
    have hsing:memB j [k]=true↔j=k:=by rw [memB_iff];simp
    rw [hsing]
    constructor
    ·rintro ((e | e) | e)
     ·exact .inl e
     ·exact .inr ⟨e.1,fun q=>e.2 q.1⟩
     ·subst e;exact .inr ⟨hkl,fun q=>q.2 rfl⟩
    ·rintro (e | ⟨e1,e2⟩)
     ·exact .inl (.inl e)
     ·by_cases e3:j=k
      ·exact .inr e3
      ·exact .inl (.inr ⟨e1,fun q=>e2 ⟨q,e3⟩⟩)
   ·exact⟨f4.os.trans (f3.os.trans f2.os),f4.tape.trans (f3.tape.trans f2.tape),f4.output.trans (f3.output.trans f2.output),by have:=f4.size;have:=f2.size;omega,fun x hx hm=>by
     rw [f4.block x (by have:=f2.size;omega) hm,f3.block x (by have:=f2.size;omega) (fun e=>by have e:x=w.heap.size:=e;omega),f2.block x hx hm]⟩
   ·rw [itM_fm f4 (by omega) (by omega) (fun e=>hbm e) fun e=>hmg e.symm];exact hlt
theorem SetO.keep {mo:Option Nat} (h:SetO w mo l) (hb:Below w.heap.size w w1):SetO w1 mo l:=by
 cases mo with
 | some r=>exact SetR.fm (M:=fun _=>False) h (.below hb) fun h=>h
 | none=>exact h
end
set_option maxRecDepth 100000
section
variable {st:List (ByteArray × Hit)}{head:ByteArray}{left:ByteArray→Prop}{l l':List Nm}{k:ByteArray}
end
section
variable {w:World}{o:Nat→Nat}{gx gd mt mh:Nat}{D:Im}{S:PS}{nv:Sv}{tv:Nat→Sv}{hv:ByteArray→Sv}{R:Ending→World→Prop}
theorem st_few (hw:Wf D):(stD D).length≤67108864:=by
 have h1:=sts_len hw (allD' D)
 have h2:(allD' D).length≤4096:=rootsAll_few hw.s hw.a
 unfold stD
 omega
end
set_option maxRecDepth 100000
--PURE
section
variable {st:List Std}{head:ByteArray}{l a b:List (ByteArray × Nat)}{p:Std}
end
set_option maxRecDepth 100000
structure LkS (wx w:World) (gl gx:Nat) (vw a s b:Sv) (la ls lb:List Nat):Prop where
 bel:Below wx.heap.size wx w
 gl0:wx.heap.size≤gl
 blk:Blk w gl #[.pointer (some ⟨gx,0,none⟩),slV vw,slV a,slV s,slV b] 125
 oa:Own LHn w (gl+1) 65 (slV a) la
 os:Own LHn w (gl+1) 65 (slV s) ls
 ob:Own LHn w (gl+1) 65 (slV b) lb
 pas:Apart (slV a) (slV s)
 pab:Apart (slV a) (slV b)
 psb:Apart (slV s) (slV b)
def lkM (gl:Nat) (a s b:Sv) (x:Nat):Prop:=x=gl∨rowOf (slV a)=some x∨rowOf (slV s)=some x∨rowOf (slV b)=some x
structure LkF (gl:Nat) (w:World) (a s b:Sv) (w1:World) (a1 s1 b1:Sv):Prop where
 fm:Fm (lkM gl a s b) w w1
 row:∀x,lkM gl a1 s1 b1 x→lkM gl a s b x∨w.heap.size≤x
section
variable {wx w w0 w1 w2:World}{o:Nat→Nat}{gl gx gd mt mh:Nat}{D:Im}{S:PS}{nv vw a s b a1 s1 b1 a2 s2 b2:Sv}{tv:Nat→Sv}{hv:ByteArray→Sv}{R:Ending→World→Prop}{la ls lb:List Nat}{ws:List ByteArray}{M:Nat→Prop}
theorem LkF.refl:LkF gl w a s b w a s b:=⟨.refl _ _,fun x h=>.inl h⟩
theorem LkF.trans (h:LkF gl w a s b w1 a1 s1 b1) (k:LkF gl w1 a1 s1 b1 w2 a2 s2 b2):LkF gl w a s b w2 a2 s2 b2:=by
 have hs:=h.fm.size
 refine⟨⟨k.fm.os.trans h.fm.os,k.fm.tape.trans h.fm.tape,k.fm.output.trans h.fm.output,Nat.le_trans hs k.fm.size,fun x hx hm=>(k.fm.block x (by omega) fun e=>?_).trans (h.fm.block x hx hm)⟩,fun x hx=>?_⟩
 ·rcases h.row x e with q | q
  ·exact hm q
  ·omega
 ·rcases k.row x hx with q | q
  ·exact h.row x q
  ·exact .inr (by omega)
theorem LkF.fr (h:LkF gl w a s b w1 a1 s1 b1) (hf:Fm M w1 w2) (hM:∀x,x < w1.heap.size→M x→w.heap.size≤x):LkF gl w a s b w2 a1 s1 b1:=by
 have hs:=h.fm.size
 exact⟨h.fm.trans' hf fun x hx e=>(by have:=hM x (by omega) e;omega),h.row⟩
theorem LkS.fm (h:LkS wx w gl gx vw a s b la ls lb) (hf:Fm M w w1) (hM:∀x,x < w.heap.size→M x→wx.heap.size≤x∧¬lkM gl a s b x):LkS wx w1 gl gx vw a s b la ls lb:=by
 have hs:=h.bel.size
 refine⟨h.bel.trans (hf.toBelow hs fun x hx e=>by have:=(hM x (by omega) e).1;omega),h.gl0,hf.blk h.blk fun e=>(hM gl h.blk.lt e).2 (.inl rfl),own_fm h.oa hf fun x hx e=>(hM x (h.oa.lt x hx).2 e).2 (.inr (.inl hx)),own_fm h.os hf fun x hx e=>(hM x (h.os.lt x hx).2 e).2 (.inr (.inr (.inl hx))),
  own_fm h.ob hf fun x hx e=>(hM x (h.ob.lt x hx).2 e).2 (.inr (.inr (.inr hx))),h.pas,h.pab,h.psb⟩
theorem LkS.below (h:LkS wx w gl gx vw a s b la ls lb) (hb:Below w.heap.size w w1):LkS wx w1 gl gx vw a s b la ls lb:=h.fm (M:=fun _=>False) (.below hb) fun _ _ h=>h.elim
theorem LkS.lt (h:LkS wx w gl gx vw a s b la ls lb):∀x,lkM gl a s b x→gl≤x∧x < w.heap.size:=fun x hx=>by
 rcases hx with e | e | e | e
 ·subst e;exact⟨Nat.le_refl _,h.blk.lt⟩
 ·have:=h.oa.lt x e;exact⟨by omega,this.2⟩
 ·have:=h.os.lt x e;exact⟨by omega,this.2⟩
 ·have:=h.ob.lt x e;exact⟨by omega,this.2⟩
theorem whole_calls (h:LkS wx w gl gx vw a s b la ls lb) (hw:RdV LS wx ws vw) {mo:Option Nat}{l:List ByteArray} (hm:SetO w mo l) (hK:∀w',Below w.heap.size w w'→R (.returned (.bool (allW' ws l))) w') :
  Calls Tryz.prog 126 #[.pointer (some ⟨gl,0,none⟩),.map mo] w R:=by
 refine ok126 (some ⟨gl,0,none⟩) mo ?_
 unfold F126
 refine al fun g w1 hb1 b1 hge=>?_
 have h1:=h.below hb1
 have hm1:=hm.keep hb1
 simp only [NonNil_some,Addr.add_mk,Nat.zero_add]
 have c1:w1.cell? ⟨gl,1,none⟩=some (.slice vw.1 vw.2.1 vw.2.2):=by rw [h1.blk.cell];rfl
 simp only [c1,lds]
 refine containsFS ws vw _ (fun k=>!memB k l) (hw.keep h1.bel) (fun y hy w2 K R' hb2 hK2=>⟨by kernel_rfl,?_⟩) fun w2 hb2=>⟨_,rfl,?_⟩
 ·refine ok163 y ⟨g,0,none⟩ ?_
  unfold F163
  have b2:=b1.keep hb2
  simp only [b2.cell,List.getElem?_toArray,List.getElem?_cons_zero,lds]
  refine (hm1.keep hb2).look y ⟨_,rfl,?_⟩
  exact al fun g3 w3 hb3 _ _=>hK2 w3 hb3
 ·have e:(!(ws.any fun k=>!memB k l))=allW' ws l:=by
   unfold allW';rw [List.not_any_eq_all_not];simp
  rw [e];exact hK w2 (btr hb1 hb1.size hb2)
theorem LkS.push (j:Nat) (h:LkS wx w gl gx vw a s b la ls lb) (n:Nat) (hj:j=2∨j=3∨j=4) (hl:la.length≤4096∧ls.length≤4096∧lb.length≤4096) {X:World→Prop}
  (hK:∀w' a' s' b',LkS wx w' gl gx vw a' s' b' (if j=2 then la++[n] else la) (if j=3 then ls++[n] else ls) (if j=4 then lb++[n] else lb)→LkF gl w a s b w' a' s' b'→X w') :
  Al w #[.int .u64 (n:Nat)] 65 fun g w1_3=>Raw Tryz.prog (Builtin.append_ #[23,23] 23 #[(if j=2 then slV a else if j=3 then slV s else slV b),(.slice (some g) 1 1)]) w1_3 fun v4 w1_13 =>
   ∃(x128:Option Addr) (x128N:Nat) (x128C:Nat),v4=(.slice x128 x128N x128C)∧St w1_13 ⟨gl,j,none⟩ (.slice x128 x128N x128C) fun w1_14=>X w1_14:=by
 have hgl:=h.blk.lt
 have hgt:∀x,lkM gl a s b x→x < w.heap.size:=fun x hx=>(h.lt x hx).2
 have key:∀(v:Sv) (l:List Nat),Own LHn w (gl+1) 65 (slV v) l→l.length≤4096→(∀x,rowOf (slV v)=some x→lkM gl a s b x) →
   (∀(w':World) (v':Sv),Own LHn w' (gl+1) 65 (slV v') (l++[n])→Fm (fun x=>x=gl∨rowOf (slV v)=some x) w w'→Blk w' gl ((#[.pointer (some ⟨gx,0,none⟩),slV vw,slV a,slV s,slV b]:Array Value).setIfInBounds j (slV v')) 125→(∀x,rowOf (slV v')=some x→rowOf (slV v)=some x∨w.heap.size≤x) →
    (∀{u:Sv}{m:List Nat},Own LHn w (gl+1) 65 (slV u) m→Apart (slV u) (slV v)→Own LHn w' (gl+1) 65 (slV u) m∧Apart (slV u) (slV v'))→X w') →
   Al w #[.int .u64 (n:Nat)] 65 fun g w1_3=>Raw Tryz.prog (Builtin.append_ #[23,23] 23 #[slV v,(.slice (some g) 1 1)]) w1_3 fun v4 w1_13 =>
    ∃(x128:Option Addr) (x128N:Nat) (x128C:Nat),v4=(.slice x128 x128N x128C)∧St w1_13 ⟨gl,j,none⟩ (.slice x128 x128N x128C) fun w1_14=>X w1_14:=by
  intro v l ov hlen hrow hX
  refine ap1 (L:=LHn) (x:=n) (base:=gl+1) (.int .u64 0) 8 rfl (by kernel_rfl) (by kernel_rfl) (by kernel_rfl) ov (by omega) (by omega) (by unfold maxLen;omega) fun A' c' w1 o1 g1=>⟨A',_,c',rfl,?_⟩
  have FG:Fm (fun x=>rowOf (slV v)=some x) w w1:=Fm.grown g1.grown fun b hb=>hb
  have hg1:rowOf (slV v)≠some gl:=fun e=>by have:=(ov.lt gl e).1;omega
  have bl1:=FG.blk h.blk hg1
  refine st_blk bl1 (by rcases hj with e | e | e <;> subst e <;> simp) fun w2 b2 f2=>?_
  have o2:Own LHn w2 (gl+1) 65 (slV (A',l.length+1,c')) (l++[n]):=own_fm o1 f2 fun x hx e=>by have e:x=gl:=e;have:=(o1.lt x hx).1;omega
  refine hX w2 (A',l.length+1,c') o2 ((FG.mono fun x _ e=>.inr e).trans (f2.mono fun x _ e=>.inl e)) b2 (fun x hx=>?_) fun {u m} ou hap=>?_
  ·have hx:rowOf (.slice A' (l.length+1) c')=some x:=hx
   rcases g1.row with e | e | ⟨z,e,e2⟩
   ·rw [e] at hx;exact .inl hx
   ·rw [e] at hx;cases hx
   ·rw [e] at hx;cases hx;exact .inr e2
  ·obtain⟨q1,q2⟩:=g1.own ou hap
   exact⟨own_fm q1 f2 fun x hx e=>by have e:x=gl:=e;have:=(ou.lt x hx).1;omega,q2⟩
 have hbel:∀w':World,Fm (lkM gl a s b) w w'→Below wx.heap.size wx w':=fun w' f=>h.bel.trans (f.toBelow h.bel.size fun x hx e=>by have:=(h.lt x e).1;have:=h.gl0;omega)
 rcases hj with rfl | rfl | rfl
 ·refine key a la h.oa hl.1 (fun x hx=>.inr (.inl hx)) fun w' v' ov f bk row oth=>?_
  obtain⟨q1,q2⟩:=oth h.os h.pas.symm
  obtain⟨q3,q4⟩:=oth h.ob h.pab.symm
  have F:Fm (lkM gl a s b) w w':=f.mono fun x _ e=>by rcases e with e | e;exact .inl e;exact .inr (.inl e)
  exact hK w' v' s b ⟨hbel w' F,h.gl0,bk,ov,q1,q3,q2.symm,q4.symm,h.psb⟩ ⟨F,fun x hx=>by
   rcases hx with e | e | e | e
   ·exact .inl (.inl e)
   ·exact (row x e).imp (fun e=>.inr (.inl e)) id
   ·exact .inl (.inr (.inr (.inl e)))
   ·exact .inl (.inr (.inr (.inr e)))⟩
 ·refine key s ls h.os hl.2.1 (fun x hx=>.inr (.inr (.inl hx))) fun w' v' ov f bk row oth=>?_
  obtain⟨q1,q2⟩:=oth h.oa h.pas
  obtain⟨q3,q4⟩:=oth h.ob h.psb.symm
  have F:Fm (lkM gl a s b) w w':=f.mono fun x _ e=>by rcases e with e | e;exact .inl e;exact .inr (.inr (.inl e))
  exact hK w' a v' b ⟨hbel w' F,h.gl0,bk,q1,ov,q3,q2,h.pab,q4.symm⟩ ⟨F,fun x hx=>by
   rcases hx with e | e | e | e
   ·exact .inl (.inl e)
   ·exact .inl (.inr (.inl e))
   ·exact (row x e).imp (fun e=>.inr (.inr (.inl e))) id
   ·exact .inl (.inr (.inr (.inr e)))⟩
 ·refine key b lb h.ob hl.2.2 (fun x hx=>.inr (.inr (.inr hx))) fun w' v' ov f bk row oth=>?_
  obtain⟨q1,q2⟩:=oth h.oa h.pab
  obtain⟨q3,q4⟩:=oth h.os h.psb
  have F:Fm (lkM gl a s b) w w':=f.mono fun x _ e=>by rcases e with e | e;exact .inl e;exact .inr (.inr (.inr e))
  exact hK w' a s v' ⟨hbel w' F,h.gl0,bk,q1,q3,ov,h.pas,q2,q4⟩ ⟨F,fun x hx=>by
   rcases hx with e | e | e | e
   ·exact .inl (.inl e)
   ·exact .inl (.inr (.inl e))
   ·exact .inl (.inr (.inr (.inl e)))
   ·exact (row x e).imp (fun e=>.inr (.inr (.inr e))) id⟩
end
set_option maxRecDepth 100000
theorem flat_le2 {f g:Nat→List Nat}:∀{l:List Nat},(∀y∈l,(f y).length≤(g y).length)→(l.flatMap f).length≤(l.flatMap g).length
 | [],_=>by simp
 | y :: l,h=>by
  rw [List.flatMap_cons,List.flatMap_cons,List.length_append,List.length_append]
  have:=h y (by simp)
  have:=flat_le2 (f:=f) (g:=g) (l:=l) fun z hz=>h z (by simp [hz])
  omega
theorem find_len {A:Nat→Option Sl}{ws:List ByteArray}{q:Nat→Nat→Bool}:∀(r n:Nat),(findF A ws q r n).length≤(allA A r n).length
 | 0,n=>by simp [findF]
 | r+1,n=>by
  rw [findF,allA,List.length_append,List.length_cons]
  cases A n with
  | none =>
   dsimp only
   split <;> simp
  | some s =>
   dsimp only
   have:=flat_le2 (l:=s.kids) fun y _=>find_len (A:=A) (ws:=ws) (q:=q) r y
   split
   ·simp only [List.length_singleton];omega
   ·simp only [List.length_nil];omega
theorem flat_take {f:Nat→List Nat}{l:List Nat}{k:Nat} (hk:k < l.length):(l.take (k+1)).flatMap f=(l.take k).flatMap f++f l[k]:=by
 rw [List.take_succ_eq_append_getElem hk,List.flatMap_append];simp
theorem flat_takeB {f:Nat→List ByteArray}{l:List Nat}{k:Nat} (hk:k < l.length):(l.take (k+1)).flatMap f=(l.take k).flatMap f++f l[k]:=by
 rw [List.take_succ_eq_append_getElem hk,List.flatMap_append];simp
theorem flat_take_le {f:Nat→List Nat}{l:List Nat}{k:Nat}:((l.take k).flatMap f).length≤(l.flatMap f).length:=by
 have:l.flatMap f=(l.take k).flatMap f++(l.drop k).flatMap f:=by rw [←List.flatMap_append,List.take_append_drop]
 rw [this,List.length_append];omega
def q1:Nat→Nat→Bool:=fun _ _=>true
section
variable {wx w w0 w1 w2:World}{o:Nat→Nat}{gl gx gd mt mh:Nat}{D:Im}{S:PS}{nv vw:Sv}{tv:Nat→Sv}{hv:ByteArray→Sv}{R:Ending→World→Prop}{ws:List ByteArray}{M:Nat→Prop}
theorem IxR.lookT2 (h:IxR wx gx gd mt mh D o S nv tv hv) (hb:Below wx.heap.size wx w) {n:Nat} (hn:n∈allD' D) {K:Value→World→Prop} (hK:∀v,RdV LS wx (wsF (slA D.sl) n) v→K (slV v) w):Raw Tryz.prog (Instr.lookup 133 (.map (some mt)) (.int .u64 (n:Nat)) false) w K:=by
 refine (h.keep hb).tm.look mapTypeT keyTypeN (zeroT w) n false ?_
 by_cases e:isT (slA D.sl) n=true
 ·have e1:mpTx (slA D.sl) (allD' D) tv (n:Nat)=some (slV (tv n)):=by
   unfold mpTx
   rw [if_pos ⟨by omega,by rw [Int.toNat_natCast];exact hn,by rw [Int.toNat_natCast];exact e⟩,Int.toNat_natCast]
  rw [e1]
  exact hK (tv n) (h.to n hn e)
 ·have e1:mpTx (slA D.sl) (allD' D) tv (n:Nat)=none:=by
   unfold mpTx
   rw [if_neg (fun q=>e (by have:=q.2.2;rwa [Int.toNat_natCast] at this))]
  rw [e1]
  have:wsF (slA D.sl) n=[]:=by unfold wsF;rw [wd_notT (by simpa using e)];rfl
  exact hK (none,0,0) (by rw [this];exact rdV_nil _ _)
theorem below_calls (hx:IxR wx gx gd mt mh D o S nv tv hv) (hw:RdV LS wx ws vw):∀(r n c:Nat) {s0:Sl},slA D.sl n=some s0→Ch (slA D.sl) n c→c+r=66→∀{w:World}{a s b:Sv}{la ls lb:List Nat}{R:Ending→World→Prop},LkS wx w gl gx vw a s b la ls lb →
  la.length+(allA (slA D.sl) r n).length≤4096∧ls.length+(allA (slA D.sl) r n).length≤4096∧lb.length+(allA (slA D.sl) r n).length≤4096 →
  (∀w' r20 m21 a' s' b',LkS wx w' gl gx vw a' s' b' (la++findF (slA D.sl) ws q1 r n) (ls++findF (slA D.sl) ws (qS (slA D.sl) ws) r n) (lb++findF (slA D.sl) ws (qB (slA D.sl) ws) r n)→LkF gl w a s b w' a' s' b'→SetR w' r20 (hasF (slA D.sl) ws r n)→SetO w' m21 (besF (slA D.sl) ws r n) →
   w.heap.size≤r20→(∀x,m21=some x→w.heap.size≤x)→R (.returned (.tuple #[.map (some r20),.map m21,.bool (someF (slA D.sl) ws r n)])) w') →
  Calls Tryz.prog 75 #[.pointer (some ⟨gl,0,none⟩),.int .u64 (n:Nat)] w R:=by
 have hA:=hx.wf.a
 intro r
 induction r with
 | zero=>intro n c s0 hs hc hr;have:=no66 hA hs hc;omega
 | succ r ih =>
  intro n c s0 hs hc hr w a s b la ls lb R hL hlen hK
  have hc64:=no66 hA hs hc
  rw [allA_some hs,List.length_cons] at hlen
  rw [findF_some hs,findF_some hs,findF_some hs,hasF_some hs,besF_some hs,someF_some hs] at hK
  have hnA:n∈allD' D:=(mem_all_roots hA).2 ⟨s0,hs⟩
  refine ok75 (some ⟨gl,0,none⟩) n ?_
  unfold F75
  refine alm fun r20 w1 hb1 hge1 hlt1 hm1=>alm fun r21 w2 hb2 hge2 hlt2 hm2=>?_
  have B2:=btr hb1 hb1.size hb2
  have L2:=hL.below B2
  have h20:SetR w2 r20 []:=(set_empty hm1).fm (M:=fun _=>False) (.below hb2) fun h=>h
  have h21:SetR w2 r21 []:=set_empty hm2
  have hne:r20≠r21:=by omega
  have c0:w2.cell? ⟨gl,0,none⟩=some (.pointer (some ⟨gx,0,none⟩)):=by rw [L2.blk.cell];rfl
  have x2:=hx.keep L2.bel
  have cx:w2.cell? ⟨gx,2,none⟩=some (.map (some mt)):=by rw [x2.blk.cell];rfl
  simp only [NonNil_some,Addr.add_mk,Nat.zero_add,c0,cx,lds]
  refine hx.lookT2 L2.bel hnA fun vt hrt=>⟨_,_,_,rfl,?_⟩
  obtain⟨t1,t0,t2⟩:=hrt
  have hlk0:∀x,lkM gl a s b x→x < w.heap.size:=fun x h=>(hL.lt x h).2
  have hgl0:=hL.gl0
  have hgls:=hL.blk.lt
  refine⟨fun i w'=>∃k:Nat,i=k∧k≤(wsF (slA D.sl) n).length∧Fm (fun x=>x=r20∨x=r21) w2 w'∧SetR w' r20 (((wsF (slA D.sl) n).take k).filter fun x=>memB x ws)∧SetR w' r21 (((wsF (slA D.sl) n).take k).filter fun x=>memB x ws),fun i _=>(wsF (slA D.sl) n).length-i.toNat,
   ⟨0,rfl,by omega,.refl _ _,by simpa using h20,by simpa using h21⟩,?_⟩
  rintro _ w3 ⟨k,rfl,hk,f3,s20,s21⟩
  have L3:LkS wx w3 gl gx vw a s b la ls lb:=L2.fm f3 fun x hx2 e=>⟨by have:=hL.bel.size;omega,fun q=>by have:=hlk0 x q;omega⟩
  unfold F75_l3
  have hs3:=f3.size
  refine brd (fun hlt=>?_) (fun hge=>?_)
  ·have hk2:k < (wsF (slA D.sl) n).length:=by omega
   have htk:((wsF (slA D.sl) n).take (k+1)).filter (fun x=>memB x ws)=((wsF (slA D.sl) n).take k).filter (fun x=>memB x ws)++(if memB (wsF (slA D.sl) n)[k] ws=true then [(wsF (slA D.sl) n)[k]] else []):=by
    rw [List.take_succ_eq_append_getElem hk2,List.filter_append]
    congr 1
    rw [List.filter_cons];rfl
   refine⟨fun w'=>Fm (fun x=>x=r20∨x=r21) w2 w'∧SetR w' r20 (((wsF (slA D.sl) n).take (k+1)).filter fun x=>memB x ws)∧SetR w' r21 (((wsF (slA D.sl) n).take (k+1)).filter fun x=>memB x ws),?_,?_⟩
   ·rintro w' ⟨p1,p2,p3⟩
    exact⟨inR_i64 (by omega) (by omega),⟨k+1,by simp,by omega,p1,p2,p3⟩,(by first | omega | (dsimp only;omega))⟩
   refine (t2.keep L3.bel).str t1 rfl hk2 fun b oo cs=>?_
   have c1:w3.cell? ⟨gl,1,none⟩=some (.slice vw.1 vw.2.1 vw.2.2):=by rw [L3.blk.cell];rfl
   simp only [NonNil_some,Addr.add_mk,Nat.zero_add,cs,c1,lds]
   refine containsS ws vw _ (hw.keep L3.bel) ⟨_,rfl,?_⟩
   rw [htk]
   refine br (fun hm=>?_) (fun hm=>?_)
   ·rw [if_pos hm]
    refine s20.put _ fun w4 p20 f4=>?_
    refine (s21.fm f4 fun e=>hne e.symm).put _ fun w5 p21 f5=>⟨(f3.trans (f4.mono fun x _ e=>.inl e)).trans (f5.mono fun x _ e=>.inr e),p20.fm f5 hne,p21⟩
   ·rw [hm]
    simp only [Bool.false_eq_true,if_false,List.append_nil]
    exact⟨f3,s20,s21⟩
  ·have hk2:k=(wsF (slA D.sl) n).length:=by omega
   subst hk2
   rw [List.take_length] at s20 s21
   have s20:SetR w3 r20 (ownF' (slA D.sl) ws n):=s20
   have s21:SetR w3 r21 (ownF' (slA D.sl) ws n):=s21
   have F03:Fm (lkM gl a s b) w w3:=(Fm.below B2).trans' (f3) fun x hx2 e=>by omega
   have x3:=hx.keep L3.bel
   have c0:w3.cell? ⟨gl,0,none⟩=some (.pointer (some ⟨gx,0,none⟩)):=by rw [L3.blk.cell];rfl
   have cg:w3.cell? ⟨gx,0,none⟩=some (.pointer (some ⟨gd,0,none⟩)):=by rw [x3.blk.cell];rfl
   simp only [NonNil_some,Addr.add_mk,Nat.zero_add,c0,cg,lds]
   have hsd:=hx.sd
   subst hsd
   refine Kids_calls (θ:=⟨gd,98,[]⟩) x3.pm hA x3.pm.few hs ?_
   intro vk w4 hb4 ok4
   refine⟨_,_,_,_,rfl,?_⟩
   obtain⟨k1,k2⟩:=rdO ok4
   have hs4:=hb4.size
   have hkid:∀y∈s0.kids,∃t,slA S.D.sl y=some t∧Ch (slA S.D.sl) y (c+1):=fun y hy=>by
    obtain⟨t,t1,_,t3⟩:=kidc hA hs hc hy
    exact⟨t,t1,t3⟩
   have hkl:s0.kids.length≤4096:=Nat.le_trans (live_few (fun y hy=>by obtain⟨t,t1,_⟩:=hkid y hy;exact⟨t,t1⟩) (hA.kid n s0 hs).1) x3.pm.few
   refine⟨fun sm i w'=>∃(k:Nat) (a' s' b':Sv),i=k∧k≤s0.kids.length∧sm=(s0.kids.take k).any (someF (slA S.D.sl) ws r) ∧
     LkS wx w' gl gx vw a' s' b' (la++(s0.kids.take k).flatMap (findF (slA S.D.sl) ws q1 r)) (ls++(s0.kids.take k).flatMap (findF (slA S.D.sl) ws (qS (slA S.D.sl) ws) r)) (lb++(s0.kids.take k).flatMap (findF (slA S.D.sl) ws (qB (slA S.D.sl) ws) r)) ∧
     SetR w' r20 (ownF' (slA S.D.sl) ws n++(s0.kids.take k).flatMap (hasF (slA S.D.sl) ws r))∧SetR w' r21 (ownF' (slA S.D.sl) ws n++(s0.kids.take k).flatMap (besF (slA S.D.sl) ws r)) ∧
     LkF gl w a s b w' a' s' b'∧(∀x,lkM gl a' s' b' x→x < w3.heap.size→lkM gl a s b x)∧Own LHn w' w3.heap.size 65 (slV vk) s0.kids∧(∀x,rowOf (slV vk)=some x→¬lkM gl a' s' b' x)∧w4.heap.size≤w'.heap.size,
    fun _ i _=>s0.kids.length-i.toNat,⟨0,a,s,b,rfl,by omega,by simp,by simpa using L3.below hb4,by simpa using s20.fm (M:=fun _=>False) (.below hb4) fun h=>h,by simpa using s21.fm (M:=fun _=>False) (.below hb4) fun h=>h,
     ⟨F03.tr hb4,fun x h=>.inl h⟩,fun x h _=>h,ok4,fun x hx2 q=>by have:=(ok4.lt x hx2).1;have:=hlk0 x q;omega,Nat.le_refl _⟩,?_⟩
   rintro sm _ w5 ⟨k,a5,s5,b5,rfl,hk,rfl,L5,p20,p21,F5,rw5,ok5,rk5,hsz5⟩
   unfold F75_l10
   have hlk5:∀x,lkM gl a5 s5 b5 x→x < w.heap.size∨w3.heap.size≤x:=fun x q=>by
    by_cases e:x < w3.heap.size
    ·exact .inl (hlk0 x (rw5 x q e))
    ·exact .inr (by omega)
   have h20n:¬lkM gl a5 s5 b5 r20:=fun q=>by have:=hlk5 r20 q;omega
   have h21n:¬lkM gl a5 s5 b5 r21:=fun q=>by have:=hlk5 r21 q;omega
   refine brd (fun hlt=>?_) (fun hge=>?_)
   ·have hk2:k < s0.kids.length:=by omega
    have hanyk:(s0.kids.take (k+1)).any (someF (slA S.D.sl) ws r)=((s0.kids.take k).any (someF (slA S.D.sl) ws r) || someF (slA S.D.sl) ws r s0.kids[k]):=by
     rw [List.take_succ_eq_append_getElem hk2,List.any_append];simp
    refine⟨fun sm w'=>sm=(s0.kids.take (k+1)).any (someF (slA S.D.sl) ws r)∧∃(a' s' b':Sv),
     LkS wx w' gl gx vw a' s' b' (la++(s0.kids.take (k+1)).flatMap (findF (slA S.D.sl) ws q1 r)) (ls++(s0.kids.take (k+1)).flatMap (findF (slA S.D.sl) ws (qS (slA S.D.sl) ws) r)) (lb++(s0.kids.take (k+1)).flatMap (findF (slA S.D.sl) ws (qB (slA S.D.sl) ws) r)) ∧
     SetR w' r20 (ownF' (slA S.D.sl) ws n++(s0.kids.take (k+1)).flatMap (hasF (slA S.D.sl) ws r))∧SetR w' r21 (ownF' (slA S.D.sl) ws n++(s0.kids.take (k+1)).flatMap (besF (slA S.D.sl) ws r)) ∧
     LkF gl w a s b w' a' s' b'∧(∀x,lkM gl a' s' b' x→x < w3.heap.size→lkM gl a s b x)∧Own LHn w' w3.heap.size 65 (slV vk) s0.kids∧(∀x,rowOf (slV vk)=some x→¬lkM gl a' s' b' x)∧w4.heap.size≤w'.heap.size,?_,?_⟩
    ·rintro sm w' ⟨rfl,a',s',b',z1,z2,z3,z4,z5,z6,z7,z8⟩
     exact⟨inR_i64 (by omega) (by omega),⟨k+1,a',s',b',by simp,by omega,rfl,z1,z2,z3,z4,z5,z6,z7,z8⟩,(by first | omega | (dsimp only;omega))⟩
    refine (rdO ok5).2.hn k1 rfl hk2 fun bb oo cc=>?_
    simp only [cc,lds]
    obtain⟨t,ht,hct⟩:=hkid s0.kids[k] (List.getElem_mem hk2)
    have hfl:=@flat_take_le (allA (slA S.D.sl) r) s0.kids (k+1)
    have hall:=@flat_take (allA (slA S.D.sl) r) s0.kids k hk2
    have hle:∀q:Nat→Nat→Bool,((s0.kids.take k).flatMap (findF (slA S.D.sl) ws q r)).length≤((s0.kids.take k).flatMap (allA (slA S.D.sl) r)).length:=fun q=>flat_le2 fun y _=>find_len r y
    have hle1:=hle q1
    have hle2:=hle (qS (slA S.D.sl) ws)
    have hle3:=hle (qB (slA S.D.sl) ws)
    rw [hall,List.length_append] at hfl
    rw [flat_take hk2,flat_take hk2,flat_take hk2,flat_takeB hk2,flat_takeB hk2,hanyk]
    generalize s0.kids[k]=y at *
    refine ih y (c+1) ht hct (by omega) L5 (by simp only [List.length_append];omega) fun w6 r20k m21k a6 s6 b6 L6 F6 q20 q21 hge20 hge21=>⟨_,_,_,rfl,?_⟩
    have hs6:=F6.fm.size
    have p20':=p20.fm F6.fm h20n
    have p21':=p21.fm F6.fm h21n
    have hrow6:∀x,lkM gl a6 s6 b6 x→lkM gl a5 s5 b5 x∨w5.heap.size≤x:=F6.row
    refine union_loop p20' (mo:=some r20k) (l:=hasF (slA S.D.sl) ws r y) q20 (fun e=>by cases e;omega)
     (step:=fun it L w'=>F75_l14 r20 r21 _ _ _ _ it L w' R)
     (X:=fun w'=>Raw Tryz.prog (Instr.range 167 (.map m21k)) w' fun v6 w1_8=>∃it84:Nat,v6=.pointer (some ⟨it84,0,none⟩)∧∃(I:World→Prop) (m:World→Nat),I w1_8∧∀(w1_9:World),I w1_9→F75_l18 r21 _ _ _ it84 (fun w2=>I w2∧m w2 < m w1_9) w1_9 R)
     (fun it L w' h=>by unfold F75_l14;exact h) fun w7 s20 f7=>?_
    refine union_loop (p21'.fm f7 fun e=>hne e.symm) (mo:=m21k) (l:=besF (slA S.D.sl) ws r y) ?_ (fun e=>by have:=hge21 r21 e;omega)
     (step:=fun it L w'=>F75_l18 r21 _ _ _ it L w' R)
     (fun it L w' h=>by unfold F75_l18;exact h) fun w8 s21 f8=>?_
    ·cases m21k with
     | none=>exact q21
     | some x=>exact SetR.fm q21 f7 fun e=>by have e:x=r20:=e;have:=hge21 x rfl;omega
    have hs7:=f7.size
    have F68:Fm (fun x=>x=r20∨x=r21) w6 w8:=(f7.mono fun x _ e=>.inl e).trans (f8.mono fun x _ e=>.inr e)
    have fin:∃(a' s' b':Sv),
     LkS wx w8 gl gx vw a' s' b' (la++((s0.kids.take k).flatMap (findF (slA S.D.sl) ws q1 r)++findF (slA S.D.sl) ws q1 r y)) (ls++((s0.kids.take k).flatMap (findF (slA S.D.sl) ws (qS (slA S.D.sl) ws) r)++findF (slA S.D.sl) ws (qS (slA S.D.sl) ws) r y)) (lb++((s0.kids.take k).flatMap (findF (slA S.D.sl) ws (qB (slA S.D.sl) ws) r)++findF (slA S.D.sl) ws (qB (slA S.D.sl) ws) r y)) ∧
     SetR w8 r20 (ownF' (slA S.D.sl) ws n++((s0.kids.take k).flatMap (hasF (slA S.D.sl) ws r)++hasF (slA S.D.sl) ws r y))∧SetR w8 r21 (ownF' (slA S.D.sl) ws n++((s0.kids.take k).flatMap (besF (slA S.D.sl) ws r)++besF (slA S.D.sl) ws r y)) ∧
     LkF gl w a s b w8 a' s' b'∧(∀x,lkM gl a' s' b' x→x < w3.heap.size→lkM gl a s b x)∧Own LHn w8 w3.heap.size 65 (slV vk) s0.kids∧(∀x,rowOf (slV vk)=some x→¬lkM gl a' s' b' x)∧w4.heap.size≤w8.heap.size:=by
     refine⟨a6,s6,b6,?_,?_,?_,(F5.trans F6).fr F68 (fun x _ e=>by omega),fun x q hlt3=>?_,?_,fun x hx2 q=>?_,by have:=f8.size;omega⟩
     ·rw [←List.append_assoc,←List.append_assoc,←List.append_assoc]
      refine L6.fm F68 fun x _ e=>⟨by have:=hL.bel.size;omega,fun q=>?_⟩
      rcases hrow6 x q with q | q
      ·rcases e with e | e
       ·subst e;exact h20n q
       ·subst e;exact h21n q
      ·omega
     ·rw [←List.append_assoc];exact s20.fm f8 hne
     ·rw [←List.append_assoc];exact s21
     ·rcases hrow6 x q with q | q
      ·exact rw5 x q hlt3
      ·omega
     ·exact own_fm (own_fm ok5 F6.fm fun x hx2 q=>rk5 x hx2 q) F68 fun x hx2 e=>by have:=(ok5.lt x hx2).1;omega
     ·rcases hrow6 x q with q | q
      ·exact rk5 x hx2 q
      ·have:=(ok5.lt x hx2).2;omega
    refine br (fun hsm=>⟨by rw [hsm];rfl,fin⟩) (fun hsm=>⟨by rw [hsm];rfl,fin⟩)
   ·have hk2:k=s0.kids.length:=by omega
    subst hk2
    rw [List.take_length] at L5 p20 p21 ⊢
    have x5:=hx.keep L5.bel
    have c0:w5.cell? ⟨gl,0,none⟩=some (.pointer (some ⟨gx,0,none⟩)):=by rw [L5.blk.cell];rfl
    have cg:w5.cell? ⟨gx,0,none⟩=some (.pointer (some ⟨gd,0,none⟩)):=by rw [x5.blk.cell];rfl
    simp only [NonNil_some,Addr.add_mk,Nat.zero_add,c0,cg,lds]
    refine Get_calls (θ:=⟨gd,98,[]⟩) x5.pm hs ?_
    intro va w6 hb6 _
    refine⟨s0.kind,s0.nm,va.1,va.2.1,va.2.2,s0.text,none,0,0,0,rfl,?_⟩
    refine al fun gt w7 hb7 b7 hge7=>?_
    refine st_blk b7 (by simp) fun u1 q1' f1=>st_blk q1' (by simp) fun u2 q2 f2=>st_blk q2 (by simp) fun u3 q3 f3=>st_blk q3 (by simp) fun u4 q4 f4=>st_blk q4 (by simp) fun w8 b8 f5=>?_
    simp only [List.setIfInBounds_toArray,List.set_cons_zero,List.set_cons_succ] at b8
    have F8:Fm (·=gt) w7 w8:=(((f1.trans f2).trans f3).trans f4).trans f5
    clear q1' q2 q3 q4 f1 f2 f3 f4 f5
    have hs6:=hb6.size
    have D7:=btr hb6 hb6.size hb7
    have D8:Below w5.heap.size w5 w8:=D7.trans (F8.toBelow D7.size fun x hx2 e=>by have e:x=gt:=e;omega)
    have hle:∀q:Nat→Nat→Bool,(s0.kids.flatMap (findF (slA S.D.sl) ws q r)).length≤(s0.kids.flatMap (allA (slA S.D.sl) r)).length:=fun q=>flat_le2 fun y _=>find_len r y
    have hle1:=hle q1
    have hle2:=hle (qS (slA S.D.sl) ws)
    have hle3:=hle (qB (slA S.D.sl) ws)
    have hW:wholeF (slA S.D.sl) ws (r+1) n=(decide (s0.kind=1) && allW' ws (ownF' (slA S.D.sl) ws n++s0.kids.flatMap (hasF (slA S.D.sl) ws r))):=by
     unfold wholeF;rw [hs,←hasF_some hs]
    have hQS:qS (slA S.D.sl) ws (r+1) n=!(s0.kids.any (someF (slA S.D.sl) ws r)):=by unfold qS;rw [hs,Nat.add_sub_cancel]
    have hQB:qB (slA S.D.sl) ws (r+1) n=allW' ws (ownF' (slA S.D.sl) ws n++s0.kids.flatMap (besF (slA S.D.sl) ws r)):=by unfold qB;rw [besK_some hs]
    generalize hAS:ownF' (slA S.D.sl) ws n++s0.kids.flatMap (hasF (slA S.D.sl) ws r)=HAS at *
    generalize hBE:ownF' (slA S.D.sl) ws n++s0.kids.flatMap (besF (slA S.D.sl) ws r)=BES at *
    generalize hAN:s0.kids.any (someF (slA S.D.sl) ws r)=AN at *
    generalize s0.kids.flatMap (findF (slA S.D.sl) ws q1 r)=FA at *
    generalize s0.kids.flatMap (findF (slA S.D.sl) ws (qS (slA S.D.sl) ws) r)=FS at *
    generalize s0.kids.flatMap (findF (slA S.D.sl) ws (qB (slA S.D.sl) ws) r)=FB at *
    generalize (s0.kids.flatMap (allA (slA S.D.sl) r)).length=NN at *
    have L8:=L5.below D8
    have p208:=p20.fm (M:=fun _=>False) (.below D8) fun h=>h
    have p218:=p21.fm (M:=fun _=>False) (.below D8) fun h=>h
    have F58:LkF gl w a s b w8 a5 s5 b5:=F5.fr (M:=fun _=>False) (.below D8) fun _ _ h=>h.elim
    have hs8:=D8.size
    have none_:∀w9,Below w8.heap.size w8 w9→wholeF (slA S.D.sl) ws (r+1) n=false→R (.returned (.tuple #[.map (some r20),.map (some r21),.bool AN])) w9:=fun w9 hb9 hf=>by
     have:=hK w9 r20 (some r21) a5 s5 b5 ?_ (F58.fr (M:=fun _=>False) (.below hb9) fun _ _ h=>h.elim) (p208.fm (M:=fun _=>False) (.below hb9) fun h=>h) ?_ (by omega) (fun x e=>by cases e;omega)
     ·rw [hf,Bool.false_or] at this;exact this
     ·rw [hf]
      simp only [Bool.false_eq_true,false_and,if_false,List.append_nil]
      exact L8.below hb9
     ·rw [hf]
      simp only [Bool.false_eq_true,if_false]
      exact SetR.fm (M:=fun _=>False) p218 (.below hb9) fun h=>h
    refine⟨fun hs' bs' sm w9=>hs'=some r20∧bs'=some r21∧sm=AN∧Below w8.heap.size w8 w9∧wholeF (slA S.D.sl) ws (r+1) n=true,?_,?_⟩
    rotate_left
    ·simp only [b8.cell,List.getElem?_toArray,List.getElem?_cons_zero,lds]
     refine brn (fun hk1=>none_ w8 (.refl _ _) (by rw [hW,decide_eq_false hk1];rfl)) (fun hk1=>?_)
     refine whole_calls L8 hw (mo:=some r20) p208 fun w9 hb9=>⟨_,rfl,?_⟩
     rw [brnot]
     exact br (fun h1=>⟨trivial,trivial,trivial,hb9,by rw [hW,h1,decide_eq_true hk1];rfl⟩) (fun h1=>none_ w9 hb9 (by rw [hW,h1,Bool.and_false]))
    ·rintro _ _ sm w9 ⟨rfl,rfl,hsm,hb9,hwt⟩
     rw [hsm]
     rw [hwt,hQS,hQB] at hK
     simp only [true_and,if_true,Bool.true_or] at hK
     rw [if_pos (show q1 (r+1) n=true from rfl)] at hK
     have hs9:=hb9.size
     have L9:=L8.below hb9
     have p209:=p208.fm (M:=fun _=>False) (.below hb9) fun h=>h
     have p219:=p218.fm (M:=fun _=>False) (.below hb9) fun h=>h
     have F9:=F58.fr (M:=fun _=>False) (.below hb9) fun _ _ h=>h.elim
     unfold F75_j26
     have c2:w9.cell? ⟨gl,2,none⟩=some (.slice a5.1 a5.2.1 a5.2.2):=by rw [L9.blk.cell];rfl
     simp only [NonNil_some,Addr.add_mk,Nat.zero_add,c2,lds]
     refine L9.push 2 n (.inl rfl) (by simp only [List.length_append];omega) fun w10 a' s' b' L10 F10=>?_
     simp only [if_true,Nat.reduceEqDiff,if_false] at L10
     have hnn:∀{w':World}{a' s' b':Sv},w5.heap.size≤w'.heap.size→(¬lkM gl a' s' b' r20∧¬lkM gl a' s' b' r21)→∀{w2 a2 s2 b2},LkF gl w' a' s' b' w2 a2 s2 b2→(¬lkM gl a2 s2 b2 r20∧¬lkM gl a2 s2 b2 r21):=fun {w' a' s' b'} h1 h2 {w2 a2 s2 b2} k=>⟨fun q=>by
      rcases k.row _ q with e | e
      ·exact h2.1 e
      ·omega,fun q=>by
      rcases k.row _ q with e | e
      ·exact h2.2 e
      ·omega⟩
     have z10:=hnn (by omega) ⟨h20n,h21n⟩ F10
     have p20a:=p209.fm F10.fm h20n
     have p21a:=p219.fm F10.fm h21n
     have hs10:=F10.fm.size
     refine⟨fun w'=>∃(a2 s2 b2:Sv),LkS wx w' gl gx vw a2 s2 b2 (la++FA++[n]) (ls++(FS++if (!AN)=true then [n] else [])) (lb++FB)∧SetR w' r20 HAS∧SetR w' r21 BES∧LkF gl w a s b w' a2 s2 b2∧(¬lkM gl a2 s2 b2 r20∧¬lkM gl a2 s2 b2 r21)∧w5.heap.size≤w'.heap.size,?_,?_⟩
     rotate_left
     ·refine br (fun hn2=>?_) (fun hn2=>?_)
      ·have c3:w10.cell? ⟨gl,3,none⟩=some (.slice s'.1 s'.2.1 s'.2.2):=by rw [L10.blk.cell];rfl
       simp only [NonNil_some,Addr.add_mk,Nat.zero_add,c3,lds]
       refine L10.push 3 n (.inr (.inl rfl)) (by simp only [List.length_append,List.length_singleton];omega) fun w11 a2 s2 b2 L11 F11=>?_
       simp only [if_true,Nat.reduceEqDiff,if_false] at L11
       have hs11:=F11.fm.size
       refine⟨a2,s2,b2,?_,p20a.fm F11.fm z10.1,p21a.fm F11.fm z10.2,(F9.trans F10).trans F11,hnn (by omega) z10 F11,by omega⟩
       rw [hn2,if_pos rfl,←List.append_assoc];exact L11
      ·refine⟨a',s',b',?_,p20a,p21a,F9.trans F10,z10,by omega⟩
       rw [hn2]
       simp only [Bool.false_eq_true,if_false,List.append_nil]
       exact L10
     ·rintro w11 ⟨a2,s2,b2,L11,p20b,p21b,F11,z11,hs11⟩
      unfold F75_j29
      refine⟨fun w'=>∃(a3 s3 b3:Sv),LkS wx w' gl gx vw a3 s3 b3 (la++FA++[n]) (ls++(FS++if (!AN)=true then [n] else [])) (lb++(FB++if allW' ws BES=true then [n] else []))∧SetR w' r20 HAS∧LkF gl w a s b w' a3 s3 b3,?_,?_⟩
      ·rintro w12 ⟨a3,s3,b3,L12,p20c,F12⟩
       unfold F75_j31
       rw [List.append_assoc] at L12
       exact hK w12 r20 none a3 s3 b3 L12 F12 p20c rfl (by omega) fun x e=>by cases e
      ·refine whole_calls L11 hw (mo:=some r21) p21b fun w12 hb12=>⟨_,rfl,?_⟩
       have L12:=L11.below hb12
       have p20c:=p20b.fm (M:=fun _=>False) (.below hb12) fun h=>h
       have F12:=F11.fr (M:=fun _=>False) (.below hb12) fun _ _ h=>h.elim
       refine br (fun hn3=>?_) (fun hn3=>?_)
       ·have c4:w12.cell? ⟨gl,4,none⟩=some (.slice b2.1 b2.2.1 b2.2.2):=by rw [L12.blk.cell];rfl
        simp only [NonNil_some,Addr.add_mk,Nat.zero_add,c4,lds]
        refine L12.push 4 n (.inr (.inr rfl)) (by
         simp only [List.length_append,List.length_singleton]
         split <;> simp only [List.length_singleton,List.length_nil] <;> omega) fun w13 a3 s3 b3 L13 F13=>?_
        simp only [if_true,Nat.reduceEqDiff,if_false] at L13
        refine⟨a3,s3,b3,?_,p20c.fm F13.fm z11.1,F12.trans F13⟩
        rw [List.append_assoc lb] at L13;rw [if_pos hn3];exact L13
       ·refine⟨a2,s2,b2,?_,p20c,F12⟩
        have e4:(if allW' ws BES=true then [n] else [])=([]:List Nat):=if_neg (by rw [hn3];decide)
        rw [e4,List.append_nil];exact L12
end
set_option maxRecDepth 100000
theorem blk_cells {g:Nat}{t:TypeId}:∀(vs:List Value) (o:Nat) {w:World}{c:Array Value},Blk w g c t→∃c',Blk (w.setCells g o vs) g c' t∧c'.size=c.size∧(∀m,m≤o→c'.toList.take m=c.toList.take m)∧Fm (·=g) w (w.setCells g o vs)
 | [],o,w,c,h=>⟨c,h,rfl,fun _ _=>rfl,.refl _ _⟩
 | v :: vs,o,w,c,h=>by
  obtain⟨c',h1,h2,h3,h4⟩:=blk_cells vs (o+1) (h.set o v)
  refine⟨c',h1,by rw [h2];simp,fun m hm=>?_,((Fm.refl (fun x=>x=g) w).set (fun _=>rfl) v).trans h4⟩
  rw [h3 m (by omega),Array.toList_setIfInBounds,List.take_set,List.set_eq_of_length_le (by rw [List.length_take];omega)]
section
variable {w:World}{R:Ending→World→Prop}{B:Nat}{A:Option Addr}{n c a:Nat}{xs:List Nat}
theorem clearH (h:Own LHn w B 65 (.slice A n c) xs) (ha:a < xs.length) {K:World→Prop} (hK:∀w1,Own LHn w1 B 65 (.slice A a c) (xs.take a)→Fm (fun b=>rowOf (.slice A n c)=some b) w w1→K w1) :
  Raw Tryz.prog (Builtin.clear_ #[23] 0 #[.slice (SlA A c a 1) (n-a) (c-a)]) w (fun _ w'=>K w'):=by
 have h1:LHn.n=1:=rfl
 rcases h with ⟨_,rfl⟩ | ⟨_,rfl⟩ | ⟨g,c',cur,hsl,hb,hh,hn,hm,hs,ht⟩
 ·simp at ha
 ·simp at ha
 ·simp only [Value.slice.injEq] at hsl
  obtain⟨rfl,rfl,rfl⟩:=hsl
  have hbk:Blk w g cur 65:=hh
  have e1:SlA (some ⟨g,0,none⟩) (c'+1) a 1=some ⟨g,a,none⟩:=by
   unfold SlA
   rw [if_neg (by omega),Option.map_some,Addr.add_mk];simp
  rw [e1]
  refine⟨_,_,Lib.run_clear_slice w _ 65 0 (.int .u64 0) (by kernel_rfl) (fun w=>by kernel_rfl) (by kernel_rfl) (by kernel_rfl) g a _ _ (by omega) (fun j hj=>?_) (fun j hj=>hbk.frozen _),?_⟩
  ·rw [hbk.cell,Array.getElem?_eq_getElem (by rw [hs,h1];omega)];rfl
  ·obtain⟨c2,b2,s2,t2,f2⟩:=blk_cells (List.replicate (xs.length-a) (Value.int .u64 0)) a hbk
   refine hK _ (.inr (.inr ⟨g,c',c2,?_,hb,b2,?_,hm,by rw [s2,hs],?_⟩)) (f2.mono fun b _ e=>by subst e;rfl)
   ·rw [List.length_take,Nat.min_eq_left (by omega)]
   ·rw [List.length_take];omega
   ·rw [List.length_take,Nat.min_eq_left (by omega),h1,Nat.mul_one,t2 a (Nat.le_refl _),LHn.all_take xs a,←ht,List.take_take,h1]
    congr 1;omega
theorem putH (h:Own LHn w B 65 (.slice A n c) xs) {i:Int}{k:Nat} (hi:i=k) (hk:k < xs.length) (x:Nat) {K:World→Prop}
  (hK:∀w1,Own LHn w1 B 65 (.slice A n c) (xs.set k x)→Fm (fun b=>rowOf (.slice A n c)=some b) w w1→K w1):IdxA A n i 1 fun q=>St w q (.int .u64 (x:Nat)) K:=by
 subst hi
 have h1:LHn.n=1:=rfl
 rcases h with ⟨_,rfl⟩ | ⟨_,rfl⟩ | ⟨g,c',cur,hsl,hb,hh,hn,hm,hs,ht⟩
 ·simp at hk
 ·simp at hk
 ·simp only [Value.slice.injEq] at hsl
  obtain⟨rfl,rfl,rfl⟩:=hsl
  rw [IdxA_some (by omega) (by omega)]
  simp only [Addr.add_mk,Int.toNat_natCast,Nat.mul_one,Nat.zero_add]
  have hbk:Blk w g cur 65:=hh
  have hsz:k < cur.size:=by rw [hs,h1];omega
  refine st_blk hbk hsz fun w1 b1 hf=>hK w1 ?_ (hf.mono fun b _ hb=>by subst hb;rfl)
  refine .inr (.inr ⟨g,c',_,by simp,hb,b1,by simpa using hn,hm,by simpa using hs,?_⟩)
  rw [List.length_set,Array.toList_setIfInBounds,List.take_set,ht,Lay.all_set _ _ _ _ hk,h1,List.set_eq_take_append_cons_drop,if_pos (by rw [LHn.all_length,h1];omega)]
  simp [LHn]
theorem cloneHn {l:List Nat}{v:Sv} (hl:RdV LHn w l v) (hn:l.length≤67108864) (h:∀v' w',Below w.heap.size w w'→Own LHn w' w.heap.size 65 (slV v') l→R (.returned (slV v')) w'):Calls Tryz.prog 77 #[.slice v.1 v.2.1 v.2.2] w R:=by
 refine ok77 v.1 v.2.1 v.2.2 ?_
 unfold F77
 obtain⟨z1,z0,z2⟩:=hl
 refine br (fun hz=>?_) (fun hz=>?_)
 ·have h1:v.1=none:=by simpa using hz
  have h2:=z2.2.2.1 h1
  have h3:=z2.1
  have:l=[]:=List.eq_nil_of_length_eq_zero (by omega)
  subst this
  exact h (none,0,0) w (Below.refl _ _) (Own.nil _ _ _ _)
 ·refine al fun g w1 hb1 b1 hge=>?_
  refine ap (L:=LHn) (e:=65) (xs:=[]) (ys:=l) (base:=w.heap.size) (.int .u64 0) 8 z1 (by kernel_rfl) (by kernel_rfl) (by kernel_rfl) (Own.bare _ _ _ _ _) (z2.keep hb1) hb1.size (by simp only [List.length_nil,Nat.zero_add];omega) (by simp [maxLen];omega) fun A' c' w2 o2 g2=>⟨_,_,_,rfl,?_⟩
  exact h (A',_,c') w2 (hb1.trans g2.below) (by rw [List.nil_append] at o2;exact o2)
theorem idxP_cases {α:Type} (p:α→Bool):∀(l:List α) (i:Nat),(idxP p l i=-1∧l.filter (fun y=>!p y)=l)∨∃k,idxP p l i=((i+k:Nat):Int)∧k < l.length∧(l.take (k+1)).filter (fun y=>!p y)=l.take k
 | [],i=>.inl ⟨rfl,rfl⟩
 | y :: l,i=>by
  rw [idxP]
  by_cases h:p y=true
  ·rw [if_pos h]
   exact .inr ⟨0,rfl,by simp,by simp [h]⟩
  ·rw [if_neg h]
   have h2:p y=false:=by simpa using h
   rcases idxP_cases p l (i+1) with ⟨h3,h4⟩ | ⟨k,h3,h4,h5⟩
   ·exact .inl ⟨h3,by rw [List.filter_cons,h2,h4];rfl⟩
   ·exact .inr ⟨k+1,by rw [h3];congr 1;omega,by simp;omega,by rw [List.take_succ_cons,List.filter_cons,h2,h5];rfl⟩
theorem delFn {l:List Nat}{v:Sv}{f:Value} (p:Nat→Bool) (ho:Own LHn w B 65 (slV v) l) (hl:l.length≤1048576)
  (hf:∀y∈l,∀(w1:World) (K:Value→World→Prop) (R':Ending→World→Prop),Fm (fun b=>rowOf (slV v)=some b) w w1→(∀w2,Below w1.heap.size w1 w2→K (.bool (p y)) w2)→CallV Tryz.prog f #[.int .u64 (y:Nat)] w1 R' K)
  (h:∀v' w',Own LHn w' B 65 (slV v') (l.filter fun y=>!p y)→Fm (fun b=>rowOf (slV v)=some b) w w'→R (.returned (slV v')) w') :
  Calls Tryz.prog 76 #[.slice v.1 v.2.1 v.2.2,f] w R:=by
 refine ok76 v.1 v.2.1 v.2.2 f ?_
 unfold F76
 have hrd:=rdO ho
 refine indexFH l v f p ⟨hrd.1,by omega,hrd.2⟩ (fun y hy w1 K R' hb hK=>hf y hy w1 K R' (.below hb) hK) fun w1 hb1=>⟨_,rfl,?_⟩
 rcases idxP_cases p l 0 with ⟨h3,h4⟩ | ⟨a,h3,h4,h5⟩
 ·rw [h3]
  refine bre (fun _=>?_) (fun hn=>absurd rfl hn)
  exact h v w1 (by rw [h4];exact ho.keep hb1) (.below hb1)
 ·rw [h3,Nat.zero_add]
  refine bre (fun hn=>by omega) (fun _=>?_)
  have hn:=hrd.1
  refine⟨inR_i64 (by omega) (by omega),?_⟩
  refine⟨fun i j w'=>∃(a k:Nat) (xs:List Nat),i=a∧j=k∧a < k∧k≤l.length∧xs.length=l.length∧xs.take a=(l.take k).filter (fun y=>!p y)∧xs.drop k=l.drop k∧Own LHn w' B 65 (slV v) xs∧Fm (fun b=>rowOf (slV v)=some b) w w',fun _ j _=>l.length-j.toNat,
   ⟨a,a+1,l,rfl,by simp,by omega,by omega,rfl,h5.symm,rfl,ho.keep hb1,.below hb1⟩,?_⟩
  rintro _ _ w2 ⟨a,k,xs,rfl,rfl,hak,hk,hx,ht,hd,o2,f2⟩
  unfold F76_l5
  have hrd2:=rdO o2
  refine brd (fun hlt=>?_) (fun hge=>?_)
  ·have hk2:k < l.length:=by omega
   have hxk:xs[k]'(by omega)=l[k]:=by
    have h6:(xs.drop k)[0]?=(l.drop k)[0]?:=by rw [hd]
    rw [List.getElem?_drop,List.getElem?_drop,Nat.add_zero,List.getElem?_eq_getElem (by omega),List.getElem?_eq_getElem hk2] at h6
    exact Option.some.inj h6
   have htk:(l.take (k+1)).filter (fun y=>!p y)=xs.take a++(if (!p l[k])=true then [l[k]] else []):=by
    rw [List.take_succ_eq_append_getElem hk2,List.filter_append,ht]
    congr 1
    rw [List.filter_cons];rfl
   have hdk:xs.drop (k+1)=l.drop (k+1):=by
    rw [←List.drop_drop,←List.drop_drop,hd]
   refine⟨fun i w'=>∃(a:Nat) (xs:List Nat),i=a∧a < k+1∧xs.length=l.length∧xs.take a=(l.take (k+1)).filter (fun y=>!p y)∧xs.drop (k+1)=l.drop (k+1)∧Own LHn w' B 65 (slV v) xs∧Fm (fun b=>rowOf (slV v)=some b) w w',?_,?_⟩
   ·rintro _ w3 ⟨a',xs',rfl,q1,q2,q3,q4,q5,q6⟩
    unfold F76_j6
    exact⟨inR_i64 (by omega) (by omega),⟨a',k+1,xs',rfl,by simp,q1,by omega,q2,q3,q4,q5,q6⟩,(by first | omega | (dsimp only;omega))⟩
   refine hrd2.2.hn hrd2.1 rfl (k:=k) (by omega) fun b o c0=>?_
   rw [hxk] at c0
   simp only [c0,lds]
   refine hf _ (List.getElem_mem hk2) w2 _ R f2 fun w3 hb3=>⟨_,rfl,?_⟩
   have o3:=o2.keep hb3
   have f3:=f2.trans (Fm.below hb3)
   refine br (fun hp=>?_) (fun hp=>?_)
   ·refine putH o3 rfl (k:=a) (by omega) l[k] fun w4 o4 f4=>?_
    refine⟨inR_i64 (by omega) (by omega),a+1,xs.set a l[k],by simp,by omega,by rw [List.length_set];exact hx,?_,?_,o4,f3.trans f4⟩
    ·rw [htk,if_pos hp,List.take_succ_eq_append_getElem (by rw [List.length_set];omega),List.getElem_set_self,List.take_set,List.set_eq_of_length_le (by rw [List.length_take];omega)]
    ·rw [List.drop_set_of_lt (by omega),hdk]
   ·refine⟨a,xs,rfl,by omega,hx,?_,hdk,o3,f3⟩
    rw [htk,hp];simp
  ·have hk2:k=l.length:=by omega
   subst hk2
   rw [List.take_length] at ht
   have hcap:=hrd2.2.1
   refine⟨by omega,by omega,by omega,?_⟩
   have e1:(((v.2.1:Nat):Int)).toNat=v.2.1:=by omega
   have e2:(((a:Nat):Int)).toNat=a:=by omega
   rw [e1,e2]
   refine (clearH o2 (a:=a) (by omega) (K:=fun w'=>SlB 0 (a:Nat) ((v.2.2:Nat):Int) (R (.returned (.slice v.1 a v.2.2)) w')) fun w3 o3 f3=>?_)
   refine⟨by omega,by omega,by omega,?_⟩
   rw [ht] at o3
   exact h (v.1,a,v.2.2) w3 o3 (f2.trans f3)
end
set_option maxRecDepth 100000
section
variable {w w0 w1:World}{o:Nat→Nat}{gx gd mt mh:Nat}{D:Im}{S:PS}{nv vw:Sv}{tv:Nat→Sv}{hv:ByteArray→Sv}{R:Ending→World→Prop}{ws:List ByteArray}
theorem looked_calls (hx:IxR w gx gd mt mh D o S nv tv hv) (hT:Tabs w) (hw:RdV LS w ws vw)
  (h1:canS ws=true→∀gl w' a s b,LkS w w' gl gx vw a s b (D.roots.flatMap (findF (slA D.sl) ws q1 65)) (D.roots.flatMap (findF (slA D.sl) ws (qS (slA D.sl) ws) 65)) (D.roots.flatMap (findF (slA D.sl) ws (qB (slA D.sl) ws) 65))→R (.returned (.tuple #[.pointer (some ⟨gl,0,none⟩),.int .i64 0])) w')
  (h0:canS ws=false→∀w',Below w.heap.size w w'→R (.returned (.tuple #[.pointer none,.int .i64 1])) w'):Calls Tryz.prog 45 #[.pointer (some ⟨gx,0,none⟩),.slice vw.1 vw.2.1 vw.2.2] w R:=by
 refine ok45 (some ⟨gx,0,none⟩) vw.1 vw.2.1 vw.2.2 ?_
 unfold F45
 refine all_calls ws vw hT hw fun w1 hb1=>⟨_,rfl,?_⟩
 rw [brnot]
 refine br (fun ho=>?_) (fun ho=>h0 ho w1 hb1)
 have h1:=h1 ho
 refine al fun gl w2 hb2 b2 hge=>?_
 have B2:=btr hb1 hb1.size hb2
 have x2:=hx.keep B2
 have hs1:=hb1.size
 have hs2:=hb2.size
 have hgl:=b2.lt
 have hwf:=hx.wf
 have hsd:=hx.sd
 subst hsd
 have hfew:(allD' S.D).length≤4096:=rootsAll_few hwf.s hwf.a
 have L2:LkS w w2 gl gx vw (none,0,0) (none,0,0) (none,0,0) [] [] []:=⟨B2,by omega,b2,Own.nil _ _ _ _,Own.nil _ _ _ _,Own.nil _ _ _ _,Apart.nil_r,Apart.nil_r,Apart.nil_r⟩
 have cg:w2.cell? ⟨gx,0,none⟩=some (.pointer (some ⟨gd,0,none⟩)):=by rw [x2.blk.cell];rfl
 simp only [NonNil_some,Addr.add_mk,Nat.zero_add,cg,lds]
 refine Roots_calls (θ:=⟨gd,98,[]⟩) x2.pm hwf.a ?_
 intro vr w3 hb3 or3
 refine⟨_,_,_,rfl,?_⟩
 have L3:=L2.below hb3
 have hs3:=hb3.size
 obtain⟨r1,r2⟩:=rdO or3
 have hrl:S.D.roots.length≤4096:=Nat.le_trans (live_few (fun y hy=>by obtain⟨u,u1,_⟩:=rootc hwf.a hy;exact⟨u,u1⟩) hwf.a.root.1) x2.pm.few
 refine⟨fun i w'=>∃(k:Nat) (a s b:Sv),i=k∧k≤S.D.roots.length∧LkS w w' gl gx vw a s b ((S.D.roots.take k).flatMap (findF (slA S.D.sl) ws q1 65)) ((S.D.roots.take k).flatMap (findF (slA S.D.sl) ws (qS (slA S.D.sl) ws) 65)) ((S.D.roots.take k).flatMap (findF (slA S.D.sl) ws (qB (slA S.D.sl) ws) 65)) ∧
   LkF gl w3 (none,0,0) (none,0,0) (none,0,0) w' a s b,fun i _=>S.D.roots.length-i.toNat,
  ⟨0,_,_,_,rfl,by omega,by simpa using L3,.refl⟩,?_⟩
 rintro _ w4 ⟨k,a,s,b,rfl,hk,L4,F4⟩
 unfold F45_l5
 refine brd (fun hlt=>?_) (fun hge=>?_)
 ·have hk2:k < S.D.roots.length:=by omega
  have or4:=own_fm or3 F4.fm fun x hx2 q=>by
   have:=(or3.lt x hx2).1
   rcases q with e | e | e | e
   ·omega
   ·cases e
   ·cases e
   ·cases e
  refine (rdO or4).2.hn r1 rfl hk2 fun bb oo cc=>?_
  simp only [cc,lds]
  obtain⟨u,hu,hc⟩:=rootc hwf.a (List.getElem_mem hk2)
  have hfl:=@flat_take_le (allA (slA S.D.sl) 65) S.D.roots (k+1)
  rw [flat_take hk2,List.length_append] at hfl
  have hfl2:((S.D.roots.take k).flatMap (allA (slA S.D.sl) 65)).length+(allA (slA S.D.sl) 65 S.D.roots[k]).length≤4096:=Nat.le_trans hfl hfew
  have hq:∀q,((S.D.roots.take k).flatMap (findF (slA S.D.sl) ws q 65)).length+(allA (slA S.D.sl) 65 S.D.roots[k]).length≤4096:=fun q=>by
   have:=flat_le2 (l:=S.D.roots.take k) fun y _=>find_len (A:=slA S.D.sl) (ws:=ws) (q:=q) 65 y
   omega
  refine below_calls hx hw 65 _ 1 hu hc rfl L4 ⟨hq _,hq _,hq _⟩ fun w5 r20 m21 a' s' b' L5 F5 _ _ _ _=>⟨_,_,_,rfl,?_⟩
  refine⟨inR_i64 (by omega) (by omega),⟨k+1,a',s',b',by simp,by omega,?_,F4.trans F5⟩,(by first | omega | (dsimp only;omega))⟩
  rw [flat_take hk2,flat_take hk2,flat_take hk2]
  exact L5
 ·have hk2:k=S.D.roots.length:=by omega
  subst hk2
  rw [List.take_length] at L4
  exact h1 gl w4 a s b L4
theorem inOrder_calls (hx:IxR w gx gd mt mh D o S nv tv hv) {l:List Nat}{v:Sv} (hl:RdV LHn w l v) (hK:∀v' w',Below w.heap.size w w'→Own LHn w' w.heap.size 65 (slV v') ((allD' D).filter fun n=>decide (n∈l))→R (.returned (slV v')) w') :
  Calls Tryz.prog 46 #[.pointer (some ⟨gx,0,none⟩),.slice v.1 v.2.1 v.2.2] w R:=by
 refine ok46 (some ⟨gx,0,none⟩) v.1 v.2.1 v.2.2 ?_
 unfold F46
 refine al fun g2 w1 hb1 b1 hge1=>?_
 have x1:=hx.keep hb1
 have l1:=hl.keep hb1
 have hfew:(allD' D).length≤4096:=rootsAll_few hx.wf.s hx.wf.a
 have cn:w1.cell? ⟨gx,1,none⟩=some (.slice nv.1 nv.2.1 nv.2.2):=by rw [x1.blk.cell];rfl
 simp only [NonNil_some,Addr.add_mk,Nat.zero_add,cn,lds]
 refine cloneHn x1.nod (by omega) fun v2 w2 hb2 o2=>⟨_,_,_,rfl,?_⟩
 have hs1:=hb1.size
 refine delFn (B:=w1.heap.size) (fun y=>!(l.any fun z=>decide (z=y))) o2 (by omega) (fun y hy w3 K R' f3 hK2=>⟨by kernel_rfl,?_⟩) fun v3 w3 o3 f3=>⟨_,_,_,rfl,?_⟩
 ·have B3:Below w1.heap.size w1 w3:=hb2.trans (f3.toBelow hb2.size fun x hx2 e=>by have:=(o2.lt x e).1;omega)
  refine ok78 y ⟨g2,0,none⟩ ?_
  unfold F78
  have b3:=b1.keep B3
  simp only [b3.cell,List.getElem?_toArray,List.getElem?_cons_zero,lds]
  exact containsHn l v y (l1.keep B3) ⟨_,rfl,hK2 w3 (.refl _ _)⟩
 ·have B3:Below w1.heap.size w1 w3:=hb2.trans (f3.toBelow hb2.size fun x hx2 e=>by have:=(o2.lt x e).1;omega)
  have e:((allD' D).filter fun y=>!!(l.any fun z=>decide (z=y)))=(allD' D).filter fun n=>decide (n∈l):=by
   congr 1;funext y
   rw [Bool.not_not,Bool.eq_iff_iff,List.any_eq_true,decide_eq_true_eq]
   exact⟨fun⟨z,h1,h2⟩=>by rw [decide_eq_true_eq] at h2;subst h2;exact h1,fun h1=>⟨y,h1,decide_eq_true rfl⟩⟩
  rw [e] at o3
  exact hK v3 w3 (btr hb1 hs1 B3) (o3.rebase fun x hx2=>by have:=(o3.lt x hx2).1;omega)
theorem All_calls (hx:IxR w gx gd mt mh D o S nv tv hv) (hT:Tabs w) (hw:RdV LS w ws vw) (h1:canS ws=true→∀v w',Below w.heap.size w w'→Own LHn w' w.heap.size 65 (slV v) (AllS D ws)→R (.returned (.tuple #[slV v,.int .i64 0])) w')
  (h0:canS ws=false→∀w',Below w.heap.size w w'→R (.returned (.tuple #[.slice none 0 0,.int .i64 1])) w'):Calls Tryz.prog 11 #[.pointer (some ⟨gx,0,none⟩),.slice vw.1 vw.2.1 vw.2.2] w R:=by
 refine ok11 (some ⟨gx,0,none⟩) vw.1 vw.2.1 vw.2.2 ?_
 unfold F11
 have hfew:(allD' D).length≤4096:=rootsAll_few hx.wf.s hx.wf.a
 refine looked_calls hx hT hw (fun ho gl w1 a s b L1=>⟨_,_,rfl,?_⟩) fun ho w1 hb1=>⟨_,_,rfl,?_⟩
 ·refine brn (fun hn=>absurd rfl hn) fun _=>?_
  have x1:=hx.keep L1.bel
  have c1:w1.cell? ⟨gl,2,none⟩=some (slV a):=by rw [L1.blk.cell];rfl
  unfold slV at c1
  simp only [NonNil_some,Addr.add_mk,Nat.zero_add,c1,lds]
  have hlen:=@flat_le2 (findF (slA D.sl) ws (q1) 65) (allA (slA D.sl) 65) D.roots fun y _=>find_len 65 y
  refine inOrder_calls (v:=a) x1 (rdV_own L1.oa (by unfold allD' at hfew;omega)) fun v w2 hb2 o2=>⟨_,_,_,rfl,?_⟩
  have hs:=L1.bel.size
  exact h1 ho v w2 (btr L1.bel hs hb2) (o2.rebase fun x hx2=>by have:=(o2.lt x hx2).1;omega)
 ·refine brn (fun hn=>?_) fun hn=>absurd hn (by decide)
  exact h0 ho w1 hb1
theorem Smallest_calls (hx:IxR w gx gd mt mh D o S nv tv hv) (hT:Tabs w) (hw:RdV LS w ws vw) (h1:canS ws=true→∀v w',Below w.heap.size w w'→Own LHn w' w.heap.size 65 (slV v) (SmallS D ws)→R (.returned (.tuple #[slV v,.int .i64 0])) w')
  (h0:canS ws=false→∀w',Below w.heap.size w w'→R (.returned (.tuple #[.slice none 0 0,.int .i64 1])) w'):Calls Tryz.prog 12 #[.pointer (some ⟨gx,0,none⟩),.slice vw.1 vw.2.1 vw.2.2] w R:=by
 refine ok12 (some ⟨gx,0,none⟩) vw.1 vw.2.1 vw.2.2 ?_
 unfold F12
 have hfew:(allD' D).length≤4096:=rootsAll_few hx.wf.s hx.wf.a
 refine looked_calls hx hT hw (fun ho gl w1 a s b L1=>⟨_,_,rfl,?_⟩) fun ho w1 hb1=>⟨_,_,rfl,?_⟩
 ·refine brn (fun hn=>absurd rfl hn) fun _=>?_
  have x1:=hx.keep L1.bel
  have c1:w1.cell? ⟨gl,3,none⟩=some (slV s):=by rw [L1.blk.cell];rfl
  unfold slV at c1
  simp only [NonNil_some,Addr.add_mk,Nat.zero_add,c1,lds]
  have hlen:=@flat_le2 (findF (slA D.sl) ws (qS (slA D.sl) ws) 65) (allA (slA D.sl) 65) D.roots fun y _=>find_len 65 y
  refine inOrder_calls (v:=s) x1 (rdV_own L1.os (by unfold allD' at hfew;omega)) fun v w2 hb2 o2=>⟨_,_,_,rfl,?_⟩
  have hs:=L1.bel.size
  exact h1 ho v w2 (btr L1.bel hs hb2) (o2.rebase fun x hx2=>by have:=(o2.lt x hx2).1;omega)
 ·refine brn (fun hn=>?_) fun hn=>absurd hn (by decide)
  exact h0 ho w1 hb1
theorem Best_calls (hx:IxR w gx gd mt mh D o S nv tv hv) (hT:Tabs w) (hw:RdV LS w ws vw) (h1:canS ws=true→∀v w',Below w.heap.size w w'→Own LHn w' w.heap.size 65 (slV v) (BestS D ws)→R (.returned (.tuple #[slV v,.int .i64 0])) w')
  (h0:canS ws=false→∀w',Below w.heap.size w w'→R (.returned (.tuple #[.slice none 0 0,.int .i64 1])) w'):Calls Tryz.prog 13 #[.pointer (some ⟨gx,0,none⟩),.slice vw.1 vw.2.1 vw.2.2] w R:=by
 refine ok13 (some ⟨gx,0,none⟩) vw.1 vw.2.1 vw.2.2 ?_
 unfold F13
 have hfew:(allD' D).length≤4096:=rootsAll_few hx.wf.s hx.wf.a
 refine looked_calls hx hT hw (fun ho gl w1 a s b L1=>⟨_,_,rfl,?_⟩) fun ho w1 hb1=>⟨_,_,rfl,?_⟩
 ·refine brn (fun hn=>absurd rfl hn) fun _=>?_
  have x1:=hx.keep L1.bel
  have c1:w1.cell? ⟨gl,4,none⟩=some (slV b):=by rw [L1.blk.cell];rfl
  unfold slV at c1
  simp only [NonNil_some,Addr.add_mk,Nat.zero_add,c1,lds]
  have hlen:=@flat_le2 (findF (slA D.sl) ws (qB (slA D.sl) ws) 65) (allA (slA D.sl) 65) D.roots fun y _=>find_len 65 y
  refine inOrder_calls (v:=b) x1 (rdV_own L1.ob (by unfold allD' at hfew;omega)) fun v w2 hb2 o2=>⟨_,_,_,rfl,?_⟩
  have hs:=L1.bel.size
  exact h1 ho v w2 (btr L1.bel hs hb2) (o2.rebase fun x hx2=>by have:=(o2.lt x hx2).1;omega)
 ·refine brn (fun hn=>?_) fun hn=>absurd hn (by decide)
  exact h0 ho w1 hb1
end
set_option maxRecDepth 100000
section
variable {w w1 w2:World}{o o1 o2:Nat→Nat}{g k:Nat}{ty:TypeId}{M:Nat→Prop}{R:Ending→World→Prop}{D:Im}{E:Nat→Option (Nat × Nat)}{S:PS}{θ:Th}
end
set_option maxRecDepth 100000
section
variable {D:Im}{E:Nat→Option (Nat × Nat)}
end
set_option maxRecDepth 100000
section
variable {w w1 w2:World}{o o1 o2:Nat→Nat}{g k:Nat}{ty:TypeId}{M:Nat→Prop}{R:Ending→World→Prop}{D:Im}{E:Nat→Option (Nat × Nat)}{S:PS}{θ:Th}
end
set_option maxRecDepth 100000
section
variable {w w1 w2:World}{o o1 o2:Nat→Nat}{g k:Nat}{ty:TypeId}{M:Nat→Prop}{R:Ending→World→Prop}{D:Im}{E:Nat→Option (Nat × Nat)}{S:PS}{θ:Th}{nms:List Nat}{gv:Nat}
end
set_option maxRecDepth 100000
section
variable {g:Nat}
end
set_option maxRecDepth 100000
section
variable {w:World}{g:Nat}
def S0:PS:=⟨⟨[],[]⟩,[],0,0,0⟩
theorem pm_zero {ty:TypeId}{tl:List Value} (hB:Blk w g (docC (none,0,0) (none,0,0) 0 0 0 tl) ty):PM w (fun b=>if b=g then 1 else 0) ⟨g,ty,tl⟩ S0:=by
 refine⟨if_pos rfl,fun b hb=>?_,rfl,by decide,fun i b hb=>(by cases hb),⟨(none,0,0),(none,0,0),hB,.inl ⟨rfl,rfl⟩,fun x hx=>(by cases hx),.inl ⟨rfl,rfl⟩,fun x hx=>(by cases hx)⟩,fun i b s hb=>(by cases hb),fun s hs=>(by cases hs),⟨fun h hh=>(by cases hh),by decide⟩,by decide⟩
 have hb:(if b=g then 1 else 0)≠0:=hb
 by_cases e:b=g
 ·rw [e];exact hB.lt
 ·rw [if_neg e] at hb;exact absurd rfl hb
theorem pi_zero:PI S0:=⟨rfl,rfl,by decide,fun j t hj ht=>(by cases ht)⟩
theorem ld_zero (hB:Blk w g #[.slice none 0 0,.slice none 0 0,.int .i64 0,.int .i64 0,.int .i64 0,.map none,.pointer none,.int .u64 0,.int .u64 0,.map none] 105):LD 0 g 105 w (fun b=>if b=g then 1 else 0) ⟨[],[]⟩:=by
 have hn:∀y,slA ([]:List Sl) y=none:=fun y=>by
  cases h:slA ([]:List Sl) y with
  | none=>rfl
  | some s =>
   obtain⟨k,_,h2,_⟩:=slA_iff.1 h
   cases h2
 refine⟨S0,[0],0,fun _=>none,rfl,⟨.inr ⟨⟨none,pm_zero hB,fun _=>rfl⟩,rfl,rfl,fun _=>rfl⟩,pi_zero,rfl,fun y hy=>absurd rfl hy,fun y s hs=>?_,by decide⟩⟩
 have hs:slA ([]:List Sl) y=some s:=hs
 rw [hn] at hs;cases hs
theorem rm_zero {ok:Nat→Bool} (hB:Blk w g #[.slice none 0 0,.slice none 0 0] 107):RM ok w g ⟨[],[]⟩ (none,0,0) (none,0,0) :=
 ⟨hB,⟨by decide,⟨[],rfl,Rd.nil _ _,rfl⟩,rr_none _ _,fun s hs=>(by cases hs),fun h hh=>(by cases hh)⟩,by decide⟩
end
end Go.Proofs.YtccplipiahdhiaaGreatDoor
set_option linter.unusedVariables false
set_option maxRecDepth 100000
namespace Go.Proofs.YtccplipiahdhiaaGreatDoor
open Go.Vc
def F3_j7 (L6:Int→World→Prop) (round:Int) (a:World) (R:Ending→World→Prop):Prop :=
 InR .i64 (round+(1:Int))∧L6 (round+(1:Int)) a
def F3_l6 (words:Option Addr) (wordsN:Nat) (wordsC:Nat) (y:Option Addr) (g:Int) (want:Addr) (L6:Int→World→Prop) (round:Int) (za:World) (R:Ending→World→Prop):Prop :=
 Br (decide (round < (2:Int)))
 (∃J7:World→Prop,(∀ (na:World),J7 na→F3_j7 L6 round na R) ∧
 (Al za #[] 9 fun g37 na =>
 Raw Tryz.prog (Builtin.append_ #[26,26] 26 #[(.slice (some g37) 0 0),(.slice words wordsN wordsC)]) na fun v3 ha =>
 ∃(ua:Option Addr) (da:Nat) (ja:Nat),v3=(.slice ua da ja) ∧
 Calls Tryz.prog 11 #[(.pointer y),(.slice ua da ja)] ha (post R fun v4 m =>
 ∃(z:Option Addr) (f:Nat) (d:Nat) (r:Int),v4=(.tuple #[(.slice z f d),(.int .i64 r)]) ∧
 Al m #[] 9 fun g45 v =>
 Raw Tryz.prog (Builtin.append_ #[26,26] 26 #[(.slice (some g45) 0 0),(.slice words wordsN wordsC)]) v fun v5 j =>
 ∃(cb:Option Addr) (ra:Nat) (ma:Nat),v5=(.slice cb ra ma) ∧
 Calls Tryz.prog 12 #[(.pointer y),(.slice cb ra ma)] j (post R fun v6 aa =>
 ∃(q:Option Addr) (c:Nat) (a:Nat) (u:Int),v6=(.tuple #[(.slice q c a),(.int .i64 u)]) ∧
 Al aa #[] 9 fun g53 i =>
 Raw Tryz.prog (Builtin.append_ #[26,26] 26 #[(.slice (some g53) 0 0),(.slice words wordsN wordsC)]) i fun v7 s =>
 ∃(db:Option Addr) (ca:Nat) (qa:Nat),v7=(.slice db ca qa) ∧
 Calls Tryz.prog 13 #[(.pointer y),(.slice db ca qa)] s (post R fun v8 p =>
 ∃(h:Option Addr) (e:Nat) (b:Nat) (k:Int),v8=(.tuple #[(.slice h e b),(.int .i64 k)]) ∧
 Br (r != g)
 (R (.returned (.bool false)) p)
 (Br (u != g)
 (R (.returned (.bool false)) p)
 (Br (k != g)
 (R (.returned (.bool false)) p)
 (LdSl (p.cell? want) fun ta fa ia =>
 Calls Tryz.prog 14 #[(.slice z f d),(.slice ta fa ia)] p (post R fun v9 n =>
 ∃(va:Bool),v9=(.bool va) ∧
 Br (!va)
 (R (.returned (.bool false)) n)
 (LdSl (n.cell? (want.add 1)) fun sa ka ea =>
 Calls Tryz.prog 14 #[(.slice q c a),(.slice sa ka ea)] n (post R fun v10 t =>
 ∃(bb:Bool),v10=(.bool bb) ∧
 Br (!bb)
 (R (.returned (.bool false)) t)
 (LdSl (t.cell? (want.add 2)) fun ya ga pa =>
 Calls Tryz.prog 14 #[(.slice h e b),(.slice ya ga pa)] t (post R fun v11 ba =>
 ∃(ab:Bool),v11=(.bool ab) ∧
 Br (!ab)
 (R (.returned (.bool false)) ba)
 (J7 ba))))))))))))))
 (R (.returned (.bool true)) za)
def F3 (x_0:Option Addr) (x_0N:Nat) (x_0C:Nat) (x_1:Option Addr) (x_1N:Nat) (x_1C:Nat) (words:Option Addr) (wordsN:Nat) (wordsC:Nat) (w_:World) (R:Ending→World→Prop):Prop :=
 Al w_ #[(.slice x_0 x_0N x_0C),(.slice x_1 x_1N x_1C)] 25 fun g2 w1 =>
 LdSl (w1.cell? g2) fun r p n =>
 LdSl (w1.cell? (g2.add 1)) fun y j k =>
 Calls Tryz.prog 9 #[(.agg #[(.slice r p n),(.slice y j k)])] w1 (post R fun v z =>
 ∃(u:Option Addr) (s:Option Addr) (t:Bool),v=(.tuple #[(.pointer u),(.pointer s),(.bool t)]) ∧
 Br (!t)
 (R (.returned (.bool false)) z)
 (Calls Tryz.prog 10 #[(.pointer s),(.slice words wordsN wordsC)] z (post R fun v2 ba =>
 ∃(i:Option Addr) (c:Nat) (b:Nat) (h:Option Addr) (f:Nat) (d:Nat) (g:Option Addr) (a:Nat) (e:Nat) (q:Int),v2=(.tuple #[(.agg #[(.slice i c b),(.slice h f d),(.slice g a e)]),(.int .i64 q)]) ∧
 Al ba #[(.slice none 0 0),(.slice none 0 0),(.slice none 0 0)] 32 fun want aa =>
 St aa want (.slice i c b) fun da =>
 St da (want.add 1) (.slice h f d) fun ca =>
 St ca (want.add 2) (.slice g a e) fun fa =>
 ∃(I:Int→World→Prop) (m:Int→World→Nat),I (0:Int) fa ∧
 ∀(round:Int) (ea:World),I round ea→F3_l6 words wordsN wordsC u q want (fun round' w2=>I round' w2∧m round' w2 < m round ea) round ea R)))
theorem ok3 (x_0:Option Addr) (x_0N:Nat) (x_0C:Nat) (x_1:Option Addr) (x_1N:Nat) (x_1C:Nat) (words:Option Addr) (wordsN:Nat) (wordsC:Nat) {w:World}{R:Ending→World→Prop} (h:F3 x_0 x_0N x_0C x_1 x_1N x_1C words wordsN wordsC w R):Calls Tryz.prog 3 #[(.agg #[(.slice x_0 x_0N x_0C),(.slice x_1 x_1N x_1C)]),(.slice words wordsN wordsC)] w R :=
 vc_calls (pl:=⟨93,⟨[]⟩,[(7,⟨[],[(4,5),(11,93)]⟩)],[(6,⟨[(10,(.s (.int .i64)))],[(4,5),(10,93)]⟩)]⟩) Tryz.func3 (by kernel_rfl) (by kernel_rfl) (by kernel_rfl) (Eq.mp (by kernel_rfl) h)
def F9_j10 (p:Option Addr) (d:Option Addr) (a:Option Addr) (f:World) (R:Ending→World→Prop):Prop :=
 Calls Tryz.prog 40 #[(.pointer p),(.int .i64 1),(.int .u64 0),(.agg #[(.int .i64 2),(.string (ByteArray.mk #[])),(.slice none 0 0),(.string (ByteArray.mk #[108,97,116,101,114,32,120,32,121])),(.slice none 0 0)])] f (post R fun v5 e =>
 ∃(b:Int) (c:Int),v5=(.tuple #[(.int .u64 b),(.int .i64 c)]) ∧
 R (.returned (.tuple #[(.pointer a),(.pointer d),(.bool true)])) e)
def F9_j7 (p:Option Addr) (d:Option Addr) (f:World) (R:Ending→World→Prop):Prop :=
 Calls Tryz.prog 26 #[(.pointer p)] f (post R fun v4 e =>
 ∃(a:Option Addr) (b:Int),v4=(.tuple #[(.pointer a),(.int .i64 b)]) ∧
 ∃J10:World→Prop,(∀ (c:World),J10 c→F9_j10 p d a c R) ∧
 (Br (b != (0:Int))
 (R (.returned (.tuple #[(.pointer none),(.pointer none),(.bool false)])) e)
 (Br (a).isNone
 (R (.returned (.tuple #[(.pointer none),(.pointer none),(.bool false)])) e)
 (J10 e))))
def F9_j5 (a:Option Addr) (b:Option Addr) (f:World) (R:Ending→World→Prop):Prop :=
 ∃J7:Option Addr→Option Addr→World→Prop,(∀(p:Option Addr) (d:Option Addr) (e:World),J7 p d e→F9_j7 p d e R) ∧
 (Br (a).isNone
 (Al f #[(.slice none 0 0),(.slice none 0 0),(.int .i64 0),(.int .i64 0),(.int .i64 0),(.map none),(.pointer none),(.int .u64 0),(.int .u64 0),(.map none)] 105 fun g35 e =>
 Al e #[(.slice none 0 0),(.slice none 0 0)] 107 fun g37 c =>
 J7 (some g35) (some g37) c)
 (J7 a b f))
def F9 (x_0:Option Addr) (x_0N:Nat) (x_0C:Nat) (x_1:Option Addr) (x_1N:Nat) (x_1C:Nat) (w_:World) (R:Ending→World→Prop):Prop :=
 Al w_ #[(.slice x_0 x_0N x_0C),(.slice x_1 x_1N x_1C)] 25 fun g1 w1 =>
 LdSl (w1.cell? g1) fun s i d =>
 LdSl (w1.cell? (g1.add 1)) fun t a f =>
 Calls Tryz.prog 38 #[(.agg #[(.slice s i d),(.slice t a f)])] w1 (post R fun v ba =>
 ∃(q:Option Addr) (e:Nat) (k:Nat) (r:Option Addr) (h:Nat) (c:Nat),v=(.agg #[(.slice q e k),(.slice r h c)]) ∧
 Calls Tryz.prog 37 #[(.agg #[(.slice q e k),(.slice r h c)])] ba (post R fun v2 da =>
 ∃(u:Option Addr) (aa:Int),v2=(.tuple #[(.pointer u),(.int .i64 aa)]) ∧
 LdSl (da.cell? g1) fun n m j =>
 LdSl (da.cell? (g1.add 1)) fun z b g =>
 Calls Tryz.prog 39 #[(.agg #[(.slice n m j),(.slice z b g)])] da (post R fun v3 ca =>
 ∃(y:Option Addr) (p:Int),v3=(.tuple #[(.pointer y),(.int .i64 p)]) ∧
 ∃J5:World→Prop,(∀ (ea:World),J5 ea→F9_j5 u y ea R) ∧
 (Br (aa != p)
 (R (.returned (.tuple #[(.pointer none),(.pointer none),(.bool false)])) ca)
 (Br (!((u).isNone == (y).isNone))
 (R (.returned (.tuple #[(.pointer none),(.pointer none),(.bool false)])) ca)
 (J5 ca))))))
theorem ok9 (x_0:Option Addr) (x_0N:Nat) (x_0C:Nat) (x_1:Option Addr) (x_1N:Nat) (x_1C:Nat) {w:World}{R:Ending→World→Prop} (h:F9 x_0 x_0N x_0C x_1 x_1N x_1C w R):Calls Tryz.prog 9 #[(.agg #[(.slice x_0 x_0N x_0C),(.slice x_1 x_1N x_1C)])] w R :=
 vc_calls (pl:=⟨54,⟨[]⟩,[(10,⟨[],[(2,5),(43,49)]⟩),(7,⟨[(5,(.s .ptr)),(7,(.s .ptr))],[(5,38)]⟩),(5,⟨[],[(2,5),(22,32)]⟩)],[]⟩) Tryz.func9 (by kernel_rfl) (by kernel_rfl) (by kernel_rfl) (Eq.mp (by kernel_rfl) h)
def F14_l3 (a:Option Addr) (aN:Nat) (e:Bool) (L3:Int→World→Prop) (i:Int) (c:World) (R:Ending→World→Prop):Prop :=
 Br (decide (i < ((aN:Nat):Int)))
 (IdxA a aN i 1 fun d =>
 St c d (.int .u64 4711) fun b =>
 InR .i64 (i+(1:Int))∧L3 (i+(1:Int)) b)
 (R (.returned (.bool e)) c)
def F14 (a:Option Addr) (aN:Nat) (aC:Nat) (b:Option Addr) (bN:Nat) (bC:Nat) (e:World) (R:Ending→World→Prop):Prop :=
 Calls Tryz.prog 30 #[(.slice a aN aC),(.slice b bN bC)] e (post R fun v w1 =>
 ∃(d:Bool),v=(.bool d) ∧
 ∃(I:Int→World→Prop) (m:Int→World→Nat),I (0:Int) w1 ∧
 ∀(i:Int) (c:World),I i c→F14_l3 a aN d (fun i' w2=>I i' w2∧m i' w2 < m i c) i c R)
theorem ok14 (a:Option Addr) (aN:Nat) (aC:Nat) (b:Option Addr) (bN:Nat) (bC:Nat) {w:World}{R:Ending→World→Prop} (h:F14 a aN aC b bN bC w R):Calls Tryz.prog 14 #[(.slice a aN aC),(.slice b bN bC)] w R :=
 vc_calls (pl:=⟨20,⟨[]⟩,[],[(3,⟨[(6,(.s (.int .i64)))],[(6,19)]⟩)]⟩) Tryz.func14 (by kernel_rfl) (by kernel_rfl) (by kernel_rfl) (Eq.mp (by kernel_rfl) h)
end Go.Proofs.YtccplipiahdhiaaGreatDoor
namespace Go.Proofs.YtccplipiahdhiaaGreatDoor
open Go.RowKit Go.Vc
set_option linter.unusedVariables false
set_option linter.unusedSimpArgs false
set_option maxRecDepth 100000
def exX (s:ByteArray):Tr:=.mk 2 noB [] s []
def exE (s:ByteArray) (l:List Tr):Tr:=.mk 1 s [] noB l
def exT:Tr:=exE (ByteArray.mk #[97]) [exE (ByteArray.mk #[98]) [exX (ByteArray.mk #[120,32,121])],exE (ByteArray.mk #[99]) [exX (ByteArray.mk #[121,32]),exE (ByteArray.mk #[100]) [exX (ByteArray.mk #[120])]]]
def eX (s:ByteArray):E5:=⟨2,noB,(none,0,0),s,(none,0,0)⟩
section
variable {w w1:World}{R:Ending→World→Prop}
theorem exX_rd (s:ByteArray):RTr w (exX s) (eX s):=by
 unfold exX eX
 simp only [RTr]
 exact⟨trivial,trivial,trivial,rr_nil,by simp,[],rfl,Rd.nil _ _,by simp only [RTl]⟩
end
set_option maxRecDepth 100000
section
variable {w w0:World}{R:Ending→World→Prop}{st:List Std}{vl vw:Sv}{ws:List ByteArray}
theorem Rd.std {A:Option Addr}{c:Nat}{xs:List Std} (h:Rd LStd w A c xs) {n:Nat} (hn:n=xs.length) {i:Int}{k:Nat} (hi:i=k) (hk:k < xs.length) {K:Addr→Prop}
  (hK:∀b o,w.cell? ⟨b,o,none⟩=some (.string xs[k].1)→w.cell? ⟨b,o+1,none⟩=some (.int .u64 (xs[k].2.1:Nat))→w.cell? ⟨b,o+2,none⟩=some (.int .i64 (xs[k].2.2.1:Nat))→w.cell? ⟨b,o+3,none⟩=some (.int .i64 (xs[k].2.2.2:Nat))→K ⟨b,o,none⟩):IdxA A n i 4 K:=by
 subst hi
 refine h.idx hn (by omega) (by omega) rfl fun b o hc=>?_
 simp only [Int.toNat_natCast] at hc
 exact hK b o (hc 0 _ rfl) (hc 1 _ rfl) (hc 2 _ rfl) (hc 3 _ rfl)
theorem can_len (h:canS ws=true):0 < ws.length∧ws.length≤16:=by
 unfold canS at h
 simp only [Bool.and_eq_true,decide_eq_true_eq] at h
 exact⟨h.1,h.2.1⟩
end
set_option maxRecDepth 100000
section
variable {w w1:World}{g:Nat}{D:Im}{vs vr:Sv}
theorem len_calls (h:RDr w g D vs vr) {R:Ending→World→Prop} (hK:R (.returned (.int .i64 (liveN D.sl:Nat))) w):Calls Tryz.prog 43 #[.pointer (some ⟨g,0,none⟩)] w R:=by
 have hlen:=h.im.len
 have hn:=h.n
 refine ok43 (some ⟨g,0,none⟩) ?_
 unfold F43
 refine⟨fun n i w'=>∃k:Nat,i=k∧k≤D.sl.length∧w'=w∧n=(liveN (D.sl.take k):Nat),fun _ i _=>D.sl.length-i.toNat,⟨0,rfl,by omega,rfl,by simp [liveN]⟩,?_⟩
 rintro n i w' ⟨k,rfl,hk,rfl,rfl⟩
 unfold F43_l3
 simp only [NonNil_some,h.c0,lds]
 have hle:∀j,liveN (D.sl.take j)≤D.sl.length:=fun j=>by
  unfold liveN
  exact Nat.le_trans (List.length_filter_le _ _) (by rw [List.length_take];omega)
 have hle2:=hle k
 refine brd (fun hlt=>?_) (fun hge=>?_)
 ·have hk2:k < D.sl.length:=by omega
  refine⟨fun n2 w2=>w2=w'∧n2=(liveN (D.sl.take (k+1)):Nat),?_,?_⟩
  ·rintro n2 w2 ⟨rfl,rfl⟩
   unfold F43_j4
   exact⟨inR_i64 (by omega) (by omega),⟨k+1,by simp,by omega,rfl,rfl⟩,(by first | omega | (dsimp only;omega))⟩
  ·refine h.slot rfl hk2 fun b o e he c0 c1 c2 c6 c7=>?_
   simp only [Addr.add_mk,c1,lds]
   have hs:=liveN_take D.sl hk2
   refine br (fun hl=>?_) (fun hl=>?_)
   ·rw [if_pos hl] at hs
    exact⟨inR_i64 (by omega) (by omega),trivial,by omega⟩
   ·rw [if_neg (by rw [hl];decide)] at hs
    exact⟨trivial,by omega⟩
 ·have hk2:k=D.sl.length:=by omega
  subst hk2
  rw [List.take_length];exact hK
end
set_option maxRecDepth 100000
def LBo:Lay Bool:=⟨1,fun b=>[.bool b],fun _=>rfl,fun _=>by simp [Value.oneCell'],by decide⟩
def LP3:Lay Pl3:=⟨3,fun p=>[.int .u64 (p.1:Nat),.int .i64 (p.2.1:Nat),.int .i64 (p.2.2:Nat)],fun _=>rfl,fun _=>by simp [Value.oneCell'],by decide⟩
theorem zrowB (n:Nat):(zrow #[.bool false] (n*1)).toList=LBo.all (List.replicate n false):=by
 unfold zrow
 rw [Nat.mul_one]
 have e:∀k,LBo.all (List.replicate k false)=List.replicate k (.bool false):=by
  intro k
  induction k with
  | zero=>rfl
  | succ k ih =>
   simp only [Lay.all,List.replicate_succ,List.flatMap_cons] at *
   rw [ih];rfl
 rw [e]
 refine List.ext_getElem (by simp) fun i h1 h2=>?_
 simp [Nat.mod_one]
def rowW (D:Im) (w:ByteArray):List Bool:=(allD' D).map fun n=>memB w (wsF (slA D.sl) n)
theorem rowW_get {D:Im}{w:ByteArray}{i:Nat} (h:i < (allD' D).length):(rowW D w)[i]?=some (stW D w i):=by
 unfold rowW stW
 rw [List.getElem?_map,List.getElem?_eq_getElem h,getD_all (List.getElem?_eq_getElem h)];rfl
section
variable {w w1:World}{R:Ending→World→Prop}{D:Im}{ws:List ByteArray}{vat vo:Sv}{rows:List Sv}{outs:List Bool}{out:Nat→Bool}{p:Pl3}
theorem Rd.bo {A:Option Addr}{c:Nat}{xs:List Bool} (h:Rd LBo w A c xs) {n:Nat} (hn:n=xs.length) {i:Int}{k:Nat} (hi:i=k) {b:Bool} (hk:xs[k]?=some b) {K:Addr→Prop}
  (hK:∀g o,w.cell? ⟨g,o,none⟩=some (.bool b)→K ⟨g,o,none⟩):IdxA A n i 1 K:=by
 subst hi
 obtain⟨hk1,hk2⟩:=List.getElem?_eq_some_iff.1 hk
 refine h.idx hn (by omega) (by omega) rfl fun g o hc=>?_
 simp only [Int.toNat_natCast,hk2] at hc
 exact hK g o (hc 0 _ rfl)
theorem Rd.sv {A:Option Addr}{c:Nat}{xs:List Sv} (h:Rd LSv w A c xs) {n:Nat} (hn:n=xs.length) {i:Int}{k:Nat} (hi:i=k) {v:Sv} (hk:xs[k]?=some v) {K:Addr→Prop}
  (hK:∀g o,w.cell? ⟨g,o,none⟩=some (.slice v.1 v.2.1 v.2.2)→K ⟨g,o,none⟩):IdxA A n i 1 K:=by
 subst hi
 obtain⟨hk1,hk2⟩:=List.getElem?_eq_some_iff.1 hk
 refine h.idx hn (by omega) (by omega) rfl fun g o hc=>?_
 simp only [Int.toNat_natCast,hk2] at hc
 exact hK g o (hc 0 _ rfl)
theorem Rd.p3 {A:Option Addr}{c:Nat}{xs:List Pl3} (h:Rd LP3 w A c xs) {n:Nat} (hn:n=xs.length) {i:Int}{k:Nat} (hi:i=k) (hk:k < xs.length) {K:Addr→Prop}
  (hK:∀g o,w.cell? ⟨g,o,none⟩=some (.int .u64 (xs[k].1:Nat))→w.cell? ⟨g,o+1,none⟩=some (.int .i64 (xs[k].2.1:Nat))→w.cell? ⟨g,o+2,none⟩=some (.int .i64 (xs[k].2.2:Nat))→K ⟨g,o,none⟩):IdxA A n i 3 K:=by
 subst hi
 refine h.idx hn (by omega) (by omega) rfl fun g o hc=>?_
 simp only [Int.toNat_natCast] at hc
 exact hK g o (hc 0 _ rfl) (hc 1 _ rfl) (hc 2 _ rfl)
def Rws (w:World) (D:Im) (ws:List ByteArray) (rows:List Sv):Prop:=rows.length=ws.length∧∀(k:Nat) (x:ByteArray),ws[k]?=some x→∃v,rows[k]?=some v∧RdV LBo w (rowW D x) v
theorem Rws.keep (h:Rws w D ws rows) (hb:Below w.heap.size w w1):Rws w1 D ws rows:=⟨h.1,fun k x hx=>by obtain⟨v,h1,h2⟩:=h.2 k x hx;exact⟨v,h1,h2.keep hb⟩⟩
theorem hasR_calls (hr:RdV LSv w rows vat) (hw:Rws w D ws rows) (ho:RdV LBo w outs vo) (hout:∀j,j < (allD' D).length→outs[j]?=some (out j)) (hab:p.2.1≤p.2.2) (hb:p.2.2≤(allD' D).length) (hN:(allD' D).length≤4096) (hK:∀w',Below w.heap.size w w'→R (.returned (.bool (hasQ D ws out p.2.1 p.2.2))) w') :
  Calls Tryz.prog 44 #[.agg #[.int .u64 (p.1:Nat),.int .i64 (p.2.1:Nat),.int .i64 (p.2.2:Nat)],.slice vat.1 vat.2.1 vat.2.2,.slice vo.1 vo.2.1 vo.2.2] w R:=by
 refine ok44 p.1 p.2.1 p.2.2 vat.1 vat.2.1 vat.2.2 vo.1 vo.2.1 vo.2.2 ?_
 unfold F44
 refine al fun g w1 hb1 b1 hge1=>?_
 have hr1:=hr.keep hb1
 have hw1:=hw.keep hb1
 have ho1:=ho.keep hb1
 have c1:w1.cell? ⟨g,1,none⟩=some (.int .i64 (p.2.1:Nat)):=by rw [b1.cell];rfl
 have c2:w1.cell? ⟨g,2,none⟩=some (.int .i64 (p.2.2:Nat)):=by rw [b1.cell];rfl
 have hn:=hr.1
 have hrl:=hw.1
 have hr0:=hr.2.1
 refine⟨fun k w'=>∃m:Nat,k=m∧m≤ws.length∧w1=w'∧(ws.take m).all (fun x=>(List.range' p.2.1 (p.2.2-p.2.1)).any fun i=>stW D x i && !out i)=true,fun k _=>ws.length-k.toNat,⟨0,rfl,by omega,rfl,rfl⟩,?_⟩
 rintro _ _ ⟨m,rfl,hm,rfl,hall⟩
 unfold F44_l2
 refine brd (fun hlt=>?_) (fun hge=>?_)
 ·have hm2:m < ws.length:=by omega
  obtain⟨v,hv1,hv2⟩:=hw1.2 m ws[m] (List.getElem?_eq_getElem hm2)
  have hrlen:(rowW D ws[m]).length=(allD' D).length:=by unfold rowW;rw [List.length_map]
  refine⟨fun is w'=>w1=w'∧is=(List.range' p.2.1 (p.2.2-p.2.1)).any fun i=>stW D ws[m] i && !out i,?_,?_⟩
  ·rintro is _ ⟨rfl,rfl⟩
   unfold F44_j9
   rw [brnot]
   refine br (fun ht=>?_) (fun hf=>?_)
   ·refine⟨inR_i64 (by omega) (by omega),⟨m+1,by simp,by omega,(by first | exact rfl | trivial),?_⟩,(by first | omega | (dsimp only;omega))⟩
    rw [List.take_succ_eq_append_getElem hm2,List.all_append,hall,Bool.true_and,List.all_cons,List.all_nil,Bool.and_true];exact ht
   ·have:hasQ D ws out p.2.1 p.2.2=false:=by
     unfold hasQ
     refine Bool.eq_false_iff.2 fun h=>?_
     have:=List.all_eq_true.1 h ws[m] (List.getElem_mem hm2)
     rw [hf] at this;cases this
    have h:=hK w1 hb1
    rw [this] at h;exact h
  simp only [Addr.add_mk,Nat.zero_add,c1,lds]
  refine⟨fun is i w'=>∃q:Nat,i=q∧p.2.1≤q∧q≤p.2.2∧w1=w'∧is=(List.range' p.2.1 (q-p.2.1)).any fun i=>stW D ws[m] i && !out i,fun _ i _=>p.2.2-i.toNat,⟨p.2.1,rfl,Nat.le_refl _,hab,rfl,by rw [Nat.sub_self];rfl⟩,?_⟩
  rintro is _ _ ⟨q,rfl,hq1,hq2,rfl,rfl⟩
  unfold F44_l6
  refine⟨fun w'=>w1=w'∧q < p.2.2∧((List.range' p.2.1 (q-p.2.1)).any fun i=>stW D ws[m] i && !out i)=false,?_,?_⟩
  rotate_left
  ·simp only [Addr.add_mk,Nat.zero_add,c2,lds]
   refine brd (fun hql=>?_) (fun hqg=>?_)
   ·rw [brnot]
    refine br (fun ht=>⟨(by first | exact rfl | trivial),?_⟩) (fun hf=>⟨(by first | exact rfl | trivial),by omega,hf⟩)
    rw [ht]
    symm
    obtain⟨j,hj,hj2⟩:=List.any_eq_true.1 ht
    rw [List.mem_range'_1] at hj
    exact List.any_eq_true.2 ⟨j,List.mem_range'_1.2 ⟨hj.1,by omega⟩,hj2⟩
   ·obtain rfl:q=p.2.2:=by omega
    exact⟨(by first | exact rfl | trivial),rfl⟩
  rintro _ ⟨rfl,hql,hF⟩
  unfold F44_j8
  have hstep:(List.range' p.2.1 (q+1-p.2.1)).any (fun i=>stW D ws[m] i && !out i)=(stW D ws[m] q && !out q):=by
   rw [show q+1-p.2.1=(q-p.2.1)+1 by omega,List.range'_1_concat,List.any_append,hF,Bool.false_or,show p.2.1+(q-p.2.1)=q by omega];simp
  refine⟨fun is w'=>w1=w'∧is=(stW D ws[m] q && !out q),?_,?_⟩
  ·rintro is _ ⟨rfl,rfl⟩
   exact⟨inR_i64 (by omega) (by omega),⟨q+1,by simp,by omega,by omega,(by first | exact rfl | trivial),hstep.symm⟩,(by first | omega | (dsimp only;omega))⟩
  refine hr1.2.2.sv hr.1 rfl hv1 fun g1 o1 k1=>?_
  simp only [k1,lds]
  refine hv2.2.2.bo hv2.1 rfl (rowW_get (by omega)) fun g2 o2 k2=>?_
  simp only [k2,lds]
  refine br (fun ht=>?_) (fun hf=>⟨(by first | exact rfl | trivial),by rw [hf];rfl⟩)
  refine ho1.2.2.bo ho.1 rfl (hout q (by omega)) fun g3 o3 k3=>?_
  simp only [k3,lds]
  exact⟨(by first | exact rfl | trivial),by rw [ht];rfl⟩
 ·obtain rfl:m=ws.length:=by omega
  rw [List.take_length] at hall
  have h:=hK w1 hb1
  unfold hasQ at h
  rw [hall] at h;exact h
end
set_option maxRecDepth 100000
def rowI (D:Im) (st:List Std) (x:ByteArray):List Bool:=(allD' D).map fun n=>st.any fun p=>decide (p.1=x) && decide (p.2.1=n)
section
variable {D:Im}{ws:List ByteArray}
theorem rowI_all (hw:Wf D) (x:ByteArray):rowI D (stD D) x=rowW D x:=by
 unfold rowI rowW
 refine List.map_congr_left fun n hn=>?_
 rw [Bool.eq_iff_iff,List.any_eq_true,memB_iff]
 constructor
 ·rintro ⟨⟨w,h⟩,hp,h2⟩
  simp only [Bool.and_eq_true,decide_eq_true_eq] at h2
  obtain⟨rfl,rfl⟩:=h2
  obtain⟨_,h3⟩:=sts_mem.1 hp
  unfold wsF
  exact List.mem_map.2 ⟨_,List.mem_of_getElem? h3,rfl⟩
 ·intro h
  unfold wsF at h
  obtain⟨q,hq,rfl⟩:=List.mem_map.1 h
  obtain⟨j,hj⟩:=List.mem_iff_getElem?.1 hq
  exact⟨(q.1,(n,j,q.2)),sts_mem.2 ⟨hn,hj⟩,by simp⟩
theorem rowI_step (hA:WfA (slA D.sl) D.roots []) {st:List Std}{p:Std}{x:ByteArray}{j:Nat}{b:Bool} (hj:(allD' D)[j]?=some p.2.1) (hb:(rowI D st x)[j]?=some b):rowI D (st++[p]) x=(rowI D st x).set j (b || decide (p.1=x)):=by
 have hnd:(allD' D).Nodup:=rootsAll_nodup hA
 have hl:∀s:List Std,(rowI D s x).length=(allD' D).length:=fun s=>by unfold rowI;rw [List.length_map]
 refine List.ext_getElem? fun k=>?_
 rw [List.getElem?_set]
 unfold rowI at hb ⊢
 rw [List.getElem?_map] at hb ⊢
 by_cases e:j=k
 ·subst e
  rw [hj] at hb ⊢
  rw [if_pos rfl,if_pos (by rw [List.length_map];exact (List.getElem?_eq_some_iff.1 hj).1)]
  simp only [Option.map_some,Option.some.injEq] at hb ⊢
  rw [List.any_append,hb];simp
 ·rw [if_neg e,List.getElem?_map]
  cases hk:(allD' D)[k]? with
  | none=>rfl
  | some n =>
   have hne:¬p.2.1=n:=fun h=>by rw [h] at hj;exact e (nd_get hnd hj hk)
   simp only [Option.map_some,Option.some.injEq]
   rw [List.any_append]
   simp [hne]
theorem rowI_nil (x:ByteArray):rowI D [] x=List.replicate (allD' D).length false:=by
 unfold rowI
 refine List.ext_getElem (by simp) fun i h1 h2=>by simp
end
section
variable {w w0 w1:World}{R:Ending→World→Prop}{D:Im}{ws:List ByteArray}{vl vw va vs vr:Sv}{g:Nat}{es:List S8}
theorem node_at {st t:List Std}{j:Nat} (hA:WfA (slA D.sl) D.roots []) {q:Std} (hd:q :: st=t++stsF (slA D.sl) ((allD' D).drop (j+1))) (ht:∀p∈t,(allD' D)[j]?=some p.2.1) (hn:(allD' D)[j]?≠some q.2.1) :
  j+1 < (allD' D).length∧∃y,(allD' D)[j+1]?=some y∧q :: st=stF (slA D.sl) y++stsF (slA D.sl) ((allD' D).drop (j+1+1))∧∀p∈stF (slA D.sl) y,(allD' D)[j+1]?=some p.2.1:=by
 have h0:t=[]:=by
  cases t with
  | nil=>rfl
  | cons p t =>
   rw [List.cons_append] at hd
   obtain⟨rfl,_⟩:=List.cons.inj hd
   exact absurd (ht q (by simp)) hn
 subst h0
 rw [List.nil_append] at hd
 have hlt:j+1 < (allD' D).length:=Classical.byContradiction fun e=>by
  rw [List.drop_of_length_le (by omega)] at hd
  cases hd
 refine⟨hlt,(allD' D)[j+1],List.getElem?_eq_getElem hlt,?_,fun p hp=>?_⟩
 ·rw [hd,List.drop_eq_getElem_cons hlt]
  unfold stsF
  rw [List.flatMap_cons]
 ·obtain⟨x,h⟩:=p
  have:=(stF_mem.1 hp).1
  rw [List.getElem?_eq_getElem hlt]
  exact congrArg some this.symm
theorem node_eq {st t:List Std}{j:Nat} (hA:WfA (slA D.sl) D.roots []) {q:Std} (hd:q :: st=t++stsF (slA D.sl) ((allD' D).drop (j+1))) (hn:(allD' D)[j]?=some q.2.1):∃t',t=q :: t'∧st=t'++stsF (slA D.sl) ((allD' D).drop (j+1)):=by
 have hnd:(allD' D).Nodup:=rootsAll_nodup hA
 cases t with
 | cons p t =>
  rw [List.cons_append] at hd
  obtain⟨rfl,h⟩:=List.cons.inj hd
  exact⟨t,rfl,h⟩
 | nil =>
  exfalso
  rw [List.nil_append] at hd
  have hm:q∈stsF (slA D.sl) ((allD' D).drop (j+1)):=by rw [←hd];simp
  obtain⟨x,h⟩:=q
  have h2:=(sts_mem.1 hm).1
  obtain⟨k,hk⟩:=List.mem_iff_getElem?.1 h2
  rw [List.getElem?_drop] at hk
  have hn:(allD' D)[j]?=some h.1:=hn
  have:=nd_get hnd hn hk
  omega
theorem row_walk {x : ByteArray} {kw : Nat} (hw : Wf D) (hb0 : Below w0.heap.size w0 w) (hl : RdV LStd w0 (stD D) vl) (hv : RdV LS w0 ws vw) (hkw : ws[kw]? = some x) (ha : RdV LHn w0 (allD' D) va) (hN : (allD' D).length ≤ 4096) {g74 B : Nat} (hg : w0.heap.size ≤ g74) (hB : B ≤ w.heap.size)
    (h74 : Own LBo w B 4 (slV (some ⟨g74, 0, none⟩, va.2.1, va.2.1)) (List.replicate (allD' D).length false)) {L12 : Option Addr → Nat → Nat → Int → World → Prop} {at_ : Option Addr} {atN atC : Nat}
    (hJ : ∀ w', Fm (fun b => b = g74) w w' → Own LBo w' B 4 (slV (some ⟨g74, 0, none⟩, va.2.1, va.2.1)) (rowW D x) → Al w' #[(.slice (some ⟨g74, 0, none⟩) (((va.2.1 : Nat) : Int)).toNat (((va.2.1 : Nat) : Int)).toNat)] 116 fun g115 w1_3 =>
      Raw Tryz.prog (Builtin.append_ #[112, 112] 112 #[(.slice at_ atN atC), (.slice (some g115) 1 1)]) w1_3 fun v2 w1_4 =>
      ∃ (x116 : Option Addr) (x116N : Nat) (x116C : Nat), v2 = (.slice x116 x116N x116C) ∧ InR .i64 ((kw : Int) + (1 : Int)) ∧ L12 x116 x116N x116C ((kw : Int) + (1 : Int)) w1_4) :
    ∃ (I : Int → Int → World → Prop) (m : Int → Int → World → Nat), I (0 : Int) (0 : Int) w ∧
     ∀ (j : Int) (i2 : Int) (w1_3 : World), I j i2 w1_3 → F42_l17 vl.1 vl.2.1 vw.1 vw.2.1 va.1 va.2.1 L12 at_ atN atC (kw : Int) ⟨g74, 0, none⟩ (fun j' i2' w2 => I j' i2' w2 ∧ m j' i2' w2 < m j i2 w1_3) j i2 w1_3 R := by
  have hst := st_few hw
  have hA := hw.a
  have hvl := hl.1
  have hva := ha.1
  have hkl := (List.getElem?_eq_some_iff.1 hkw).1
  have hkx := (List.getElem?_eq_some_iff.1 hkw).2
  have hvw := hv.1
  have hrow : ∀ b, rowOf (slV (some ⟨g74, 0, none⟩, va.2.1, va.2.1)) = some b → b = g74 := fun b hb => by
    unfold slV at hb
    dsimp only at hb
    cases hc : va.2.1 with
    | zero => rw [hc] at hb; cases hb
    | succ n => rw [hc] at hb; exact (Option.some.inj hb).symm
  have below : ∀ {w'}, Fm (fun b => b = g74) w w' → Below w0.heap.size w0 w' := fun f => hb0.trans (f.toBelow hb0.size fun b hb e => by omega)
  have hst0 : (stD D) = (stD D).drop 0 := rfl
  refine ⟨fun j i w' => ∃ (jn im : Nat) (t : List Std), j = jn ∧ i = im ∧ im ≤ (stD D).length ∧ Fm (fun b => b = g74) w w' ∧ Own LBo w' B 4 (slV (some ⟨g74, 0, none⟩, va.2.1, va.2.1)) (rowI D ((stD D).take im) x) ∧ (stD D).drop im = t ++ stsF (slA D.sl) ((allD' D).drop (jn + 1)) ∧ ∀ p ∈ t, (allD' D)[jn]? = some p.2.1, fun _ i _ => (stD D).length - i.toNat, ?_, ?_⟩
  · cases hall : allD' D with
    | nil =>
      refine ⟨0, 0, [], rfl, rfl, by omega, .refl _ _, by rw [List.take_zero, rowI_nil]; exact h74, ?_, by simp⟩
      unfold stD
      rw [hall]; rfl
    | cons y N =>
      refine ⟨0, 0, stF (slA D.sl) y, rfl, rfl, by omega, .refl _ _, by rw [List.take_zero, rowI_nil]; exact h74, ?_, fun p hp => ?_⟩
      · unfold stD
        rw [hall, List.drop_zero, List.drop_succ_cons, List.drop_zero]
        unfold stsF
        rw [List.flatMap_cons]
      · obtain ⟨z, h⟩ := p
        have := (stF_mem.1 hp).1
        rw [List.getElem?_cons_zero]
        exact congrArg some this.symm
  rintro _ _ w1 ⟨jn, im, t, rfl, rfl, him, f1, o1, hd1, ht1⟩
  unfold F42_l17
  refine brd (fun hlt => ?_) (fun hge => ?_)
  rotate_left
  · obtain rfl : im = (stD D).length := by omega
    rw [List.take_length, rowI_all hw] at o1
    exact hJ w1 f1 o1
  have him2 : im < (stD D).length := by omega
  have hdq : (stD D).drop im = (stD D)[im] :: (stD D).drop (im + 1) := List.drop_eq_getElem_cons him2
  have htk : (stD D).take (im + 1) = (stD D).take im ++ [(stD D)[im]] := List.take_succ_eq_append_getElem him2
  refine ⟨fun j2 w' => ∃ (jn' : Nat) (t' : List Std), j2 = jn' ∧ Fm (fun b => b = g74) w w' ∧ Own LBo w' B 4 (slV (some ⟨g74, 0, none⟩, va.2.1, va.2.1)) (rowI D ((stD D).take (im + 1)) x) ∧ (stD D).drop (im + 1) = t' ++ stsF (slA D.sl) ((allD' D).drop (jn' + 1)) ∧ ∀ p ∈ t', (allD' D)[jn']? = some p.2.1, ?_, ?_⟩
  · rintro _ w' ⟨jn', t', rfl, q1, q2, q3, q4⟩
    exact ⟨inR_i64 (by omega) (by omega), ⟨jn', im + 1, t', rfl, by simp, by omega, q1, q2, q3, q4⟩, (by first | omega | (dsimp only; omega))⟩
  refine ⟨fun j2 w' => ∃ (jn' : Nat) (t' : List Std), j2 = jn' ∧ Fm (fun b => b = g74) w w' ∧ Own LBo w' B 4 (slV (some ⟨g74, 0, none⟩, va.2.1, va.2.1)) (rowI D ((stD D).take im) x) ∧ (stD D).drop im = t' ++ stsF (slA D.sl) ((allD' D).drop (jn' + 1)) ∧ ∀ p ∈ t', (allD' D)[jn']? = some p.2.1, fun j2 _ => (allD' D).length - j2.toNat, ⟨jn, t, rfl, f1, o1, hd1, ht1⟩, ?_⟩
  rintro _ w2 ⟨jm, t2, rfl, f2, o2, hd2, ht2⟩
  unfold F42_l19
  rw [hdq] at hd2
  refine dr fun w3 hb3 _ => ?_
  have f3 : Fm (fun b => b = g74) w w3 := f2.tr hb3
  have B3 := below f3
  have o3 := o2.keep hb3
  have hjm : jm < (allD' D).length := by
    by_cases h : (allD' D)[jm]? = some (stD D)[im].2.1
    · exact (List.getElem?_eq_some_iff.1 h).1
    · have := (node_at hA hd2 ht2 h).1; omega
  refine (ha.keep B3).2.2.hn hva rfl hjm fun b1 a1 k1 => ?_
  simp only [k1, lds]
  refine (hl.keep B3).2.2.std hvl rfl him2 fun b2 a2 _ k2 _ _ => ?_
  simp only [Addr.add_mk, k2, lds]
  refine brn (fun hne => ?_) (fun he => ?_)
  · have hn : (allD' D)[jm]? ≠ some (stD D)[im].2.1 := fun h => hne (by
      rw [List.getElem?_eq_getElem hjm] at h
      have := Option.some.inj h
      omega)
    obtain ⟨h1, y, h2, h3, h4⟩ := node_at hA hd2 ht2 hn
    exact ⟨inR_i64 (by omega) (by omega), ⟨jm + 1, _, by simp, f3, o3, by rw [hdq]; exact h3, h4⟩, (by first | omega | (dsimp only; omega))⟩
  · have hn : (allD' D)[jm]? = some (stD D)[im].2.1 := by
      rw [List.getElem?_eq_getElem hjm]
      exact congrArg some (by omega)
    obtain ⟨t3, rfl, h3⟩ := node_eq hA hd2 hn
    have ht3 : ∀ p ∈ t3, (allD' D)[jm]? = some p.2.1 := fun p hp => ht2 p (by simp [hp])
    have hdr : Below w3.heap.size w3 w3.drew := (Below.refl _ _).drew
    have f4 : Fm (fun b => b = g74) w w3.drew := f3.tr hdr
    have o4 := o3.keep hdr
    have B4 := below f4
    have hrl : (rowI D ((stD D).take im) x).length = (allD' D).length := by unfold rowI; rw [List.length_map]
    have hjr : jm < (rowI D ((stD D).take im) x).length := by omega
    obtain ⟨r1, r2⟩ := rdO o4
    have hs0 : ∃ b, (rowI D ((stD D).take im) x)[jm]? = some b := ⟨_, List.getElem?_eq_getElem hjr⟩
    obtain ⟨bb, hbb⟩ := hs0
    have hbb2 := (List.getElem?_eq_some_iff.1 hbb).2
    have hstep := rowI_step (st := (stD D).take im) (x := x) hA hn hbb
    rw [← htk] at hstep
    have fin : ∀ {u : Bool}, u = (bb || decide ((stD D)[im].1 = x)) → IdxA (some ⟨g74, 0, none⟩) (((va.2.1 : Nat) : Int)).toNat (jm : Nat) 1 fun q112 => St w3.drew q112 (.bool u) fun w1_5 => ∃ (jn' : Nat) (t' : List Std), ((jm : Nat) : Int) = jn' ∧ Fm (fun b => b = g74) w w1_5 ∧ Own LBo w1_5 B 4 (slV (some ⟨g74, 0, none⟩, va.2.1, va.2.1)) (rowI D ((stD D).take (im + 1)) x) ∧ (stD D).drop (im + 1) = t' ++ stsF (slA D.sl) ((allD' D).drop (jn' + 1)) ∧ ∀ p ∈ t', (allD' D)[jn']? = some p.2.1 := by
      intro u hu
      rw [Int.toNat_natCast]
      refine o4.elA (v := (some ⟨g74, 0, none⟩, va.2.1, va.2.1)) rfl hjr rfl fun b5 hb5 => ?_
      refine o4.stc (j := 0) (x' := u) hjr (by decide) rfl hb5 fun w5 o5 f5 => ?_
      exact ⟨jm, t3, rfl, f4.trans (f5.mono fun b _ e => hrow b e), by rw [hstep, ← hu]; exact o5, h3, ht3⟩
    refine ⟨fun w' => Below w3.drew.heap.size w3.drew w', .refl _ _, ?_⟩
    have hheld : ∀ {K : Addr → Prop}, (∀ q, Held (fun w' => Below w3.drew.heap.size w3.drew w') q (.bool bb) → K q) → IdxA (some ⟨g74, 0, none⟩) (((va.2.1 : Nat) : Int)).toNat (jm : Nat) 1 K := fun {K} hK => by
      rw [Int.toNat_natCast]
      refine r2.held (S := fun w' => Below w3.drew.heap.size w3.drew w') (fun _ h => h) r1 (by omega) (by omega) rfl fun b5 a5 c5 => ?_
      have c5 := c5 0 _ rfl
      simp only [Int.toNat_natCast, Nat.add_zero] at c5
      rw [hbb2] at c5
      exact hK _ c5
    refine hheld fun q hq => ⟨_, hq, ?_⟩
    refine br (fun ht => fin (by rw [ht]; rfl)) (fun hf => ?_)
    refine (hl.keep B4).2.2.held (S := fun w' => Below w3.drew.heap.size w3.drew w') (fun _ h => h) hvl (by omega) (by omega) rfl fun b6 a6 c6 => ?_
    have c6 := c6 0 _ rfl
    simp only [Int.toNat_natCast, Nat.add_zero] at c6
    refine ⟨_, c6, ?_⟩
    refine (hv.keep B4).2.2.held (S := fun w' => Below w3.drew.heap.size w3.drew w') (fun _ h => h) hvw (by omega) (by omega) rfl fun b7 a7 c7 => ?_
    have c7 := c7 0 _ rfl
    simp only [Int.toNat_natCast, Nat.add_zero, hkx] at c7
    refine ⟨_, c7, ?_⟩
    rw [bytes_eq]
    exact fin (by rw [hf]; rfl)
end
set_option maxRecDepth 100000
section
variable {w w0 w1:World}{R:Ending→World→Prop}{D:Im}{ws:List ByteArray}{vl vw va vs vr:Sv}{g:Nat}{es:List S8}
theorem allI_one {n:Nat} (hn:n≠0):allI D n=allA (slA D.sl) 65 n:=by unfold allI;rw [if_neg hn]
def Rwo (w:World) (B:Nat) (D:Im) (ws:List ByteArray) (k:Nat) (rows:List Sv) (v:Sv):Prop :=
 rows.length=k∧Own LSv w B 116 (slV v) rows∧∀(j:Nat) (x:ByteArray),j < k→ws[j]?=some x→∃u,rows[j]?=some u∧Own LBo w B 4 (slV u) (rowW D x)∧Apart (slV u) (slV v)
theorem pl_len:∀(k:Nat),(plF D k).length≤k
 | 0=>by simp [plF]
 | k+1=>by
  rw [plF,List.length_append]
  have:=pl_len k
  split <;> simp <;> omega
theorem placesR_calls (h:RW [] w g D vs vr es) (hw:Wf D) (hl:RdV LStd w (stD D) vl) (hv:RdV LS w ws vw) (hwl:ws.length≤16)
  (hK:∀vp vt rows w',Below w.heap.size w w'→Own LP3 w' w.heap.size 119 (slV vp) (plF D (allD' D).length)→Rwo w' w.heap.size D ws ws.length rows vt→R (.returned (.tuple #[slV vp,slV vt])) w') :
  Calls Tryz.prog 42 #[.pointer (some ⟨g,0,none⟩),.slice vl.1 vl.2.1 vl.2.2,.slice vw.1 vw.2.1 vw.2.2] w R:=by
 refine ok42 (some ⟨g,0,none⟩) vl.1 vl.2.1 vl.2.2 vw.1 vw.2.1 vw.2.2 ?_
 unfold F42
 have hA:=hw.a
 refine AllW h hw (n:=0) (by decide) fun va w1 hb1 oa _=>⟨_,_,_,_,rfl,?_⟩
 have oa:=oa (.inl rfl)
 have e0:allI D 0=allD' D:=rfl
 rw [e0] at oa
 have hfew:(allD' D).length≤4096:=rootsAll_few hw.s hw.a
 obtain⟨a1,a2⟩:=rdO oa
 have hs1:=hb1.size
 refine⟨fun A n c i w'=>∃m:Nat,i=m∧m≤(allD' D).length∧Below w1.heap.size w1 w'∧Own LP3 w' w1.heap.size 119 (.slice A n c) (plF D m),fun _ _ _ i _=>(allD' D).length-i.toNat,
  ⟨0,rfl,by omega,.refl _ _,Own.nil _ _ _ _⟩,?_⟩
 rintro A n c _ w2 ⟨m,rfl,hm,hb2,oo⟩
 have B2:=btr hb1 hb1.size hb2
 unfold F42_l4
 refine brd (fun hlt=>?_) (fun hge=>?_)
 ·have hml:m < (allD' D).length:=by omega
  have hget:(allD' D)[m]?=some (allD' D)[m]:=List.getElem?_eq_getElem hml
  have hgd:=getD_all hget
  have hstep:plF D (m+1)=plF D m++(if isE D (allD' D)[m]=true then [((allD' D)[m],m,m+szN D (allD' D)[m])] else []):=by rw [plF,hgd]
  have hpl:=pl_len (D:=D) m
  refine⟨fun A' n' c' w'=>Below w1.heap.size w1 w'∧Own LP3 w' w1.heap.size 119 (.slice A' n' c') (plF D (m+1)),?_,?_⟩
  ·rintro A' n' c' w' ⟨q1,q2⟩
   exact⟨inR_i64 (by omega) (by omega),⟨m+1,by simp,by omega,q1,q2⟩,(by first | omega | (dsimp only;omega))⟩
  refine (a2.keep hb2).hn a1 rfl hml fun b oo2 c0=>?_
  simp only [c0,lds]
  rw [hstep]
  obtain⟨nn,hnn⟩:∃n,(allD' D)[m]=n:=⟨_,rfl⟩
  simp only [hnn]
  rw [hnn] at hget
  obtain⟨s,hs⟩:=(mem_all_roots hA).1 (List.mem_of_getElem? hget)
  have hn0:nn≠0:=hA.ne0 hs
  refine getR_calls (h.keep B2) (.refl _ _) hs fun w3 e hb3 _=>⟨_,_,_,_,_,_,_,_,_,_,rfl,?_⟩
  refine al fun gt w4 hb4 b4 hge4=>?_
  refine st_blk b4 (by simp) fun u1 q1 f1=>st_blk q1 (by simp) fun u2 q2 f2=>st_blk q2 (by simp) fun u3 q3 f3=>st_blk q3 (by simp) fun u4 q4 f4=>st_blk q4 (by simp) fun w5 b5 f5=>?_
  simp only [List.setIfInBounds_toArray,List.set_cons_zero,List.set_cons_succ] at b5
  have F5:Fm (·=gt) w4 w5:=(((f1.trans f2).trans f3).trans f4).trans f5
  have hs3:=hb3.size
  have C4:=btr hb3 hb3.size hb4
  have C5:Below w2.heap.size w2 w5:=C4.trans (F5.toBelow C4.size fun b hb e=>by have e:b=gt:=e;omega)
  have B5:=btr hb2 hb2.size C5
  have o5:=oo.keep C5
  simp only [Addr.add_mk,Nat.zero_add,b5.cell,lds]
  refine bre (fun hk=>?_) (fun hk=>?_)
  ·have ht:isE D nn=true:=by unfold isE;rw [hs];exact decide_eq_true hk
   rw [if_pos ht]
   refine (a2.keep B5).hn a1 rfl hml fun b6 oo6 c6=>?_
   simp only [c6,hnn,lds]
   have B5w:=btr hb1 hb1.size B5
   refine AllW (h.keep B5w) hw (n:=nn) (hnd_lt h.ok h.few hs) fun vk w6 hb6 ok_ _=>⟨_,_,_,_,rfl,?_⟩
   have ok_:=ok_ (.inr ⟨s,hs⟩)
   rw [allI_one hn0] at ok_
   obtain⟨y1,-⟩:=rdO ok_
   have B6:=btr B5 B5.size hb6
   refine (a2.keep B6).hn a1 rfl hml fun b7 oo7 c7=>?_
   simp only [c7,hnn,lds]
   have hsz:szN D nn≤4096:=all_few hw.s hA ⟨s,hs⟩
   have y1:vk.2.1=szN D nn:=y1
   rw [y1]
   refine⟨inR_i64 (by omega) (by omega),?_⟩
   refine ap1 (L:=LP3) (x:=(nn,m,m+szN D nn)) (base:=w1.heap.size) (.agg #[.int .u64 0,.int .i64 0,.int .i64 0]) 24 (by simp [LP3]) (by kernel_rfl) (by kernel_rfl) (by kernel_rfl) (o5.keep hb6) B6.size (by omega) (by unfold maxLen;omega) fun A3 c3 w8 o8 g8=>⟨A3,_,c3,rfl,B6.trans g8.below,o8⟩
  ·have ht:¬isE D nn=true:=by
    unfold isE;rw [hs]
    simpa using hk
   rw [if_neg ht,List.append_nil]
   exact⟨B5,o5⟩
 ·obtain rfl:m=(allD' D).length:=by omega
  have hpl:=pl_len (D:=D) (allD' D).length
  refine⟨fun A' n' c' i w'=>∃(k:Nat) (rows:List Sv),i=k∧k≤ws.length∧Below w2.heap.size w2 w'∧Rwo w' w2.heap.size D ws k rows (A',n',c'),fun _ _ _ i _=>ws.length-i.toNat,
   ⟨0,[],rfl,by omega,.refl _ _,rfl,Own.nil _ _ _ _,fun j x h=>by omega⟩,?_⟩
  rintro A' n' c' _ w3 ⟨k,rows,rfl,hk,hb3,hrl,or_,hrw⟩
  unfold F42_l12
  have hv1:=hv.1
  have B3:=btr B2 B2.size hb3
  refine brd (fun hlt=>?_) (fun hge2=>?_)
  ·have hk2:k < ws.length:=by omega
   have hkx:ws[k]?=some ws[k]:=List.getElem?_eq_getElem hk2
   refine⟨by omega,by omega,by omega,?_⟩
   refine al fun g74 w4 hb4 b4 hge4=>?_
   have B4:=btr B3 B3.size hb4
   have hs3:=hb3.size
   have hs4:=hb4.size
   have e74:(((va.2.1:Nat):Int)).toNat=(allD' D).length:=by omega
   rw [e74] at b4
   have o74:Own LBo w4 w2.heap.size 4 (slV (some ⟨g74,0,none⟩,va.2.1,va.2.1)) (List.replicate (allD' D).length false):=by
    have:=Own.lit' (L:=LBo) (xs:=List.replicate (allD' D).length false) (base:=w2.heap.size) b4 (by omega) (zrowB _) (by rw [List.length_replicate];unfold maxLen;omega)
    rw [List.length_replicate] at this
    rw [a1];exact this
   have hb04:Below w3.heap.size w3 w4:=hb4
   refine row_walk (w0:=w3) (x:=ws[k]) (kw:=k) (B:=w2.heap.size) hw hb4 (hl.keep B3) (hv.keep B3) hkx (rdV_own (oa.keep (btr hb2 hb2.size hb3)) (by omega)) hfew hge4 (by omega) o74 fun w5 f5 o5=>?_
   have B5:Below w3.heap.size w3 w5:=hb4.trans (f5.toBelow hs4 fun b hb e=>by omega)
   have or5:=or_.keep B5
   have hs5:=f5.size
   rw [Int.toNat_natCast]
   refine ap1 (L:=LSv) (x:=(some ⟨g74,0,none⟩,va.2.1,va.2.1)) (base:=w2.heap.size) (.slice none 0 0) 24 rfl (by kernel_rfl) (by kernel_rfl) (by kernel_rfl) or5 (by omega) (by omega) (by unfold maxLen;omega) fun A6 c6 w6 o6 g6=>⟨A6,_,c6,rfl,inR_i64 (by omega) (by omega),?_⟩
   have hr6:Rwo w6 w2.heap.size D ws (k+1) (rows++[((some ⟨g74,0,none⟩,va.2.1,va.2.1):Sv)]) (A6,rows.length+1,c6):=by
    refine⟨by simp [hrl],o6,fun j x hj hx=>?_⟩
    have hap:Apart (slV (some ⟨g74,0,none⟩,va.2.1,va.2.1)) (.slice A' n' c'):=(or_.apart_new (by
     cases hr7:rowOf (slV (some ⟨g74,0,none⟩,va.2.1,va.2.1)) with
     | none=>exact .inl rfl
     | some y =>
      refine .inr ⟨y,rfl,?_⟩
      unfold slV at hr7
      dsimp only at hr7
      cases hc:va.2.1 with
      | zero=>rw [hc] at hr7;cases hr7
      | succ n=>rw [hc] at hr7;have:=Option.some.inj hr7;have:g74=y:=this;omega)).symm
    by_cases ej:j=k
    ·subst ej
     rw [hkx] at hx
     cases hx
     have:=g6.own o5 hap
     exact⟨_,by rw [List.getElem?_append_right (by omega),hrl,Nat.sub_self];rfl,this.1,this.2⟩
    ·obtain⟨u,p1,p2,p3⟩:=hrw j x (by omega) hx
     have:=g6.own (p2.keep B5) p3
     exact⟨u,by rw [List.getElem?_append_left (by omega)];exact p1,this.1,this.2⟩
   exact⟨⟨k+1,_,by simp,by omega,(hb3.trans (B5.mono hs3)).trans g6.below,hr6⟩,(by first | omega | (dsimp only;omega))⟩
  ·obtain rfl:k=ws.length:=by omega
   have hs2:=B2.size
   refine hK (A,n,c) (A',n',c') rows w3 B3 ((oo.keep hb3).rebase fun x hx=>by have:=(oo.lt x hx).1;omega) ⟨hrl,or_.rebase fun x hx=>by have:=(or_.lt x hx).1;omega,fun j x hj hx=>?_⟩
   obtain⟨u,p1,p2,p3⟩:=hrw j x hj hx
   exact⟨u,p1,p2.rebase fun y hy=>by have:=(p2.lt y hy).1;omega,p3⟩
end
set_option maxRecDepth 100000
structure Good (N:Nat) (sn:List Nat):Prop where
 one:sn.Nodup
 lt:∀k∈sn,k < N
theorem good_len {N:Nat}{sn:List Nat} (h:Good N sn):sn.length≤N:=by
 have h3:=nodup_sub h.one (b:=List.range N) fun k hk=>List.mem_range.2 (h.lt k hk)
 simpa using h3
section
variable {sl:List Sl}
theorem hangF_zero {h:Nat}{l:List Nat}{p:Nat}{sn:List Nat}:hangF sl 0 (h :: l) p sn=none:=by rw [hangF]
theorem hangF_nil {r p:Nat}{sn:List Nat}:hangF sl r [] p sn=some sn:=by rw [hangF]
theorem hangF_no {r h:Nat}{l:List Nat}{p:Nat}{sn:List Nat} (ha:atF sl h=none):hangF sl r (h :: l) p sn=none:=by
 cases r with
 | zero=>exact hangF_zero
 | succ r=>rw [hangF,ha]
theorem hangF_bad {r h k:Nat}{l:List Nat}{p:Nat}{sn:List Nat} (ha:atF sl h=some k) (hk:k < sl.length) (hb:k∈sn∨sl[k].parent≠p):hangF sl r (h :: l) p sn=none:=by
 cases r with
 | zero=>exact hangF_zero
 | succ r=>rw [hangF,ha];simp only [List.getElem?_eq_getElem hk];rw [if_pos hb]
theorem hangF_step {r h k:Nat}{l:List Nat}{p:Nat}{sn:List Nat} (ha:atF sl h=some k) (hk:k < sl.length) (hb:¬(k∈sn∨sl[k].parent≠p)) :
  hangF sl (r+1) (h :: l) p sn=match hangF sl r sl[k].kids h (k :: sn) with | none=>none | some sn'=>hangF sl (r+1) l p sn':=by
 rw [hangF,ha];simp only [List.getElem?_eq_getElem hk];rw [if_neg hb];cases hangF sl r sl[k].kids h (k :: sn) <;> rfl
theorem hangF_good:∀(r:Nat) (l:List Nat) (p:Nat) (sn sn':List Nat),hangF sl r l p sn=some sn'→Good sl.length sn→Good sl.length sn'∧sn.length≤sn'.length:=by
 intro r
 induction r with
 | zero =>
  intro l p sn sn' h hg
  cases l with
  | nil=>rw [hangF_nil] at h;cases h;exact⟨hg,Nat.le_refl _⟩
  | cons x l=>rw [hangF_zero] at h;cases h
 | succ r ih =>
  intro l
  induction l with
  | nil=>intro p sn sn' h hg;rw [hangF_nil] at h;cases h;exact⟨hg,Nat.le_refl _⟩
  | cons x l ihl =>
   intro p sn sn' h hg
   cases ha:atF sl x with
   | none=>rw [hangF_no ha] at h;cases h
   | some k =>
    obtain⟨hk,-⟩:=atF_some ha
    by_cases hb:k∈sn∨sl[k].parent≠p
    ·rw [hangF_bad ha hk hb] at h;cases h
    ·rw [hangF_step ha hk hb] at h
     cases hr:hangF sl r sl[k].kids x (k :: sn) with
     | none=>rw [hr] at h;cases h
     | some s2 =>
      rw [hr] at h
      have hg2:Good sl.length (k :: sn):=⟨List.nodup_cons.2 ⟨fun e=>hb (.inl e),hg.one⟩,fun j hj=>by
       rcases List.mem_cons.1 hj with rfl | hj
       ·exact hk
       ·exact hg.lt j hj⟩
      obtain⟨h1,h2⟩:=ih _ _ _ _ hr hg2
      obtain⟨h3,h4⟩:=ihl _ _ _ h h1
      exact⟨h3,by rw [List.length_cons] at h2;omega⟩
end
def flagsOf (N:Nat) (sn:List Nat):Array Value:=((List.range N).map fun k=>Value.bool (decide (k∈sn))).toArray
theorem flags_get {N k:Nat}{sn:List Nat} (h:k < N):(flagsOf N sn)[k]?=some (.bool (decide (k∈sn))):=by
 unfold flagsOf
 rw [List.getElem?_toArray,List.getElem?_map,List.getElem?_range h];rfl
theorem flags_size (N:Nat) (sn:List Nat):(flagsOf N sn).size=N:=by simp [flagsOf]
theorem flags_set {N k:Nat}{sn:List Nat} (h:k < N):(flagsOf N sn).setIfInBounds k (.bool true)=flagsOf N (k :: sn):=by
 refine Array.ext_getElem? fun j=>?_
 rcases Nat.lt_or_ge j N with hj | hj
 ·rw [flags_get hj]
  by_cases e:k=j
  ·subst e
   rw [Array.getElem?_setIfInBounds_self_of_lt (by rw [flags_size];exact h)];simp
  ·rw [Array.getElem?_setIfInBounds_ne e,flags_get hj]
   have:(j=k)=False:=by simp;omega
   simp [this]
 ·rw [Array.getElem?_eq_none (by simp [flags_size];exact hj),Array.getElem?_eq_none (by rw [flags_size];exact hj)]
theorem but_fm {gs:Nat}{w w':World} (hf:Fm (·=gs) w w'):Sub (but gs w) (but gs w') :=
 sub_only (fun b _ h=>h) fun b hb h=>hf.block b hb fun e=>by
  have e:b=gs:=e
  subst e
  have:Nat.beq b b=true:=Nat.beq_refl b
  rw [this] at h;cases h
theorem RDr.kidsH {w:World}{g gs:Nat}{D:Im}{vs vr:Sv}{S:World→Prop} (h:RDr (but gs w) g D vs vr) (hS:∀w1,S w1→Below w.heap.size w w1) {i:Int}{k:Nat} (hi:i=k) (hk:k < D.sl.length) {K:Addr→Prop}
  (hK:∀b o e,RSl (but gs w) D.sl[k] e→Held S ⟨b,o+7,none⟩ (.slice e.kids.1 e.kids.2.1 e.kids.2.2)→K ⟨b,o,none⟩):IdxA vs.1 vs.2.1 i 8 K:=by
 obtain⟨es,hn,hr,hes⟩:=h.im.row
 have hel:=hes.len
 subst hi
 refine (sub_of_only.rd hr:Rd LS8 w _ _ _).held hS hn (by omega) (by omega) rfl fun b o hc=>?_
 simp only [Int.toNat_natCast] at hc
 exact hK b o _ (hes.get k hk (by omega)) (hc 7 _ rfl)
def HangK (R:Ending→World→Prop) (o:Option (List Nat)) (n0 gs N:Nat) (w:World):Prop:=match o with
 | some sn=>Blk w gs (flagsOf N sn) 4→R (.returned (.tuple #[.int .i64 ((sn.length:Int)-n0),.bool true])) w
 | none=>∀n,R (.returned (.tuple #[.int .i64 n,.bool false])) w
theorem hangR_calls {D:Im}{g gs:Nat}{vs vr:Sv}:∀(r:Nat) (l:List Nat) (v:Sv) (p:Nat) (sn:List Nat) {w:World}{R:Ending→World→Prop},r≤64→RDr (but gs w) g D vs vr→RR LHn (but gs w) l v→(∀x∈l,x < 18446744073709551616) →
  Blk w gs (flagsOf D.sl.length sn) 4→Good D.sl.length sn→(∀w',Fm (·=gs) w w'→HangK R (hangF D.sl r l p sn) sn.length gs D.sl.length w') →
  Calls Tryz.prog 72 #[.pointer (some ⟨g,0,none⟩),.slice v.1 v.2.1 v.2.2,.int .u64 (p:Nat),.int .i64 (65-(r:Int)),.slice (some ⟨gs,0,none⟩) D.sl.length D.sl.length] w R:=by
 intro r
 induction r with
 | zero =>
  intro l v p sn w R hr hD hL hx hB hg h
  obtain⟨z0,z1,z2⟩:=hL
  refine ok72 (some ⟨g,0,none⟩) v.1 v.2.1 v.2.2 p (65-((0:Nat):Int)) (some ⟨gs,0,none⟩) D.sl.length D.sl.length ?_
  unfold F72
  have hD':RDr w g D vs vr:=hD.sub sub_of_only
  have H:=h w (Fm.refl _ _)
  refine⟨fun n i w'=>n=0∧i=0∧w'=w,fun _ _ _=>0,⟨rfl,rfl,rfl⟩,?_⟩
  rintro n i w1 ⟨rfl,rfl,rfl⟩
  unfold F72_l3
  have hlen:=hD.im.len
  refine brd (fun hlt=>?_) (fun hge=>?_)
  ·have hk2:0 < l.length:=by omega
   have hnone:HangK R none sn.length gs D.sl.length w1:=by
    have e:hangF D.sl 0 l p sn=none:=by
     cases l with
     | nil=>simp at hk2
     | cons x l=>exact hangF_zero
    rw [e] at H;exact H
   have hxk:=hx _ (List.getElem_mem hk2)
   refine (sub_of_only.rd z2:Rd LHn w1 _ _ _).hn z1 rfl (k:=0) hk2 fun b o c0=>?_
   simp only [c0,lds]
   refine at_calls' hD' hxk ⟨_,rfl,?_⟩
   refine⟨fun _=>False,fun _ h=>h.elim,?_⟩
   cases ha:atF D.sl l[0] with
   | none=>exact brd (fun _=>hnone _) (fun h0=>absurd (by simp [atI]) h0)
   | some q =>
    obtain⟨hq,-⟩:=atF_some ha
    simp only [atI]
    refine brd (fun h0=>absurd h0 (by omega)) (fun _=>?_)
    rw [IdxA_some (by omega) (by omega)]
    simp only [Addr.add_mk,Int.toNat_natCast,Nat.mul_one,Nat.zero_add,hB.cell,flags_get hq,lds]
    refine br (fun hs=>hnone _) (fun hs=>?_)
    simp only [NonNil_some,hD'.c0,lds]
    refine hD'.slot rfl hq fun b o e he c0 c1 c2 c6 c7=>?_
    simp only [Addr.add_mk,c6,lds]
    exact brn (fun hne=>hnone _) (fun he=>brd (fun hd=>hnone _) (fun h2=>absurd (by decide) h2))
  ·have hk2:l=[]:=List.eq_nil_of_length_eq_zero (by omega)
   subst hk2
   rw [hangF_nil] at H
   have H2:=H hB
   rw [Int.sub_self] at H2
   exact H2
 | succ r ih =>
  intro l v p sn w R hr hD hL hx hB hg h
  obtain⟨z0,z1,z2⟩:=hL
  refine ok72 (some ⟨g,0,none⟩) v.1 v.2.1 v.2.2 p (65-((r+1:Nat):Int)) (some ⟨gs,0,none⟩) D.sl.length D.sl.length ?_
  unfold F72
  refine⟨fun n i w'=>∃(k:Nat) (s2:List Nat),i=k∧k≤l.length∧Fm (·=gs) w w'∧Blk w' gs (flagsOf D.sl.length s2) 4∧n=(s2.length:Int)-sn.length∧Good D.sl.length s2∧sn.length≤s2.length∧hangF D.sl (r+1) (l.drop k) p s2=hangF D.sl (r+1) l p sn,
   fun _ i _=>l.length-i.toNat,⟨0,sn,rfl,by omega,Fm.refl _ _,hB,by omega,hg,Nat.le_refl _,rfl⟩,?_⟩
  rintro n i w1 ⟨k,s2,rfl,hk,hf1,hB1,rfl,hg1,hle,hF⟩
  unfold F72_l3
  have hD1:RDr (but gs w1) g D vs vr:=hD.sub (but_fm hf1)
  have hL1:RR LHn (but gs w1) l v:=RR.sub (but_fm hf1) ⟨z0,z1,z2⟩
  have hD1':RDr w1 g D vs vr:=hD1.sub sub_of_only
  have hlen:=hD.im.len
  have hgl:=good_len hg1
  have H:=h w1 hf1
  refine brd (fun hlt=>?_) (fun hge=>?_)
  ·have hk2:k < l.length:=by omega
   rw [List.drop_eq_getElem_cons hk2] at hF
   have hxk:=hx _ (List.getElem_mem hk2)
   refine (sub_of_only.rd hL1.2.2).hn z1 rfl (k:=k) hk2 fun b o c0=>?_
   simp only [c0,lds]
   refine at_calls' hD1' hxk ⟨_,rfl,?_⟩
   cases ha:atF D.sl l[k] with
   | none =>
    rw [hangF_no ha] at hF
    rw [←hF] at H
    refine⟨fun _=>False,fun _ h=>h.elim,?_⟩
    refine brd (fun _=>H _) (fun h0=>absurd (by simp [atI]) h0)
   | some q =>
    obtain⟨hq,-⟩:=atF_some ha
    have hbad:q∈s2∨D.sl[q].parent≠p→HangK R none sn.length gs D.sl.length w1:=fun hb=>by
     rw [hangF_bad ha hq hb] at hF
     rw [←hF] at H;exact H
    simp only [atI]
    refine⟨fun w'=>w1=w'∧¬(q∈s2∨D.sl[q].parent≠p),?_,?_⟩
    ·rintro _ ⟨rfl,hnb⟩
     unfold F72_j8
     rw [IdxA_some (by omega) (by omega)]
     simp only [Addr.add_mk,Int.toNat_natCast,Nat.mul_one,Nat.zero_add]
     refine st_blk hB1 (by rw [flags_size];exact hq) fun w2 hB2 hf2=>?_
     rw [flags_set hq] at hB2
     have hD2:RDr (but gs w2) g D vs vr:=hD1.sub (but_fm hf2)
     have hL2:RR LHn (but gs w2) l v:=hL1.sub (but_fm hf2)
     have hd:Below w2.heap.size w2 w2.drew:=(Below.refl _ _).drew
     refine⟨fun w'=>Below w2.heap.size w2 w',hd,?_⟩
     rw [NonNil_some]
     have hD2':RDr w2 g D vs vr:=hD2.sub sub_of_only
     refine⟨_,_,_,fun w' hb=>(hD2'.keep hb).c0,?_⟩
     refine hD2.kidsH (fun _ h=>h) rfl hq fun b o e he c7=>⟨_,_,_,c7,?_⟩
     refine (sub_of_only.rd hL2.2.2:Rd LHn w2 _ _ _).hnH (fun _ h=>h) z1 rfl (k:=k) hk2 fun b o d0=>⟨_,d0,inR_i64 (by omega) (by omega),?_⟩
     have e1:65-((r+1:Nat):Int)+1=65-(r:Int):=by omega
     rw [e1]
     have hg2:Good D.sl.length (q :: s2):=⟨List.nodup_cons.2 ⟨fun e=>hnb (.inl e),hg1.one⟩,fun j hj=>by
      rcases List.mem_cons.1 hj with rfl | hj
      ·exact hq
      ·exact hg1.lt j hj⟩
     have hsub:Sub (but gs w2) (but gs w2.drew):=but_fm (.below hd)
     refine ih D.sl[q].kids e.kids l[k] (q :: s2) (by omega) (hD2.sub hsub) (he.kids.sub hsub) (hD.im.ok _ (List.getElem_mem hq)).kids (hB2.keep hd) hg2 fun w3 hf3=>?_
     have hf13:Fm (·=gs) w w3:=((hf1.trans hf2).trans (.below hd)).trans hf3
     have H3:=h w3 hf13
     rw [hangF_step ha hq hnb] at hF
     cases hr3:hangF D.sl r D.sl[q].kids l[k] (q :: s2) with
     | none =>
      rw [hr3] at hF
      rw [←hF] at H3
      intro n
      refine⟨_,_,rfl,?_⟩
      rw [Bool.not_false,Br_t]
      exact H3 _
     | some s3 =>
      rw [hr3] at hF
      obtain⟨hg3,hl3⟩:=hangF_good _ _ _ _ _ hr3 hg2
      have hgl3:=good_len hg3
      rw [List.length_cons] at hl3
      intro hB3
      refine⟨_,_,rfl,?_⟩
      rw [Bool.not_true,Br_f]
      rw [List.length_cons]
      exact⟨inR_i64 (by omega) (by omega),inR_i64 (by omega) (by omega),inR_i64 (by omega) (by omega),⟨k+1,s3,by simp,by omega,hf13,hB3,by omega,hg3,by omega,hF⟩,(by first | omega | (dsimp only;omega))⟩
    ·refine brd (fun h0=>absurd h0 (by omega)) (fun _=>?_)
     rw [IdxA_some (by omega) (by omega)]
     simp only [Addr.add_mk,Int.toNat_natCast,Nat.mul_one,Nat.zero_add,hB1.cell,flags_get hq,lds]
     refine br (fun hs=>hbad (.inl (by simpa using hs)) _) (fun hs=>?_)
     simp only [NonNil_some,hD1'.c0,lds]
     refine hD1'.slot rfl hq fun b o e he c0 c1 c2 c6 c7=>?_
     simp only [Addr.add_mk,c6,lds]
     refine brn (fun hne=>hbad (.inr fun e=>hne (by rw [e])) _) (fun he=>brd (fun hd=>absurd hd (by omega)) (fun _=>⟨trivial,?_⟩))
     rintro (h3 | h3)
     ·have:decide (q∈s2)=true:=decide_eq_true h3
      rw [this] at hs;cases hs
     ·exact h3 (by omega)
  ·have hk2:k=l.length:=by omega
   subst hk2
   rw [List.drop_length,hangF_nil] at hF
   rw [←hF] at H
   exact H hB1
set_option maxRecDepth 100000
theorem copiedImage_calls (x:Im) (vs vr:Sv) {w:World}{R:Ending→World→Prop} (hx:RIm w x vs vr)
  (h:∀vs' vr' w',Below w.heap.size w w'→RIm (above w.heap.size w') x vs' vr'→R (.returned (.agg #[.slice vs'.1 vs'.2.1 vs'.2.2,.slice vr'.1 vr'.2.1 vr'.2.2])) w') :
  Calls Tryz.prog 38 #[.agg #[.slice vs.1 vs.2.1 vs.2.2,.slice vr.1 vr.2.1 vr.2.2]] w R:=by
 refine ok38 vs.1 vs.2.1 vs.2.2 vr.1 vr.2.1 vr.2.2 ?_
 unfold F38
 refine al fun g1 w1 hb1 b1 hge1=>al fun g2 w2 hb2 b2 hge2=>al fun g6 w3 hb3 b6 hge6=>?_
 have B2:=btr hb1 hb1.size hb2
 have B3:=btr B2 B2.size hb3
 have b13:=(b1.keep hb2).keep hb3
 simp only [Addr.add_mk,Nat.zero_add,b13.cell,lds]
 refine apC (L:=LHn) (.int .u64 0) 8 rfl rfl rfl (by decide) (hx.roots.keep B3) (j:=w3.heap.size) (Nat.le_refl _) fun vr' w4 hb4 hr4=>⟨_,_,_,rfl,?_⟩
 have B4:=btr B3 B3.size hb4
 have b14:=b13.keep hb4
 have b24:=(b2.keep hb3).keep hb4
 refine al fun gy w5 hb5 b5 hge5=>?_
 refine st_blk b5 (by simp) fun w6 b6' hf6=>?_
 simp only [Addr.add_mk,Nat.zero_add]
 refine st_blk b6' (by simp) fun w7 b7 hf7=>?_
 simp only [List.setIfInBounds_toArray,List.set_cons_zero,List.set_cons_succ] at b7
 have hf7':Fm (·=gy) w5 w7:=Fm.trans hf6 hf7
 have D7:Below w4.heap.size w4 w7:=hb5.trans (hf7'.toBelow hb5.size fun b hb e=>by omega)
 have hgy:=b7.lt
 have hs4:=B4.size
 have hs7:=D7.size
 obtain⟨es,hn,hr,hes⟩:=hx.row
 have hel:=hes.len
 have hxl:=hx.len
 refine⟨fun i w'=>∃(k:Nat) (A:Option Addr) (n c:Nat),i=k∧k≤x.sl.length∧Below w4.heap.size w4 w'∧w7.heap.size≤w'.heap.size∧Blk w' gy #[.slice A n c,.slice vr'.1 vr'.2.1 vr'.2.2] 25∧Bld KS w7.heap.size 162 w' (.slice A n c) (x.sl.take k),
  fun i _=>x.sl.length-i.toNat,⟨0,none,0,0,rfl,by omega,D7,Nat.le_refl _,b7,by simpa using Bld.nil KS _ _ _⟩,?_⟩
 rintro i w8 ⟨k,A,n,c,rfl,hk,hb8,hs8,b8,hbl⟩
 unfold F38_l3
 have b18:=b14.keep hb8
 have B8:=btr B4 B4.size hb8
 simp only [Addr.add_mk,Nat.zero_add,b18.cell,lds]
 refine brd (fun hlt=>?_) (fun hge=>?_)
 ·have hk2:k < x.sl.length:=by omega
  refine (hr.keep B8).s8 hn rfl (k:=k) (by omega) fun b o c0 c1 c2 c3 c4 c5 c6 c7=>?_
  simp only [Addr.add_mk,c0,c1,c2,c3,c4,c5,c6,c7,lds]
  have hsl:=(hes.get k hk2 (by omega))
  refine al fun gs w9 hb9 bs9 hges=>?_
  refine st_blk bs9 (by simp) fun u1 q1 f1=>st_blk q1 (by simp) fun u2 q2 f2=>st_blk q2 (by simp) fun u3 q3 f3=>st_blk q3 (by simp) fun u4 q4 f4=>st_blk q4 (by simp) fun u5 q5 f5=>st_blk q5 (by simp) fun u6 q6 f6=>st_blk q6 (by simp) fun u7 q7 f7=>st_blk q7 (by simp) fun w16 bs16 f8=>?_
  simp only [List.setIfInBounds_toArray,List.set_cons_zero,List.set_cons_succ] at bs16
  have F16:Fm (·=gs) w9 w16:=((((((f1.trans f2).trans f3).trans f4).trans f5).trans f6).trans f7).trans f8
  have E16:Below w8.heap.size w8 w16:=hb9.trans (F16.toBelow hb9.size fun b hb e=>by omega)
  have hgs:=bs16.lt
  have hs16:=E16.size
  generalize es[k]=ek at *
  refine⟨fun w'=>∃a' k':Sv,Below w8.heap.size w8 w'∧Blk w' gs #[.int .u32 (ek.gen:Nat),.bool ek.live,.int .i64 ek.kind,.string ek.nm,.slice a'.1 a'.2.1 a'.2.2,.string ek.text,.int .u64 (ek.parent:Nat),.slice k'.1 k'.2.1 k'.2.2] 162 ∧
    RR LAt (above w8.heap.size w') x.sl[k].attrs a'∧RR LHn (above w8.heap.size w') x.sl[k].kids k',?_,?_⟩
  ·rintro w17 ⟨a',k',hb17,bs17,ra,rk⟩
   unfold F38_j7
   have b17:=b8.keep hb17
   simp only [Addr.add_mk,Nat.zero_add,b17.cell,bs17.cell,lds]
   obtain⟨A0,c0',hv⟩:=hbl.len
   cases hv
   have hlk:(x.sl.take k).length=k:=by rw [List.length_take];omega
   refine Bld.app (N:=KS) (y:=⟨ek.gen,ek.live,ek.kind,ek.nm,a',ek.text,ek.parent,k'⟩) (x:=x.sl[k]) (M:=fun _=>False) (.agg #[.int .u32 0,.bool false,.int .i64 0,.string ⟨#[]⟩,.slice none 0 0,.string ⟨#[]⟩,.int .u64 0,.slice none 0 0]) 104 hbl (.below hb17) (fun _ _ h=>h) hs8 ⟨hsl.gen,hsl.live,hsl.kind,hsl.nm,hsl.text,hsl.parent,ra,rk⟩ rfl rfl rfl rfl (by omega) (by simp only [maxLen];omega) fun A' c' w18 hbl18 hf18=>⟨_,_,_,rfl,?_⟩
   rw [hlk] at hbl18 ⊢
   have E18:Below w7.heap.size w17 w18:=hf18.toBelow (by have:=hb17.size;omega) fun b hb hm=>by omega
   have b18':=b17.below E18 hgy
   refine st_blk b18' (by simp) fun w19 b19 hf19=>?_
   simp only [List.setIfInBounds_toArray,List.set_cons_zero,List.set_cons_succ] at b19
   have hs18:=E18.size
   have hs17:=hb17.size
   have hs19:=hf19.size
   refine⟨inR_i64 (by omega) (by omega),⟨k+1,A',k+1,c',by simp,by omega,?_,by omega,b19,?_⟩,(by first | omega | (dsimp only;omega))⟩
   ·exact ((btr hb8 hb8.size hb17).trans (E18.mono hs7)).trans (hf19.toBelow (by have:=hb8.size;omega) fun b hb e=>by omega)
   ·rw [List.take_succ_eq_append_getElem hk2]
    exact hbl18.keep hf19 fun b hb e=>by omega
  ·have hd:Below w16.heap.size w16 w16.drew:=(Below.refl _ _).drew
   refine⟨fun w'=>Below w16.heap.size w16 w',hd,?_⟩
   refine⟨_,_,_,fun w2 h2=>by rw [Addr.add_mk,(bs16.keep h2).cell];rfl,?_⟩
   refine⟨_,_,_,fun w2 h2=>by rw [Addr.add_mk,(bs16.keep h2).cell];rfl,?_⟩
   have hra:=(hsl.sub (sub_below B8)).ats
   have hrk:=(hsl.sub (sub_below B8)).kids
   have upA:∀{u u':World}{v:Sv},RR LAt (above w16.heap.size u) x.sl[k].attrs v→Below u.heap.size u u'→RR LAt (above w16.heap.size u') x.sl[k].attrs v:=fun h hb=>h.sub (above_fm (M:=fun _=>False) (.below hb) (Nat.le_refl _) fun _ _ h=>h)
   have fin:∀(w21:World) (a' k':Sv),Below w16.heap.size w16 w21→RR LAt (above w16.heap.size w21) x.sl[k].attrs a'→RR LHn (above w16.heap.size w21) x.sl[k].kids k' →
     St w21 ⟨gs,4,none⟩ (.slice a'.1 a'.2.1 a'.2.2) fun w22=>St w22 ⟨gs,7,none⟩ (.slice k'.1 k'.2.1 k'.2.2) fun w'=>∃a' k':Sv,Below w8.heap.size w8 w'∧Blk w' gs #[.int .u32 (ek.gen:Nat),.bool ek.live,.int .i64 ek.kind,.string ek.nm,.slice a'.1 a'.2.1 a'.2.2,.string ek.text,.int .u64 (ek.parent:Nat),.slice k'.1 k'.2.1 k'.2.2] 162 ∧
      RR LAt (above w8.heap.size w') x.sl[k].attrs a'∧RR LHn (above w8.heap.size w') x.sl[k].kids k':=by
    intro w21 a' k' hb21 ra rk
    refine st_blk (bs16.keep hb21) (by simp) fun w22 q22 f22=>st_blk q22 (by simp) fun w23 q23 f23=>?_
    simp only [List.setIfInBounds_toArray,List.set_cons_zero,List.set_cons_succ] at q23
    have f:Fm (·=gs) w21 w23:=Fm.trans f22 f23
    have hm:∀b,w16.heap.size≤b→¬b=gs:=fun b hb e=>by omega
    exact⟨a',k',(btr E16 hs16 hb21).trans (f.toBelow (by have:=hb21.size;omega) fun b hb e=>by omega),q23,ra.sub (above_fm f hs16 hm),rk.sub (above_fm f hs16 hm)⟩
   have cpA:∀{u:World}{g:Addr}{K:Value→World→Prop},Below w16.heap.size w16 u→(∀v' u',Below u.heap.size u u'→RR LAt (above w16.heap.size u') x.sl[k].attrs v'→K (.slice v'.1 v'.2.1 v'.2.2) u') →
     Raw Tryz.prog (Builtin.append_ #[81,81] 81 #[.slice (some g) 0 0,.slice ek.ats.1 ek.ats.2.1 ek.ats.2.2]) u K:=fun hb hK =>
    apC (L:=LAt) (.agg #[.string ⟨#[]⟩,.string ⟨#[]⟩]) 32 rfl rfl rfl (by decide) (hra.keep (btr E16 hs16 hb)) hb.size hK
   have cpK:∀{u:World}{g:Addr}{K:Value→World→Prop},Below w16.heap.size w16 u→(∀v' u',Below u.heap.size u u'→RR LHn (above w16.heap.size u') x.sl[k].kids v'→K (.slice v'.1 v'.2.1 v'.2.2) u') →
     Raw Tryz.prog (Builtin.append_ #[23,23] 23 #[.slice (some g) 0 0,.slice ek.kids.1 ek.kids.2.1 ek.kids.2.2]) u K:=fun hb hK =>
    apC (L:=LHn) (.int .u64 0) 8 rfl rfl rfl (by decide) (hrk.keep (btr E16 hs16 hb)) hb.size hK
   refine⟨al fun g23 u1 e1 _ _=>?_,al fun g27 u1 e1 _ _=>?_⟩
   ·have U1:=btr hd hd.size e1
    refine⟨U1,cpA U1 fun a' u2 e2 ra=>⟨_,_,_,rfl,?_⟩,al fun g27 u2 e2 _ _=>?_⟩
    ·have U2:=btr U1 U1.size e2
     refine⟨U2,al fun g27 u3 e3 _ _=>?_⟩
     have U3:=btr U2 U2.size e3
     exact⟨U3,cpK U3 fun k' u4 e4 rk=>⟨_,_,_,rfl,fin u4 a' k' (btr U3 U3.size e4) (upA ra (btr e3 e3.size e4)) rk⟩⟩
    ·have U2:=btr U1 U1.size e2
     refine⟨U2,cpA U2 fun a' u3 e3 ra=>⟨_,_,_,rfl,?_⟩⟩
     have U3:=btr U2 U2.size e3
     exact⟨U3,cpK U3 fun k' u4 e4 rk=>⟨_,_,_,rfl,fin u4 a' k' (btr U3 U3.size e4) (upA ra e4) rk⟩⟩
   ·have U1:=btr hd hd.size e1
    refine⟨U1,al fun g23 u2 e2 _ _=>?_⟩
    have U2:=btr U1 U1.size e2
    refine⟨U2,cpA U2 fun a' u3 e3 ra=>⟨_,_,_,rfl,?_⟩⟩
    have U3:=btr U2 U2.size e3
    exact⟨U3,cpK U3 fun k' u4 e4 rk=>⟨_,_,_,rfl,fin u4 a' k' (btr U3 U3.size e4) (upA ra e4) rk⟩⟩
 ·have hk2:k=x.sl.length:=by omega
  subst hk2
  rw [List.take_length] at hbl
  have b28:=b24.keep hb8
  have hg2:g2 < w3.heap.size:=(b2.keep hb3).lt
  simp only [Addr.add_mk,Nat.zero_add,b8.cell,lds]
  refine st_blk b28 (by simp) fun w9 q9 f9=>st_blk q9 (by simp) fun w10 q10 f10=>?_
  simp only [List.setIfInBounds_toArray,List.set_cons_zero,List.set_cons_succ] at q10
  simp only [Addr.add_mk,Nat.zero_add,q10.cell,lds]
  have f:Fm (·=g2) w8 w10:=Fm.trans f9 f10
  have hs3:=hb4.size
  have hB3:=B3.size
  have hB1:=hb1.size
  have hs8':=hb8.size
  obtain⟨A',c',es',hv,h1,h2⟩:=(hbl.keep f fun b hb e=>by omega).read (j:=w.heap.size) (by omega)
  cases hv
  have hr10:RR LHn (above w.heap.size w10) x.roots vr':=(hr4.sub (above_fm (M:=fun _=>False) (.below hb8) (Nat.le_refl _) fun _ _ h=>h)).sub (above_fm f hB3 fun b hb e=>by have e:b=g2:=e;omega)
  exact h (A,es'.length,c) vr' w10 (B8.trans (f.toBelow (by omega) fun b hb e=>by omega)) ⟨hx.len,⟨es',rfl,h1,h2⟩,hr10,hx.ok,hx.rok⟩
set_option maxRecDepth 100000
def normS (s:Sl):Sl:=if s.live then if s.kind=2 then { s with nm:=noB,attrs:=[],kids:=[] } else { s with text:=noB } else ⟨s.gen,false,0,noB,[],noB,0,[]⟩
def normE (e:S8):S8:=if e.live then if e.kind=2 then { e with nm:=noB,ats:=(none,0,0),kids:=(none,0,0) } else { e with text:=noB } else ⟨e.gen,false,0,noB,(none,0,0),noB,0,(none,0,0)⟩
def slotB (s:Sl):Bool:=decide (ownF s.kind s.nm s.attrs s.text=0) && (decide (s.kind=1) || decide (s.kids.length=0))
def slotsB (l:List Sl):Bool:=l.all fun s=>decide (1≤s.gen) && (!s.live || slotB s)
def loadF (x:Im):Option Im :=
 if 4096 < x.sl.length then none else if slotsB x.sl=true then match hangF (x.sl.map normS) 64 x.roots 0 [] with
  | some sn=>if sn.length=liveN (x.sl.map normS) then some ⟨x.sl.map normS,x.roots⟩ else none
  | none=>none
 else none
theorem slot_calls {w:World}{s:Sl}{e:S8} (he:RSl w s e) {R:Ending→World→Prop} (h:∀w',Below w.heap.size w w'→R (.returned (.bool (slotB s))) w') :
  Calls Tryz.prog 71 #[.agg #[.int .u32 (e.gen:Nat),.bool e.live,.int .i64 e.kind,.string e.nm,.slice e.ats.1 e.ats.2.1 e.ats.2.2,.string e.text,.int .u64 (e.parent:Nat),.slice e.kids.1 e.kids.2.1 e.kids.2.2]] w R:=by
 refine ok71 (e.gen:Nat) e.live e.kind e.nm e.ats.1 e.ats.2.1 e.ats.2.2 e.text (e.parent:Nat) e.kids.1 e.kids.2.1 e.kids.2.2 ?_
 unfold F71
 refine al fun gs w1 hb1 b1 hge1=>?_
 simp only [Addr.add_mk,Nat.zero_add,b1.cell,lds]
 refine al fun g3 w2 hb2 b2 hge2=>?_
 refine st_blk b2 (by simp) fun u1 q1 f1=>st_blk q1 (by simp) fun u2 q2 f2=>st_blk q2 (by simp) fun u3 q3 f3=>st_blk q3 (by simp) fun u4 q4 f4=>st_blk q4 (by simp) fun w3 b3 f5=>?_
 simp only [List.setIfInBounds_toArray,List.set_cons_zero,List.set_cons_succ] at b3
 have F3:Fm (·=g3) w2 w3:=(((f1.trans f2).trans f3).trans f4).trans f5
 have D3:Below w1.heap.size w1 w3:=hb2.trans (F3.toBelow hb2.size fun b hb e=>by have e:b=g3:=e;omega)
 have B3:=btr hb1 hb1.size D3
 simp only [Addr.add_mk,Nat.zero_add,b3.cell,lds]
 rw [he.kind,he.nm,he.text]
 refine own2_calls s.kind s.nm s.attrs e.ats s.text (none,0,0) (he.ats.keep B3) fun w4 hb4=>⟨_,rfl,?_⟩
 have B4:=btr B3 B3.size hb4
 have b14:=(b1.keep D3).keep hb4
 have H:=h w4 B4
 unfold slotB at H
 refine bre (fun h0=>?_) (fun h0=>?_)
 ·rw [decide_eq_true h0,Bool.true_and] at H
  simp only [Addr.add_mk,Nat.zero_add,b14.cell,lds]
  rw [he.kind]
  refine bre (fun hk=>?_) (fun hk=>?_)
  ·rw [decide_eq_true hk,Bool.true_or] at H;exact H
  ·rw [decide_eq_false hk,Bool.false_or] at H
   have:(((e.kids.2.1:Nat):Int) == 0)=decide (s.kids.length=0):=by
    rw [he.kids.2.1,Bool.eq_iff_iff];simp
   rw [this];exact H
 ·rw [decide_eq_false h0,Bool.false_and] at H;exact H
theorem RSl.norm {w:World}{s:Sl}{e:S8} (h:RSl w s e):RSl w (normS s) (normE e):=by
 unfold normS normE
 rw [h.live,h.kind]
 cases s.live
 ·simp only [Bool.false_eq_true,if_false]
  exact⟨h.gen,rfl,rfl,rfl,rfl,rfl,rr_nil,rr_nil⟩
 ·simp only [if_true]
  by_cases hk:s.kind=2
  ·rw [if_pos hk,if_pos hk]
   exact⟨h.gen,rfl,rfl,rfl,h.text,h.parent,rr_nil,rr_nil⟩
  ·rw [if_neg hk,if_neg hk]
   exact⟨h.gen,rfl,rfl,h.nm,rfl,h.parent,h.ats,h.kids⟩
theorem SlOk.norm {s:Sl} (h:SlOk s):SlOk (normS s):=by
 unfold normS
 split
 ·split
  ·exact⟨h.gen,h.parent,by simp⟩
  ·exact⟨h.gen,h.parent,h.kids⟩
 ·exact⟨h.gen,by simp,by simp⟩
theorem zrow_flags (N:Nat):zrow #[.bool false] (N*1)=flagsOf N []:=by
 refine Array.ext_getElem? fun j=>?_
 rw [Nat.mul_one]
 rcases Nat.lt_or_ge j N with hj | hj
 ·rw [flags_get hj];simp [zrow,hj,Nat.mod_one]
 ·rw [Array.getElem?_eq_none (by simpa [zrow] using hj),Array.getElem?_eq_none (by rw [flags_size];exact hj)]
def LoadK (R:Ending→World→Prop) (o:Option Im) (ok:Nat→Bool) (k:Nat) (w:World):Prop:=match o with
 | none=>R (.returned (.tuple #[.pointer none,.int .i64 36])) w
 | some D=>∀g vs vr,k≤g→RDr (newOr ok k w) g D vs vr→R (.returned (.tuple #[.pointer (some ⟨g,0,none⟩),.int .i64 0])) w
theorem loadR_calls (x:Im) (vs vr:Sv) (ok:Nat→Bool) {w:World}{R:Ending→World→Prop} (hx:RIm (wOnly ok w) x vs vr) (h:∀w',Below w.heap.size w w'→LoadK R (loadF x) ok w.heap.size w') :
  Calls Tryz.prog 39 #[.agg #[.slice vs.1 vs.2.1 vs.2.2,.slice vr.1 vr.2.1 vr.2.2]] w R:=by
 have hx':RIm w x vs vr:=hx.sub sub_of_only
 obtain⟨es,hn,hr0,hes0⟩:=hx.row
 have hr:Rd LS8 w vs.1 vs.2.2 es:=sub_of_only.rd hr0
 have hes:Z2 (RSl w) x.sl es:=hes0.mono fun _ _ h=>h.sub sub_of_only
 have hel:=hes.len
 have hxl:=hx.len
 refine ok39 vs.1 vs.2.1 vs.2.2 vr.1 vr.2.1 vr.2.2 ?_
 unfold F39
 refine al fun g1 w1 hb1 b1 hge1=>?_
 simp only [Addr.add_mk,Nat.zero_add,b1.cell,lds]
 refine brd (fun hgt=>?_) (fun hle=>?_)
 ·have H:=h w1 hb1
  unfold loadF at H
  rw [if_pos (by omega)] at H
  exact H
 have hs1:=hb1.size
 refine al fun g6 w2 hb2 b6 hge6=>?_
 have B2:=btr hb1 hs1 hb2
 have b12:=b1.keep hb2
 simp only [Addr.add_mk,Nat.zero_add,b12.cell,lds]
 refine apC (L:=LHn) (.int .u64 0) 8 rfl rfl rfl (by decide) (hx'.roots.keep B2) (j:=w2.heap.size) (Nat.le_refl _) fun vr' w3 hb3 hr3=>⟨_,_,_,rfl,?_⟩
 have B3:=btr B2 B2.size hb3
 have b13:=b12.keep hb3
 have hs2:=B2.size
 have hs3:=hb3.size
 refine al fun gd w4 hb4 b4 hge4=>?_
 have hgd:=b4.lt
 have hs4:=hb4.size
 refine⟨fun i w'=>∃(k:Nat) (A:Option Addr) (n c:Nat),i=k∧k≤x.sl.length∧Below w3.heap.size w3 w'∧w4.heap.size≤w'.heap.size∧Blk w' gd #[.slice A n c,.slice vr'.1 vr'.2.1 vr'.2.2] 107 ∧
   Own LS8 w' w4.heap.size 162 (.slice A n c) ((es.take k).map normE)∧slotsB (x.sl.take k)=true,fun i _=>x.sl.length-i.toNat,⟨0,none,0,0,rfl,by omega,hb4,Nat.le_refl _,b4,by simpa using Own.nil _ _ _ _,rfl⟩,?_⟩
 rintro i w5 ⟨k,A,n,c,rfl,hk,hb5,hs5,b5,ho,hok⟩
 unfold F39_l5
 have B5:=btr B3 B3.size hb5
 have b15:=b13.keep hb5
 simp only [Addr.add_mk,Nat.zero_add,b15.cell,lds]
 refine brd (fun hlt=>?_) (fun hge=>?_)
 ·have hk2:k < x.sl.length:=by omega
  have hke:k < es.length:=by omega
  have hne:∀{b:Bool},(decide (1≤x.sl[k].gen) && (!x.sl[k].live || slotB x.sl[k]))=b→slotsB (x.sl.take (k+1))=b:=fun {b} e=>by
   unfold slotsB at hok ⊢
   rw [List.take_succ_eq_append_getElem hk2,List.all_append,hok,Bool.true_and,List.all_cons,List.all_nil,Bool.and_true];exact e
  have hbad:∀w',Below w.heap.size w w'→slotsB (x.sl.take (k+1))=false→LoadK R none ok w.heap.size w':=fun w' hw hf=>by
   have H:=h w' hw
   unfold loadF at H
   have hfull:¬slotsB x.sl=true:=fun e=>by
    unfold slotsB at e hf
    rw [←List.take_append_drop (k+1) x.sl,List.all_append,hf] at e
    cases e
   rw [if_neg (by omega),if_neg hfull] at H
   exact H
  refine (hr.keep B5).s8 hn rfl (k:=k) hke fun b o c0 c1 c2 c3 c4 c5 c6 c7=>?_
  simp only [Addr.add_mk,c0,c1,c2,c3,c4,c5,c6,c7,lds]
  have hsl:=(hes.get k hk2 hke).sub (sub_below B5)
  refine al fun gs w6 hb6 bs hges=>?_
  refine st_blk bs (by simp) fun u1 q1 f1=>st_blk q1 (by simp) fun u2 q2 f2=>st_blk q2 (by simp) fun u3 q3 f3=>st_blk q3 (by simp) fun u4 q4 f4=>st_blk q4 (by simp) fun u5 q5 f5=>st_blk q5 (by simp) fun u6 q6 f6=>st_blk q6 (by simp) fun u7 q7 f7=>st_blk q7 (by simp) fun w7 bs7 f8=>?_
  simp only [List.setIfInBounds_toArray,List.set_cons_zero,List.set_cons_succ] at bs7
  have F7:Fm (·=gs) w6 w7:=((((((f1.trans f2).trans f3).trans f4).trans f5).trans f6).trans f7).trans f8
  have D7:Below w5.heap.size w5 w7:=hb6.trans (F7.toBelow hb6.size fun b hb e=>by have e:b=gs:=e;omega)
  have B7:=btr B5 B5.size D7
  refine⟨fun w'=>Below w7.heap.size w7 w'∧slotsB (x.sl.take (k+1))=true,?_,?_⟩
  ·rintro w8 ⟨hb8,hok8⟩
   unfold F39_j10
   have bs8:=bs7.keep hb8
   have E8:Below w5.heap.size w5 w8:=btr D7 D7.size hb8
   refine⟨fun w'=>Below w5.heap.size w5 w'∧Blk w' gs (normE es[k]).cells.toArray 162,?_,?_⟩
   ·rintro w9 ⟨hb9,bs9⟩
    unfold F39_j15
    have hd:Below w9.heap.size w9 w9.drew:=(Below.refl _ _).drew
    have b9:=b5.keep hb9
    have hs9:=hb9.size
    have hds:=hd.size
    have hn9:n=k:=by
     have:=ho.rd.1
     rw [List.length_map,List.length_take] at this;omega
    subst hn9
    refine⟨fun w'=>Below w9.heap.size w9 w',hd,?_⟩
    refine⟨_,_,_,fun w2 h2=>by rw [(b9.keep h2).cell];rfl,?_⟩
    refine⟨_,fun w2 h2=>by rw [(bs9.keep h2).cell];rfl,?_⟩
    refine⟨_,fun w2 h2=>by rw [Addr.add_mk,(bs9.keep h2).cell];rfl,?_⟩
    refine⟨_,fun w2 h2=>by rw [Addr.add_mk,(bs9.keep h2).cell];rfl,?_⟩
    refine⟨_,fun w2 h2=>by rw [Addr.add_mk,(bs9.keep h2).cell];rfl,?_⟩
    refine⟨_,_,_,fun w2 h2=>by rw [Addr.add_mk,(bs9.keep h2).cell];rfl,?_⟩
    refine⟨_,fun w2 h2=>by rw [Addr.add_mk,(bs9.keep h2).cell];rfl,?_⟩
    refine⟨_,fun w2 h2=>by rw [Addr.add_mk,(bs9.keep h2).cell];rfl,?_⟩
    refine⟨_,_,_,fun w2 h2=>by rw [Addr.add_mk,(bs9.keep h2).cell];rfl,?_⟩
    have hlm:((es.take n).map normE).length=n:=by rw [List.length_map,List.length_take];omega
    refine ap1S (L:=LS8) (x:=normE es[n]) (.agg #[.int .u32 0,.bool false,.int .i64 0,.string ⟨#[]⟩,.slice none 0 0,.string ⟨#[]⟩,.int .u64 0,.slice none 0 0]) 104 rfl rfl rfl rfl ((ho.keep hb9).keep hd) (by omega) (by omega) (by simp only [maxLen];omega) (fun w2 h2=>hd.trans (h2.mono hd.size)) fun A' c' w10 o10 g10=>⟨_,_,_,rfl,?_⟩
    have b10:=(b9.keep hd).below g10.below hgd
    refine st_blk b10 (by simp) fun w11 b11 f11=>?_
    simp only [List.setIfInBounds_toArray,List.set_cons_zero,List.set_cons_succ] at b11
    have f11:Fm (·=gd) w10 w11:=f11
    have hs10:=g10.lt
    have hs11:=f11.size
    have E10:Below w3.heap.size w3 w10:=((btr hb5 hb5.size hb9).trans (hd.mono (by have:=hb5.size;omega))).trans (g10.below.mono hs4)
    have E11:Below w3.heap.size w3 w11:=E10.trans (f11.toBelow E10.size fun b hb e=>by have e:b=gd:=e;omega)
    refine⟨inR_i64 (by omega) (by omega),⟨n+1,_,_,_,by simp,by omega,E11,by omega,b11,?_,hok8⟩,(by first | omega | (dsimp only;omega))⟩
    rw [List.take_succ_eq_append_getElem hke,List.map_append,List.map_singleton]
    exact own_fm o10 f11 fun b hb e=>by
     have e:b=gd:=e
     have:=(o10.lt b hb).1;omega
   ·simp only [Addr.add_mk,Nat.zero_add,bs8.cell,lds]
    rw [brnot]
    refine br (fun hl=>?_) (fun hl=>?_)
    ·refine bre (fun hk=>?_) (fun hk=>?_)
     ·refine st_blk bs8 (by simp) fun u1 q1 f1=>st_blk q1 (by simp) fun u2 q2 f2=>st_blk q2 (by simp) fun u3 q3 f3=>?_
      simp only [List.setIfInBounds_toArray,List.set_cons_zero,List.set_cons_succ] at q3
      have f:Fm (·=gs) w8 u3:=(Fm.trans f1 f2).trans f3
      refine⟨E8.trans (f.toBelow E8.size fun b hb e=>by have e:b=gs:=e;omega),?_⟩
      have e:normE es[k]={ es[k] with nm:=noB,ats:=(none,0,0),kids:=(none,0,0) }:=by unfold normE;rw [if_pos hl,if_pos hk]
      rw [e];exact q3
     ·refine st_blk bs8 (by simp) fun u1 q1 f1=>?_
      simp only [List.setIfInBounds_toArray,List.set_cons_zero,List.set_cons_succ] at q1
      have f:Fm (·=gs) w8 u1:=f1
      refine⟨E8.trans (f.toBelow E8.size fun b hb e=>by have e:b=gs:=e;omega),?_⟩
      have e:normE es[k]={ es[k] with text:=noB }:=by unfold normE;rw [if_pos hl,if_neg hk]
      rw [e];exact q1
    ·refine st_blk bs8 (by simp) fun u1 q1 f1=>st_blk q1 (by simp) fun u2 q2 f2=>st_blk q2 (by simp) fun u3 q3 f3=>st_blk q3 (by simp) fun u4 q4 f4=>st_blk q4 (by simp) fun u5 q5 f5=>st_blk q5 (by simp) fun u6 q6 f6=>st_blk q6 (by simp) fun u7 q7 f7=>st_blk q7 (by simp) fun u8 q8 f8=>?_
     simp only [List.setIfInBounds_toArray,List.set_cons_zero,List.set_cons_succ] at q8
     have f:Fm (·=gs) w8 u8:=((((((Fm.trans f1 f2).trans f3).trans f4).trans f5).trans f6).trans f7).trans f8
     refine⟨E8.trans (f.toBelow E8.size fun b hb e=>by have e:b=gs:=e;omega),?_⟩
     have e:normE es[k]=⟨es[k].gen,false,0,noB,(none,0,0),noB,0,(none,0,0)⟩:=by unfold normE;rw [if_neg (by rw [hl];decide)]
     rw [e];exact q8
  ·simp only [Addr.add_mk,Nat.zero_add,bs7.cell,lds]
   refine brd (fun hg0=>?_) (fun hg1=>?_)
   ·refine hbad w7 B7 (hne ?_)
    rw [hsl.gen] at hg0
    rw [decide_eq_false (by omega),Bool.false_and]
   ·rw [hsl.gen] at hg1
    refine br (fun hl=>?_) (fun hl=>?_)
    ·refine slot_calls (hsl.sub (sub_below D7)) fun w8 hb8=>⟨_,rfl,?_⟩
     rw [brnot]
     rw [hsl.live] at hl
     refine br (fun hs=>⟨hb8,hne ?_⟩) (fun hs=>hbad w8 (btr B7 B7.size hb8) (hne ?_))
     ·rw [decide_eq_true (by omega),hs,Bool.or_true];rfl
     ·rw [hl,hs,decide_eq_true (by omega)];rfl
    ·rw [hsl.live] at hl
     refine⟨Below.refl _ _,hne ?_⟩
     rw [hl,decide_eq_true (by omega)];rfl
 ·have hk2:k=x.sl.length:=by omega
  subst hk2
  rw [List.take_of_length_le (by omega)] at ho
  rw [List.take_length] at hok
  obtain⟨hon,hord⟩:=ho.rd
  rw [List.length_map,hel] at hon
  subst hon
  have hs5':=B5.size
  have hrt5:RR LHn (above w2.heap.size w5) x.roots vr':=hr3.sub (above_fm (M:=fun _=>False) (.below hb5) (Nat.le_refl _) fun _ _ h=>h)
  have hDok:∀s∈x.sl.map normS,SlOk s:=fun s hs=>by
   obtain⟨t,ht,rfl⟩:=List.mem_map.1 hs
   exact (hx.ok t ht).norm
  have hlenm:(x.sl.map normS).length=x.sl.length:=List.length_map ..
  have hD5:RDr w5 gd ⟨x.sl.map normS,x.roots⟩ (A,x.sl.length,c) vr':=by
   refine⟨by rw [b5.cell];rfl,by rw [b5.cell];rfl,?_⟩
   refine⟨by rw [hlenm];exact hxl,⟨es.map normE,by rw [List.length_map,hel],hord,Z2.map (fun _ _ h=>h.norm) (hes.mono fun _ _ h=>h.sub (sub_below B5))⟩,hrt5.sub sub_of_only,hDok,hx.rok⟩
  have hD5n:RDr (newOr ok w.heap.size w5) gd ⟨x.sl.map normS,x.roots⟩ (A,x.sl.length,c) vr':=by
   have bn:Blk (newOr ok w.heap.size w5) gd #[.slice A x.sl.length c,.slice vr'.1 vr'.2.1 vr'.2.2] 107:=cells_only (by rw [Nat.ble_eq_true_of_le (by omega),Bool.or_true]) b5
   refine⟨by rw [bn.cell];rfl,by rw [bn.cell];rfl,?_⟩
   refine⟨by rw [hlenm];exact hxl,⟨es.map normE,by rw [List.length_map,hel],above_newOr.rd (own_above ho (j:=w.heap.size) (by omega)).rd.2,Z2.map (fun _ _ h=>h.norm) (hes0.mono fun _ _ h=>h.sub (old_newOr B5))⟩,?_,hDok,hx.rok⟩
   exact (hrt5.sub (above_fm (M:=fun _=>False) (.below (Below.refl _ _)) hs2 fun _ _ h=>h)).sub above_newOr
  have hd:Below w5.heap.size w5 w5.drew:=(Below.refl _ _).drew
  refine⟨fun w'=>Below w5.heap.size w5 w',hd,?_⟩
  refine⟨_,_,_,fun w2 h2=>by rw [(b5.keep h2).cell];rfl,?_⟩
  refine⟨_,_,_,fun w2 h2=>by rw [(b5.keep h2).cell];rfl,by omega,by omega,by omega,?_⟩
  refine al fun gs w6 hb6 bs hges=>?_
  have E6:=btr hd hd.size hb6
  refine⟨E6,?_⟩
  have hgs:w5.heap.size≤gs:=Nat.le_trans hd.size hges
  rw [Int.toNat_natCast] at bs ⊢
  rw [zrow_flags] at bs
  have hc:=hangR_calls (D:=⟨x.sl.map normS,x.roots⟩) (g:=gd) (gs:=gs) (vs:=(A,x.sl.length,c)) (vr:=vr') 64 x.roots vr' 0 [] (w:=w6) (R:=post R fun v2 w1_7=>∃(x78_0:Int) (x78_1:Bool),v2=(.tuple #[(.int .i64 x78_0),(.bool x78_1)]) ∧
   ∃J19:World→Prop,(∀(w1_8:World),J19 w1_8→F39_j19 ⟨gd,0,none⟩ w1_8 R) ∧
   (Br (!x78_1) (R (.returned (.tuple #[(.pointer none),(.int .i64 36)])) w1_7)
   (Calls Tryz.prog 43 #[(.pointer (some ⟨gd,0,none⟩))] w1_7 (post R fun v3 w1_8=>∃(x86:Int),v3=(.int .i64 x86) ∧
    Br (x78_0 != x86) (R (.returned (.tuple #[(.pointer none),(.int .i64 36)])) w1_8) (J19 w1_8)))))
   (by omega) (hD5.sub (old_but E6 hgs)) ((hrt5.sub sub_of_only).sub (old_but E6 hgs)) hx.rok (by rw [hlenm];exact bs) ⟨List.nodup_nil,by simp⟩ ?_
  ·rw [hlenm,show (65-((64:Nat):Int))=1 by decide] at hc
   exact hc
  ·intro w7 hf7
   have E7:Below w5.heap.size w5 w7:=E6.trans (hf7.toBelow E6.size fun b hb e=>by have e:b=gs:=e;omega)
   have H:=h w7 (btr B5 B5.size E7)
   unfold loadF at H
   rw [if_neg (by omega),if_pos hok] at H
   cases hh:hangF (x.sl.map normS) 64 x.roots 0 [] with
   | none =>
    rw [hh] at H
    exact fun n=>⟨_,_,rfl,fun _=>False,fun _ h=>h.elim,H⟩
   | some sn =>
    rw [hh] at H
    intro hB7
    refine⟨_,_,rfl,fun w'=>w'=w7∧sn.length=liveN (x.sl.map normS),?_,?_⟩
    ·rintro _ ⟨rfl,hl⟩
     unfold F39_j19
     simp only [if_pos hl] at H
     exact H gd (A,x.sl.length,c) vr' (by omega) (hD5n.sub (sub_only (fun _ _ h=>h) fun b hb _=>E7.block b hb))
    ·rw [Bool.not_true,Br_f]
     refine len_calls (hD5.keep E7) ⟨_,rfl,?_⟩
     refine brn (fun hne=>?_) (fun he=>⟨rfl,by simp only [List.length_nil] at he;omega⟩)
     simp only [if_neg (show ¬sn.length=liveN (x.sl.map normS) from fun e=>hne (by rw [e];simp))] at H
     exact H
set_option maxRecDepth 100000
--PURE
theorem hang_split {sl:List Sl}{r x:Nat}{l:List Nat}{p:Nat}{sn sn':List Nat} (h:hangF sl r (x :: l) p sn=some sn') :
  ∃q k s s2,r=q+1∧atF sl x=some k∧sl[k]?=some s∧k∉sn∧s.parent=p∧hangF sl q s.kids x (k :: sn)=some s2∧hangF sl (q+1) l p s2=some sn':=by
 cases r with
 | zero=>rw [hangF_zero] at h;cases h
 | succ q =>
  cases ha:atF sl x with
  | none=>rw [hangF_no ha] at h;cases h
  | some k =>
   obtain⟨hk,-⟩:=atF_some ha
   by_cases hb:k∈sn∨sl[k].parent≠p
   ·rw [hangF_bad ha hk hb] at h;cases h
   ·rw [hangF_step ha hk hb] at h
    cases hr:hangF sl q sl[k].kids x (k :: sn) with
    | none=>rw [hr] at h;cases h
    | some s2 =>
     rw [hr] at h
     exact⟨q,k,sl[k],s2,rfl,rfl,List.getElem?_eq_getElem hk,fun e=>hb (.inl e),Classical.byContradiction fun e=>hb (.inr e),hr,h⟩
theorem atF_zero (sl:List Sl):atF sl 0=none:=by unfold atF;rw [if_pos (by decide)]
theorem slA_of {sl:List Sl}{h k:Nat}{s:Sl} (h1:atF sl h=some k) (h2:sl[k]?=some s):slA sl h=some s:=by unfold slA;rw [h1];exact h2
theorem slA_to {sl:List Sl}{h:Nat}{s:Sl} (h1:slA sl h=some s):∃k,atF sl h=some k∧sl[k]?=some s:=by
 unfold slA at h1
 cases e:atF sl h with
 | none=>rw [e] at h1;cases h1
 | some k=>rw [e] at h1;exact⟨k,rfl,h1⟩
def HungS (sl:List Sl) (l:List Nat) (p d r:Nat) (sn sn':List Nat) (k:Nat):Prop :=
 ∃s h,sl[k]?=some s∧atF sl h=some k∧(∃c,d < c∧c≤d+r∧Ch (slA sl) h c)∧(s.parent=p∧h∈l∨∃j t,j∈sn'∧j∉sn∧sl[j]?=some t∧atF sl s.parent=some j∧h∈t.kids) ∧
  s.kids.Nodup∧∀x∈s.kids,∃j t,atF sl x=some j∧sl[j]?=some t∧t.parent=h
structure HungO (sl:List Sl) (r:Nat) (l:List Nat) (p d:Nat) (sn sn':List Nat):Prop where
 mem:∀x∈l,∃k s,atF sl x=some k∧sl[k]?=some s∧s.parent=p∧k∉sn∧k∈sn'
 one:l.Nodup
 sub:∀k∈sn,k∈sn'
 all:∀k∈sn',k∉sn→HungS sl l p d r sn sn' k
theorem hung_out {sl:List Sl}:∀(r:Nat) (l:List Nat) (p d:Nat) (sn sn':List Nat),hangF sl r l p sn=some sn'→Ch (slA sl) p d→HungO sl r l p d sn sn'
 | r,[],p,d,sn,sn',h,_=>by
  rw [hangF_nil] at h;cases h
  exact⟨fun x hx=>by simp at hx,List.nodup_nil,fun k hk=>hk,fun k hk hn=>absurd hk hn⟩
 | 0,x :: l,p,d,sn,sn',h,_=>by rw [hangF_zero] at h;cases h
 | r+1,x :: l,p,d,sn,sn',h,hp=>by
  obtain⟨q,k,s,s2,e,ha,hs,hn,hpar,h1,h2⟩:=hang_split h
  obtain rfl:r=q:=by omega
  have hx0:x≠0:=fun e=>by rw [e,atF_zero] at ha;cases ha
  have hcx:Ch (slA sl) x (d+1):=.succ hx0 (slA_of ha hs) (by rw [hpar];exact hp)
  have i1:=hung_out r s.kids x (d+1) (k :: sn) s2 h1 hcx
  have i2:=hung_out (r+1) l p d s2 sn' h2 hp
  have hk2:k∈s2:=i1.sub k (by simp)
  have hsn:∀j∈sn,j∈s2:=fun j hj=>i1.sub j (by simp [hj])
  refine⟨fun y hy=>?_,?_,fun j hj=>i2.sub j (hsn j hj),fun j hj hjn=>?_⟩
  ·rcases List.mem_cons.1 hy with rfl | hy
   ·exact⟨k,s,ha,hs,hpar,hn,i2.sub k hk2⟩
   ·obtain⟨j,t,a1,a2,a3,a4,a5⟩:=i2.mem y hy
    exact⟨j,t,a1,a2,a3,fun e=>a4 (hsn j e),a5⟩
  ·refine List.nodup_cons.2 ⟨fun hxl=>?_,i2.one⟩
   obtain⟨j,t,a1,a2,a3,a4,a5⟩:=i2.mem x hxl
   rw [ha] at a1;cases a1
   exact a4 hk2
  ·by_cases hj2:j∈s2
   ·by_cases hjk:j=k
    ·subst hjk
     refine⟨s,x,hs,ha,⟨d+1,by omega,by omega,hcx⟩,.inl ⟨hpar,by simp⟩,i1.one,fun y hy=>?_⟩
     obtain⟨i,t,a1,a2,a3,_⟩:=i1.mem y hy
     exact⟨i,t,a1,a2,a3⟩
    ·obtain⟨t,h',a1,a2,⟨c,c1,c2,c3⟩,a4,a5,a6⟩:=i1.all j hj2 fun e=>(List.mem_cons.1 e).elim hjk hjn
     refine⟨t,h',a1,a2,⟨c,by omega,by omega,c3⟩,.inr ?_,a5,a6⟩
     rcases a4 with ⟨b1,b2⟩ | ⟨i,u,b1,b2,b3,b4,b5⟩
     ·exact⟨k,s,i2.sub k hk2,hn,hs,by rw [b1];exact ha,b2⟩
     ·exact⟨i,u,i2.sub i b1,fun e=>b2 (by simp [e]),b3,b4,b5⟩
   ·obtain⟨t,h',a1,a2,a3,a4,a5,a6⟩:=i2.all j hj hj2
    refine⟨t,h',a1,a2,a3,?_,a5,a6⟩
    rcases a4 with ⟨b1,b2⟩ | ⟨i,u,b1,b2,b3,b4,b5⟩
    ·exact .inl ⟨b1,by simp [b2]⟩
    ·exact .inr ⟨i,u,b1,fun e=>b2 (hsn i e),b3,b4,b5⟩
termination_by r l=>(r,l.length)
theorem live_idx {sl:List Sl}{a:List Nat} (hn:a.Nodup) (h:∀k∈a,∃s,sl[k]?=some s∧s.live=true):a.length≤liveN sl:=by
 have h1:=nodup_sub (b:=(sl.zipIdx.filter fun p=>p.1.live).map (·.2)) hn fun k hk=>by
  obtain⟨s,h1,h2⟩:=h k hk
  exact List.mem_map.2 ⟨(s,k),List.mem_filter.2 ⟨List.mk_mem_zipIdx_iff_getElem?.2 h1,h2⟩,rfl⟩
 have h2:(sl.zipIdx.filter fun p=>p.1.live).length=liveN sl:=by
  unfold liveN
  have h3:sl.zipIdx.map Prod.fst=sl:=by simp
  conv=>rhs;rw [←h3,List.filter_map,List.length_map]
  rfl
 rw [List.length_map,h2] at h1
 exact h1
theorem slot_ok {s:Sl} (h:slotB s=true) (hl:s.live=true):okSl (normS s):=by
 unfold slotB at h
 rw [Bool.and_eq_true,decide_eq_true_eq,Bool.or_eq_true,decide_eq_true_eq,decide_eq_true_eq] at h
 obtain⟨h1,h2⟩:=h
 unfold normS okSl
 rw [if_pos hl]
 by_cases hk:s.kind=2
 ·rw [if_pos hk]
  refine⟨?_,.inr ⟨hk,rfl,rfl,rfl⟩⟩
  unfold ownF at h1 ⊢
  have h21:¬s.kind=1:=by omega
  rw [if_neg h21,if_pos hk] at h1 ⊢
  exact h1
 ·rw [if_neg hk]
  have hk1:s.kind=1:=by
   unfold ownF at h1
   by_cases e:s.kind=1
   ·exact e
   ·rw [if_neg e,if_neg hk] at h1;cases h1
  refine⟨?_,.inl ⟨hk1,rfl⟩⟩
  unfold ownF at h1 ⊢
  rw [if_pos hk1] at h1 ⊢
  exact h1
theorem norm_live (s:Sl):(normS s).live=s.live:=by
 unfold normS
 by_cases hl:s.live=true
 ·rw [if_pos hl];split <;> rfl
 ·rw [if_neg hl]
  have:s.live=false:=by simpa using hl
  exact this.symm
theorem norm_gen (s:Sl):(normS s).gen=s.gen:=by
 unfold normS
 split
 ·split <;> rfl
 ·rfl
theorem load_wf {x D:Im} (hx:∀s∈x.sl,SlOk s) (h:loadF x=some D):Wf D:=by
 unfold loadF at h
 by_cases h0:4096 < x.sl.length
 ·rw [if_pos h0] at h;cases h
 rw [if_neg h0] at h
 by_cases hsl:slotsB x.sl=true
 rotate_left
 ·rw [if_neg hsl] at h;cases h
 rw [if_pos hsl] at h
 generalize hL:x.sl.map normS=sl at h
 cases hh:hangF sl 64 x.roots 0 [] with
 | none=>rw [hh] at h;cases h
 | some sn =>
  rw [hh] at h
  have h:(if sn.length=liveN sl then some (⟨sl,x.roots⟩:Im) else none)=some D:=h
  by_cases hn:sn.length=liveN sl
  rotate_left
  ·rw [if_neg hn] at h;cases h
  rw [if_pos hn] at h
  cases h
  have hslot:∀s∈sl,∃t∈x.sl,s=normS t∧1≤t.gen∧(t.live=true→slotB t=true):=fun s hs=>by
   rw [←hL] at hs
   obtain⟨t,ht,rfl⟩:=List.mem_map.1 hs
   unfold slotsB at hsl
   have:=List.all_eq_true.1 hsl t ht
   rw [Bool.and_eq_true,decide_eq_true_eq,Bool.or_eq_true,Bool.not_eq_true'] at this
   exact⟨t,ht,rfl,this.1,fun e=>this.2.resolve_left (by rw [e];simp)⟩
  have hu:=hung_out 64 x.roots 0 0 [] sn hh .zero
  obtain⟨hg,-⟩:=hangF_good _ _ _ _ _ hh ⟨List.nodup_nil,fun k hk=>by simp at hk⟩
  have hlive:∀k∈sn,∃s,sl[k]?=some s∧s.live=true:=fun k hk=>by
   obtain⟨s,h',a1,a2,_⟩:=hu.all k hk (by simp)
   obtain⟨hk2,b1,_⟩:=atF_some a2
   rw [List.getElem?_eq_getElem hk2] at a1
   exact⟨_,List.getElem?_eq_getElem hk2,b1⟩
  have hall:∀k s,sl[k]?=some s→s.live=true→k∈sn:=fun k s h1 h2=>Classical.byContradiction fun e=>by
   have:=live_idx (sl:=sl) (a:=k :: sn) (List.nodup_cons.2 ⟨e,hg.one⟩) fun j hj=>by
    rcases List.mem_cons.1 hj with rfl | hj
    ·exact⟨s,h1,h2⟩
    ·exact hlive j hj
   rw [List.length_cons] at this;omega
  have hok:∀h' s,slA sl h'=some s→okSl s:=fun h' s e=>by
   obtain⟨k,e1,e2⟩:=slA_to e
   obtain⟨hk2,b1,_⟩:=atF_some e1
   rw [List.getElem?_eq_getElem hk2] at e2
   obtain⟨t,_,q1,_,q3⟩:=hslot s (List.mem_of_getElem? (by rw [List.getElem?_eq_getElem hk2];exact e2))
   have hsl2:s.live=true:=by rw [←Option.some.inj e2];exact b1
   subst q1
   rw [norm_live] at hsl2
   exact slot_ok (q3 hsl2) hsl2
  have hsn:∀h' s,slA sl h'=some s→∃k,atF sl h'=some k∧sl[k]?=some s∧HungS sl x.roots 0 0 64 [] sn k:=fun h' s e=>by
   obtain⟨k,e1,e2⟩:=slA_to e
   obtain⟨hk2,b1,_⟩:=atF_some e1
   exact⟨k,e1,e2,hu.all k (hall k _ (List.getElem?_eq_getElem hk2) b1) (by simp)⟩
  have hone:∀{a b k:Nat},atF sl a=some k→atF sl b=some k→a=b:=fun {a b k} e1 e2=>by
   obtain⟨_,_,q1,_⟩:=atF_some e1
   obtain⟨_,_,q2,_⟩:=atF_some e2
   exact q1.symm.trans q2
  refine⟨⟨?_,fun s hs=>?_,fun s hs hd=>?_,fun s hs hd=>?_⟩,⟨?_,hok,fun h' s e=>?_,fun h' s e=>?_,fun h' s e=>?_,?_,fun h' s e _=>?_,fun h' hh'=>by simp at hh'⟩⟩
  ·rw [←hL,List.length_map];omega
  ·obtain⟨t,ht,rfl,_⟩:=hslot s hs
   rw [norm_gen];exact (hx t ht).gen
  ·obtain⟨t,ht,rfl,_⟩:=hslot s hs
   rw [norm_live] at hd
   rw [norm_gen]
   unfold normS deadS
   rw [if_neg (by rw [hd];decide)]
  ·obtain⟨t,ht,rfl,h1,_⟩:=hslot s hs
   rw [norm_gen];exact h1
  ·unfold slA;rw [atF_zero];rfl
  ·obtain⟨k,e1,e2,s',h2,a1,a2,a3,a4,a5,a6⟩:=hsn h' s e
   rw [e2] at a1;cases a1
   rcases a4 with ⟨b1,_⟩ | ⟨j,t,b1,b2,b3,b4,b5⟩
   ·exact .inl b1
   ·have ht:=slA_of b4 b3
    refine .inr ⟨t,ht,?_⟩
    rcases (hok _ _ ht).2 with q | q
    ·exact q.1
    ·rw [q.2.2.2] at b5;simp at b5
  ·obtain⟨k,e1,e2,s',h2,a1,a2,⟨c,c1,c2,c3⟩,_⟩:=hsn h' s e
   rw [hone e1 a2]
   exact⟨c,by omega,c3⟩
  ·obtain⟨k,e1,e2,s',h2,a1,a2,a3,a4,a5,a6⟩:=hsn h' s e
   rw [e2] at a1;cases a1
   refine⟨a5,fun y hy=>⟨by simp,?_⟩⟩
   obtain⟨j,t,b1,b2,b3⟩:=a6 y hy
   exact⟨t,slA_of b1 b2,by rw [b3];exact hone a2 e1⟩
  ·refine⟨hu.one,fun y hy=>⟨by simp,?_⟩⟩
   obtain⟨k,t,b1,b2,b3,_⟩:=hu.mem y hy
   exact⟨t,slA_of b1 b2,b3⟩
  ·obtain⟨k,e1,e2,s',h2,a1,a2,a3,a4,a5,a6⟩:=hsn h' s e
   rw [e2] at a1;cases a1
   rw [hone e1 a2]
   unfold lstA
   rcases a4 with ⟨b1,b2⟩ | ⟨j,t,b1,b2,b3,b4,b5⟩
   ·rw [if_pos b1];exact b2
   ·have hp0:s.parent≠0:=fun q=>by rw [q,atF_zero] at b4;cases b4
    rw [if_neg hp0,slA_of b4 b3];exact b5
set_option maxRecDepth 100000
structure Fnd3 (w:World) (gf B:Nat) (vs:Nat→Sv) (ls:Nat→List Nat):Prop where
 blk:Blk w gf #[slV (vs 0),slV (vs 1),slV (vs 2)] 32
 own:∀i,i < 3→Own LHn w B 65 (slV (vs i)) (ls i)
 ap:∀i j,i < 3→j < 3→i≠j→Apart (slV (vs i)) (slV (vs j))
 lt:gf < B
section
variable {w w1:World}{R:Ending→World→Prop}{gf B:Nat}{fs:Nat→Sv}{ls:Nat→List Nat}{M:Nat→Prop}{S:List Pl3}{vS:Sv}{D:Im}{ws:List ByteArray}
theorem Fnd3.fm (h:Fnd3 w gf B fs ls) (hf:Fm M w w1) (hm:∀b,M b→b≠gf∧∀i,i < 3→rowOf (slV (fs i))≠some b):Fnd3 w1 gf B fs ls :=
 ⟨hf.blk h.blk fun e=>(hm gf e).1 rfl,fun i hi=>own_fm (h.own i hi) hf fun b hb e=>(hm b e).2 i hi hb,h.ap,h.lt⟩
theorem Fnd3.keep (h:Fnd3 w gf B fs ls) (hb:Below w.heap.size w w1):Fnd3 w1 gf B fs ls:=h.fm (M:=fun _=>False) (.below hb) fun b h=>h.elim
theorem Fnd3.cell (h:Fnd3 w gf B fs ls) {i:Nat} (hi:i < 3):w.cell? ⟨gf,i,none⟩=some (slV (fs i)):=by
 rw [h.blk.cell]
 match i,hi with
 | 0,_=>rfl
 | 1,_=>rfl
 | 2,_=>rfl
theorem Fnd3.push (h : Fnd3 w gf B fs ls) (hS : RdV LP3 w S vS) {m : Nat} (hm : m < S.length) (hB : B ≤ w.heap.size) {i : Nat} (hi : i < 3) (hl : (ls i).length ≤ 1048576) {J : World → Prop}
    (hJ : ∀ v' w', Fnd3 w' gf B (fun j => if j = i then v' else fs j) (fun j => if j = i then ls i ++ [S[m].1] else ls j) → Fm (fun b => b = gf ∨ rowOf (slV (fs i)) = some b) w w' → J w') :
    ∃ S2 : World → Prop, S2 w.drew ∧ ∃ (x : Option Addr) (xN : Nat) (xC : Nat), Held S2 ⟨gf, i, none⟩ (.slice x xN xC) ∧ IdxA vS.1 vS.2.1 (m : Nat) 3 fun q64 =>
     ∃ (x66 : Int), Held S2 q64 (.int .u64 x66) ∧ Al w.drew #[(.int .u64 x66)] 65 fun g67 w1_9 =>
     S2 w1_9 ∧ Raw Tryz.prog (Builtin.append_ #[23, 23] 23 #[(.slice x xN xC), (.slice (some g67) 1 1)]) w1_9 fun v5 w1_10 =>
     ∃ (x68 : Option Addr) (x68N : Nat) (x68C : Nat), v5 = (.slice x68 x68N x68C) ∧ St w1_10 ⟨gf, i, none⟩ (.slice x68 x68N x68C) J := by
  have hdr : Below w.heap.size w w.drew := (Below.refl _ _).drew
  have hd := h.keep hdr
  have hs := hdr.size
  refine ⟨fun w' => Below w.drew.heap.size w.drew w', .refl _ _, (fs i).1, (fs i).2.1, (fs i).2.2, fun w' hw => (hd.keep hw).cell hi, ?_⟩
  refine (hS.keep hdr).2.2.held (S := fun w' => Below w.drew.heap.size w.drew w') (fun _ h => h) hS.1 (by omega) (by have := hS.1; omega) rfl fun b o c => ?_
  have c := c 0 _ rfl
  simp only [Int.toNat_natCast, Nat.add_zero] at c
  refine ⟨_, c, ?_⟩
  refine ap1S (L := LHn) (x := S[m].1) (base := B) (.int .u64 0) 8 rfl (by kernel_rfl) (by kernel_rfl) (by kernel_rfl) (hd.own i hi) (by omega) (by omega) (by unfold maxLen; omega) (fun w' hb => hb) fun A' c' w2 o2 g2 => ⟨A', _, c', rfl, ?_⟩
  have hrl : ∀ j, j < 3 → ∀ b, rowOf (slV (fs j)) = some b → B ≤ b := fun j hj b hb => (h.own j hj).lt b hb |>.1
  have FG : Fm (fun b => rowOf (slV (fs i)) = some b) w.drew w2 := Fm.grown g2.grown fun b hb => hb
  have hlt := h.lt
  have b2 : Blk w2 gf #[slV (fs 0), slV (fs 1), slV (fs 2)] 32 := FG.blk hd.blk fun e => by have := hrl i hi gf e; omega
  refine st_blk b2 (by simpa using hi) fun w3 b3 f3 => ?_
  have hne : ∀ j, j < 3 → ∀ b, rowOf (slV (fs j)) = some b → b ≠ gf := fun j hj b hb e => by have := hrl j hj b hb; omega
  have hnew : ∀ b, rowOf (slV (A', (ls i).length + 1, c')) = some b → b ≠ gf := fun b hb e => by
    have := (o2.lt b hb).1; omega
  refine hJ (A', (ls i).length + 1, c') w3 ⟨?_, fun j hj => ?_, fun j k hj hk hjk => ?_, h.lt⟩ (((Fm.below hdr).trans (FG.mono fun b _ e => .inr e)).trans (f3.mono fun b _ e => .inl e))
  · rcases (show i = 0 ∨ i = 1 ∨ i = 2 by omega) with rfl | rfl | rfl <;> exact b3
  · by_cases e : j = i
    · subst e
      simp only [if_true]
      exact own_fm o2 f3 fun b hb e => hnew b hb e
    · simp only [if_neg e]
      exact own_fm (g2.own (hd.own j hj) (h.ap j i hj hi e)).1 f3 fun b hb e => hne j hj b hb e
  · by_cases e : j = i
    · subst e
      simp only [if_true, if_neg (fun q : k = j => hjk q.symm)]
      exact (g2.own (hd.own k hk) (h.ap k j hk hj (fun q => hjk q.symm))).2.symm
    · by_cases e2 : k = i
      · subst e2
        simp only [if_true, if_neg e]
        exact (g2.own (hd.own j hj) (h.ap j k hj hk e)).2
      · simp only [if_neg e, if_neg e2]
        exact h.ap j k hj hk hjk
abbrev flg (n:Nat) (f:Nat→Bool):List Bool:=(List.range n).map f
theorem flg_set {n j:Nat}{f:Nat→Bool}:(flg n f).set j true=flg n fun x=>f x || decide (x=j):=by
 refine List.ext_getElem (by simp [flg]) fun i h1 h2=>?_
 rw [List.getElem_set]
 simp only [flg,List.getElem_map,List.getElem_range]
 by_cases e:j=i
 ·subst e;simp
 ·rw [if_neg e,decide_eq_false (fun q=>e q.symm),Bool.or_false]
theorem flg_congr {n:Nat}{f h:Nat→Bool} (e:∀x,x < n→f x=h x):flg n f=flg n h:=List.map_congr_left fun x hx=>e x (List.mem_range.1 hx)
theorem flg_get {n j:Nat}{f:Nat→Bool} (h:j < n):(flg n f)[j]?=some (f j):=by
 unfold flg
 rw [List.getElem?_map,List.getElem?_range h];rfl
theorem flg_rep (n:Nat):List.replicate n false=flg n fun _=>false:=by
 unfold flg
 refine List.ext_getElem (by simp) fun i h1 h2=>by simp
theorem sz_le (hA:WfA (slA D.sl) D.roots []) {i x:Nat} (hx:(allD' D)[i]?=some x):i+szN D x≤(allD' D).length:=by
 obtain⟨P,Q,PW,QW,r,c,s,a1,a2,a3,a4,a5,a6,a7⟩:=cut_list (E:=fun _=>none) hA 65 1 D.roots (fun z hz=>by
  obtain⟨_,u,u1,u2⟩:=hA.root.2 z hz
  exact⟨u,u1,.succ (hA.ne0 u1) u1 (by rw [u2];exact .zero)⟩) rfl i x hx
 rw [allA_66 hA a1 a2 a3] at a4
 have hL:allD' D=P++allA (slA D.sl) 65 x++Q:=a4
 rw [hL,List.length_append,List.length_append]
 unfold szN
 omega
theorem pl_ok (hA:WfA (slA D.sl) D.roots []) {p:Pl3} (hp:p∈plF D (allD' D).length):p.2.1≤p.2.2∧p.2.2≤(allD' D).length:=by
 obtain⟨h1,h2,h3,h4⟩:=(pl_mem (Nat.le_refl _)).1 hp
 have:=sz_le hA h2
 omega
theorem live_all (hA:WfA (slA D.sl) D.roots []):(allD' D).length≤liveN D.sl:=by
 have hn:(allD' D).Nodup:=rootsAll_nodup hA
 have key:∀y∈allD' D,∃s,D.sl[y % 4294967296-1]?=some s∧s.live=true∧y=hnd s.gen (y % 4294967296-1):=fun y hy=>by
  obtain⟨s,hs⟩:=(mem_all_roots hA).1 hy
  obtain⟨k,k1,k2,k3,k4⟩:=slA_iff.1 hs
  obtain rfl:k=y % 4294967296-1:=by omega
  exact⟨s,k2,k3,k4.symm⟩
 have h:=live_idx (sl:=D.sl) (a:=(allD' D).map fun y=>y % 4294967296-1) (List.pairwise_map.2 (List.Pairwise.imp_of_mem (fun {a b} ha hb hab e=>by
  obtain⟨s,s1,s2,s3⟩:=key a ha
  obtain⟨t,t1,t2,t3⟩:=key b hb
  rw [←e,s1] at t1
  cases t1
  rw [←e] at t3
  exact hab (s3.trans t3.symm)) hn)) fun k hk=>by
  obtain⟨y,hy,rfl⟩:=List.mem_map.1 hk
  obtain⟨s,s1,s2,_⟩:=key y hy
  exact⟨s,s1,s2⟩
 rw [List.length_map] at h
 exact h
end
set_option maxRecDepth 100000
section
variable {S:List Pl3}{p:Pl3}{m q:Nat}
theorem at_lt (hup:S.Pairwise fun a b=>a.2.1 < b.2.1) {i j:Nat} (hi:i < S.length) (hj:j < S.length) (h:i < j):S[i].2.1 < S[j].2.1:=List.pairwise_iff_getElem.1 hup i j hi hj h
theorem mk_zero (hup:S.Pairwise fun a b=>a.2.1 < b.2.1) (hm:m < S.length):innP (S.take (m+1)) S[m]=false∧∀x,outP (S.take (m+1)) S[m] x=false:=by
 have key:∀r∈S.take (m+1),¬S[m].2.1 < r.2.1:=fun r hr=>by
  obtain⟨j,hj⟩:=List.mem_iff_getElem?.1 hr
  rw [List.getElem?_take] at hj
  split at hj
  ·obtain⟨h1,rfl⟩:=List.getElem?_eq_some_iff.1 hj
   by_cases e:j=m
   ·subst e;omega
   ·have:=at_lt hup h1 hm (by omega);omega
  ·cases hj
 constructor
 ·unfold innP
  refine List.any_eq_false.2 fun r hr=>?_
  rw [decide_eq_false (key r hr)];simp
 ·intro x
  unfold outP
  refine List.any_eq_false.2 fun r hr=>?_
  rw [decide_eq_false (key r hr)];simp
theorem mk_step (hup:S.Pairwise fun a b=>a.2.1 < b.2.1) (hm:m < S.length) (hq:q < S.length) (hmq:m < q) (hlt:S[q].2.1 < S[m].2.2):innP (S.take (q+1)) S[m]=true∧∀x,outP (S.take (q+1)) S[m] x=(outP (S.take q) S[m] x || (decide (S[q].2.1≤x) && decide (x < S[q].2.2))):=by
 have h1:=at_lt hup hm hq hmq
 have htk:S.take (q+1)=S.take q++[S[q]]:=List.take_succ_eq_append_getElem hq
 rw [htk]
 constructor
 ·unfold innP
  rw [List.any_append]
  simp [h1,hlt]
 ·intro x
  unfold outP
  rw [List.any_append]
  simp [h1,hlt]
theorem mk_stop (hup:S.Pairwise fun a b=>a.2.1 < b.2.1) (hm:m < S.length) (hst:∀h:q < S.length,¬S[q].2.1 < S[m].2.2):innP S S[m]=innP (S.take q) S[m]∧∀x,outP S S[m] x=outP (S.take q) S[m] x:=by
 have key:∀r∈S.drop q,¬r.2.1 < S[m].2.2:=fun r hr=>by
  obtain⟨j,hj⟩:=List.mem_iff_getElem?.1 hr
  rw [List.getElem?_drop] at hj
  obtain⟨h1,rfl⟩:=List.getElem?_eq_some_iff.1 hj
  have h2:=hst (by omega)
  by_cases e:j=0
  ·subst e;exact h2
  ·have:=at_lt hup (i:=q) (j:=q+j) (by omega) h1 (by omega);omega
 clear hst
 generalize S[m]=p at *
 constructor
 ·conv=>lhs;rw [←List.take_append_drop q S]
  unfold innP
  rw [List.any_append]
  have:(S.drop q).any (fun r=>decide (p.2.1 < r.2.1) && decide (r.2.1 < p.2.2))=false:=List.any_eq_false.2 fun r hr=>by rw [decide_eq_false (key r hr)];simp
  rw [this,Bool.or_false]
 ·intro x
  conv=>lhs;rw [←List.take_append_drop q S]
  unfold outP
  rw [List.any_append]
  have:(S.drop q).any (fun r=>(decide (p.2.1 < r.2.1) && decide (r.2.1 < p.2.2)) && (decide (r.2.1≤x) && decide (x < r.2.2)))=false:=List.any_eq_false.2 fun r hr=>by rw [decide_eq_false (key r hr)];simp
  rw [this,Bool.or_false]
end
section
variable {w w0:World}{R:Ending→World→Prop}{S:List Pl3}{vS:Sv}{m n N B g71:Nat}
theorem mark_walk (hup : S.Pairwise fun a b => a.2.1 < b.2.1) (hok : ∀ q ∈ S, q.2.1 ≤ q.2.2 ∧ q.2.2 ≤ n) (hn : n ≤ 4096) (hm : m < S.length) (hlen : S.length ≤ 4096) (hb0 : Below w0.heap.size w0 w) (hS : RdV LP3 w0 S vS) (hg : w0.heap.size ≤ g71) (hB : B ≤ w.heap.size)
    (h71 : Own LBo w B 4 (slV (some ⟨g71, 0, none⟩, n, n)) (flg n fun _ => false)) {J27 : Bool → World → Prop}
    (hJ : ∀ w', Fm (fun b => b = g71) w w' → Own LBo w' B 4 (slV (some ⟨g71, 0, none⟩, n, n)) (flg n (outP S S[m])) → J27 (innP S S[m]) w') :
    ∃ (I : Bool → Int → World → Prop) (mm : Bool → Int → World → Nat), I false ((m : Int) + (1 : Int)) w ∧
     ∀ (inner : Bool) (k : Int) (w1_13 : World), I inner k w1_13 → F10_l20 (n : Nat) vS.1 vS.2.1 (m : Nat) ⟨g71, 0, none⟩ J27 (fun inner' k' w2 => I inner' k' w2 ∧ mm inner' k' w2 < mm inner k w1_13) inner k w1_13 R := by
  have hvS := hS.1
  have hrow : ∀ b, rowOf (slV (some ⟨g71, 0, none⟩, n, n)) = some b → b = g71 := fun b hb => by
    unfold slV at hb
    dsimp only at hb
    cases n with
    | zero => cases hb
    | succ n => exact (Option.some.inj hb).symm
  have below : ∀ {w'}, Fm (fun b => b = g71) w w' → Below w0.heap.size w0 w' := fun f => hb0.trans (f.toBelow hb0.size fun b hb e => by omega)
  obtain ⟨z1, z2⟩ := mk_zero hup hm
  refine ⟨fun inner k w' => ∃ q : Nat, k = q ∧ m < q ∧ q ≤ S.length ∧ inner = innP (S.take q) S[m] ∧ Fm (fun b => b = g71) w w' ∧ Own LBo w' B 4 (slV (some ⟨g71, 0, none⟩, n, n)) (flg n (outP (S.take q) S[m])), fun _ k _ => S.length - k.toNat,
    ⟨m + 1, by simp, by omega, by omega, z1.symm, .refl _ _, by rw [flg_congr (h := outP (S.take (m + 1)) S[m]) fun x _ => (z2 x).symm] at h71; exact h71⟩, ?_⟩
  rintro _ _ w1 ⟨q, rfl, hmq, hq, rfl, f1, o1⟩
  unfold F10_l20
  refine ⟨fun w' => ∃ hq2 : q < S.length, S[q].2.1 < S[m].2.2 ∧ Fm (fun b => b = g71) w w' ∧ Own LBo w' B 4 (slV (some ⟨g71, 0, none⟩, n, n)) (flg n (outP (S.take q) S[m])), ?_, ?_⟩
  rotate_left
  · refine dr fun w2 hb2 _ => ?_
    have f2 : Fm (fun b => b = g71) w w2 := f1.tr hb2
    have o2 := o1.keep hb2
    have fin : (∀ h : q < S.length, ¬ S[q].2.1 < S[m].2.2) → J27 (innP (S.take q) S[m]) w2 := fun hst => by
      obtain ⟨e1, e2⟩ := mk_stop hup hm hst
      rw [← e1]
      exact hJ w2 f2 (by rw [flg_congr (h := outP (S.take q) S[m]) fun x _ => e2 x]; exact o2)
    refine brd (fun hlt => ?_) (fun hge => fin fun h => by omega)
    have hq2 : q < S.length := by omega
    have hS2 := (hS.keep (below f2)).2.2
    refine hS2.p3 hvS rfl hq2 fun b1 a1 _ k1 _ => ?_
    simp only [Addr.add_mk, k1, lds]
    refine hS2.p3 hvS rfl hm fun b2 a2 _ _ k2 => ?_
    simp only [Addr.add_mk, k2, lds]
    refine brd (fun h => ⟨hq2, by omega, f2, o2⟩) (fun h => fin fun _ => by omega)
  rintro w2 ⟨hq2, hlt, f2, o2⟩
  unfold F10_j22
  obtain ⟨e1, e2⟩ := mk_step hup hm hq2 hmq hlt
  obtain ⟨k1, k2⟩ := hok _ (List.getElem_mem hq2)
  refine (hS.keep (below f2)).2.2.p3 hvS rfl hq2 fun b1 a1 _ c1 _ => ?_
  simp only [Addr.add_mk, c1, lds]
  refine ⟨fun j w' => ∃ x : Nat, j = x ∧ S[q].2.1 ≤ x ∧ x ≤ S[q].2.2 ∧ Fm (fun b => b = g71) w w' ∧ Own LBo w' B 4 (slV (some ⟨g71, 0, none⟩, n, n)) (flg n fun y => outP (S.take q) S[m] y || (decide (S[q].2.1 ≤ y) && decide (y < x))), fun j _ => S[q].2.2 - j.toNat,
    ⟨S[q].2.1, rfl, Nat.le_refl _, k1, f2, ?_⟩, ?_⟩
  · rw [flg_congr (h := outP (S.take q) S[m]) fun y _ => ?_]
    · exact o2
    · have : (decide (S[q].2.1 ≤ y) && decide (y < S[q].2.1)) = false := by
        rw [Bool.and_eq_false_iff, decide_eq_false_iff_not, decide_eq_false_iff_not]; omega
      rw [this, Bool.or_false]
  rintro _ w3 ⟨x, rfl, hx1, hx2, f3, o3⟩
  unfold F10_l24
  refine (hS.keep (below f3)).2.2.p3 hvS rfl hq2 fun b3 a3 _ _ c3 => ?_
  simp only [Addr.add_mk, c3, lds]
  refine brd (fun hxl => ?_) (fun hxg => ?_)
  · have hxn : x < n := by omega
    rw [Int.toNat_natCast]
    refine o3.elA (v := (some ⟨g71, 0, none⟩, n, n)) (k := x) rfl (by simp [flg]; omega) rfl fun b4 hb4 => ?_
    refine o3.stc (j := 0) (x' := true) (by simp [flg]; omega) (by decide) rfl hb4 fun w4 o4 f4 => ?_
    refine ⟨inR_i64 (by omega) (by omega), ⟨x + 1, by simp, by omega, by omega, f3.trans (f4.mono fun b _ e => hrow b e), ?_⟩, (by first | omega | (dsimp only; omega))⟩
    rw [flg_set] at o4
    rw [flg_congr fun y _ => ?_] at o4
    · exact o4
    · show (_ || _ || decide (y = x)) = _
      rw [Bool.or_assoc]
      congr 1
      rw [Bool.eq_iff_iff]
      simp only [Bool.or_eq_true, Bool.and_eq_true, decide_eq_true_eq]
      omega
  · obtain rfl : x = S[q].2.2 := by omega
    refine ⟨inR_i64 (by omega) (by omega), ⟨q + 1, by simp, by omega, by omega, e1.symm, f3, ?_⟩, (by first | omega | (dsimp only; omega))⟩
    rw [flg_congr (h := fun y => outP (S.take q) S[m] y || (decide (S[q].2.1 ≤ y) && decide (y < S[q].2.2))) fun y _ => e2 y]
    exact o3
end
set_option maxRecDepth 100000
def goodS (s:Sl):Bool:=decide (1≤s.gen) && (!s.live || slotB s)
end Go.Proofs.YtccplipiahdhiaaGreatDoor
