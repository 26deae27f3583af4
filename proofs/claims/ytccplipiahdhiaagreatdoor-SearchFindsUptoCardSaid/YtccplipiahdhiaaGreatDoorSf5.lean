/- Search: SearchFinds, the card. -/
import Derived.Test.YtccplipiahdhiaaGreatDoorProg
import Derived.Shelf.SlSortCmp.NoneTotal
import Derived.Laws.CopyRow
import Derived.Lib.SliceRun
import Derived.Test.YtccplipiahdhiaaGreatDoorSf4
namespace Go.Proofs.YtccplipiahdhiaaGreatDoor
open Go.RowKit Go.Vc
set_option linter.unusedVariables false
set_option linter.unusedSimpArgs false
set_option maxRecDepth 100000
section
variable {w w0 w1:World}{o:Nat→Nat}{gx gd mt mh:Nat}{D:Im}{S:PS}{nv:Sv}{tv:Nat→Sv}{hv:ByteArray→Sv}{R:Ending→World→Prop}
abbrev stD (D:Im):List (ByteArray × Hit):=stsF (slA D.sl) (allD' D)
theorem rdV_nil {α:Type} (L:Lay α) (w:World):RdV L w [] (none,0,0):=⟨rfl,by simp,Rd.nil _ _⟩
theorem IxR.lookH (h:IxR w gx gd mt mh D o S nv tv hv) (k:ByteArray) {K:Value→World→Prop} (hK:∀v,RdV LHt w (hitF (stD D) k) v→K (slV v) w):Raw Tryz.prog (Instr.lookup 134 (.map (some mh)) (.string k) false) w K:=by
 refine h.hm.look mapTypeH keyTypeS (zeroH w) k false ?_
 unfold mpHt
 by_cases e:hitF (stD D) k=[]
 ·rw [if_pos e]
  exact hK (none,0,0) (by rw [e];exact rdV_nil _ _)
 ·rw [if_neg e];exact hK (hv k) (h.ho k)
theorem IxR.lookT (h:IxR w gx gd mt mh D o S nv tv hv) {n:Nat} (hn:n∈allD' D) {K:Value→World→Prop} (hK:∀v,RdV LS w (wsF (slA D.sl) n) v→K (slV v) w):Raw Tryz.prog (Instr.lookup 133 (.map (some mt)) (.int .u64 (n:Nat)) false) w K:=by
 refine h.tm.look mapTypeT keyTypeN (zeroT w) n false ?_
 by_cases e:isT (slA D.sl) n=true
 ·have e1:mpTx (slA D.sl) (allD' D) tv (n:Nat)=some (slV (tv n)):=by
   unfold mpTx
   rw [if_pos ⟨by omega,by rw [Int.toNat_natCast];exact hn,by rw [Int.toNat_natCast];exact e⟩,Int.toNat_natCast]
  rw [e1]
  exact hK (tv n) (h.to n hn e)
 ·have e1:mpTx (slA D.sl) (allD' D) tv (n:Nat)=none:=by
   unfold mpTx
   rw [if_neg (fun q=>e (by have:=q.2.2;rwa [Int.toNat_natCast] at this))]
  rw [e1]
  have:wsF (slA D.sl) n=[]:=by unfold wsF;rw [wd_notT (by simpa using e)];rfl
  exact hK (none,0,0) (by rw [this];exact rdV_nil _ _)
theorem hit_few (hw:Wf D) (k:ByteArray):(hitF (stD D) k).length≤67108864:=by
 have h1:=sts_len hw (allD' D)
 have h2:(allD' D).length≤4096:=rootsAll_few hw.s hw.a
 unfold hitF
 rw [List.length_map]
 have:=List.length_filter_le (fun p:ByteArray × Hit=>decide (p.1=k)) (stD D)
 unfold stD at *
 omega
theorem cloneHit {l:List Hit}{v:Sv} (hl:RdV LHt w l v) (hn:l.length≤67108864) (h:∀v' w',Below w.heap.size w w'→Own LHt w' w.heap.size 67 (slV v') l→R (.returned (slV v')) w'):Calls Tryz.prog 51 #[.slice v.1 v.2.1 v.2.2] w R:=by
 refine ok51 v.1 v.2.1 v.2.2 ?_
 unfold F51
 obtain⟨z1,z0,z2⟩:=hl
 refine br (fun hz=>?_) (fun hz=>?_)
 ·have h1:v.1=none:=by simpa using hz
  have h2:=z2.2.2.1 h1
  have h3:=z2.1
  have:l=[]:=List.eq_nil_of_length_eq_zero (by omega)
  subst this
  exact h (none,0,0) w (Below.refl _ _) (Own.nil _ _ _ _)
 ·refine al fun g w1 hb1 b1 hge=>?_
  refine ap (L:=LHt) (e:=67) (xs:=[]) (ys:=l) (base:=w.heap.size) (.agg #[.int .u64 0,.int .i64 0,.int .i64 0]) 24 z1 (by kernel_rfl) (by kernel_rfl) (by kernel_rfl) (Own.bare _ _ _ _ _) (z2.keep hb1) hb1.size (by simp only [List.length_nil,Nat.zero_add];omega) (by simp [maxLen];omega) fun A' c' w2 o2 g2=>⟨_,_,_,rfl,?_⟩
  exact h (A',_,c') w2 (hb1.trans g2.below) (by rw [List.nil_append] at o2;exact o2)
theorem Find_calls (hx:IxR w gx gd mt mh D o S nv tv hv) (hT:Tabs w) (word:ByteArray) (h1:oneF word=true→∀v w',Below w.heap.size w w'→Own LHt w' w.heap.size 67 (slV v) (hitF (stD D) word)→R (.returned (.tuple #[slV v,.int .i64 0])) w')
  (h0:oneF word=false→∀w',Below w.heap.size w w'→R (.returned (.tuple #[.slice none 0 0,.int .i64 1])) w'):Calls Tryz.prog 16 #[.pointer (some ⟨gx,0,none⟩),.string word] w R:=by
 refine ok16 (some ⟨gx,0,none⟩) word ?_
 unfold F16
 refine one_calls word hT fun w1 hb1=>⟨_,rfl,?_⟩
 rw [brnot]
 refine br (fun ho=>?_) (fun ho=>h0 ho w1 hb1)
 have hx1:=hx.keep hb1
 have c3:w1.cell? ⟨gx,3,none⟩=some (.map (some mh)):=by rw [hx1.blk.cell];rfl
 simp only [NonNil_some,Addr.add_mk,Nat.zero_add,c3,lds]
 refine hx1.lookH word fun v hr=>⟨_,_,_,rfl,?_⟩
 refine cloneHit hr (hit_few hx.wf word) fun v' w2 hb2 ov=>⟨_,_,_,rfl,?_⟩
 exact h1 ho v' w2 (btr hb1 hb1.size hb2) (ov.rebase fun x hx=>Nat.le_trans hb1.size (ov.lt x hx).1)
theorem Phrase_calls (hx:IxR w gx gd mt mh D o S nv tv hv) (hT:Tabs w) {ws:List ByteArray}{v:Sv} (hl:RdV LS w ws v) (h1:canS ws=true→∀v w',Below w.heap.size w w'→Own LHt w' w.heap.size 67 (slV v) (phrF (slA D.sl) (stD D) ws)→R (.returned (.tuple #[slV v,.int .i64 0])) w')
  (h0:canS ws=false→∀w',Below w.heap.size w w'→R (.returned (.tuple #[.slice none 0 0,.int .i64 1])) w'):Calls Tryz.prog 20 #[.pointer (some ⟨gx,0,none⟩),.slice v.1 v.2.1 v.2.2] w R:=by
 refine ok20 (some ⟨gx,0,none⟩) v.1 v.2.1 v.2.2 ?_
 unfold F20
 refine all_calls ws v hT hl fun w1 hb1=>⟨_,rfl,?_⟩
 rw [brnot]
 refine br (fun ho=>?_) (fun ho=>h0 ho w1 hb1)
 have h1:=h1 ho
 obtain⟨x0,xs,rfl⟩:∃x0 xs,ws=x0 :: xs:=by
  cases ws with
  | nil=>unfold canS at ho;simp at ho
  | cons x0 xs=>exact⟨x0,xs,rfl⟩
 have hlen:(x0 :: xs).length≤16:=by
  unfold canS at ho
  simp only [Bool.and_eq_true,decide_eq_true_eq] at ho
  exact ho.2.1
 have hx1:=hx.keep hb1
 have hl1:=hl.keep hb1
 have hdr:Below w1.heap.size w1 w1.drew:=(Below.refl _ _).drew
 obtain⟨z1,z0,z2⟩:=hl1
 refine⟨fun w'=>Below w1.heap.size w1 w',hdr,?_⟩
 simp only [NonNil_some,Addr.add_mk,Nat.zero_add]
 refine⟨_,fun w' hw=>by rw [(hx1.blk.keep hw).cell];rfl,?_⟩
 refine z2.held (fun _ h=>h) z1 (by omega) (by simp only [List.length_cons] at z1;omega) rfl fun b oo cc=>?_
 have cc:=cc 0 _ rfl
 simp only [Int.toNat_zero,List.getElem_cons_zero,Nat.add_zero] at cc
 refine⟨_,cc,?_⟩
 have hx2:=hx1.keep hdr
 refine hx2.lookH x0 fun vh hr=>⟨_,_,_,rfl,?_⟩
 obtain⟨y1,y0,y2⟩:=hr
 have hB1:=btr hb1 hb1.size hdr
 have hfew:=hit_few hx.wf x0
 generalize hH:hitF (stD D) x0=H at *
 refine⟨fun A n c i w'=>∃k:Nat,i=k∧k≤H.length∧Below w1.drew.heap.size w1.drew w'∧Own LHt w' w1.drew.heap.size 67 (.slice A n c) ((H.take k).filter fun h=>decide (((wsF (slA D.sl) h.1).drop h.2.1).take (x0 :: xs).length=x0 :: xs)),fun _ _ _ i _=>H.length-i.toNat,
  ⟨0,rfl,by omega,.refl _ _,by simpa using Own.nil _ _ _ _⟩,?_⟩
 rintro A n c _ w2 ⟨k,rfl,hk,hb2,ho2⟩
 unfold F20_l5
 refine brd (fun hlt=>?_) (fun hge=>?_)
 ·have hk2:k < H.length:=by omega
  have hst:(H.take (k+1)).filter (fun h:Hit=>decide (((wsF (slA D.sl) h.1).drop h.2.1).take (x0 :: xs).length=x0 :: xs))=(H.take k).filter (fun h:Hit=>decide (((wsF (slA D.sl) h.1).drop h.2.1).take (x0 :: xs).length=x0 :: xs))++(if decide (((wsF (slA D.sl) H[k].1).drop H[k].2.1).take (x0 :: xs).length=x0 :: xs)=true then [H[k]] else []):=by
   rw [List.take_succ_eq_append_getElem hk2,List.filter_append]
   congr 1
   rw [List.filter_cons];rfl
  have hmem:H[k]∈hitF (stD D) x0:=by rw [hH];exact List.getElem_mem hk2
  have hfl:((H.take k).filter fun h:Hit=>decide (((wsF (slA D.sl) h.1).drop h.2.1).take (x0 :: xs).length=x0 :: xs)).length≤67108864:=Nat.le_trans (List.length_filter_le _ _) (by rw [List.length_take];omega)
  obtain⟨p1,p2⟩:=sts_mem.1 (hitF_mem.1 hmem)
  have p3:=(List.getElem?_eq_some_iff.1 p2).1
  have hwl:(wsF (slA D.sl) H[k].1).length=(wdF (slA D.sl) H[k].1).length:=by unfold wsF;rw [List.length_map]
  have hwd:(wdF (slA D.sl) H[k].1).length≤16384:=by
   have h1:=sts_len hx.wf [H[k].1]
   have:(stsF (slA D.sl) [H[k].1]).length=(wdF (slA D.sl) H[k].1).length:=by unfold stsF;simp [stF,numF_len]
   simp only [List.length_singleton] at h1;omega
  have hhl:H[k].2.2 < 9223372036854775808∨True:=.inr trivial
  refine⟨fun A n c w'=>Below w1.drew.heap.size w1.drew w'∧Own LHt w' w1.drew.heap.size 67 (.slice A n c) ((H.take (k+1)).filter fun h=>decide (((wsF (slA D.sl) h.1).drop h.2.1).take (x0 :: xs).length=x0 :: xs)),?_,?_⟩
  ·rintro A' n' c' w' ⟨q1,q2⟩
   exact⟨inR_i64 (by omega) (by omega),⟨k+1,by simp,by omega,q1,q2⟩,(by first | omega | (dsimp only;omega))⟩
  rw [hst]
  refine (y2.keep hb2).idx y1 (by omega) (by omega) rfl fun b3 o3 cc3=>?_
  simp only [Int.toNat_natCast] at cc3
  have k0:=cc3 0 _ rfl
  have k1:=cc3 1 _ rfl
  have k2:=cc3 2 _ rfl
  generalize H[k]=h at *
  obtain⟨hn,hwd2,hat⟩:=h
  simp only [Nat.add_zero] at k0
  simp only [Addr.add_mk,Nat.zero_add,k0,k1,k2,lds]
  refine al3 fun gh w3 hb3 bh hgeh=>?_
  have hdr3:Below w3.heap.size w3 w3.drew:=(Below.refl _ _).drew
  have D3:=btr hb2 hb2.size hb3
  have hx3:=hx2.keep D3
  refine⟨fun w'=>Below w3.heap.size w3 w',hdr3,?_⟩
  simp only [NonNil_some,Addr.add_mk,Nat.zero_add]
  refine⟨_,fun w' hw=>by rw [(hx3.blk.keep hw).cell];rfl,_,fun w' hw=>by rw [(bh.keep hw).cell];rfl,?_⟩
  have hx4:=hx3.keep hdr3
  have D4:=btr D3 D3.size hdr3
  have bh4:=bh.keep hdr3
  refine hx4.lookT p1 fun vt hrt=>⟨_,_,_,rfl,?_⟩
  obtain⟨t1,t0,t2⟩:=hrt
  have t1:vt.2.1=(wsF (slA D.sl) hn).length:=t1
  have t0:(wsF (slA D.sl) hn).length < 4611686018427387904:=t0
  have t2:Rd LS w3.drew vt.1 vt.2.2 (wsF (slA D.sl) hn):=t2
  simp only [Addr.add_mk,Nat.zero_add,bh4.cell,lds]
  have ho4:=ho2.keep (btr hb3 hb3.size hdr3)
  dsimp only at p1 p2 p3 hwl hwd
  refine⟨inR_i64 (by omega) (by omega),?_⟩
  have no:∀{w':World},Below w1.drew.heap.size w1.drew w'→Own LHt w' w1.drew.heap.size 67 (.slice A n c) ((H.take k).filter fun h:Hit=>decide (((wsF (slA D.sl) h.1).drop h.2.1).take (x0 :: xs).length=x0 :: xs))→decide (((wsF (slA D.sl) hn).drop hwd2).take (x0 :: xs).length=x0 :: xs)=false →
    Below w1.drew.heap.size w1.drew w'∧Own LHt w' w1.drew.heap.size 67 (.slice A n c) ((H.take k).filter (fun h:Hit=>decide (((wsF (slA D.sl) h.1).drop h.2.1).take (x0 :: xs).length=x0 :: xs))++(if decide (((wsF (slA D.sl) hn).drop hwd2).take (x0 :: xs).length=x0 :: xs)=true then [(hn,hwd2,hat)] else [])):=fun q1 q2 q3=>by
   rw [q3]
   exact⟨q1,by simpa using q2⟩
  refine brd (fun hfit=>?_) (fun hfit=>?_)
  ·refine⟨inR_i64 (by omega) (by omega),?_⟩
   have hcap:=t2.1
   refine⟨by omega,by omega,by omega,?_⟩
   have e1:(((hwd2:Nat):Int)).toNat=hwd2:=by omega
   have e2:(((hwd2:Nat):Int)+((v.2.1:Nat):Int)).toNat-(((hwd2:Nat):Int)).toNat=(x0 :: xs).length:=by omega
   rw [e2,e1]
   have hsub:RdV LS w3.drew (((wsF (slA D.sl) hn).drop hwd2).take (x0 :: xs).length) (SlA vt.1 vt.2.2 hwd2 1,(x0 :: xs).length,vt.2.2-hwd2):=by
    refine⟨by rw [List.length_take,List.length_drop];dsimp only;omega,by rw [List.length_take];omega,(t2.slice (k:=hwd2) (by omega)).take _⟩
   have hl4:RdV LS w3.drew (x0 :: xs) v:=(hl.keep hb1).keep (btr hdr hdr.size D4)
   refine equalS (v:=(SlA vt.1 vt.2.2 hwd2 1,(x0 :: xs).length,vt.2.2-hwd2)) hsub hl4 fun w5 hb5=>⟨_,rfl,?_⟩
   have D5:=btr D4 D4.size hb5
   have bh5:=bh4.keep hb5
   have ho5:=ho4.keep hb5
   refine br (fun hq=>?_) (fun hq=>no D5 ho5 hq)
   simp only [Addr.add_mk,Nat.zero_add,bh5.cell,lds]
   rw [if_pos hq]
   have hsz:=D5.size
   have hds:w1.drew.heap.size=w1.heap.size:=rfl
   have hs1:=hb1.size
   refine ap1 (L:=LHt) (x:=(hn,hwd2,hat)) (base:=w1.drew.heap.size) (.agg #[.int .u64 0,.int .i64 0,.int .i64 0]) 24 rfl (by kernel_rfl) (by kernel_rfl) (by kernel_rfl) ho5 (by omega) (by omega) (by unfold maxLen;omega) fun A' c' w6 o6 g6=>⟨A',_,c',rfl,D5.trans g6.below,o6⟩
  ·refine no D4 ho4 (decide_eq_false fun e=>?_)
   have:=congrArg List.length e
   rw [List.length_take,List.length_drop] at this
   omega
 ·have hk2:k=H.length:=by omega
  subst hk2
  rw [List.take_length] at ho2
  have hs1:=hb1.size
  have:=h1 (A,n,c) w2 (btr hB1 hB1.size hb2) (by unfold phrF;rw [List.headD_cons,hH];exact ho2.rebase fun x hx=>by have:=(ho2.lt x hx).1;have hds:w1.drew.heap.size=w1.heap.size:=rfl;omega)
  exact this
end
set_option maxRecDepth 100000
abbrev Std:=ByteArray × Hit
def LStd:Lay Std:=⟨4,fun p=>[.string p.1,.int .u64 (p.2.1:Nat),.int .i64 (p.2.2.1:Nat),.int .i64 (p.2.2.2:Nat)],fun _=>rfl,fun _=>by simp [Value.oneCell'],by decide⟩
section
variable {w w0:World}{R:Ending→World→Prop}{g:Nat}{D:Im}{vs vr:Sv}{es:List S8}
theorem wordR_calls (s:ByteArray) (h:∀w',Below w.heap.size w w'→R (.returned (.bool (oneF s))) w'):Calls Tryz.prog 52 #[.string s] w R:=by
 refine ok52 s ?_
 unfold F52
 refine refText_calls s fun w1 hb=>⟨_,_,rfl,?_⟩
 have no:∀w',Below w.heap.size w w'→¬oneF s=true→R (.returned (.bool false)) w':=fun w' hb hn=>by
  have:=h w' hb
  rw [Bool.eq_false_iff.2 hn] at this;exact this
 refine brn (fun hne=>no w1 hb fun ho=>?_) (fun he=>?_)
 ·have:=(one_words ho).1;omega
 ·have he':(textS s).2=0:=by omega
  refine split_calls s (textS_ok he') fun A n c A2 n2 c2 w2 hw=>⟨_,_,_,_,_,_,rfl,?_⟩
  have B2:=btr hb hb.size hw.below
  obtain⟨en,r1⟩:=hw.ws.rd
  refine bre (fun h1=>?_) (fun h1=>no w2 B2 fun ho=>h1 ?_)
  ·have hl:((wordsF s 0).map (·.1)).length=1:=by omega
   refine r1.str en rfl (k:=0) (by omega) fun b oo cs=>?_
   simp only [cs,lds]
   rw [bytes_eq]
   have:decide (((wordsF s 0).map (·.1))[0]'(by omega)=s)=oneF s:=by
    rw [Bool.eq_iff_iff,decide_eq_true_eq,one_iff]
    constructor
    ·intro hh
     refine⟨he',?_⟩
     cases hF:wordsF s 0 with
     | nil=>rw [hF] at hl;simp at hl
     | cons p l =>
      cases l with
      | nil =>
       have:p.1=s:=by
        have h2:((wordsF s 0).map (·.1))[0]?=some s:=by rw [List.getElem?_eq_getElem (by omega),hh]
        rw [hF] at h2;simpa using h2
       exact⟨p.2,by rw [←this]⟩
      | cons q l=>rw [hF] at hl;simp at hl
    ·rintro ⟨_,a,ha⟩
     simp [ha]
   rw [this]
   exact h w2 B2
  ·have:=(one_words ho).2
   rw [this] at en
   simp at en
   omega
theorem canR_calls (ws:List ByteArray) (v:Sv) (hl:RdV LS w ws v) (h:∀w',Below w.heap.size w w'→R (.returned (.bool (canS ws))) w'):Calls Tryz.prog 41 #[.slice v.1 v.2.1 v.2.2] w R:=by
 refine ok41 v.1 v.2.1 v.2.2 ?_
 unfold F41
 have hn:=hl.1
 have no:∀w',Below w.heap.size w w'→¬canS ws=true→R (.returned (.bool false)) w':=fun w' hb hn=>by
  have:=h w' hb
  rw [Bool.eq_false_iff.2 hn] at this;exact this
 refine⟨fun w'=>w=w'∧0 < ws.length∧ws.length≤16,?_,brd (fun h0=>no w (.refl _ _) fun hc=>?_) fun h0=>brd (fun h1=>no w (.refl _ _) fun hc=>?_) fun h1=>⟨rfl,by omega,by omega⟩⟩
 rotate_left
 ·unfold canS at hc;simp only [Bool.and_eq_true,decide_eq_true_eq] at hc;omega
 ·unfold canS at hc;simp only [Bool.and_eq_true,decide_eq_true_eq] at hc;omega
 rintro _ ⟨rfl,h0,h16⟩
 unfold F41_j3
 refine⟨fun i w'=>∃k:Nat,i=k∧k≤ws.length∧Below w.heap.size w w'∧(∀x∈ws.take k,oneF x=true),fun i _=>ws.length-i.toNat,⟨0,rfl,by omega,.refl _ _,by simp⟩,?_⟩
 rintro _ w1 ⟨k,rfl,hk,hb1,ha⟩
 unfold F41_l4
 refine brd (fun hlt=>?_) (fun hge=>?_)
 ·have hk2:k < ws.length:=by omega
  obtain⟨z1,z0,z2⟩:=hl.keep hb1
  refine z2.str z1 rfl (k:=k) hk2 fun b oo cs=>?_
  simp only [cs,lds]
  refine wordR_calls ws[k] fun w2 hb2=>⟨_,rfl,?_⟩
  have B2:=btr hb1 hb1.size hb2
  rw [brnot]
  refine br (fun ho=>?_) (fun ho=>no w2 B2 fun hc=>?_)
  ·refine⟨inR_i64 (by omega) (by omega),⟨k+1,by simp,by omega,B2,fun x hx=>?_⟩,(by first | omega | (dsimp only;omega))⟩
   rw [List.take_succ_eq_append_getElem hk2,List.mem_append,List.mem_singleton] at hx
   rcases hx with hx | hx
   ·exact ha x hx
   ·rw [hx];exact ho
  ·unfold canS at hc
   simp only [Bool.and_eq_true,Bool.not_eq_true',List.any_eq_false,Bool.not_eq_true] at hc
   have:=hc.2.2 ws[k] (List.getElem_mem hk2)
   exact this ho
 ·have hk2:k=ws.length:=by omega
  subst hk2
  rw [List.take_length] at ha
  have:canS ws=true:=by
   unfold canS
   simp only [Bool.and_eq_true,decide_eq_true_eq,Bool.not_eq_true',List.any_eq_false,Bool.not_eq_true]
   exact⟨h0,h16,fun x hx=>by rw [ha x hx];decide⟩
  have h2:=h w1 hb1
  rw [this] at h2;exact h2
theorem All26_calls (h:RW [] w g D vs vr es) (hw:Wf D) (hK:∀v w',Below w.heap.size w w'→Own LStd w' w.heap.size 130 (slV v) (stD D)→R (.returned (slV v)) w') :
  Calls Tryz.prog 15 #[.pointer (some ⟨g,0,none⟩)] w R:=by
 refine ok15 (some ⟨g,0,none⟩) ?_
 unfold F15
 refine AllW h hw (n:=0) (by decide) fun va w1 hb1 oa _=>⟨_,_,_,_,rfl,?_⟩
 have oa:=oa (.inl rfl)
 have e0:allI D 0=allD' D:=rfl
 rw [e0] at oa
 have hfew:(allD' D).length≤4096:=rootsAll_few hw.s hw.a
 obtain⟨a1,a2⟩:=rdO oa
 refine⟨fun A n c i w'=>∃m:Nat,i=m∧m≤(allD' D).length∧Below w1.heap.size w1 w'∧Own LStd w' w1.heap.size 130 (.slice A n c) (stsF (slA D.sl) ((allD' D).take m)),fun _ _ _ i _=>(allD' D).length-i.toNat,
  ⟨0,rfl,by omega,.refl _ _,Own.nil _ _ _ _⟩,?_⟩
 rintro A n c _ w2 ⟨m,rfl,hm,hb2,oo⟩
 have B2:=btr hb1 hb1.size hb2
 have hs1:=hb1.size
 unfold F15_l4
 refine brd (fun hlt=>?_) (fun hge=>?_)
 ·have hml:m < (allD' D).length:=by omega
  have htk:(allD' D).take (m+1)=(allD' D).take m++[(allD' D)[m]]:=List.take_succ_eq_append_getElem hml
  have hget:(allD' D)[m]?=some (allD' D)[m]:=List.getElem?_eq_getElem hml
  have hsts:=sts_len hw ((allD' D).take m)
  have htl:((allD' D).take m).length≤4096:=by rw [List.length_take];omega
  have hin:m < (allD' D).length∧(allD' D)[m]?=some (allD' D)[m]:=⟨hml,hget⟩
  refine⟨fun A' n' c' w'=>Below w1.heap.size w1 w'∧Own LStd w' w1.heap.size 130 (.slice A' n' c') (stsF (slA D.sl) ((allD' D).take (m+1))),?_,?_⟩
  ·rintro A' n' c' w' ⟨q1,q2⟩
   exact⟨inR_i64 (by omega) (by omega),⟨m+1,by simp,by omega,q1,q2⟩,(by first | omega | (dsimp only;omega))⟩
  refine (a2.keep hb2).hn a1 rfl hml fun b oo2 c0=>?_
  simp only [c0,lds]
  rw [htk,stsF_app]
  have hstn:stsF (slA D.sl) [(allD' D)[m]]=stF (slA D.sl) (allD' D)[m]:=by unfold stsF;simp
  rw [hstn]
  have hn':∃n,(allD' D)[m]=n:=⟨_,rfl⟩
  obtain⟨nn,hnn⟩:=hn'
  simp only [hnn]
  rw [hnn] at hget
  obtain⟨s,hs⟩:=(mem_all_roots hw.a).1 (List.mem_of_getElem? hget)
  refine getR_calls (h.keep B2) (.refl _ _) hs fun w3 e hb3 _=>⟨_,_,_,_,_,_,_,_,_,_,rfl,?_⟩
  refine al fun gt w4 hb4 b4 hge4=>?_
  refine st_blk b4 (by simp) fun u1 q1 f1=>st_blk q1 (by simp) fun u2 q2 f2=>st_blk q2 (by simp) fun u3 q3 f3=>st_blk q3 (by simp) fun u4 q4 f4=>st_blk q4 (by simp) fun w5 b5 f5=>?_
  simp only [List.setIfInBounds_toArray,List.set_cons_zero,List.set_cons_succ] at b5
  have F5:Fm (·=gt) w4 w5:=(((f1.trans f2).trans f3).trans f4).trans f5
  have hs3:=hb3.size
  have C4:=btr hb3 hb3.size hb4
  have C5:Below w2.heap.size w2 w5:=C4.trans (F5.toBelow C4.size fun b hb e=>by have e:b=gt:=e;omega)
  have B5:=btr hb2 hb2.size C5
  have o5:=oo.keep C5
  simp only [Addr.add_mk,Nat.zero_add,b5.cell,lds]
  refine brn (fun hk=>?_) (fun hk=>?_)
  ·have ht:isT (slA D.sl) nn=false:=by unfold isT;rw [hs];exact decide_eq_false hk
   have hst:stF (slA D.sl) nn=[]:=by unfold stF;rw [wd_notT ht];rfl
   rw [hst,List.append_nil]
   exact⟨B5,o5⟩
  ·have ht:isT (slA D.sl) nn=true:=by unfold isT;rw [hs];exact decide_eq_true hk
   have htx:wdF (slA D.sl) nn=wordsF s.text 0:=by unfold wdF;rw [hs];show txF s=_;unfold txF;rw [if_pos hk]
   have hok:s.text.size≤16384:=by
    have h1:=(hw.a.ok nn s hs).1
    unfold ownF at h1
    rw [if_neg (by omega),if_pos hk] at h1
    exact textS_ok (by omega)
   have hstF:stF (slA D.sl) nn=numF nn 0 (wordsF s.text 0):=by unfold stF;rw [htx]
   rw [hstF]
   have hwl:=wordsF_len s.text 0
   refine split_calls s.text hok fun A1 n1 c1 A2 n2 c2 w6 ws=>⟨_,_,_,_,_,_,rfl,?_⟩
   have B6:=btr B5 B5.size ws.below
   have o6:=o5.keep ws.below
   have aw:Apart (.slice A1 n1 c1) (.slice A n c):=(o5.apart_new (by
    cases hr7:rowOf (.slice A1 n1 c1) with
    | none=>exact .inl rfl
    | some x=>exact .inr ⟨x,rfl,(ws.ws.lt x hr7).1⟩)).symm
   have ai:Apart (.slice A2 n2 c2) (.slice A n c):=(o5.apart_new (by
    cases hr7:rowOf (.slice A2 n2 c2) with
    | none=>exact .inl rfl
    | some x=>exact .inr ⟨x,rfl,(ws.at_.lt x hr7).1⟩)).symm
   have ows:=ws.ws
   have oat:=ws.at_
   generalize hL:wordsF s.text 0=l at *
   refine⟨fun A' n' c' k w'=>∃q:Nat,k=q∧q≤l.length∧Below w1.heap.size w1 w'∧Own LStd w' w1.heap.size 130 (.slice A' n' c') (stsF (slA D.sl) ((allD' D).take m)++numF nn 0 (l.take q)) ∧
    Own LS w' w5.heap.size 9 (.slice A1 n1 c1) (l.map (·.1))∧Own LI w' w5.heap.size 3 (.slice A2 n2 c2) (l.map fun p=>(p.2:Int))∧Apart (.slice A1 n1 c1) (.slice A' n' c')∧Apart (.slice A2 n2 c2) (.slice A' n' c'),fun _ _ _ k _=>l.length-k.toNat,⟨0,rfl,by omega,B6,by simpa [numF] using o6,ows,oat,aw,ai⟩,?_⟩
   rintro A' n' c' _ w7 ⟨q,rfl,hq,B7,o7,ows7,oat7,aw7,ai7⟩
   obtain⟨z1,z2⟩:=ows7.rd
   obtain⟨y1,y2⟩:=oat7.rd
   rw [List.length_map] at z1 y1
   unfold F15_l10
   refine brd (fun hqlt=>?_) (fun hqge=>?_)
   ·have hq2:q < l.length:=by omega
    have hdr:Below w7.heap.size w7 w7.drew:=(Below.refl _ _).drew
    have hnum:numF nn 0 (l.take (q+1))=numF nn 0 (l.take q)++[(l[q].1,(nn,q,l[q].2))]:=by
     rw [List.take_succ_eq_append_getElem hq2,numF_app,List.length_take,Nat.min_eq_left hq]
     simp [numF]
    refine⟨fun w'=>Below w7.drew.heap.size w7.drew w',.refl _ _,?_⟩
    refine (z2.keep hdr).held (fun _ h=>h) (by rw [List.length_map,z1]) (by omega) (by omega) rfl fun b1 o1 cc=>?_
    have cc:=cc 0 _ rfl
    simp only [Int.toNat_natCast,List.getElem_map,Nat.add_zero] at cc
    refine⟨_,cc,?_⟩
    have B7d:=btr B7 B7.size hdr
    refine (a2.keep B7d).held (fun _ h=>h) a1 (by omega) (by omega) rfl fun b2 o2 c2=>?_
    have c2:=c2 0 _ rfl
    simp only [Int.toNat_natCast,Nat.add_zero,hnn] at c2
    refine⟨_,c2,?_⟩
    refine (y2.keep hdr).held (fun _ h=>h) (by rw [List.length_map,y1]) (by omega) (by omega) rfl fun b3 o3 c3=>?_
    have c3:=c3 0 _ rfl
    simp only [Int.toNat_natCast,List.getElem_map,Nat.add_zero] at c3
    refine⟨_,c3,?_⟩
    have hsz:=B7d.size
    have hll:(stsF (slA D.sl) ((allD' D).take m)++numF nn 0 (l.take q)).length≤67125248:=by rw [List.length_append,numF_len,List.length_take];omega
    refine ap1 (L:=LStd) (x:=(l[q].1,(nn,q,l[q].2))) (base:=w1.heap.size) (.agg #[.string (ByteArray.mk #[]),.int .u64 0,.int .i64 0,.int .i64 0]) 40 rfl (by kernel_rfl) (by kernel_rfl) (by kernel_rfl) (o7.keep hdr) hsz (by omega) (by unfold maxLen;omega) fun A3 c3 w8 o8 g8=>⟨A3,_,c3,rfl,?_⟩
    have g1:=g8.own (ows7.keep hdr) aw7
    have g2:=g8.own (oat7.keep hdr) ai7
    exact⟨inR_i64 (by omega) (by omega),⟨q+1,by simp,by omega,B7d.trans g8.below,by rw [hnum,←List.append_assoc];exact o8,g1.1,g2.1,g1.2,g2.2⟩,(by first | omega | (dsimp only;omega))⟩
   ·have hq2:q=l.length:=by omega
    subst hq2
    rw [List.take_length] at o7
    exact⟨B7,o7⟩
 ·have hm2:m=(allD' D).length:=by omega
  subst hm2
  rw [List.take_length] at oo
  exact hK (A,n,c) w2 B2 (oo.rebase fun x hx=>by have:=(oo.lt x hx).1;omega)
end
set_option maxRecDepth 100000
def preB (head w:ByteArray):Bool:=decide (head.size≤w.size) && decide (w.extract 0 head.size=head)
structure IsTm (st:List (ByteArray × Hit)) (head:ByteArray) (l:List (ByteArray × Nat)):Prop where
 up:l.Pairwise fun a b=>blt a.1 b.1=true
 mem:∀w n,(w,n)∈l↔preB head w=true∧hitF st w≠[]∧n=(hitF st w).length
theorem up_ext {α:Type}{R:α→α→Prop} (irr:∀a,¬R a a) (tr:∀a b c,R a b→R b c→R a c):∀{l m:List α},l.Pairwise R→m.Pairwise R→(∀a,a∈l↔a∈m)→l=m
 | [],[],_,_,_=>rfl
 | [],b :: m,_,_,h=>by have:=(h b).2 (by simp);simp at this
 | a :: l,[],_,_,h=>by have:=(h a).1 (by simp);simp at this
 | a :: l,b :: m,h1,h2,h=>by
  have p1:=List.pairwise_cons.1 h1
  have p2:=List.pairwise_cons.1 h2
  have e:a=b:=by
   rcases List.mem_cons.1 ((h a).1 (by simp)) with e | e
   ·exact e
   ·rcases List.mem_cons.1 ((h b).2 (by simp)) with e2 | e2
    ·exact e2.symm
    ·exact absurd (tr _ _ _ (p1.1 b e2) (p2.1 a e)) (irr a)
  subst e
  rw [up_ext irr tr p1.2 p2.2 fun x=>?_]
  constructor
  ·intro hx
   rcases List.mem_cons.1 ((h x).1 (List.mem_cons_of_mem _ hx)) with e | e
   ·subst e;exact absurd (p1.1 x hx) (irr x)
   ·exact e
  ·intro hx
   rcases List.mem_cons.1 ((h x).2 (List.mem_cons_of_mem _ hx)) with e | e
   ·subst e;exact absurd (p2.1 x hx) (irr x)
   ·exact e
section
variable {st:List (ByteArray × Hit)}{head:ByteArray}{l m:List (ByteArray × Nat)}
theorem tm_unique (h1:IsTm st head l) (h2:IsTm st head m):l=m :=
 up_ext (R:=fun a b=>blt a.1 b.1=true) (fun a h=>by rw [blt_irr] at h;cases h) (fun _ _ _=>blt_trans) h1.up h2.up fun⟨w,n⟩=>(h1.mem w n).trans (h2.mem w n).symm
end
end Go.Proofs.YtccplipiahdhiaaGreatDoor
set_option linter.unusedVariables false
namespace Go.Proofs
open Go.Shelf
def Tryz.laysNm_ren:Go.Shelf.Ren:=⟨fun | 6=>91 | 15=>135 | 14=>134 | 28=>173 | 29=>174 | 20=>165 | 21=>166 | 22=>167 | 23=>168 | 24=>169 | 25=>170 | 26=>171 | 27=>172 | 46=>192 | 47=>193 | 48=>194 | 49=>195 | 50=>196 | 57=>200 | n=>n,fun | 22=>46 | 24=>80 | 25=>183 | 3=>3 | 39=>239 | 0=>0 | 53=>160 | 55=>64 | 4=>4 | 46=>266 | 45=>265 | 50=>164 | 5=>5 | 9=>9 | 66=>283 | 70=>287 | 76=>289 | 77=>242 | n=>n,fun | n=>n⟩
theorem Tryz.laysNm:Go.Proofs.SlLaysF0.n6 Tryz.prog Tryz.laysNm_ren:={
 mixed:=by kernel_rfl
 f6 := ⟨"slices.SortFunc[[]espalier/api.Named,espalier/api.Named]", by decide, Tryz.func91.trans (congrArg some (by kernel_rfl))⟩
 f14 := ⟨"slices.pdqsortCmpFunc[espalier/api.Named]", by decide, Tryz.func134.trans (congrArg some (by kernel_rfl))⟩
 f15:=Tryz.func135.trans (congrArg some (by kernel_rfl))
 f20 := ⟨"slices.insertionSortCmpFunc[espalier/api.Named]", by decide, Tryz.func165.trans (congrArg some (by kernel_rfl))⟩
 f21 := ⟨"slices.heapSortCmpFunc[espalier/api.Named]", by decide, Tryz.func166.trans (congrArg some (by kernel_rfl))⟩
 f22 := ⟨"slices.breakPatternsCmpFunc[espalier/api.Named]", by decide, Tryz.func167.trans (congrArg some (by kernel_rfl))⟩
 f23 := ⟨"slices.choosePivotCmpFunc[espalier/api.Named]", by decide, Tryz.func168.trans (congrArg some (by kernel_rfl))⟩
 f24 := ⟨"slices.reverseRangeCmpFunc[espalier/api.Named]", by decide, Tryz.func169.trans (congrArg some (by kernel_rfl))⟩
 f25 := ⟨"slices.partialInsertionSortCmpFunc[espalier/api.Named]", by decide, Tryz.func170.trans (congrArg some (by kernel_rfl))⟩
 f26 := ⟨"slices.partitionEqualCmpFunc[espalier/api.Named]", by decide, Tryz.func171.trans (congrArg some (by kernel_rfl))⟩
 f27 := ⟨"slices.partitionCmpFunc[espalier/api.Named]", by decide, Tryz.func172.trans (congrArg some (by kernel_rfl))⟩
 f28:=Tryz.func173.trans (congrArg some (by kernel_rfl))
 f29:=Tryz.func174.trans (congrArg some (by kernel_rfl))
 f46 := ⟨"slices.siftDownCmpFunc[espalier/api.Named]", by decide, Tryz.func192.trans (congrArg some (by kernel_rfl))⟩
 f47:=Tryz.func193.trans (congrArg some (by kernel_rfl))
 f48:=Tryz.func194.trans (congrArg some (by kernel_rfl))
 f49 := ⟨"slices.medianAdjacentCmpFunc[espalier/api.Named]", by decide, Tryz.func195.trans (congrArg some (by kernel_rfl))⟩
 f50 := ⟨"slices.medianCmpFunc[espalier/api.Named]", by decide, Tryz.func196.trans (congrArg some (by kernel_rfl))⟩
 f57 := ⟨"slices.order2CmpFunc[espalier/api.Named]", by decide, Tryz.func200.trans (congrArg some (by kernel_rfl))⟩
 t0:=Tryz.underlying0
 a0:=Tryz.isAgg0
 z0:=Tryz.sizeOf0
 v0:=Tryz.zeroValue0
 t3:=Tryz.underlying3
 a3:=Tryz.isAgg3
 z3:=Tryz.sizeOf3
 v3:=Tryz.zeroValue3
 t4:=Tryz.underlying4
 a4:=Tryz.isAgg4
 z4:=Tryz.sizeOf4
 v4:=Tryz.zeroValue4
 t5:=Tryz.underlying5
 a5:=Tryz.isAgg5
 z5:=Tryz.sizeOf5
 v5:=Tryz.zeroValue5
 t9:=Tryz.underlying9
 a9:=Tryz.isAgg9
 z9:=Tryz.sizeOf9
 v9:=Tryz.zeroValue9
 t22:=Tryz.underlying46
 a22:=Tryz.isAgg46
 z22:=Tryz.sizeOf46
 v22:=Tryz.zeroValue46
 t25:=Tryz.underlying183
 a25:=Tryz.isAgg183
 z25:=Tryz.sizeOf183
 v25:=Tryz.zeroValue183
 t39:=Tryz.underlying239
 a39:=Tryz.isAgg239
 z39:=Tryz.sizeOf239
 v39:=Tryz.zeroValue239
 t45:=Tryz.underlying265
 a45:=Tryz.isAgg265
 z45:=Tryz.sizeOf265
 v45:=Tryz.zeroValue265
 t46:=Tryz.underlying266
 a46:=Tryz.isAgg266
 z46:=Tryz.sizeOf266
 v46:=Tryz.zeroValue266
 t50:=Tryz.underlying164
 a50:=Tryz.isAgg164
 z50:=Tryz.sizeOf164
 v50:=Tryz.zeroValue164
 t53:=Tryz.underlying160
 a53:=Tryz.isAgg160
 z53:=Tryz.sizeOf160
 v53:=Tryz.zeroValue160
 t55:=Tryz.underlying64
 a55:=Tryz.isAgg64
 z55:=Tryz.sizeOf64
 v55:=Tryz.zeroValue64
 t66:=Tryz.underlying283
 a66:=Tryz.isAgg283
 z66:=Tryz.sizeOf283
 v66:=Tryz.zeroValue283
 t70:=Tryz.underlying287
 a70:=Tryz.isAgg287
 z70:=Tryz.sizeOf287
 v70:=Tryz.zeroValue287
 t76:=Tryz.underlying289
 a76:=Tryz.isAgg289
 z76:=Tryz.sizeOf289
 v76:=Tryz.zeroValue289
 t77:=Tryz.underlying242
 a77:=Tryz.isAgg242
 z77:=Tryz.sizeOf242
 v77:=Tryz.zeroValue242 }
end Go.Proofs
namespace Go.Proofs.YtccplipiahdhiaaGreatDoor
open Go.RowKit Go.Vc
open Go.Lib
open Go.Sort (SWO HoldsK PermIn SortedIn grow putRow putRowK flatK Holds)
set_option linter.unusedVariables false
set_option linter.unusedSimpArgs false
set_option maxRecDepth 100000
abbrev Nm:=ByteArray × Nat
def LNm:Lay Nm:=⟨2,fun x=>[.string x.1,.int .i64 (x.2:Nat)],fun _=>rfl,fun _=>by simp [Value.oneCell'],by decide⟩
instance:Inhabited Nm:=⟨(ByteArray.empty,0)⟩
def encN (x:Nm):List Value:=LNm.cells x
def cfN (x y:Nm):Int:=Lib.compareBytes x.1.data.toList y.1.data.toList
theorem ltOf_cfN (x y:Nm):ltOf cfN x y=true↔blt x.1 y.1=true:=by
 rw [←(cmpB x.1 y.1).1];unfold ltOf cfN;exact decide_eq_true_iff
theorem swoN:SWO (ltOf cfN) where
 irrefl x:=by rw [←Bool.not_eq_true,ltOf_cfN,blt_irr];decide
 trans x y z h1 h2:=by rw [ltOf_cfN] at *;exact blt_trans h1 h2
 ntrans x y z h1 h2:=by
  rw [←Bool.not_eq_true,ltOf_cfN] at *
  intro h
  rcases blt_tri x.1 y.1 with e | e | e
  ·exact h1 e
  ·rw [e] at h;exact h2 h
  ·exact h2 (blt_trans e h)
theorem alN {w:World}{c:Array Value}{t:TypeId}{K:Addr→World→Prop} (h:∀g w1,w1=w.alloc (.cells c t)→Below w.heap.size w w1→Blk w1 g c t→w.heap.size≤g→K ⟨g,0,none⟩ w1):Al w c t K :=
 h _ _ rfl ((Below.refl _ _).alloc (Nat.le_refl _) _) (Blk.alloc_new w c t) (Nat.le_refl _)
theorem cmpN_calls (x y:Nm) (W:World):Calls Tryz.prog 92 #[.agg (encN x).toArray,.agg (encN y).toArray] W fun e w'=>e=.returned (.int .i64 (cfN x y))∧∃q os',w'=grow (W.drewN q) os':=by
 obtain⟨xn,xc⟩:=x
 obtain⟨yn,yc⟩:=y
 refine ok92 xn xc yn yc ?_
 unfold F92
 refine alN fun ga w1 e1 hb1 ba g1=>alN fun gb w2 e2 hb2 bb g2=>?_
 have ba2:=ba.keep hb2
 simp only [Addr.add_mk,Nat.zero_add,ba2.cell,bb.cell,lds]
 refine compare_calls xn yn ⟨_,rfl,?_⟩
 refine⟨rfl,0,#[.cells #[.string xn,.int .i64 xc] 80]++#[.cells #[.string yn,.int .i64 yc] 80],?_⟩
 rw [e2,e1,Go.Sort.alloc_eq_grow,Go.Sort.alloc_eq_grow,Go.Sort.grow_grow];rfl
theorem cmpLaysN (blk off size:Nat) (w:World):CmpLays Tryz.prog 92 #[] encN 2 cfN blk off size w:=fun _ _ _ _ x y=>cmpN_calls x y _
theorem flatN_get (d:Array Nm) (t:Nat) (h:t < d.size*2):(flatK encN 2 d)[t]?=(LNm.all d.toList)[t]?:=by
 have h3:t / 2 < d.size:=by omega
 have hm:t % 2 < 2:=Nat.mod_lt _ (by decide)
 have e:t=t / 2*2+t % 2:=by omega
 have h1:=LNm.all_at d.toList (t / 2) (by simpa using h3) (t % 2) hm
 rw [show LNm.n=2 from rfl,←e] at h1
 rw [h1,Array.getElem?_eq_getElem (by simpa using h),←getElem!_pos (flatK encN 2 d) t (by simpa using h),Go.Sort.get_flatK _ _ _ _ h]
 have hl:t % 2 < (encN d[t / 2]).length:=by rw [show (encN d[t / 2]).length=2 from rfl];exact hm
 rw [getElem!_pos d _ h3,getElem!_pos (encN d[t / 2]) _ hl]
 simp only [Array.getElem_toList]
 rw [List.getElem?_eq_getElem (by exact hl)];rfl
theorem sortedN_own {w:World}{g c:Nat}{cur:Array Value}{e:TypeId}{n:Nat}{os:Array Obj}{d:Array Nm}{base:Nat} (hb:base≤g) (hh:Blk w g cur e) (hn:d.size≤c+1) (hm:c+1≤maxLen) (hs:cur.size=(c+1)*2) :
  Own LNm (sortWorldK encN 2 w g 0 n d os) base e (.slice (some ⟨g,0,none⟩) d.size (c+1)) d.toList∧Below base w (sortWorldK encN 2 w g 0 n d os):=by
 have hlt:=hh.lt
 have hlt2:g < (putRowK encN 2 (Go.Sort.ahead w n) g 0 d).heap.size:=by unfold putRowK;rw [Go.Sort.size_putRow];exact hlt
 have hblk:(sortWorldK encN 2 w g 0 n d os).heap[g]?=some (.cells (Go.Sort.putCells id 0 (flatK encN 2 d) cur) e (0,0)):=by
  unfold sortWorldK
  rw [Go.Sort.heap_grow_old _ _ hlt2]
  unfold putRowK putRow Go.Sort.mapBlock
  show (w.heap.modify g _)[g]?=_
  unfold Blk at hh
  rw [Array.getElem?_modify,if_pos rfl,hh];rfl
 refine⟨.inr (.inr ⟨g,c,_,by simp,hb,hblk,by simpa using hn,hm,by rw [show LNm.n=2 from rfl,←hs];simp [Go.Sort.putCells],?_⟩),⟨rfl,rfl,rfl,?_,fun b hb2=>?_⟩⟩
 ·refine List.ext_getElem? fun t=>?_
  rw [Array.length_toList,show LNm.n=2 from rfl]
  by_cases h:t < d.size*2
  ·rw [List.getElem?_take_of_lt h,←flatN_get d t h]
   have h2:t < cur.size:=by omega
   simp only [Go.Sort.putCells,Array.getElem?_toList,Array.getElem?_mapIdx,Array.getElem?_eq_getElem h2,Option.map_some,Nat.zero_le,Nat.zero_add,Go.Sort.size_flatK,h,and_self,if_true,Nat.sub_zero,id]
   rw [getElem!_pos _ _ (by simpa using h),Array.getElem?_eq_getElem (by simpa using h)]
  ·rw [List.getElem?_eq_none (by rw [List.length_take];omega),List.getElem?_eq_none (by rw [LNm.all_length,show LNm.n=2 from rfl];simp;omega)]
 ·unfold sortWorldK
  rw [Go.Sort.size_grow];unfold putRowK;rw [Go.Sort.size_putRow];exact Nat.le_add_right _ _
 ·unfold sortWorldK
  rw [Go.Sort.heap_grow_old _ _ (by omega)]
  unfold putRowK putRow Go.Sort.mapBlock
  show (w.heap.modify g _)[b]?=_
  rw [Array.getElem?_modify,if_neg (by omega)]
theorem ownN_holds {w:World}{g c:Nat}{cur:Array Value}{e:TypeId}{d:Array Nm} (hh:Blk w g cur e) (hs:cur.size=(c+1)*2) (ht:cur.toList.take (d.size*2)=LNm.all d.toList):HoldsK encN 2 w g 0 d:=by
 intro j hj
 have hj2:j < d.size*2:=by simpa using hj
 refine⟨?_,hh.frozen _⟩
 rw [hh.cell,Nat.zero_add,getElem!_pos (flatK encN 2 d) _ hj,id,←Array.getElem?_eq_getElem hj,flatN_get d j hj2,←ht,List.getElem?_take_of_lt hj2]
 simp
theorem sortN_calls (l:List Nm) (hz:l.length≤67108864) {A:Option Addr}{n c base:Nat}{w:World}{R:Ending→World→Prop} (ho:Own LNm w base 80 (.slice A n c) l)
  (h:∀l' w',Below base w w'→l'.Perm l→l'.Pairwise (fun a b=>blt b.1 a.1=false)→Own LNm w' base 80 (.slice A n c) l'→R (.returned (.tuple #[])) w') :
  Calls Tryz.prog 91 #[.slice A n c,.func (.func 92) #[] #[]] w R:=by
 have ho0:=ho
 have none:n=0→Calls Tryz.prog 91 #[.slice A n c,.func (.func 92) #[] #[]] w R:=by
  rintro rfl
  have hc:=AnyF.slices_SortFunc_none Tryz.laysNm A c (.func (.func 92) #[] #[]) w
  change Calls Tryz.prog 91 _ _ _ at hc
  refine hc.mono ?_
  rintro e w' ⟨rfl,rfl⟩
  obtain⟨hn,-⟩:=ho0.rd
  have:l=[]:=List.eq_nil_of_length_eq_zero hn.symm
  subst this
  exact h [] w' (Below.refl _ _) (List.Perm.refl _) .nil ho0
 rcases ho with ⟨he,rfl⟩ | ⟨⟨a,he⟩,rfl⟩ | ⟨g,c',cur,he,hb,hh,hn,hm,hs,ht⟩
 ·simp only [Value.slice.injEq] at he;exact none he.2.1
 ·simp only [Value.slice.injEq] at he;exact none he.2.1
 ·simp only [Value.slice.injEq] at he
  obtain⟨rfl,rfl,rfl⟩:=he
  have hd:l.toArray.toList=l:=by simp
  generalize hdd:l.toArray=d at hd
  have hsz:d.size=l.length:=by rw [←hd];simp
  rw [←hsz] at hn ht
  have hbk:Blk w g cur 80:=hh
  have eg:∀args w,(callFunc 92 args).run Tryz.prog w=.ok (.enter 92 args) w:=enters_of Tryz.func92 (by kernel_rfl) rfl
  have hc:=AnyQ.slices_SortFunc Tryz.laysNm 2 Tryz.isAgg80 Tryz.sizeOf80 encN (fun _=>rfl) (fun x v hv=>LNm.one x v hv) cfN swoN 92 #[] g 0 (c'+1) d w eg (cmpLaysN g 0 d.size w) (ownN_holds hbk hs (by rw [show (2:Nat)=LNm.n from rfl,ht,hd])) hbk.lt (by omega)
  change Calls Tryz.prog 91 _ _ _ at hc
  rw [←hsz]
  refine hc.mono ?_
  rintro e w' ⟨rfl,d',q,os,hp,hso,rfl⟩
  obtain⟨hp1,-,hp3⟩:=hp
  have htk:d'.toList.take d.size=d'.toList:=List.take_of_length_le (by simp [hp1])
  have hperm:d'.toList.Perm d.toList:=by rw [←htk];simpa using hp3
  obtain⟨h1,h2⟩:=sortedN_own (n:=q) (os:=os) (d:=d') hb hbk (by omega) hm hs
  rw [hp1] at h1
  refine h _ _ h2 ?_ ?_ (by rw [←hsz];exact h1)
  ·rw [hd] at hperm;exact hperm
  ·refine List.pairwise_iff_getElem.2 fun i j hi hj hij=>?_
   have hi2:i < d'.size:=by simpa using hi
   have hj2:j < d'.size:=by simpa using hj
   have:=hso i j (by omega) hij (by omega)
   rw [getElem!_pos d' j hj2,getElem!_pos d' i hi2,←Bool.not_eq_true,ltOf_cfN] at this
   simpa using this
end Go.Proofs.YtccplipiahdhiaaGreatDoor
namespace Go.Proofs.YtccplipiahdhiaaGreatDoor
open Go.RowKit Go.Vc
set_option linter.unusedVariables false
set_option linter.unusedSimpArgs false
set_option maxRecDepth 100000
section
variable {w w1:World}{m m2 b g:Nat}{l s:List ByteArray}{M:Nat→Prop}{R:Ending→World→Prop}
theorem itM_fm (hf:Fm M w w1) (hb:b < w.heap.size) (hg:g < w.heap.size) (h1:¬M b) (h2:¬M g):itM b g w1=itM b g w:=by
 unfold itM;rw [hf.block b hb h1,hf.block g hg h2]
end
set_option maxRecDepth 100000
structure TmI (st:List (ByteArray × Hit)) (head:ByteArray) (left:ByteArray→Prop) (l:List Nm):Prop where
 nd:(l.map (·.1)).Nodup
 mem:∀w n,(w,n)∈l↔preB head w=true∧hitF st w≠[]∧¬left w∧n=(hitF st w).length
section
variable {st:List (ByteArray × Hit)}{head:ByteArray}{left:ByteArray→Prop}{l l':List Nm}{k:ByteArray}
theorem TmI.start (h:∀k,hitF st k≠[]→left k):TmI st head left [] :=
 ⟨List.nodup_nil,fun w n=>⟨fun e=>by simp at e,fun⟨_,e,e2,_⟩=>absurd (h w e) e2⟩⟩
theorem TmI.skip (h:TmI st head left l) (hk:preB head k=false):TmI st head (fun j=>left j∧j≠k) l:=by
 refine⟨h.nd,fun w n=>?_⟩
 rw [h.mem]
 by_cases e:w=k
 ·subst e;rw [hk];simp
 ·simp [e]
theorem TmI.put (h:TmI st head left l) (hk:preB head k=true) (hl:left k) (hne:hitF st k≠[]):TmI st head (fun j=>left j∧j≠k) (l++[(k,(hitF st k).length)]):=by
 constructor
 ·rw [List.map_append,List.nodup_append]
  refine⟨h.nd,by simp,fun a ha b hb e=>?_⟩
  have hb:b=k:=by simpa using hb
  subst hb
  subst e
  obtain⟨⟨a,n⟩,h1,h2⟩:=List.mem_map.1 ha
  have h2:a=_:=h2
  rw [h2] at h1
  exact ((h.mem _ n).1 h1).2.2.1 hl
 ·intro w n
  rw [List.mem_append,h.mem,List.mem_singleton,Prod.mk.injEq]
  constructor
  ·rintro (⟨h1,h2,h3,h4⟩ | ⟨rfl,rfl⟩)
   ·exact⟨h1,h2,fun q=>h3 q.1,h4⟩
   ·exact⟨hk,hne,fun q=>q.2 rfl,rfl⟩
  ·rintro ⟨h1,h2,h3,h4⟩
   by_cases e:w=k
   ·subst e;exact .inr ⟨rfl,h4⟩
   ·exact .inl ⟨h1,h2,fun q=>h3 ⟨q,e⟩,h4⟩
theorem hit_word (h:hitF st k≠[]):∃x,(k,x)∈st:=by
 obtain⟨x,hx⟩:=List.exists_mem_of_ne_nil _ h
 exact⟨x,hitF_mem.1 hx⟩
theorem TmI.len (h:TmI st head left l):l.length≤st.length:=by
 have:=nodup_sub (b:=st.map (·.1)) h.nd fun x hx=>by
  obtain⟨⟨a,n⟩,h1,rfl⟩:=List.mem_map.1 hx
  obtain⟨y,hy⟩:=hit_word ((h.mem a n).1 h1).2.1
  exact List.mem_map.2 ⟨_,hy,rfl⟩
 simpa using this
theorem TmI.done (h:TmI st head left l) (h0:∀k,¬left k) (hp:l'.Perm l) (hs:l'.Pairwise fun a b=>blt b.1 a.1=false):IsTm st head l':=by
 constructor
 ·have hn:(l'.map (·.1)).Nodup:=(hp.map (·.1)).nodup_iff.2 h.nd
  rw [List.Nodup,List.pairwise_map] at hn
  refine List.pairwise_iff_getElem.2 fun i j hi hj hij=>?_
  have h1:=List.pairwise_iff_getElem.1 hs i j hi hj hij
  have h2:=List.pairwise_iff_getElem.1 hn i j hi hj hij
  rcases blt_tri l'[i].1 l'[j].1 with q | q | q
  ·exact q
  ·exact absurd q h2
  ·rw [h1] at q;cases q
 ·intro w n
  rw [hp.mem_iff,h.mem]
  exact⟨fun⟨a,b,_,d⟩=>⟨a,b,d⟩,fun⟨a,b,d⟩=>⟨a,b,h0 w,d⟩⟩
end
section
variable {w:World}{o:Nat→Nat}{gx gd mt mh:Nat}{D:Im}{S:PS}{nv:Sv}{tv:Nat→Sv}{hv:ByteArray→Sv}{R:Ending→World→Prop}
theorem hasPrefix_calls (s p:ByteArray) (hK:R (.returned (.bool (preB p s))) w):Calls Tryz.prog 90 #[.string s,.string p] w R:=by
 refine ok90 s p ?_
 unfold F90
 refine ok133 s p ?_
 unfold F133
 unfold preB at hK
 refine brd (fun hge=>?_) (fun hlt=>?_)
 ·rw [decide_eq_true (by omega),Bool.true_and] at hK
  refine⟨by omega,by omega,by omega,_,rfl,?_⟩
  rw [bytes_eq,Int.toNat_zero,Int.toNat_natCast]
  exact hK
 ·rw [decide_eq_false (by omega),Bool.false_and] at hK
  exact⟨_,rfl,hK⟩
theorem st_few (hw:Wf D):(stD D).length≤67108864:=by
 have h1:=sts_len hw (allD' D)
 have h2:(allD' D).length≤4096:=rootsAll_few hw.s hw.a
 unfold stD
 omega
theorem terms_calls (hx:IxR w gx gd mt mh D o S nv tv hv) (head:ByteArray) (hK:∀v w' l,Below w.heap.size w w'→Own LNm w' w.heap.size 80 (slV v) l→IsTm (stD D) head l→R (.returned (slV v)) w') :
  Calls Tryz.prog 53 #[.pointer (some ⟨gx,0,none⟩),.string head] w R:=by
 refine ok53 (some ⟨gx,0,none⟩) head ?_
 unfold F53
 have c3:w.cell? ⟨gx,3,none⟩=some (.map (some mh)):=by rw [hx.blk.cell];rfl
 simp only [NonNil_some,Addr.add_mk,Nat.zero_add,c3,lds]
 have hmh:=hx.hm.lt
 have hst:=st_few hx.wf
 refine Ms.range hx.hm mapTypeH fun w1 hb1 hI=>⟨_,rfl,?_⟩
 have hIl:w.heap.size < w1.heap.size:=by
  obtain⟨es,clock,since,seen,last,_,_,h3,_⟩:=hI
  exact (Array.getElem?_eq_some_iff.1 h3).1
 refine⟨fun A n c w'=>∃(l:List Nm) (left:ByteArray→Prop) (cur:Option ByteArray),Its w' mh w.heap.size (mpHt (stD D) hv) left cur∧Below w.heap.size w w'∧w.heap.size < w'.heap.size∧Own LNm w' (w.heap.size+1) 80 (.slice A n c) l∧TmI (stD D) head left l,fun _ _ _=>itM mh w.heap.size,
  ⟨[],_,none,hI,hb1,hIl,Own.nil _ _ _ _,TmI.start fun k hk=>?_⟩,?_⟩
 ·unfold mpHt;rw [if_neg hk];simp
 rintro A n c w2 ⟨l,left,cur,i2,hb2,hl2,ho,hT⟩
 unfold F53_l3
 have hlen:=hT.len
 refine i2.next 0 (fun hno=>.inl ⟨rfl,?_⟩) fun k v w3 hk hv' f3 i3 hlt=>.inr ⟨_,_,rfl,?_⟩
 ·refine sortN_calls l (by omega) ho fun l' w3 hb3 hp hs ho'=>⟨rfl,?_⟩
  exact hK (A,n,c) w3 l' (hb2.trans (hb3.mono (Nat.le_succ _))) (ho'.rebase fun x hx=>by have:=(ho'.lt x hx).1;omega) (hT.done hno hp hs)
 ·have hkv:hitF (stD D) k≠[]∧v=slV (hv k):=by
   unfold mpHt at hv'
   by_cases e:hitF (stD D) k=[]
   ·rw [if_pos e] at hv';cases hv'
   ·rw [if_neg e] at hv';exact⟨e,(Option.some.inj hv').symm⟩
  obtain⟨hne,rfl⟩:=hkv
  refine i3.entry hv' ⟨k,_,_,_,rfl,?_⟩
  have hs3:=f3.size
  have B3:Below w.heap.size w w3:=hb2.trans (f3.toBelow (by omega) fun b hb e=>by have e:b=w.heap.size:=e;omega)
  have ho3:Own LNm w3 (w.heap.size+1) 80 (.slice A n c) l:=own_fm ho f3 fun x hx e=>by have e:x=w.heap.size:=e;have:=(ho.lt x hx).1;omega
  refine hasPrefix_calls k head ⟨_,rfl,?_⟩
  refine br (fun hp=>?_) (fun hp=>?_)
  ·have hc:(hv k).2.1=(hitF (stD D) k).length:=(hx.ho k).1
   rw [hc]
   refine ap1 (L:=LNm) (x:=(k,(hitF (stD D) k).length)) (base:=w.heap.size+1) (.agg #[.string (ByteArray.mk #[]),.int .i64 0]) 24 rfl (by kernel_rfl) (by kernel_rfl) (by kernel_rfl) ho3 (by omega) (by omega) (by unfold maxLen;omega) fun A' c' w4 o4 g4=>⟨A',_,c',rfl,?_⟩
   have hrow:∀x,rowOf (.slice A n c)=some x→w.heap.size+1≤x:=fun x hx=>(ho3.lt x hx).1
   have FG:Fm (fun b=>rowOf (.slice A n c)=some b) w3 w4:=Fm.grown g4.grown fun b hb=>hb
   have n1:¬rowOf (.slice A n c)=some mh:=fun e=>by have:=hrow mh e;omega
   have n2:¬rowOf (.slice A n c)=some w.heap.size:=fun e=>by have:=hrow _ e;omega
   refine⟨⟨_,_,_,i3.fm FG n1 n2,B3.trans (g4.below.mono (Nat.le_succ _)),by have:=g4.lt;omega,o4,hT.put hp hk hne⟩,?_⟩
   show itM mh w.heap.size w4 < _
   rw [itM_fm FG (by omega) (by omega) n1 n2];exact hlt
  ·exact⟨⟨l,_,_,i3,B3,by omega,ho3,hT.skip hp⟩,hlt⟩
theorem Terms_calls (hx:IxR w gx gd mt mh D o S nv tv hv) (hK:∀v w' l,Below w.heap.size w w'→Own LNm w' w.heap.size 80 (slV v) l→IsTm (stD D) ByteArray.empty l→R (.returned (slV v)) w') :
  Calls Tryz.prog 23 #[.pointer (some ⟨gx,0,none⟩)] w R:=by
 refine ok23 (some ⟨gx,0,none⟩) ?_
 unfold F23
 exact terms_calls hx (ByteArray.mk #[]) fun v w' l hb ho ht=>⟨_,_,_,rfl,hK v w' l hb ho ht⟩
def headB (head:ByteArray):Bool:=decide (head=ByteArray.mk #[]) || oneF head
theorem Begins_calls (hx:IxR w gx gd mt mh D o S nv tv hv) (hT:Tabs w) (head:ByteArray) (h1:headB head=true→∀v w' l,Below w.heap.size w w'→Own LNm w' w.heap.size 80 (slV v) l→IsTm (stD D) head l→R (.returned (.tuple #[slV v,.int .i64 0])) w')
  (h0:headB head=false→∀w',Below w.heap.size w w'→R (.returned (.tuple #[.slice none 0 0,.int .i64 1])) w'):Calls Tryz.prog 18 #[.pointer (some ⟨gx,0,none⟩),.string head] w R:=by
 refine ok18 (some ⟨gx,0,none⟩) head ?_
 unfold F18
 have go:headB head=true→∀w1,Below w.heap.size w w1→F18_j3 (some ⟨gx,0,none⟩) head w1 R:=fun hh w1 hb1=>by
  unfold F18_j3
  exact terms_calls (hx.keep hb1) head fun v w' l hb ho ht=>⟨_,_,_,rfl,h1 hh v w' l (btr hb1 hb1.size hb) (ho.rebase fun x hx=>Nat.le_trans hb1.size (ho.lt x hx).1) ht⟩
 refine⟨fun w1=>headB head=true∧Below w.heap.size w w1,fun w1 ⟨a,b⟩=>go a w1 b,?_⟩
 rw [bytes_eq,brnot]
 refine brd (fun he=>⟨by unfold headB;rw [decide_eq_true he];rfl,.refl _ _⟩) (fun he=>?_)
 have hh:headB head=oneF head:=by unfold headB;rw [decide_eq_false he,Bool.false_or]
 refine one_calls head hT fun w1 hb1=>⟨_,rfl,?_⟩
 rw [brnot]
 exact br (fun h=>⟨by rw [hh];exact h,hb1⟩) (fun h=>h0 (by rw [hh];exact h) w1 hb1)
end
set_option maxRecDepth 100000
--PURE
def okP (n:Nat):List Std→List ByteArray→Bool
 | _,[]=>true
 | [],_ :: _=>false
 | p :: l,w :: ws=>(decide (p.1=w) && decide (p.2.1=n)) && okP n l ws
def refP:List Std→List ByteArray→List Hit
 | [],_=>[]
 | p :: l,ws=>(if okP p.2.1 (p :: l) ws=true then [p.2] else [])++refP l ws
theorem okP_iff {n:Nat}:∀{l:List Std}{ws:List ByteArray},okP n l ws=true↔∀(k:Nat) (w:ByteArray),ws[k]?=some w→∃p:Std,l[k]?=some p∧p.1=w∧p.2.1=n
 | l,[]=>by simp [okP]
 | [],w :: ws=>by
  rw [okP]
  constructor
  ·intro h;cases h
  ·intro h
   obtain⟨p,h1,_⟩:=h 0 w rfl
   cases h1
 | p :: l,w :: ws=>by
  rw [okP,Bool.and_eq_true,Bool.and_eq_true,decide_eq_true_eq,decide_eq_true_eq,okP_iff]
  constructor
  ·rintro ⟨⟨h1,h2⟩,h3⟩ k v hv
   cases k with
   | zero=>simp only [List.getElem?_cons_zero,Option.some.injEq] at hv;exact⟨p,rfl,by rw [h1,hv],h2⟩
   | succ k=>rw [List.getElem?_cons_succ] at hv ⊢;exact h3 k v hv
  ·intro h
   refine⟨?_,fun k v hv=>by have:=h (k+1) v (by rw [List.getElem?_cons_succ];exact hv);rw [List.getElem?_cons_succ] at this;exact this⟩
   obtain⟨q,h1,h2,h3⟩:=h 0 w rfl
   rw [List.getElem?_cons_zero] at h1
   cases h1
   exact⟨h2,h3⟩
theorem okP_len {n:Nat}{l:List Std}{ws:List ByteArray} (h:okP n l ws=true):ws.length≤l.length:=by
 cases hw:ws.length with
 | zero=>omega
 | succ k =>
  have hk:k < ws.length:=by omega
  obtain⟨p,h1,_⟩:=okP_iff.1 h k ws[k] (List.getElem?_eq_getElem hk)
  have:=(List.getElem?_eq_some_iff.1 h1).1;omega
theorem refP_short:∀{l:List Std}{ws:List ByteArray},l.length < ws.length→refP l ws=[]
 | [],_,_=>rfl
 | p :: l,ws,h=>by
  rw [refP,refP_short (by simp at h;omega)]
  rw [if_neg (fun e=>by have:=okP_len e;omega)];rfl
theorem okP_num {n:Nat}{rest:List Std} (hr:∀p∈rest,p.2.1≠n):∀(l:List (ByteArray × Nat)) (j:Nat) (ws:List ByteArray),okP n (numF n j l++rest) ws=decide ((l.map (·.1)).take ws.length=ws)
 | l,j,[]=>by simp [okP]
 | [],j,w :: ws=>by
  rw [numF,List.nil_append]
  have:okP n rest (w :: ws)=false:=by
   cases rest with
   | nil=>rfl
   | cons p l=>rw [okP,decide_eq_false (hr p (by simp)),Bool.and_false,Bool.false_and]
  rw [this];simp
 | q :: l,j,w :: ws=>by
  rw [numF,List.cons_append,okP,okP_num hr l (j+1) ws]
  simp only [decide_true,Bool.and_true,List.map_cons,List.length_cons,List.take_succ_cons,List.cons.injEq]
  rw [Bool.decide_and]
theorem refP_num {A:Nat→Option Sl}{n:Nat}{rest:List Std} (hr:∀p∈rest,p.2.1≠n) {w0:ByteArray}{ws:List ByteArray}:∀(l pre:List (ByteArray × Nat)) (j:Nat),wdF A n=pre++l→pre.length=j →
  refP (numF n j l++rest) (w0 :: ws)=(hitF (numF n j l) w0).filter (fun h=>decide (((wsF A h.1).drop h.2.1).take (w0 :: ws).length=w0 :: ws))++refP rest (w0 :: ws)
 | [],pre,j,h1,h2=>by rfl
 | p :: l,pre,j,h1,h2=>by
  have ih:=refP_num hr (w0:=w0) (ws:=ws) l (pre++[p]) (j+1) (by rw [h1];simp) (by simp [h2])
  have hd:(wsF A n).drop j=(p :: l).map (·.1):=by
   unfold wsF
   rw [h1,List.map_append,←h2,List.drop_left' (by simp)]
  have ho:=okP_num hr (p :: l) j (w0 :: ws)
  rw [numF,List.cons_append] at ho ⊢
  rw [refP,ih,ho]
  have hh:hitF ((p.1,(n,j,p.2)) :: numF n (j+1) l) w0=(if p.1=w0 then [(n,j,p.2)] else [])++hitF (numF n (j+1) l) w0:=by
   unfold hitF
   rw [List.filter_cons]
   by_cases e:p.1=w0
   ·rw [if_pos (by rw [decide_eq_true_eq];exact e),if_pos e];rfl
   ·rw [if_neg (by rw [decide_eq_true_eq];exact e),if_neg e];rfl
  rw [hh,List.filter_append,List.append_assoc]
  congr 1
  by_cases e:p.1=w0
  ·rw [if_pos e,List.filter_cons,List.filter_nil]
   simp only [hd]
  ·rw [if_neg e,if_neg (fun h=>by
    rw [decide_eq_true_eq,List.map_cons,List.length_cons,List.take_succ_cons] at h
    exact e (List.cons.inj h).1)]
   rfl
theorem refP_eq {A:Nat→Option Sl}{w0:ByteArray}{ws:List ByteArray}:∀(N:List Nat),N.Nodup→refP (stsF A N) (w0 :: ws)=phrF A (stsF A N) (w0 :: ws)
 | [],_=>rfl
 | n :: N,hn=>by
  have e:stsF A (n :: N)=stF A n++stsF A N:=by unfold stsF;rw [List.flatMap_cons]
  have hn2:=List.nodup_cons.1 hn
  have hr:∀p∈stsF A N,p.2.1≠n:=fun p hp e=>by
   obtain⟨w,h⟩:=p
   have:=(sts_mem.1 hp).1
   have e:h.1=n:=e
   rw [e] at this
   exact hn2.1 this
  have ih:=refP_eq (A:=A) (w0:=w0) (ws:=ws) N hn2.2
  rw [e]
  unfold stF
  rw [refP_num (A:=A) hr (wdF A n) [] 0 rfl rfl,ih]
  unfold phrF
  rw [List.headD_cons,hitF_app,List.filter_append]
theorem hit_snoc (st:List Std) (p:Std) (w:ByteArray):hitF (st++[p]) w=hitF st w++if p.1=w then [p.2] else []:=by
 rw [hitF_app]
 congr 1
 unfold hitF
 rw [List.filter_cons,List.filter_nil]
 by_cases e:p.1=w
 ·rw [if_pos (by rw [decide_eq_true_eq];exact e),if_pos e];rfl
 ·rw [if_neg (by rw [decide_eq_true_eq];exact e),if_neg e];rfl
section
variable {st:List Std}{head:ByteArray}{l a b:List (ByteArray × Nat)}{p:Std}
theorem tm_nil:IsTm [] head []:=⟨List.Pairwise.nil,fun w n=>⟨fun h=>(by cases h),fun h=>absurd rfl h.2.1⟩⟩
theorem tm_skip (h:IsTm st head l) (hp:preB head p.1=false):IsTm (st++[p]) head l:=by
 refine⟨h.up,fun w n=>?_⟩
 rw [h.mem,hit_snoc]
 by_cases e:p.1=w
 ·subst e;rw [hp];simp
 ·rw [if_neg e,List.append_nil]
theorem tm_more {n:Nat} (h:IsTm st head (a++(p.1,n) :: b)):IsTm (st++[p]) head (a++(p.1,n+1) :: b):=by
 have hm:=(h.mem p.1 n).1 (by simp)
 have hu:=h.up
 rw [List.pairwise_append,List.pairwise_cons] at hu
 obtain⟨u1,⟨u2,u3⟩,u4⟩:=hu
 refine⟨?_,fun w m=>?_⟩
 ·rw [List.pairwise_append,List.pairwise_cons]
  refine⟨u1,⟨fun x hx=>u2 x hx,u3⟩,fun x hx y hy=>?_⟩
  rcases List.mem_cons.1 hy with rfl | hy
  ·exact u4 x hx (p.1,n) (by simp)
  ·exact u4 x hx y (by simp [hy])
 ·rw [hit_snoc]
  by_cases e:p.1=w
  ·subst e
   rw [if_pos rfl,List.length_append,List.length_singleton,←hm.2.2]
   have na:∀k,(p.1,k)∉a:=fun k hk=>by
    have:blt p.1 p.1=true:=u4 (p.1,k) hk (p.1,n) (by simp)
    rw [blt_irr] at this;cases this
   have nb:∀k,(p.1,k)∉b:=fun k hk=>by
    have:blt p.1 p.1=true:=u2 (p.1,k) hk
    rw [blt_irr] at this;cases this
   constructor
   ·intro hh
    rcases List.mem_append.1 hh with hh | hh
    ·exact absurd hh (na m)
    ·rcases List.mem_cons.1 hh with hh | hh
     ·simp only [Prod.mk.injEq,true_and] at hh
      exact⟨hm.1,by simp,hh⟩
     ·exact absurd hh (nb m)
   ·rintro ⟨_,_,rfl⟩;simp
  ·rw [if_neg e,List.append_nil,←h.mem]
   have e':¬w=p.1:=fun q=>e q.symm
   simp [e']
theorem tm_new (h:IsTm st head (a++b)) (hp:preB head p.1=true) (ha:∀x∈a,blt x.1 p.1=true) (hb:∀x∈b,blt p.1 x.1=true):IsTm (st++[p]) head (a++(p.1,1) :: b):=by
 have hu:=h.up
 rw [List.pairwise_append] at hu
 obtain⟨u1,u2,u3⟩:=hu
 have na:∀k,(p.1,k)∉a++b:=fun k hk=>by
  rcases List.mem_append.1 hk with hk | hk
  ·have:=ha _ hk
   rw [blt_irr] at this;cases this
  ·have:=hb _ hk
   rw [blt_irr] at this;cases this
 have h0:hitF st p.1=[]:=Classical.byContradiction fun e=>na _ ((h.mem p.1 _).2 ⟨hp,e,rfl⟩)
 refine⟨?_,fun w m=>?_⟩
 ·rw [List.pairwise_append,List.pairwise_cons]
  refine⟨u1,⟨fun x hx=>hb x hx,u2⟩,fun x hx y hy=>?_⟩
  rcases List.mem_cons.1 hy with rfl | hy
  ·exact ha x hx
  ·exact u3 x hx y hy
 ·rw [hit_snoc]
  by_cases e:p.1=w
  ·subst e
   rw [if_pos rfl,h0,List.nil_append,List.length_singleton]
   constructor
   ·intro hh
    have:(p.1,m)∈a++b∨m=1:=by
     rcases List.mem_append.1 hh with hh | hh
     ·exact .inl (by simp [hh])
     ·rcases List.mem_cons.1 hh with hh | hh
      ·simp only [Prod.mk.injEq,true_and] at hh;exact .inr hh
      ·exact .inl (by simp [hh])
    rcases this with q | q
    ·exact absurd q (na m)
    ·exact⟨hp,by simp,q⟩
   ·rintro ⟨_,_,rfl⟩;simp
  ·rw [if_neg e,List.append_nil,←h.mem]
   have e':¬w=p.1:=fun q=>e q.symm
   simp [e']
end
set_option maxRecDepth 100000
section
variable {wx w w0 w1 w2:World}{o:Nat→Nat}{gl gx gd mt mh:Nat}{D:Im}{S:PS}{nv vw a s b a1 s1 b1 a2 s2 b2:Sv}{tv:Nat→Sv}{hv:ByteArray→Sv}{R:Ending→World→Prop}{la ls lb:List Nat}{ws:List ByteArray}{M:Nat→Prop}
end
set_option maxRecDepth 100000
def q1:Nat→Nat→Bool:=fun _ _=>true
section
variable {wx w w0 w1 w2:World}{o:Nat→Nat}{gl gx gd mt mh:Nat}{D:Im}{S:PS}{nv vw:Sv}{tv:Nat→Sv}{hv:ByteArray→Sv}{R:Ending→World→Prop}{ws:List ByteArray}{M:Nat→Prop}
end
set_option maxRecDepth 100000
section
variable {w:World}{R:Ending→World→Prop}{B:Nat}{A:Option Addr}{n c a:Nat}{xs:List Nat}
end
set_option maxRecDepth 100000
section
variable {w w0 w1:World}{o:Nat→Nat}{gx gd mt mh:Nat}{D:Im}{S:PS}{nv vw:Sv}{tv:Nat→Sv}{hv:ByteArray→Sv}{R:Ending→World→Prop}{ws:List ByteArray}
end
set_option maxRecDepth 100000
section
variable {w w1 w2:World}{o o1 o2:Nat→Nat}{g k:Nat}{ty:TypeId}{M:Nat→Prop}{R:Ending→World→Prop}{D:Im}{E:Nat→Option (Nat × Nat)}{S:PS}{θ:Th}
end
set_option maxRecDepth 100000
section
variable {D:Im}{E:Nat→Option (Nat × Nat)}
end
set_option maxRecDepth 100000
section
variable {w w1 w2:World}{o o1 o2:Nat→Nat}{g k:Nat}{ty:TypeId}{M:Nat→Prop}{R:Ending→World→Prop}{D:Im}{E:Nat→Option (Nat × Nat)}{S:PS}{θ:Th}
end
set_option maxRecDepth 100000
section
variable {w w1 w2:World}{o o1 o2:Nat→Nat}{g k:Nat}{ty:TypeId}{M:Nat→Prop}{R:Ending→World→Prop}{D:Im}{E:Nat→Option (Nat × Nat)}{S:PS}{θ:Th}{nms:List Nat}{gv:Nat}
end
set_option maxRecDepth 100000
section
variable {g:Nat}
end
set_option maxRecDepth 100000
section
variable {w:World}{g:Nat}
def S0:PS:=⟨⟨[],[]⟩,[],0,0,0⟩
theorem pm_zero {ty:TypeId}{tl:List Value} (hB:Blk w g (docC (none,0,0) (none,0,0) 0 0 0 tl) ty):PM w (fun b=>if b=g then 1 else 0) ⟨g,ty,tl⟩ S0:=by
 refine⟨if_pos rfl,fun b hb=>?_,rfl,by decide,fun i b hb=>(by cases hb),⟨(none,0,0),(none,0,0),hB,.inl ⟨rfl,rfl⟩,fun x hx=>(by cases hx),.inl ⟨rfl,rfl⟩,fun x hx=>(by cases hx)⟩,fun i b s hb=>(by cases hb),fun s hs=>(by cases hs),⟨fun h hh=>(by cases hh),by decide⟩,by decide⟩
 have hb:(if b=g then 1 else 0)≠0:=hb
 by_cases e:b=g
 ·rw [e];exact hB.lt
 ·rw [if_neg e] at hb;exact absurd rfl hb
theorem pi_zero:PI S0:=⟨rfl,rfl,by decide,fun j t hj ht=>(by cases ht)⟩
theorem ld_zero (hB:Blk w g #[.slice none 0 0,.slice none 0 0,.int .i64 0,.int .i64 0,.int .i64 0,.map none,.pointer none,.int .u64 0,.int .u64 0,.map none] 105):LD 0 g 105 w (fun b=>if b=g then 1 else 0) ⟨[],[]⟩:=by
 have hn:∀y,slA ([]:List Sl) y=none:=fun y=>by
  cases h:slA ([]:List Sl) y with
  | none=>rfl
  | some s =>
   obtain⟨k,_,h2,_⟩:=slA_iff.1 h
   cases h2
 refine⟨S0,[0],0,fun _=>none,rfl,⟨.inr ⟨⟨none,pm_zero hB,fun _=>rfl⟩,rfl,rfl,fun _=>rfl⟩,pi_zero,rfl,fun y hy=>absurd rfl hy,fun y s hs=>?_,by decide⟩⟩
 have hs:slA ([]:List Sl) y=some s:=hs
 rw [hn] at hs;cases hs
theorem rm_zero {ok:Nat→Bool} (hB:Blk w g #[.slice none 0 0,.slice none 0 0] 107):RM ok w g ⟨[],[]⟩ (none,0,0) (none,0,0) :=
 ⟨hB,⟨by decide,⟨[],rfl,Rd.nil _ _,rfl⟩,rr_none _ _,fun s hs=>(by cases hs),fun h hh=>(by cases hh)⟩,by decide⟩
end
end Go.Proofs.YtccplipiahdhiaaGreatDoor
set_option linter.unusedVariables false
set_option maxRecDepth 100000
namespace Go.Proofs.YtccplipiahdhiaaGreatDoor
open Go.Vc
def F4_j7 (L6:Int→World→Prop) (round:Int) (a:World) (R:Ending→World→Prop):Prop :=
 InR .i64 (round+(1:Int))∧L6 (round+(1:Int)) a
def F4_l6 (word:ByteArray) (head:ByteArray) (words:Option Addr) (wordsN:Nat) (wordsC:Nat) (ia:Option Addr) (pb:Option Addr) (gb:Nat) (ta:Nat) (L6:Int→World→Prop) (round:Int) (jb:World) (R:Ending→World→Prop):Prop :=
 Br (decide (round < (2:Int)))
 (∃J7:World→Prop,(∀ (eb:World),J7 eb→F4_j7 L6 round eb R) ∧
 (Calls Tryz.prog 16 #[(.pointer ia),(.string word)] jb (post R fun v3 eb =>
 ∃(y:Option Addr) (k:Nat) (e:Nat) (ca:Int),v3=(.tuple #[(.slice y k e),(.int .i64 ca)]) ∧
 Calls Tryz.prog 17 #[(.slice pb gb ta),(.string word)] eb (post R fun v4 qa =>
 ∃(ba:Option Addr) (f:Nat) (m:Nat) (na:Int),v4=(.tuple #[(.slice ba f m),(.int .i64 na)]) ∧
 Calls Tryz.prog 18 #[(.pointer ia),(.string head)] qa (post R fun v5 cb =>
 ∃(q:Option Addr) (i:Nat) (h:Nat) (ka:Int),v5=(.tuple #[(.slice q i h),(.int .i64 ka)]) ∧
 Calls Tryz.prog 19 #[(.slice pb gb ta),(.string head)] cb (post R fun v6 ab =>
 ∃(z:Option Addr) (j:Nat) (a:Nat) (v:Int),v6=(.tuple #[(.slice z j a),(.int .i64 v)]) ∧
 Al ab #[] 9 fun g68 fb =>
 Raw Tryz.prog (Builtin.append_ #[26,26] 26 #[(.slice (some g68) 0 0),(.slice words wordsN wordsC)]) fb fun v7 ya =>
 ∃(hb:Option Addr) (bb:Nat) (ra:Nat),v7=(.slice hb bb ra) ∧
 Calls Tryz.prog 20 #[(.pointer ia),(.slice hb bb ra)] ya (post R fun v8 u =>
 ∃(fa:Option Addr) (p:Nat) (g:Nat) (t:Int),v8=(.tuple #[(.slice fa p g),(.int .i64 t)]) ∧
 Calls Tryz.prog 21 #[(.slice pb gb ta),(.slice words wordsN wordsC)] u (post R fun v9 r =>
 ∃(ea:Option Addr) (b:Nat) (n:Nat) (ha:Int),v9=(.tuple #[(.slice ea b n),(.int .i64 ha)]) ∧
 Calls Tryz.prog 23 #[(.pointer ia)] r (post R fun v10 ma =>
 ∃(ib:Option Addr) (sa:Nat) (za:Nat),v10=(.slice ib sa za) ∧
 Calls Tryz.prog 24 #[(.slice pb gb ta),(.string (ByteArray.mk #[]))] ma (post R fun v11 da =>
 ∃(nb:Option Addr) (db:Nat) (va:Nat),v11=(.slice nb db va) ∧
 Calls Tryz.prog 22 #[(.slice ib sa za),(.slice nb db va)] da (post R fun v12 aa =>
 ∃(kb:Bool),v12=(.bool kb) ∧
 Br (!kb)
 (R (.returned (.bool false)) aa)
 (Calls Tryz.prog 25 #[(.slice y k e),(.slice ba f m)] aa (post R fun v13 s =>
 ∃(mb:Bool),v13=(.bool mb) ∧
 Br (!mb)
 (R (.returned (.bool false)) s)
 (Br (ca != na)
 (R (.returned (.bool false)) s)
 (Calls Tryz.prog 22 #[(.slice q i h),(.slice z j a)] s (post R fun v14 ja =>
 ∃(pa:Bool),v14=(.bool pa) ∧
 Br (!pa)
 (R (.returned (.bool false)) ja)
 (Br (ka != v)
 (R (.returned (.bool false)) ja)
 (Calls Tryz.prog 25 #[(.slice fa p g),(.slice ea b n)] ja (post R fun v15 ga =>
 ∃(ua:Bool),v15=(.bool ua) ∧
 Br (!ua)
 (R (.returned (.bool false)) ga)
 (Br (t != ha)
 (R (.returned (.bool false)) ga)
 (J7 ga)))))))))))))))))))))
 (Calls Tryz.prog 26 #[(.pointer none)] jb (post R fun v3 eb =>
 ∃(c:Option Addr) (d:Int),v3=(.tuple #[(.pointer c),(.int .i64 d)]) ∧
 R (.returned (.bool (d == (1:Int)))) eb))
def F4 (x_0:Option Addr) (x_0N:Nat) (x_0C:Nat) (x_1:Option Addr) (x_1N:Nat) (x_1C:Nat) (word:ByteArray) (head:ByteArray) (words:Option Addr) (wordsN:Nat) (wordsC:Nat) (s:World) (R:Ending→World→Prop):Prop :=
 Al s #[(.slice x_0 x_0N x_0C),(.slice x_1 x_1N x_1C)] 25 fun g4 w1 =>
 LdSl (w1.cell? g4) fun e b a =>
 LdSl (w1.cell? (g4.add 1)) fun g c d =>
 Calls Tryz.prog 9 #[(.agg #[(.slice e b a),(.slice g c d)])] w1 (post R fun v j =>
 ∃(i:Option Addr) (f:Option Addr) (h:Bool),v=(.tuple #[(.pointer i),(.pointer f),(.bool h)]) ∧
 Br (!h)
 (R (.returned (.bool false)) j)
 (Calls Tryz.prog 15 #[(.pointer f)] j (post R fun v2 p =>
 ∃(r:Option Addr) (q:Nat) (n:Nat),v2=(.slice r q n) ∧
 ∃(I:Int→World→Prop) (m:Int→World→Nat),I (0:Int) p ∧
 ∀(round:Int) (k:World),I round k→F4_l6 word head words wordsN wordsC i r q n (fun round' w2=>I round' w2∧m round' w2 < m round k) round k R)))
theorem ok4 (x_0:Option Addr) (x_0N:Nat) (x_0C:Nat) (x_1:Option Addr) (x_1N:Nat) (x_1C:Nat) (word:ByteArray) (head:ByteArray) (words:Option Addr) (wordsN:Nat) (wordsC:Nat) {w:World}{R:Ending→World→Prop} (h:F4 x_0 x_0N x_0C x_1 x_1N x_1C word head words wordsN wordsC w R):Calls Tryz.prog 4 #[(.agg #[(.slice x_0 x_0N x_0C),(.slice x_1 x_1N x_1C)]),(.string word),(.string head),(.slice words wordsN wordsC)] w R :=
 vc_calls (pl:=⟨125,⟨[]⟩,[(7,⟨[],[(8,9),(14,119)]⟩)],[(6,⟨[(13,(.s (.int .i64)))],[(8,9),(13,119)]⟩)]⟩) Tryz.func4 (by kernel_rfl) (by kernel_rfl) (by kernel_rfl) (Eq.mp (by kernel_rfl) h)
def F9_j10 (p:Option Addr) (d:Option Addr) (a:Option Addr) (f:World) (R:Ending→World→Prop):Prop :=
 Calls Tryz.prog 40 #[(.pointer p),(.int .i64 1),(.int .u64 0),(.agg #[(.int .i64 2),(.string (ByteArray.mk #[])),(.slice none 0 0),(.string (ByteArray.mk #[108,97,116,101,114,32,120,32,121])),(.slice none 0 0)])] f (post R fun v5 e =>
 ∃(b:Int) (c:Int),v5=(.tuple #[(.int .u64 b),(.int .i64 c)]) ∧
 R (.returned (.tuple #[(.pointer a),(.pointer d),(.bool true)])) e)
def F9_j7 (p:Option Addr) (d:Option Addr) (f:World) (R:Ending→World→Prop):Prop :=
 Calls Tryz.prog 26 #[(.pointer p)] f (post R fun v4 c =>
 ∃(b:Option Addr) (a:Int),v4=(.tuple #[(.pointer b),(.int .i64 a)]) ∧
 ∃J10:World→Prop,(∀ (e:World),J10 e→F9_j10 p d b e R) ∧
 (Br (a != (0:Int))
 (R (.returned (.tuple #[(.pointer none),(.pointer none),(.bool false)])) c)
 (Br (b).isNone
 (R (.returned (.tuple #[(.pointer none),(.pointer none),(.bool false)])) c)
 (J10 c))))
def F9_j5 (a:Option Addr) (b:Option Addr) (f:World) (R:Ending→World→Prop):Prop :=
 ∃J7:Option Addr→Option Addr→World→Prop,(∀(p:Option Addr) (d:Option Addr) (c:World),J7 p d c→F9_j7 p d c R) ∧
 (Br (a).isNone
 (Al f #[(.slice none 0 0),(.slice none 0 0),(.int .i64 0),(.int .i64 0),(.int .i64 0),(.map none),(.pointer none),(.int .u64 0),(.int .u64 0),(.map none)] 105 fun g35 c =>
 Al c #[(.slice none 0 0),(.slice none 0 0)] 107 fun g37 e =>
 J7 (some g35) (some g37) e)
 (J7 a b f))
def F9 (x_0:Option Addr) (x_0N:Nat) (x_0C:Nat) (x_1:Option Addr) (x_1N:Nat) (x_1C:Nat) (w_:World) (R:Ending→World→Prop):Prop :=
 Al w_ #[(.slice x_0 x_0N x_0C),(.slice x_1 x_1N x_1C)] 25 fun g1 w1 =>
 LdSl (w1.cell? g1) fun aa c j =>
 LdSl (w1.cell? (g1.add 1)) fun q i h =>
 Calls Tryz.prog 38 #[(.agg #[(.slice aa c j),(.slice q i h)])] w1 (post R fun v da =>
 ∃(p:Option Addr) (m:Nat) (g:Nat) (r:Option Addr) (a:Nat) (b:Nat),v=(.agg #[(.slice p m g),(.slice r a b)]) ∧
 Calls Tryz.prog 37 #[(.agg #[(.slice p m g),(.slice r a b)])] da (post R fun v2 ca =>
 ∃(t:Option Addr) (s:Int),v2=(.tuple #[(.pointer t),(.int .i64 s)]) ∧
 LdSl (ca.cell? g1) fun n d k =>
 LdSl (ca.cell? (g1.add 1)) fun u f e =>
 Calls Tryz.prog 39 #[(.agg #[(.slice n d k),(.slice u f e)])] ca (post R fun v3 ea =>
 ∃(y:Option Addr) (z:Int),v3=(.tuple #[(.pointer y),(.int .i64 z)]) ∧
 ∃J5:World→Prop,(∀ (ba:World),J5 ba→F9_j5 t y ba R) ∧
 (Br (s != z)
 (R (.returned (.tuple #[(.pointer none),(.pointer none),(.bool false)])) ea)
 (Br (!((t).isNone == (y).isNone))
 (R (.returned (.tuple #[(.pointer none),(.pointer none),(.bool false)])) ea)
 (J5 ea))))))
theorem ok9 (x_0:Option Addr) (x_0N:Nat) (x_0C:Nat) (x_1:Option Addr) (x_1N:Nat) (x_1C:Nat) {w:World}{R:Ending→World→Prop} (h:F9 x_0 x_0N x_0C x_1 x_1N x_1C w R):Calls Tryz.prog 9 #[(.agg #[(.slice x_0 x_0N x_0C),(.slice x_1 x_1N x_1C)])] w R :=
 vc_calls (pl:=⟨54,⟨[]⟩,[(10,⟨[],[(2,5),(43,49)]⟩),(7,⟨[(5,(.s .ptr)),(7,(.s .ptr))],[(5,38)]⟩),(5,⟨[],[(2,5),(22,32)]⟩)],[]⟩) Tryz.func9 (by kernel_rfl) (by kernel_rfl) (by kernel_rfl) (Eq.mp (by kernel_rfl) h)
def F25_l9 (a:Option Addr) (aN:Nat) (aC:Nat) (L9:Int→World→Prop) (i2:Int) (h:World) (R:Ending→World→Prop):Prop :=
 Br (decide (i2 < ((aN:Nat):Int)))
 (IdxA a aN i2 3 fun g =>
 St h g (.int .u64 4711) fun w1 =>
 St w1 (g.add 1) (.int .i64 0) fun b =>
 St b (g.add 2) (.int .i64 0) fun e =>
 InR .i64 (i2+(1:Int))∧L9 (i2+(1:Int)) e)
 (Al h #[(.int .u64 4712),(.int .i64 0),(.int .i64 0)] 67 fun g39 w1 =>
 Raw Tryz.prog (Builtin.append_ #[42,42] 42 #[(.slice a aN aC),(.slice (some g39) 1 1)]) w1 fun v b =>
 ∃(f:Option Addr) (d:Nat) (c:Nat),v=(.slice f d c) ∧
 R (.returned (.bool true)) b)
def F25_l4 (a:Option Addr) (aN:Nat) (aC:Nat) (b:Option Addr) (bN:Nat) (L4:Int→World→Prop) (i:Int) (j:World) (R:Ending→World→Prop):Prop :=
 Br (decide (i < ((aN:Nat):Int)))
 (Dr j fun w1 =>
 IdxA a aN i 3 fun n =>
 LdI .u64 (w1.cell? n) fun f =>
 LdI .i64 (w1.cell? (n.add 1)) fun e =>
 LdI .i64 (w1.cell? (n.add 2)) fun c =>
 IdxA b bN i 3 fun k =>
 LdI .u64 (w1.cell? k) fun g =>
 LdI .i64 (w1.cell? (k.add 1)) fun h =>
 LdI .i64 (w1.cell? (k.add 2)) fun d =>
 Br (!((f == g) && ((e == h) && ((c == d) && true))))
 (R (.returned (.bool false)) w1)
 (InR .i64 (i+(1:Int))∧L4 (i+(1:Int)) w1))
 (∃(I:Int→World→Prop) (m:Int→World→Nat),I (0:Int) j ∧
 ∀(i2:Int) (w1:World),I i2 w1→F25_l9 a aN aC (fun i2' w2=>I i2' w2∧m i2' w2 < m i2 w1) i2 w1 R)
def F25 (a:Option Addr) (aN:Nat) (aC:Nat) (b:Option Addr) (bN:Nat) (bC:Nat) (c:World) (R:Ending→World→Prop):Prop :=
 Br (((aN:Nat):Int) != ((bN:Nat):Int))
 (R (.returned (.bool false)) c)
 (∃(I:Int→World→Prop) (m:Int→World→Nat),I (0:Int) c ∧
 ∀(i:Int) (w1:World),I i w1→F25_l4 a aN aC b bN (fun i' w2=>I i' w2∧m i' w2 < m i w1) i w1 R)
theorem ok25 (a:Option Addr) (aN:Nat) (aC:Nat) (b:Option Addr) (bN:Nat) (bC:Nat) {w:World}{R:Ending→World→Prop} (h:F25 a aN aC b bN bC w R):Calls Tryz.prog 25 #[(.slice a aN aC),(.slice b bN bC)] w R :=
 vc_calls (pl:=⟨41,⟨[]⟩,[],[(4,⟨[(5,(.s (.int .i64)))],[(4,27)]⟩),(9,⟨[(6,(.s (.int .i64)))],[(6,37)]⟩)]⟩) Tryz.func25 (by kernel_rfl) (by kernel_rfl) (by kernel_rfl) (Eq.mp (by kernel_rfl) h)
def F22_l9 (a:Option Addr) (aN:Nat) (L9:Int→World→Prop) (i2:Int) (d:World) (R:Ending→World→Prop):Prop :=
 Br (decide (i2 < ((aN:Nat):Int)))
 (IdxA a aN i2 2 fun c =>
 St d c (.string (ByteArray.mk #[115,112,111,105,108,116])) fun w1 =>
 St w1 (c.add 1) (.int .i64 0) fun b =>
 InR .i64 (i2+(1:Int))∧L9 (i2+(1:Int)) b)
 (R (.returned (.bool true)) d)
def F22_l4 (a:Option Addr) (aN:Nat) (b:Option Addr) (bN:Nat) (L4:Int→World→Prop) (i:Int) (g:World) (R:Ending→World→Prop):Prop :=
 Br (decide (i < ((aN:Nat):Int)))
 (Dr g fun w1 =>
 IdxA a aN i 2 fun j =>
 LdStr (w1.cell? j) fun d =>
 LdI .i64 (w1.cell? (j.add 1)) fun c =>
 IdxA b bN i 2 fun h =>
 LdStr (w1.cell? h) fun e =>
 LdI .i64 (w1.cell? (h.add 1)) fun f =>
 Br (!((d == e) && ((c == f) && true)))
 (R (.returned (.bool false)) w1)
 (InR .i64 (i+(1:Int))∧L4 (i+(1:Int)) w1))
 (∃(I:Int→World→Prop) (m:Int→World→Nat),I (0:Int) g ∧
 ∀(i2:Int) (w1:World),I i2 w1→F22_l9 a aN (fun i2' w2=>I i2' w2∧m i2' w2 < m i2 w1) i2 w1 R)
def F22 (a:Option Addr) (aN:Nat) (aC:Nat) (b:Option Addr) (bN:Nat) (bC:Nat) (c:World) (R:Ending→World→Prop):Prop :=
 Br (((aN:Nat):Int) != ((bN:Nat):Int))
 (R (.returned (.bool false)) c)
 (∃(I:Int→World→Prop) (m:Int→World→Nat),I (0:Int) c ∧
 ∀(i:Int) (w1:World),I i w1→F22_l4 a aN b bN (fun i' w2=>I i' w2∧m i' w2 < m i w1) i w1 R)
theorem ok22 (a:Option Addr) (aN:Nat) (aC:Nat) (b:Option Addr) (bN:Nat) (bC:Nat) {w:World}{R:Ending→World→Prop} (h:F22 a aN aC b bN bC w R):Calls Tryz.prog 22 #[(.slice a aN aC),(.slice b bN bC)] w R :=
 vc_calls (pl:=⟨37,⟨[]⟩,[],[(4,⟨[(5,(.s (.int .i64)))],[(4,27)]⟩),(9,⟨[(6,(.s (.int .i64)))],[(6,37)]⟩)]⟩) Tryz.func22 (by kernel_rfl) (by kernel_rfl) (by kernel_rfl) (Eq.mp (by kernel_rfl) h)
end Go.Proofs.YtccplipiahdhiaaGreatDoor
namespace Go.Proofs.YtccplipiahdhiaaGreatDoor
open Go.RowKit Go.Vc
set_option linter.unusedVariables false
set_option linter.unusedSimpArgs false
set_option maxRecDepth 100000
def exX (s:ByteArray):Tr:=.mk 2 noB [] s []
def exE (s:ByteArray) (l:List Tr):Tr:=.mk 1 s [] noB l
def exT:Tr:=exE (ByteArray.mk #[97]) [exE (ByteArray.mk #[98]) [exX (ByteArray.mk #[120,32,121])],exE (ByteArray.mk #[99]) [exX (ByteArray.mk #[121,32]),exE (ByteArray.mk #[100]) [exX (ByteArray.mk #[120])]]]
def eX (s:ByteArray):E5:=⟨2,noB,(none,0,0),s,(none,0,0)⟩
section
variable {w w1:World}{R:Ending→World→Prop}
theorem rd_blk {α:Type}{L:Lay α}{g:Nat}{cs:Array Value}{t:TypeId}{xs:List α} (h:Blk w g cs t) (hc:cs.toList=L.all xs) (hm:xs.length≤maxLen):Rd L w (some ⟨g,0,none⟩) xs.length xs :=
 ⟨Nat.le_refl _,hm,(fun h=>by cases h),fun _=>⟨g,0,rfl,fun j u hj=>by rw [h.cell,Nat.zero_add,←Array.getElem?_toList,hc];exact hj⟩⟩
theorem exX_rd (s:ByteArray):RTr w (exX s) (eX s):=by
 unfold exX eX
 simp only [RTr]
 exact⟨trivial,trivial,trivial,rr_nil,by simp,[],rfl,Rd.nil _ _,by simp only [RTl]⟩
end
set_option maxRecDepth 100000
section
variable {w w0:World}{R:Ending→World→Prop}{st:List Std}{vl vw:Sv}{ws:List ByteArray}
theorem Rd.std {A:Option Addr}{c:Nat}{xs:List Std} (h:Rd LStd w A c xs) {n:Nat} (hn:n=xs.length) {i:Int}{k:Nat} (hi:i=k) (hk:k < xs.length) {K:Addr→Prop}
  (hK:∀b o,w.cell? ⟨b,o,none⟩=some (.string xs[k].1)→w.cell? ⟨b,o+1,none⟩=some (.int .u64 (xs[k].2.1:Nat))→w.cell? ⟨b,o+2,none⟩=some (.int .i64 (xs[k].2.2.1:Nat))→w.cell? ⟨b,o+3,none⟩=some (.int .i64 (xs[k].2.2.2:Nat))→K ⟨b,o,none⟩):IdxA A n i 4 K:=by
 subst hi
 refine h.idx hn (by omega) (by omega) rfl fun b o hc=>?_
 simp only [Int.toNat_natCast] at hc
 exact hK b o (hc 0 _ rfl) (hc 1 _ rfl) (hc 2 _ rfl) (hc 3 _ rfl)
theorem Rd.nm {A:Option Addr}{c:Nat}{xs:List Nm} (h:Rd LNm w A c xs) {n:Nat} (hn:n=xs.length) {i:Int}{k:Nat} (hi:i=k) (hk:k < xs.length) {K:Addr→Prop}
  (hK:∀b o,w.cell? ⟨b,o,none⟩=some (.string xs[k].1)→w.cell? ⟨b,o+1,none⟩=some (.int .i64 (xs[k].2:Nat))→K ⟨b,o,none⟩):IdxA A n i 2 K:=by
 subst hi
 refine h.idx hn (by omega) (by omega) rfl fun b o hc=>?_
 simp only [Int.toNat_natCast] at hc
 exact hK b o (hc 0 _ rfl) (hc 1 _ rfl)
theorem can_len (h:canS ws=true):0 < ws.length∧ws.length≤16:=by
 unfold canS at h
 simp only [Bool.and_eq_true,decide_eq_true_eq] at h
 exact⟨h.1,h.2.1⟩
theorem phraseR_calls (hl:RdV LStd w st vl) (hw:RdV LS w ws vw) (hst:st.length≤67108864) (h1:canS ws=true→∀v w',Below w.heap.size w w'→Own LHt w' w.heap.size 67 (slV v) (refP st ws)→R (.returned (.tuple #[slV v,.int .i64 0])) w')
  (h0:canS ws=false→∀w',Below w.heap.size w w'→R (.returned (.tuple #[.slice none 0 0,.int .i64 1])) w'):Calls Tryz.prog 21 #[.slice vl.1 vl.2.1 vl.2.2,.slice vw.1 vw.2.1 vw.2.2] w R:=by
 refine ok21 vl.1 vl.2.1 vl.2.2 vw.1 vw.2.1 vw.2.2 ?_
 unfold F21
 refine canR_calls ws vw hw fun w1 hb1=>⟨_,rfl,?_⟩
 rw [brnot]
 refine br (fun hc=>?_) (fun hc=>h0 hc w1 hb1)
 obtain⟨wl,w16⟩:=can_len hc
 have hl1:=hl.keep hb1
 have hw1:=hw.keep hb1
 refine⟨fun A n c i w'=>∃(m:Nat) (out:List Hit),i=m∧m≤st.length∧Below w1.heap.size w1 w'∧Own LHt w' w1.heap.size 67 (.slice A n c) out∧out++refP (st.drop m) ws=refP st ws∧out.length≤m,fun _ _ _ i _=>st.length-i.toNat,
  ⟨0,[],rfl,by omega,.refl _ _,Own.nil _ _ _ _,rfl,Nat.le_refl _⟩,?_⟩
 rintro A n c _ w2 ⟨m,out,rfl,hm,hb2,oo,hout,hol⟩
 unfold F21_l5
 have e1:=hw.1
 have e2:=hl.1
 refine⟨inR_i64 (by omega) (by omega),brd (fun hle=>?_) (fun hgt=>?_)⟩
 ·have hm2:m < st.length:=by omega
  have hdr2:st.drop m=st[m] :: st.drop (m+1):=List.drop_eq_getElem_cons hm2
  have hstep:refP (st.drop m) ws=(if okP st[m].2.1 (st.drop m) ws=true then [st[m].2] else [])++refP (st.drop (m+1)) ws:=by
   rw [hdr2,refP]
  refine⟨fun A' n' c' w'=>Below w1.heap.size w1 w'∧∃out':List Hit,Own LHt w' w1.heap.size 67 (.slice A' n' c') out'∧out'++refP (st.drop (m+1)) ws=refP st ws∧out'.length≤m+1,?_,?_⟩
  ·rintro A' n' c' w' ⟨q1,out',q2,q3,q4⟩
   exact⟨inR_i64 (by omega) (by omega),⟨m+1,out',by simp,by omega,q1,q2,q3,q4⟩,(by first | omega | (dsimp only;omega))⟩
  refine⟨fun is w'=>is=okP st[m].2.1 (st.drop m) ws∧Below w2.heap.size w2 w',?_,?_⟩
  ·rintro is w3 ⟨rfl,hb3⟩
   unfold F21_j12
   have B3:=btr hb2 hb2.size hb3
   refine br (fun ht=>?_) (fun hf=>?_)
   ·rw [if_pos ht] at hstep
    refine (hl1.keep B3).2.2.std hl.1 rfl hm2 fun b o _ k1 k2 k3=>?_
    simp only [Addr.add_mk,Nat.add_assoc,Nat.reduceAdd,k1,k2,k3,lds]
    refine ap1 (L:=LHt) (x:=st[m].2) (base:=w1.heap.size) (.agg #[.int .u64 0,.int .i64 0,.int .i64 0]) 24 rfl (by kernel_rfl) (by kernel_rfl) (by kernel_rfl) (oo.keep hb3) B3.size (by omega) (by unfold maxLen;omega) fun A3 c3 w8 o8 g8=>⟨A3,_,c3,rfl,B3.trans g8.below,out++[st[m].2],o8,?_,by simp;omega⟩
    rw [←hout,hstep,List.append_assoc]
   ·rw [if_neg (by rw [hf];decide)] at hstep
    exact⟨B3,out,oo.keep hb3,by rw [←hout,hstep];rfl,by omega⟩
  refine⟨fun is k w'=>∃q:Nat,k=q∧q≤ws.length∧is=okP st[m].2.1 (st.drop m) (ws.take q)∧Below w2.heap.size w2 w',fun _ k _=>ws.length-k.toNat,⟨0,rfl,by omega,by rw [List.take_zero];cases st.drop m <;> rfl,.refl _ _⟩,?_⟩
  rintro is _ w3 ⟨q,rfl,hq,rfl,hb3⟩
  have B3:=btr hb2 hb2.size hb3
  unfold F21_l9
  have hall:okP st[m].2.1 (st.drop m) (ws.take q)=false→okP st[m].2.1 (st.drop m) ws=false:=fun hf=>by
   refine Bool.eq_false_iff.2 fun ht=>?_
   rw [Bool.eq_false_iff] at hf
   refine hf (okP_iff.2 fun k w hk=>okP_iff.1 ht k w ?_)
   rw [List.getElem?_take] at hk
   split at hk
   ·exact hk
   ·cases hk
  refine⟨fun w'=>w3=w'∧q < ws.length∧okP st[m].2.1 (st.drop m) (ws.take q)=true,?_,brd (fun hlt=>br (fun ht=>⟨rfl,by omega,ht⟩) (fun hf=>⟨hf.trans (hall hf).symm,hb3⟩)) (fun hge=>⟨by rw [List.take_of_length_le (by omega)],hb3⟩)⟩
  rintro _ ⟨rfl,hq2,ht⟩
  unfold F21_j11
  refine⟨fun is w'=>is=okP st[m].2.1 (st.drop m) (ws.take (q+1))∧Below w2.heap.size w2 w',?_,?_⟩
  ·rintro is w' ⟨rfl,hb⟩
   exact⟨inR_i64 (by omega) (by omega),⟨q+1,by simp,by omega,rfl,hb⟩,(by first | omega | (dsimp only;omega))⟩
  have hmq:m+q < st.length:=by omega
  have hnext:okP st[m].2.1 (st.drop m) (ws.take (q+1))=(decide (st[m+q].1=ws[q]) && decide (st[m+q].2.1=st[m].2.1)):=by
   rw [Bool.eq_iff_iff,okP_iff,Bool.and_eq_true,decide_eq_true_eq,decide_eq_true_eq]
   constructor
   ·intro h
    obtain⟨p,p1,p2,p3⟩:=h q ws[q] (by rw [List.getElem?_take,if_pos (by omega)];exact List.getElem?_eq_getElem hq2)
    rw [List.getElem?_drop,List.getElem?_eq_getElem hmq] at p1
    cases p1
    exact⟨p2,p3⟩
   ·rintro ⟨h2,h3⟩ k v hv
    by_cases e:k=q
    ·subst e
     rw [List.getElem?_take,if_pos (by omega),List.getElem?_eq_getElem hq2] at hv
     cases hv
     exact⟨st[m+k],by rw [List.getElem?_drop];exact List.getElem?_eq_getElem hmq,h2,h3⟩
    ·refine okP_iff.1 ht k v ?_
     rw [List.getElem?_take] at hv ⊢
     split at hv
     ·rw [if_pos (by omega)];exact hv
     ·cases hv
  rw [hnext]
  refine dr fun w4 hb4 _=>?_
  have C4:=btr hb3 hb3.size hb4
  have B4:=btr B3 B3.size hb4
  have l4:=(hl1.keep B4).2.2
  refine⟨inR_i64 (by omega) (by omega),?_⟩
  refine l4.std hl.1 (k:=m+q) (by omega) hmq fun b o k0 _ _ _=>?_
  simp only [Addr.add_mk,k0,lds]
  refine (hw1.keep B4).2.2.str hw.1 rfl hq2 fun b2 o2 c2=>?_
  simp only [c2,lds]
  rw [bytes_eq]
  refine br (fun hd=>?_) (fun hd=>?_)
  ·rw [hd,Bool.true_and]
   refine⟨inR_i64 (by omega) (by omega),?_⟩
   refine l4.std hl.1 (k:=m+q) (by omega) hmq fun b3 o3 _ k3 _ _=>?_
   simp only [Addr.add_mk,k3,lds]
   refine l4.std hl.1 (k:=m) rfl hm2 fun b4 o4 _ k4 _ _=>?_
   simp only [Addr.add_mk,k4,lds]
   refine⟨?_,C4⟩
   rw [Bool.eq_iff_iff,beq_iff_eq,decide_eq_true_eq]
   omega
  ·rw [hd]
   exact⟨rfl,C4⟩
 ·have hnil:refP (st.drop m) ws=[]:=refP_short (by rw [List.length_drop];omega)
  rw [hnil,List.append_nil] at hout
  subst hout
  exact h1 hc (A,n,c) w2 (btr hb1 hb1.size hb2) (oo.rebase fun x hx=>by have:=(oo.lt x hx).1;have:=hb1.size;omega)
theorem findR_calls (hl:RdV LStd w st vl) (hst:st.length≤67108864) (s:ByteArray) (h1:oneF s=true→∀v w',Below w.heap.size w w'→Own LHt w' w.heap.size 67 (slV v) (refP st [s])→R (.returned (.tuple #[slV v,.int .i64 0])) w')
  (h0:oneF s=false→∀w',Below w.heap.size w w'→R (.returned (.tuple #[.slice none 0 0,.int .i64 1])) w'):Calls Tryz.prog 17 #[.slice vl.1 vl.2.1 vl.2.2,.string s] w R:=by
 refine ok17 vl.1 vl.2.1 vl.2.2 s ?_
 unfold F17
 refine wordR_calls s fun w1 hb1=>⟨_,rfl,?_⟩
 rw [brnot]
 refine br (fun hc=>?_) (fun hc=>h0 hc w1 hb1)
 refine al fun g w2 hb2 b2 hge=>?_
 have B2:=btr hb1 hb1.size hb2
 have hc1:canS [s]=true:=by unfold canS;simp [hc]
 have hw2:RdV LS w2 [s] (some ⟨g,0,none⟩,1,1):=⟨rfl,by simp,rd_blk (xs:=[s]) b2 rfl (by simp [maxLen])⟩
 refine phraseR_calls (vw:=(some ⟨g,0,none⟩,1,1)) (hl.keep B2) hw2 hst (fun _ v w3 hb3 o3=>⟨_,_,_,_,rfl,?_⟩) fun hn=>by rw [hc1] at hn;cases hn
 exact h1 hc v w3 (btr B2 B2.size hb3) (o3.rebase fun x hx=>by have:=(o3.lt x hx).1;have:=B2.size;omega)
theorem terms_step {w2:World}{B:Nat}{A:Option Addr}{n c:Nat}{out:List Nm}{head:ByteArray}{p:Std}{pre:List Std} (hB:B≤w2.heap.size) (oo:Own LNm w2 B 80 (.slice A n c) out) (ht:IsTm pre head out) (hp:preB head p.1=true) (hlen:out.length≤67108864) {J4:Option Addr→Nat→Nat→World→Prop}
  (hJ:∀A' n' c' w' out',Below B w2 w'→Own LNm w' B 80 (.slice A' n' c') out'→IsTm (pre++[p]) head out'→out'.length≤out.length+1→J4 A' n' c' w') (hsm:∀x∈out,x.2≤67108864):F24_j7 A n c J4 p.1 w2 R:=by
 unfold F24_j7
 obtain⟨q1,q2⟩:=oo.rd
 have hup:=ht.up
 have hlt:∀i j (hi:i < out.length) (hj:j < out.length),i < j→blt out[i].1 out[j].1=true:=fun i j hi hj hij=>List.pairwise_iff_getElem.1 hup i j hi hj hij
 refine⟨fun low high w'=>∃a b:Nat,low=a∧high=b∧a≤b∧b≤out.length∧w2=w'∧(∀j (hj:j < out.length),j < a→blt out[j].1 p.1=true)∧(∀j (hj:j < out.length),b≤j→blt out[j].1 p.1=false),fun low high _=>(high-low).toNat,
  ⟨0,out.length,rfl,by rw [q1],by omega,Nat.le_refl _,rfl,fun j hj h=>by omega,fun j hj h=>by omega⟩,?_⟩
 rintro _ _ _ ⟨a,b,rfl,rfl,hab,hb,rfl,ha1,hb1⟩
 unfold F24_l8
 refine brd (fun hlt2=>?_) (fun hge=>?_)
 ·have hmid:((a:Int)+(b:Nat)).tdiv 2=(((a+b) / 2:Nat):Int):=by rw [Int.tdiv_eq_ediv_of_nonneg (by omega)];rfl
  rw [hmid]
  have hm2:(a+b) / 2 < out.length:=by omega
  refine⟨inR_i64 (by omega) (by omega),inR_i64 (by omega) (by omega),?_⟩
  refine q2.nm q1 rfl hm2 fun bb o k0 _=>?_
  simp only [k0,lds]
  refine br (fun h1=>?_) (fun h1=>?_)
  ·refine⟨inR_i64 (by omega) (by omega),⟨(a+b) / 2+1,b,by simp,rfl,by omega,hb,trivial,fun j hj hja=>?_,hb1⟩,(by first | omega | (dsimp only;omega))⟩
   have h1:blt out[(a+b) / 2].1 p.1=true:=h1
   by_cases e:j=(a+b) / 2
   ·subst e;exact h1
   ·exact blt_trans (hlt j _ hj hm2 (by omega)) h1
  ·refine⟨⟨a,(a+b) / 2,rfl,rfl,by omega,by omega,trivial,ha1,fun j hj hja=>?_⟩,(by first | omega | (dsimp only;omega))⟩
   have h1:blt out[(a+b) / 2].1 p.1=false:=h1
   by_cases e:j=(a+b) / 2
   ·subst e;exact h1
   ·have h2:=hlt _ j hm2 hj (by omega)
    refine Bool.eq_false_iff.2 fun h3=>?_
    have:=blt_trans h2 h3
    rw [h1] at this;cases this
 ·obtain rfl:a=b:=by omega
  refine⟨fun w'=>w2=w'∧(∀h:a < out.length,out[a].1≠p.1),?_,?_⟩
  ·rintro _ ⟨rfl,hne⟩
   unfold F24_j15
   have hdec:IsTm (pre++[p]) head (out.take a++(p.1,1) :: out.drop a):=by
    refine tm_new (by rw [List.take_append_drop];exact ht) hp (fun x hx=>?_) (fun x hx=>?_)
    ·obtain⟨j,hj,rfl⟩:=List.mem_iff_getElem.1 hx
     rw [List.length_take] at hj
     rw [List.getElem_take]
     exact ha1 j (by omega) (by omega)
    ·obtain⟨j,hj,rfl⟩:=List.mem_iff_getElem.1 hx
     rw [List.length_drop] at hj
     rw [List.getElem_drop]
     have ha2:a < out.length:=by omega
     have h0:blt p.1 out[a].1=true:=by
      rcases blt_tri out[a].1 p.1 with e | e | e
      ·rw [hb1 a ha2 (Nat.le_refl _)] at e;cases e
      ·exact absurd e (hne ha2)
      ·exact e
     by_cases e:j=0
     ·subst e;exact h0
     ·exact blt_trans h0 (hlt a (a+j) ha2 (by omega) (by omega))
   refine al fun g1 w3 hb3 b3 hge3=>⟨by omega,by omega,by have:=q2.1;have:=q1;omega,?_⟩
   have om0:Own LNm w3 B 80 (.slice (some ⟨g1,0,none⟩) 0 0) []:=.inr (.inl ⟨⟨_,rfl⟩,rfl⟩)
   have oo3:=oo.keep hb3
   obtain⟨z1,z2⟩:=oo3.rd
   have ap0:Apart (.slice A n c) (.slice (some ⟨g1,0,none⟩) 0 0):=by
    first
    | exact oo.apart_new (.inr ⟨g1,rfl,hge3⟩)
    | exact oo.apart_new (.inl rfl)
   have ha3:((a:Nat):Int).toNat=a:=by omega
   rw [ha3]
   refine ap (L:=LNm) (base:=B) (ys:=out.take a) (.agg #[.string (ByteArray.mk #[]),.int .i64 0]) 24 (by rw [List.length_take];omega) (by kernel_rfl) (by kernel_rfl) (by kernel_rfl) om0 (z2.take _) (by have:=hb3.size;omega) (by rw [List.length_take,List.length_nil];omega) (by unfold maxLen;rw [List.length_take,List.length_nil];omega) fun A4 c4 w4 o4 g4=>⟨A4,_,c4,rfl,?_⟩
   have p4:=g4.own oo3 ap0
   refine ap1 (L:=LNm) (x:=(p.1,1)) (base:=B) (.agg #[.string (ByteArray.mk #[]),.int .i64 0]) 24 rfl (by kernel_rfl) (by kernel_rfl) (by kernel_rfl) o4 (by have:=g4.lt;have:=hb3.size;omega) (by simp only [List.length_append,List.length_take,List.length_nil];omega) (by unfold maxLen;simp only [List.length_append,List.length_take,List.length_nil];omega) fun A5 c5 w5 o5 g5=>⟨A5,_,c5,rfl,by omega,by omega,by have:=q2.1;have:=q1;omega,?_⟩
   have p5:=g5.own p4.1 p4.2
   obtain⟨y1,y2⟩:=p5.1.rd
   have hn:(((n:Nat):Int)).toNat-a=(out.drop a).length:=by rw [List.length_drop];omega
   rw [hn]
   refine ap (L:=LNm) (base:=B) (ys:=out.drop a) (.agg #[.string (ByteArray.mk #[]),.int .i64 0]) 24 rfl (by kernel_rfl) (by kernel_rfl) (by kernel_rfl) o5 (y2.slice (by omega)) (by have:=g4.lt;have:=g5.lt;have:=hb3.size;omega) (by simp only [List.length_append,List.length_take,List.length_drop,List.length_nil,List.length_singleton];omega) (by unfold maxLen;simp only [List.length_append,List.length_take,List.length_drop,List.length_nil,List.length_singleton];omega) fun A6 c6 w6 o6 g6=>⟨A6,_,c6,rfl,?_⟩
   refine hJ _ _ _ _ _ (((hb3.mono hB).trans g4.below).trans (g5.below.trans g6.below)) o6 (by simpa using hdec) (by simp;omega)
  ·refine brd (fun hlt3=>?_) (fun hge3=>⟨rfl,fun h=>by omega⟩)
   have ha2:a < out.length:=by omega
   refine q2.nm q1 rfl ha2 fun bb o k0 _=>?_
   simp only [k0,lds]
   rw [bytes_eq]
   refine br (fun he=>?_) (fun he=>⟨trivial,fun _ e=>by rw [decide_eq_true e] at he;cases he⟩)
   have he:out[a].1=p.1:=by simpa using he
   refine q2.nm q1 rfl ha2 fun b2 o2 _ k1=>?_
   simp only [Addr.add_mk,k1,lds]
   have hs2:=hsm out[a] (List.getElem_mem ha2)
   refine⟨inR_i64 (by omega) (by omega),?_⟩
   refine Own.elA (v:=(A,n,c)) oo rfl ha2 rfl fun b3 hb3=>?_
   simp only [Addr.add_mk]
   refine Own.stc (v:=(A,n,c)) (j:=1) (x':=(out[a].1,out[a].2+1)) oo ha2 (by decide) ?_ hb3 fun w3 o3 f3=>?_
   ·simp [LNm]
   ·have hdec:out=out.take a++(p.1,out[a].2) :: out.drop (a+1):=by
     have h1:out.drop a=out[a] :: out.drop (a+1):=List.drop_eq_getElem_cons ha2
     have h2:out[a]=(p.1,out[a].2):=Prod.ext he rfl
     rw [←h2,←h1,List.take_append_drop]
    have h3:out.set a (out[a].1,out[a].2+1)=out.take a++(p.1,out[a].2+1) :: out.drop (a+1):=by
     rw [List.set_eq_take_append_cons_drop,if_pos ha2,he]
    rw [h3] at o3
    rw [hdec] at ht
    refine hJ _ _ _ _ _ (f3.toBelow hB fun b hb e=>?_) (by have:=q1;exact o3) (tm_more (by simpa using ht)) (by simp;omega)
    have:=(oo.lt b e).1;omega
theorem hit_le (st:List Std) (k:ByteArray):(hitF st k).length≤st.length:=by
 unfold hitF
 rw [List.length_map]
 exact List.length_filter_le _ _
theorem termsR_calls (hl:RdV LStd w st vl) (hst:st.length≤67108864) (head:ByteArray) (hK:∀v w' l,Below w.heap.size w w'→Own LNm w' w.heap.size 80 (slV v) l→IsTm st head l→l.length≤67108864→R (.returned (slV v)) w') :
  Calls Tryz.prog 24 #[.slice vl.1 vl.2.1 vl.2.2,.string head] w R:=by
 refine ok24 vl.1 vl.2.1 vl.2.2 head ?_
 unfold F24
 have e2:=hl.1
 refine⟨fun A n c i w'=>∃(m:Nat) (out:List Nm),i=m∧m≤st.length∧Below w.heap.size w w'∧Own LNm w' w.heap.size 80 (.slice A n c) out∧IsTm (st.take m) head out∧out.length≤m,fun _ _ _ i _=>st.length-i.toNat,
  ⟨0,[],rfl,by omega,.refl _ _,Own.nil _ _ _ _,tm_nil,Nat.le_refl _⟩,?_⟩
 rintro A n c _ w2 ⟨m,out,rfl,hm,hb2,oo,ht,hol⟩
 unfold F24_l3
 refine brd (fun hlt=>?_) (fun hge=>?_)
 ·have hm2:m < st.length:=by omega
  have htk:st.take (m+1)=st.take m++[st[m]]:=List.take_succ_eq_append_getElem hm2
  refine⟨fun A' n' c' w'=>Below w.heap.size w w'∧∃out':List Nm,Own LNm w' w.heap.size 80 (.slice A' n' c') out'∧IsTm (st.take (m+1)) head out'∧out'.length≤m+1,?_,?_⟩
  ·rintro A' n' c' w' ⟨q1,out',q2,q3,q4⟩
   exact⟨inR_i64 (by omega) (by omega),⟨m+1,out',by simp,by omega,q1,q2,q3,q4⟩,(by first | omega | (dsimp only;omega))⟩
  refine (hl.keep hb2).2.2.std hl.1 rfl hm2 fun b o k0 _ _ _=>?_
  simp only [k0,lds]
  have skip:preB head st[m].1=false→Below w.heap.size w w2∧∃out':List Nm,Own LNm w2 w.heap.size 80 (.slice A n c) out'∧IsTm (st.take (m+1)) head out'∧out'.length≤m+1:=fun hp =>
   ⟨hb2,out,oo,by rw [htk];exact tm_skip ht hp,by omega⟩
  refine⟨fun w'=>w2=w'∧preB head st[m].1=true,?_,?_⟩
  ·rintro _ ⟨rfl,hp⟩
   refine terms_step (pre:=st.take m) hb2.size oo ht hp (by omega) (fun A' n' c' w' out' q1 q2 q3 q4=>⟨hb2.trans q1,out',q2,by rw [htk];exact q3,by omega⟩) fun x hx=>?_
   obtain⟨_,_,h3⟩:=(ht.mem x.1 x.2).1 hx
   have:=hit_le (st.take m) x.1
   rw [List.length_take] at this;omega
  refine brd (fun hlt2=>skip ?_) (fun hge2=>?_)
  ·unfold preB;rw [decide_eq_false (by omega),Bool.false_and]
  ·have hp:preB head st[m].1=decide (st[m].1.extract 0 head.size=head):=by unfold preB;rw [decide_eq_true (by omega),Bool.true_and]
   refine⟨by omega,by omega,by omega,?_⟩
   rw [bytes_eq,Int.toNat_zero,Int.toNat_natCast,brnot,←hp]
   exact br (fun h=>⟨rfl,h⟩) (fun h=>skip h)
 ·obtain rfl:m=st.length:=by omega
  rw [List.take_length] at ht
  exact hK (A,n,c) w2 out hb2 oo ht (by omega)
theorem beginsR_calls (hl:RdV LStd w st vl) (hst:st.length≤67108864) (head:ByteArray) (h1:headB head=true→∀v w' l,Below w.heap.size w w'→Own LNm w' w.heap.size 80 (slV v) l→IsTm st head l→l.length≤67108864→R (.returned (.tuple #[slV v,.int .i64 0])) w')
  (h0:headB head=false→∀w',Below w.heap.size w w'→R (.returned (.tuple #[.slice none 0 0,.int .i64 1])) w'):Calls Tryz.prog 19 #[.slice vl.1 vl.2.1 vl.2.2,.string head] w R:=by
 refine ok19 vl.1 vl.2.1 vl.2.2 head ?_
 unfold F19
 unfold headB at h1 h0
 refine⟨fun w'=>Below w.heap.size w w'∧(decide (head=ByteArray.mk #[]) || oneF head)=true,?_,?_⟩
 ·rintro w1 ⟨hb1,hh⟩
  unfold F19_j3
  exact termsR_calls (hl.keep hb1) hst head fun v w2 l hb2 o2 ht hlen=>⟨_,_,_,rfl,h1 hh v w2 l (btr hb1 hb1.size hb2) (o2.rebase fun x hx=>by have:=(o2.lt x hx).1;have:=hb1.size;omega) ht hlen⟩
 ·rw [bytes_eq,brnot]
  refine br (fun he=>⟨.refl _ _,by rw [he,Bool.true_or]⟩) (fun he=>?_)
  refine wordR_calls head fun w1 hb1=>⟨_,rfl,?_⟩
  rw [brnot]
  exact br (fun ho=>⟨hb1,by rw [ho,Bool.or_true]⟩) (fun ho=>h0 (by rw [he,ho];rfl) w1 hb1)
end
set_option maxRecDepth 100000
structure Good (N:Nat) (sn:List Nat):Prop where
 one:sn.Nodup
 lt:∀k∈sn,k < N
theorem good_len {N:Nat}{sn:List Nat} (h:Good N sn):sn.length≤N:=by
 have h3:=nodup_sub h.one (b:=List.range N) fun k hk=>List.mem_range.2 (h.lt k hk)
 simpa using h3
section
variable {sl:List Sl}
theorem hangF_zero {h:Nat}{l:List Nat}{p:Nat}{sn:List Nat}:hangF sl 0 (h :: l) p sn=none:=by rw [hangF]
theorem hangF_nil {r p:Nat}{sn:List Nat}:hangF sl r [] p sn=some sn:=by rw [hangF]
theorem hangF_no {r h:Nat}{l:List Nat}{p:Nat}{sn:List Nat} (ha:atF sl h=none):hangF sl r (h :: l) p sn=none:=by
 cases r with
 | zero=>exact hangF_zero
 | succ r=>rw [hangF,ha]
theorem hangF_bad {r h k:Nat}{l:List Nat}{p:Nat}{sn:List Nat} (ha:atF sl h=some k) (hk:k < sl.length) (hb:k∈sn∨sl[k].parent≠p):hangF sl r (h :: l) p sn=none:=by
 cases r with
 | zero=>exact hangF_zero
 | succ r=>rw [hangF,ha];simp only [List.getElem?_eq_getElem hk];rw [if_pos hb]
theorem hangF_step {r h k:Nat}{l:List Nat}{p:Nat}{sn:List Nat} (ha:atF sl h=some k) (hk:k < sl.length) (hb:¬(k∈sn∨sl[k].parent≠p)) :
  hangF sl (r+1) (h :: l) p sn=match hangF sl r sl[k].kids h (k :: sn) with | none=>none | some sn'=>hangF sl (r+1) l p sn':=by
 rw [hangF,ha];simp only [List.getElem?_eq_getElem hk];rw [if_neg hb];cases hangF sl r sl[k].kids h (k :: sn) <;> rfl
theorem hangF_good:∀(r:Nat) (l:List Nat) (p:Nat) (sn sn':List Nat),hangF sl r l p sn=some sn'→Good sl.length sn→Good sl.length sn'∧sn.length≤sn'.length:=by
 intro r
 induction r with
 | zero =>
  intro l p sn sn' h hg
  cases l with
  | nil=>rw [hangF_nil] at h;cases h;exact⟨hg,Nat.le_refl _⟩
  | cons x l=>rw [hangF_zero] at h;cases h
 | succ r ih =>
  intro l
  induction l with
  | nil=>intro p sn sn' h hg;rw [hangF_nil] at h;cases h;exact⟨hg,Nat.le_refl _⟩
  | cons x l ihl =>
   intro p sn sn' h hg
   cases ha:atF sl x with
   | none=>rw [hangF_no ha] at h;cases h
   | some k =>
    obtain⟨hk,-⟩:=atF_some ha
    by_cases hb:k∈sn∨sl[k].parent≠p
    ·rw [hangF_bad ha hk hb] at h;cases h
    ·rw [hangF_step ha hk hb] at h
     cases hr:hangF sl r sl[k].kids x (k :: sn) with
     | none=>rw [hr] at h;cases h
     | some s2 =>
      rw [hr] at h
      have hg2:Good sl.length (k :: sn):=⟨List.nodup_cons.2 ⟨fun e=>hb (.inl e),hg.one⟩,fun j hj=>by
       rcases List.mem_cons.1 hj with rfl | hj
       ·exact hk
       ·exact hg.lt j hj⟩
      obtain⟨h1,h2⟩:=ih _ _ _ _ hr hg2
      obtain⟨h3,h4⟩:=ihl _ _ _ h h1
      exact⟨h3,by rw [List.length_cons] at h2;omega⟩
end
def flagsOf (N:Nat) (sn:List Nat):Array Value:=((List.range N).map fun k=>Value.bool (decide (k∈sn))).toArray
theorem flags_get {N k:Nat}{sn:List Nat} (h:k < N):(flagsOf N sn)[k]?=some (.bool (decide (k∈sn))):=by
 unfold flagsOf
 rw [List.getElem?_toArray,List.getElem?_map,List.getElem?_range h];rfl
theorem flags_size (N:Nat) (sn:List Nat):(flagsOf N sn).size=N:=by simp [flagsOf]
theorem flags_set {N k:Nat}{sn:List Nat} (h:k < N):(flagsOf N sn).setIfInBounds k (.bool true)=flagsOf N (k :: sn):=by
 refine Array.ext_getElem? fun j=>?_
 rcases Nat.lt_or_ge j N with hj | hj
 ·rw [flags_get hj]
  by_cases e:k=j
  ·subst e
   rw [Array.getElem?_setIfInBounds_self_of_lt (by rw [flags_size];exact h)];simp
  ·rw [Array.getElem?_setIfInBounds_ne e,flags_get hj]
   have:(j=k)=False:=by simp;omega
   simp [this]
 ·rw [Array.getElem?_eq_none (by simp [flags_size];exact hj),Array.getElem?_eq_none (by rw [flags_size];exact hj)]
theorem but_fm {gs:Nat}{w w':World} (hf:Fm (·=gs) w w'):Sub (but gs w) (but gs w') :=
 sub_only (fun b _ h=>h) fun b hb h=>hf.block b hb fun e=>by
  have e:b=gs:=e
  subst e
  have:Nat.beq b b=true:=Nat.beq_refl b
  rw [this] at h;cases h
theorem RDr.kidsH {w:World}{g gs:Nat}{D:Im}{vs vr:Sv}{S:World→Prop} (h:RDr (but gs w) g D vs vr) (hS:∀w1,S w1→Below w.heap.size w w1) {i:Int}{k:Nat} (hi:i=k) (hk:k < D.sl.length) {K:Addr→Prop}
  (hK:∀b o e,RSl (but gs w) D.sl[k] e→Held S ⟨b,o+7,none⟩ (.slice e.kids.1 e.kids.2.1 e.kids.2.2)→K ⟨b,o,none⟩):IdxA vs.1 vs.2.1 i 8 K:=by
 obtain⟨es,hn,hr,hes⟩:=h.im.row
 have hel:=hes.len
 subst hi
 refine (sub_of_only.rd hr:Rd LS8 w _ _ _).held hS hn (by omega) (by omega) rfl fun b o hc=>?_
 simp only [Int.toNat_natCast] at hc
 exact hK b o _ (hes.get k hk (by omega)) (hc 7 _ rfl)
def HangK (R:Ending→World→Prop) (o:Option (List Nat)) (n0 gs N:Nat) (w:World):Prop:=match o with
 | some sn=>Blk w gs (flagsOf N sn) 4→R (.returned (.tuple #[.int .i64 ((sn.length:Int)-n0),.bool true])) w
 | none=>∀n,R (.returned (.tuple #[.int .i64 n,.bool false])) w
theorem hangR_calls {D:Im}{g gs:Nat}{vs vr:Sv}:∀(r:Nat) (l:List Nat) (v:Sv) (p:Nat) (sn:List Nat) {w:World}{R:Ending→World→Prop},r≤64→RDr (but gs w) g D vs vr→RR LHn (but gs w) l v→(∀x∈l,x < 18446744073709551616) →
  Blk w gs (flagsOf D.sl.length sn) 4→Good D.sl.length sn→(∀w',Fm (·=gs) w w'→HangK R (hangF D.sl r l p sn) sn.length gs D.sl.length w') →
  Calls Tryz.prog 72 #[.pointer (some ⟨g,0,none⟩),.slice v.1 v.2.1 v.2.2,.int .u64 (p:Nat),.int .i64 (65-(r:Int)),.slice (some ⟨gs,0,none⟩) D.sl.length D.sl.length] w R:=by
 intro r
 induction r with
 | zero =>
  intro l v p sn w R hr hD hL hx hB hg h
  obtain⟨z0,z1,z2⟩:=hL
  refine ok72 (some ⟨g,0,none⟩) v.1 v.2.1 v.2.2 p (65-((0:Nat):Int)) (some ⟨gs,0,none⟩) D.sl.length D.sl.length ?_
  unfold F72
  have hD':RDr w g D vs vr:=hD.sub sub_of_only
  have H:=h w (Fm.refl _ _)
  refine⟨fun n i w'=>n=0∧i=0∧w'=w,fun _ _ _=>0,⟨rfl,rfl,rfl⟩,?_⟩
  rintro n i w1 ⟨rfl,rfl,rfl⟩
  unfold F72_l3
  have hlen:=hD.im.len
  refine brd (fun hlt=>?_) (fun hge=>?_)
  ·have hk2:0 < l.length:=by omega
   have hnone:HangK R none sn.length gs D.sl.length w1:=by
    have e:hangF D.sl 0 l p sn=none:=by
     cases l with
     | nil=>simp at hk2
     | cons x l=>exact hangF_zero
    rw [e] at H;exact H
   have hxk:=hx _ (List.getElem_mem hk2)
   refine (sub_of_only.rd z2:Rd LHn w1 _ _ _).hn z1 rfl (k:=0) hk2 fun b o c0=>?_
   simp only [c0,lds]
   refine at_calls' hD' hxk ⟨_,rfl,?_⟩
   refine⟨fun _=>False,fun _ h=>h.elim,?_⟩
   cases ha:atF D.sl l[0] with
   | none=>exact brd (fun _=>hnone _) (fun h0=>absurd (by simp [atI]) h0)
   | some q =>
    obtain⟨hq,-⟩:=atF_some ha
    simp only [atI]
    refine brd (fun h0=>absurd h0 (by omega)) (fun _=>?_)
    rw [IdxA_some (by omega) (by omega)]
    simp only [Addr.add_mk,Int.toNat_natCast,Nat.mul_one,Nat.zero_add,hB.cell,flags_get hq,lds]
    refine br (fun hs=>hnone _) (fun hs=>?_)
    simp only [NonNil_some,hD'.c0,lds]
    refine hD'.slot rfl hq fun b o e he c0 c1 c2 c6 c7=>?_
    simp only [Addr.add_mk,c6,lds]
    exact brn (fun hne=>hnone _) (fun he=>brd (fun hd=>hnone _) (fun h2=>absurd (by decide) h2))
  ·have hk2:l=[]:=List.eq_nil_of_length_eq_zero (by omega)
   subst hk2
   rw [hangF_nil] at H
   have H2:=H hB
   rw [Int.sub_self] at H2
   exact H2
 | succ r ih =>
  intro l v p sn w R hr hD hL hx hB hg h
  obtain⟨z0,z1,z2⟩:=hL
  refine ok72 (some ⟨g,0,none⟩) v.1 v.2.1 v.2.2 p (65-((r+1:Nat):Int)) (some ⟨gs,0,none⟩) D.sl.length D.sl.length ?_
  unfold F72
  refine⟨fun n i w'=>∃(k:Nat) (s2:List Nat),i=k∧k≤l.length∧Fm (·=gs) w w'∧Blk w' gs (flagsOf D.sl.length s2) 4∧n=(s2.length:Int)-sn.length∧Good D.sl.length s2∧sn.length≤s2.length∧hangF D.sl (r+1) (l.drop k) p s2=hangF D.sl (r+1) l p sn,
   fun _ i _=>l.length-i.toNat,⟨0,sn,rfl,by omega,Fm.refl _ _,hB,by omega,hg,Nat.le_refl _,rfl⟩,?_⟩
  rintro n i w1 ⟨k,s2,rfl,hk,hf1,hB1,rfl,hg1,hle,hF⟩
  unfold F72_l3
  have hD1:RDr (but gs w1) g D vs vr:=hD.sub (but_fm hf1)
  have hL1:RR LHn (but gs w1) l v:=RR.sub (but_fm hf1) ⟨z0,z1,z2⟩
  have hD1':RDr w1 g D vs vr:=hD1.sub sub_of_only
  have hlen:=hD.im.len
  have hgl:=good_len hg1
  have H:=h w1 hf1
  refine brd (fun hlt=>?_) (fun hge=>?_)
  ·have hk2:k < l.length:=by omega
   rw [List.drop_eq_getElem_cons hk2] at hF
   have hxk:=hx _ (List.getElem_mem hk2)
   refine (sub_of_only.rd hL1.2.2).hn z1 rfl (k:=k) hk2 fun b o c0=>?_
   simp only [c0,lds]
   refine at_calls' hD1' hxk ⟨_,rfl,?_⟩
   cases ha:atF D.sl l[k] with
   | none =>
    rw [hangF_no ha] at hF
    rw [←hF] at H
    refine⟨fun _=>False,fun _ h=>h.elim,?_⟩
    refine brd (fun _=>H _) (fun h0=>absurd (by simp [atI]) h0)
   | some q =>
    obtain⟨hq,-⟩:=atF_some ha
    have hbad:q∈s2∨D.sl[q].parent≠p→HangK R none sn.length gs D.sl.length w1:=fun hb=>by
     rw [hangF_bad ha hq hb] at hF
     rw [←hF] at H;exact H
    simp only [atI]
    refine⟨fun w'=>w1=w'∧¬(q∈s2∨D.sl[q].parent≠p),?_,?_⟩
    ·rintro _ ⟨rfl,hnb⟩
     unfold F72_j8
     rw [IdxA_some (by omega) (by omega)]
     simp only [Addr.add_mk,Int.toNat_natCast,Nat.mul_one,Nat.zero_add]
     refine st_blk hB1 (by rw [flags_size];exact hq) fun w2 hB2 hf2=>?_
     rw [flags_set hq] at hB2
     have hD2:RDr (but gs w2) g D vs vr:=hD1.sub (but_fm hf2)
     have hL2:RR LHn (but gs w2) l v:=hL1.sub (but_fm hf2)
     have hd:Below w2.heap.size w2 w2.drew:=(Below.refl _ _).drew
     refine⟨fun w'=>Below w2.heap.size w2 w',hd,?_⟩
     rw [NonNil_some]
     have hD2':RDr w2 g D vs vr:=hD2.sub sub_of_only
     refine⟨_,_,_,fun w' hb=>(hD2'.keep hb).c0,?_⟩
     refine hD2.kidsH (fun _ h=>h) rfl hq fun b o e he c7=>⟨_,_,_,c7,?_⟩
     refine (sub_of_only.rd hL2.2.2:Rd LHn w2 _ _ _).hnH (fun _ h=>h) z1 rfl (k:=k) hk2 fun b o d0=>⟨_,d0,inR_i64 (by omega) (by omega),?_⟩
     have e1:65-((r+1:Nat):Int)+1=65-(r:Int):=by omega
     rw [e1]
     have hg2:Good D.sl.length (q :: s2):=⟨List.nodup_cons.2 ⟨fun e=>hnb (.inl e),hg1.one⟩,fun j hj=>by
      rcases List.mem_cons.1 hj with rfl | hj
      ·exact hq
      ·exact hg1.lt j hj⟩
     have hsub:Sub (but gs w2) (but gs w2.drew):=but_fm (.below hd)
     refine ih D.sl[q].kids e.kids l[k] (q :: s2) (by omega) (hD2.sub hsub) (he.kids.sub hsub) (hD.im.ok _ (List.getElem_mem hq)).kids (hB2.keep hd) hg2 fun w3 hf3=>?_
     have hf13:Fm (·=gs) w w3:=((hf1.trans hf2).trans (.below hd)).trans hf3
     have H3:=h w3 hf13
     rw [hangF_step ha hq hnb] at hF
     cases hr3:hangF D.sl r D.sl[q].kids l[k] (q :: s2) with
     | none =>
      rw [hr3] at hF
      rw [←hF] at H3
      intro n
      refine⟨_,_,rfl,?_⟩
      rw [Bool.not_false,Br_t]
      exact H3 _
     | some s3 =>
      rw [hr3] at hF
      obtain⟨hg3,hl3⟩:=hangF_good _ _ _ _ _ hr3 hg2
      have hgl3:=good_len hg3
      rw [List.length_cons] at hl3
      intro hB3
      refine⟨_,_,rfl,?_⟩
      rw [Bool.not_true,Br_f]
      rw [List.length_cons]
      exact⟨inR_i64 (by omega) (by omega),inR_i64 (by omega) (by omega),inR_i64 (by omega) (by omega),⟨k+1,s3,by simp,by omega,hf13,hB3,by omega,hg3,by omega,hF⟩,(by first | omega | (dsimp only;omega))⟩
    ·refine brd (fun h0=>absurd h0 (by omega)) (fun _=>?_)
     rw [IdxA_some (by omega) (by omega)]
     simp only [Addr.add_mk,Int.toNat_natCast,Nat.mul_one,Nat.zero_add,hB1.cell,flags_get hq,lds]
     refine br (fun hs=>hbad (.inl (by simpa using hs)) _) (fun hs=>?_)
     simp only [NonNil_some,hD1'.c0,lds]
     refine hD1'.slot rfl hq fun b o e he c0 c1 c2 c6 c7=>?_
     simp only [Addr.add_mk,c6,lds]
     refine brn (fun hne=>hbad (.inr fun e=>hne (by rw [e])) _) (fun he=>brd (fun hd=>absurd hd (by omega)) (fun _=>⟨trivial,?_⟩))
     rintro (h3 | h3)
     ·have:decide (q∈s2)=true:=decide_eq_true h3
      rw [this] at hs;cases hs
     ·exact h3 (by omega)
  ·have hk2:k=l.length:=by omega
   subst hk2
   rw [List.drop_length,hangF_nil] at hF
   rw [←hF] at H
   exact H hB1
set_option maxRecDepth 100000
section
variable {w w1:World}{g:Nat}{D:Im}{vs vr:Sv}
theorem len_calls (h:RDr w g D vs vr) {R:Ending→World→Prop} (hK:R (.returned (.int .i64 (liveN D.sl:Nat))) w):Calls Tryz.prog 43 #[.pointer (some ⟨g,0,none⟩)] w R:=by
 have hlen:=h.im.len
 have hn:=h.n
 refine ok43 (some ⟨g,0,none⟩) ?_
 unfold F43
 refine⟨fun n i w'=>∃k:Nat,i=k∧k≤D.sl.length∧w'=w∧n=(liveN (D.sl.take k):Nat),fun _ i _=>D.sl.length-i.toNat,⟨0,rfl,by omega,rfl,by simp [liveN]⟩,?_⟩
 rintro n i w' ⟨k,rfl,hk,rfl,rfl⟩
 unfold F43_l3
 simp only [NonNil_some,h.c0,lds]
 have hle:∀j,liveN (D.sl.take j)≤D.sl.length:=fun j=>by
  unfold liveN
  exact Nat.le_trans (List.length_filter_le _ _) (by rw [List.length_take];omega)
 have hle2:=hle k
 refine brd (fun hlt=>?_) (fun hge=>?_)
 ·have hk2:k < D.sl.length:=by omega
  refine⟨fun n2 w2=>w2=w'∧n2=(liveN (D.sl.take (k+1)):Nat),?_,?_⟩
  ·rintro n2 w2 ⟨rfl,rfl⟩
   unfold F43_j4
   exact⟨inR_i64 (by omega) (by omega),⟨k+1,by simp,by omega,rfl,rfl⟩,(by first | omega | (dsimp only;omega))⟩
  ·refine h.slot rfl hk2 fun b o e he c0 c1 c2 c6 c7=>?_
   simp only [Addr.add_mk,c1,lds]
   have hs:=liveN_take D.sl hk2
   refine br (fun hl=>?_) (fun hl=>?_)
   ·rw [if_pos hl] at hs
    exact⟨inR_i64 (by omega) (by omega),trivial,by omega⟩
   ·rw [if_neg (by rw [hl];decide)] at hs
    exact⟨trivial,by omega⟩
 ·have hk2:k=D.sl.length:=by omega
  subst hk2
  rw [List.take_length];exact hK
end
set_option maxRecDepth 100000
theorem copiedImage_calls (x:Im) (vs vr:Sv) {w:World}{R:Ending→World→Prop} (hx:RIm w x vs vr)
  (h:∀vs' vr' w',Below w.heap.size w w'→RIm (above w.heap.size w') x vs' vr'→R (.returned (.agg #[.slice vs'.1 vs'.2.1 vs'.2.2,.slice vr'.1 vr'.2.1 vr'.2.2])) w') :
  Calls Tryz.prog 38 #[.agg #[.slice vs.1 vs.2.1 vs.2.2,.slice vr.1 vr.2.1 vr.2.2]] w R:=by
 refine ok38 vs.1 vs.2.1 vs.2.2 vr.1 vr.2.1 vr.2.2 ?_
 unfold F38
 refine al fun g1 w1 hb1 b1 hge1=>al fun g2 w2 hb2 b2 hge2=>al fun g6 w3 hb3 b6 hge6=>?_
 have B2:=btr hb1 hb1.size hb2
 have B3:=btr B2 B2.size hb3
 have b13:=(b1.keep hb2).keep hb3
 simp only [Addr.add_mk,Nat.zero_add,b13.cell,lds]
 refine apC (L:=LHn) (.int .u64 0) 8 rfl rfl rfl (by decide) (hx.roots.keep B3) (j:=w3.heap.size) (Nat.le_refl _) fun vr' w4 hb4 hr4=>⟨_,_,_,rfl,?_⟩
 have B4:=btr B3 B3.size hb4
 have b14:=b13.keep hb4
 have b24:=(b2.keep hb3).keep hb4
 refine al fun gy w5 hb5 b5 hge5=>?_
 refine st_blk b5 (by simp) fun w6 b6' hf6=>?_
 simp only [Addr.add_mk,Nat.zero_add]
 refine st_blk b6' (by simp) fun w7 b7 hf7=>?_
 simp only [List.setIfInBounds_toArray,List.set_cons_zero,List.set_cons_succ] at b7
 have hf7':Fm (·=gy) w5 w7:=Fm.trans hf6 hf7
 have D7:Below w4.heap.size w4 w7:=hb5.trans (hf7'.toBelow hb5.size fun b hb e=>by omega)
 have hgy:=b7.lt
 have hs4:=B4.size
 have hs7:=D7.size
 obtain⟨es,hn,hr,hes⟩:=hx.row
 have hel:=hes.len
 have hxl:=hx.len
 refine⟨fun i w'=>∃(k:Nat) (A:Option Addr) (n c:Nat),i=k∧k≤x.sl.length∧Below w4.heap.size w4 w'∧w7.heap.size≤w'.heap.size∧Blk w' gy #[.slice A n c,.slice vr'.1 vr'.2.1 vr'.2.2] 25∧Bld KS w7.heap.size 162 w' (.slice A n c) (x.sl.take k),
  fun i _=>x.sl.length-i.toNat,⟨0,none,0,0,rfl,by omega,D7,Nat.le_refl _,b7,by simpa using Bld.nil KS _ _ _⟩,?_⟩
 rintro i w8 ⟨k,A,n,c,rfl,hk,hb8,hs8,b8,hbl⟩
 unfold F38_l3
 have b18:=b14.keep hb8
 have B8:=btr B4 B4.size hb8
 simp only [Addr.add_mk,Nat.zero_add,b18.cell,lds]
 refine brd (fun hlt=>?_) (fun hge=>?_)
 ·have hk2:k < x.sl.length:=by omega
  refine (hr.keep B8).s8 hn rfl (k:=k) (by omega) fun b o c0 c1 c2 c3 c4 c5 c6 c7=>?_
  simp only [Addr.add_mk,c0,c1,c2,c3,c4,c5,c6,c7,lds]
  have hsl:=(hes.get k hk2 (by omega))
  refine al fun gs w9 hb9 bs9 hges=>?_
  refine st_blk bs9 (by simp) fun u1 q1 f1=>st_blk q1 (by simp) fun u2 q2 f2=>st_blk q2 (by simp) fun u3 q3 f3=>st_blk q3 (by simp) fun u4 q4 f4=>st_blk q4 (by simp) fun u5 q5 f5=>st_blk q5 (by simp) fun u6 q6 f6=>st_blk q6 (by simp) fun u7 q7 f7=>st_blk q7 (by simp) fun w16 bs16 f8=>?_
  simp only [List.setIfInBounds_toArray,List.set_cons_zero,List.set_cons_succ] at bs16
  have F16:Fm (·=gs) w9 w16:=((((((f1.trans f2).trans f3).trans f4).trans f5).trans f6).trans f7).trans f8
  have E16:Below w8.heap.size w8 w16:=hb9.trans (F16.toBelow hb9.size fun b hb e=>by omega)
  have hgs:=bs16.lt
  have hs16:=E16.size
  generalize es[k]=ek at *
  refine⟨fun w'=>∃a' k':Sv,Below w8.heap.size w8 w'∧Blk w' gs #[.int .u32 (ek.gen:Nat),.bool ek.live,.int .i64 ek.kind,.string ek.nm,.slice a'.1 a'.2.1 a'.2.2,.string ek.text,.int .u64 (ek.parent:Nat),.slice k'.1 k'.2.1 k'.2.2] 162 ∧
    RR LAt (above w8.heap.size w') x.sl[k].attrs a'∧RR LHn (above w8.heap.size w') x.sl[k].kids k',?_,?_⟩
  ·rintro w17 ⟨a',k',hb17,bs17,ra,rk⟩
   unfold F38_j7
   have b17:=b8.keep hb17
   simp only [Addr.add_mk,Nat.zero_add,b17.cell,bs17.cell,lds]
   obtain⟨A0,c0',hv⟩:=hbl.len
   cases hv
   have hlk:(x.sl.take k).length=k:=by rw [List.length_take];omega
   refine Bld.app (N:=KS) (y:=⟨ek.gen,ek.live,ek.kind,ek.nm,a',ek.text,ek.parent,k'⟩) (x:=x.sl[k]) (M:=fun _=>False) (.agg #[.int .u32 0,.bool false,.int .i64 0,.string ⟨#[]⟩,.slice none 0 0,.string ⟨#[]⟩,.int .u64 0,.slice none 0 0]) 104 hbl (.below hb17) (fun _ _ h=>h) hs8 ⟨hsl.gen,hsl.live,hsl.kind,hsl.nm,hsl.text,hsl.parent,ra,rk⟩ rfl rfl rfl rfl (by omega) (by simp only [maxLen];omega) fun A' c' w18 hbl18 hf18=>⟨_,_,_,rfl,?_⟩
   rw [hlk] at hbl18 ⊢
   have E18:Below w7.heap.size w17 w18:=hf18.toBelow (by have:=hb17.size;omega) fun b hb hm=>by omega
   have b18':=b17.below E18 hgy
   refine st_blk b18' (by simp) fun w19 b19 hf19=>?_
   simp only [List.setIfInBounds_toArray,List.set_cons_zero,List.set_cons_succ] at b19
   have hs18:=E18.size
   have hs17:=hb17.size
   have hs19:=hf19.size
   refine⟨inR_i64 (by omega) (by omega),⟨k+1,A',k+1,c',by simp,by omega,?_,by omega,b19,?_⟩,(by first | omega | (dsimp only;omega))⟩
   ·exact ((btr hb8 hb8.size hb17).trans (E18.mono hs7)).trans (hf19.toBelow (by have:=hb8.size;omega) fun b hb e=>by omega)
   ·rw [List.take_succ_eq_append_getElem hk2]
    exact hbl18.keep hf19 fun b hb e=>by omega
  ·have hd:Below w16.heap.size w16 w16.drew:=(Below.refl _ _).drew
   refine⟨fun w'=>Below w16.heap.size w16 w',hd,?_⟩
   refine⟨_,_,_,fun w2 h2=>by rw [Addr.add_mk,(bs16.keep h2).cell];rfl,?_⟩
   refine⟨_,_,_,fun w2 h2=>by rw [Addr.add_mk,(bs16.keep h2).cell];rfl,?_⟩
   have hra:=(hsl.sub (sub_below B8)).ats
   have hrk:=(hsl.sub (sub_below B8)).kids
   have upA:∀{u u':World}{v:Sv},RR LAt (above w16.heap.size u) x.sl[k].attrs v→Below u.heap.size u u'→RR LAt (above w16.heap.size u') x.sl[k].attrs v:=fun h hb=>h.sub (above_fm (M:=fun _=>False) (.below hb) (Nat.le_refl _) fun _ _ h=>h)
   have fin:∀(w21:World) (a' k':Sv),Below w16.heap.size w16 w21→RR LAt (above w16.heap.size w21) x.sl[k].attrs a'→RR LHn (above w16.heap.size w21) x.sl[k].kids k' →
     St w21 ⟨gs,4,none⟩ (.slice a'.1 a'.2.1 a'.2.2) fun w22=>St w22 ⟨gs,7,none⟩ (.slice k'.1 k'.2.1 k'.2.2) fun w'=>∃a' k':Sv,Below w8.heap.size w8 w'∧Blk w' gs #[.int .u32 (ek.gen:Nat),.bool ek.live,.int .i64 ek.kind,.string ek.nm,.slice a'.1 a'.2.1 a'.2.2,.string ek.text,.int .u64 (ek.parent:Nat),.slice k'.1 k'.2.1 k'.2.2] 162 ∧
      RR LAt (above w8.heap.size w') x.sl[k].attrs a'∧RR LHn (above w8.heap.size w') x.sl[k].kids k':=by
    intro w21 a' k' hb21 ra rk
    refine st_blk (bs16.keep hb21) (by simp) fun w22 q22 f22=>st_blk q22 (by simp) fun w23 q23 f23=>?_
    simp only [List.setIfInBounds_toArray,List.set_cons_zero,List.set_cons_succ] at q23
    have f:Fm (·=gs) w21 w23:=Fm.trans f22 f23
    have hm:∀b,w16.heap.size≤b→¬b=gs:=fun b hb e=>by omega
    exact⟨a',k',(btr E16 hs16 hb21).trans (f.toBelow (by have:=hb21.size;omega) fun b hb e=>by omega),q23,ra.sub (above_fm f hs16 hm),rk.sub (above_fm f hs16 hm)⟩
   have cpA:∀{u:World}{g:Addr}{K:Value→World→Prop},Below w16.heap.size w16 u→(∀v' u',Below u.heap.size u u'→RR LAt (above w16.heap.size u') x.sl[k].attrs v'→K (.slice v'.1 v'.2.1 v'.2.2) u') →
     Raw Tryz.prog (Builtin.append_ #[81,81] 81 #[.slice (some g) 0 0,.slice ek.ats.1 ek.ats.2.1 ek.ats.2.2]) u K:=fun hb hK =>
    apC (L:=LAt) (.agg #[.string ⟨#[]⟩,.string ⟨#[]⟩]) 32 rfl rfl rfl (by decide) (hra.keep (btr E16 hs16 hb)) hb.size hK
   have cpK:∀{u:World}{g:Addr}{K:Value→World→Prop},Below w16.heap.size w16 u→(∀v' u',Below u.heap.size u u'→RR LHn (above w16.heap.size u') x.sl[k].kids v'→K (.slice v'.1 v'.2.1 v'.2.2) u') →
     Raw Tryz.prog (Builtin.append_ #[23,23] 23 #[.slice (some g) 0 0,.slice ek.kids.1 ek.kids.2.1 ek.kids.2.2]) u K:=fun hb hK =>
    apC (L:=LHn) (.int .u64 0) 8 rfl rfl rfl (by decide) (hrk.keep (btr E16 hs16 hb)) hb.size hK
   refine⟨al fun g23 u1 e1 _ _=>?_,al fun g27 u1 e1 _ _=>?_⟩
   ·have U1:=btr hd hd.size e1
    refine⟨U1,cpA U1 fun a' u2 e2 ra=>⟨_,_,_,rfl,?_⟩,al fun g27 u2 e2 _ _=>?_⟩
    ·have U2:=btr U1 U1.size e2
     refine⟨U2,al fun g27 u3 e3 _ _=>?_⟩
     have U3:=btr U2 U2.size e3
     exact⟨U3,cpK U3 fun k' u4 e4 rk=>⟨_,_,_,rfl,fin u4 a' k' (btr U3 U3.size e4) (upA ra (btr e3 e3.size e4)) rk⟩⟩
    ·have U2:=btr U1 U1.size e2
     refine⟨U2,cpA U2 fun a' u3 e3 ra=>⟨_,_,_,rfl,?_⟩⟩
     have U3:=btr U2 U2.size e3
     exact⟨U3,cpK U3 fun k' u4 e4 rk=>⟨_,_,_,rfl,fin u4 a' k' (btr U3 U3.size e4) (upA ra e4) rk⟩⟩
   ·have U1:=btr hd hd.size e1
    refine⟨U1,al fun g23 u2 e2 _ _=>?_⟩
    have U2:=btr U1 U1.size e2
    refine⟨U2,cpA U2 fun a' u3 e3 ra=>⟨_,_,_,rfl,?_⟩⟩
    have U3:=btr U2 U2.size e3
    exact⟨U3,cpK U3 fun k' u4 e4 rk=>⟨_,_,_,rfl,fin u4 a' k' (btr U3 U3.size e4) (upA ra e4) rk⟩⟩
 ·have hk2:k=x.sl.length:=by omega
  subst hk2
  rw [List.take_length] at hbl
  have b28:=b24.keep hb8
  have hg2:g2 < w3.heap.size:=(b2.keep hb3).lt
  simp only [Addr.add_mk,Nat.zero_add,b8.cell,lds]
  refine st_blk b28 (by simp) fun w9 q9 f9=>st_blk q9 (by simp) fun w10 q10 f10=>?_
  simp only [List.setIfInBounds_toArray,List.set_cons_zero,List.set_cons_succ] at q10
  simp only [Addr.add_mk,Nat.zero_add,q10.cell,lds]
  have f:Fm (·=g2) w8 w10:=Fm.trans f9 f10
  have hs3:=hb4.size
  have hB3:=B3.size
  have hB1:=hb1.size
  have hs8':=hb8.size
  obtain⟨A',c',es',hv,h1,h2⟩:=(hbl.keep f fun b hb e=>by omega).read (j:=w.heap.size) (by omega)
  cases hv
  have hr10:RR LHn (above w.heap.size w10) x.roots vr':=(hr4.sub (above_fm (M:=fun _=>False) (.below hb8) (Nat.le_refl _) fun _ _ h=>h)).sub (above_fm f hB3 fun b hb e=>by have e:b=g2:=e;omega)
  exact h (A,es'.length,c) vr' w10 (B8.trans (f.toBelow (by omega) fun b hb e=>by omega)) ⟨hx.len,⟨es',rfl,h1,h2⟩,hr10,hx.ok,hx.rok⟩
set_option maxRecDepth 100000
def normS (s:Sl):Sl:=if s.live then if s.kind=2 then { s with nm:=noB,attrs:=[],kids:=[] } else { s with text:=noB } else ⟨s.gen,false,0,noB,[],noB,0,[]⟩
def normE (e:S8):S8:=if e.live then if e.kind=2 then { e with nm:=noB,ats:=(none,0,0),kids:=(none,0,0) } else { e with text:=noB } else ⟨e.gen,false,0,noB,(none,0,0),noB,0,(none,0,0)⟩
def slotB (s:Sl):Bool:=decide (ownF s.kind s.nm s.attrs s.text=0) && (decide (s.kind=1) || decide (s.kids.length=0))
def slotsB (l:List Sl):Bool:=l.all fun s=>decide (1≤s.gen) && (!s.live || slotB s)
def loadF (x:Im):Option Im :=
 if 4096 < x.sl.length then none else if slotsB x.sl=true then match hangF (x.sl.map normS) 64 x.roots 0 [] with
  | some sn=>if sn.length=liveN (x.sl.map normS) then some ⟨x.sl.map normS,x.roots⟩ else none
  | none=>none
 else none
theorem slot_calls {w:World}{s:Sl}{e:S8} (he:RSl w s e) {R:Ending→World→Prop} (h:∀w',Below w.heap.size w w'→R (.returned (.bool (slotB s))) w') :
  Calls Tryz.prog 71 #[.agg #[.int .u32 (e.gen:Nat),.bool e.live,.int .i64 e.kind,.string e.nm,.slice e.ats.1 e.ats.2.1 e.ats.2.2,.string e.text,.int .u64 (e.parent:Nat),.slice e.kids.1 e.kids.2.1 e.kids.2.2]] w R:=by
 refine ok71 (e.gen:Nat) e.live e.kind e.nm e.ats.1 e.ats.2.1 e.ats.2.2 e.text (e.parent:Nat) e.kids.1 e.kids.2.1 e.kids.2.2 ?_
 unfold F71
 refine al fun gs w1 hb1 b1 hge1=>?_
 simp only [Addr.add_mk,Nat.zero_add,b1.cell,lds]
 refine al fun g3 w2 hb2 b2 hge2=>?_
 refine st_blk b2 (by simp) fun u1 q1 f1=>st_blk q1 (by simp) fun u2 q2 f2=>st_blk q2 (by simp) fun u3 q3 f3=>st_blk q3 (by simp) fun u4 q4 f4=>st_blk q4 (by simp) fun w3 b3 f5=>?_
 simp only [List.setIfInBounds_toArray,List.set_cons_zero,List.set_cons_succ] at b3
 have F3:Fm (·=g3) w2 w3:=(((f1.trans f2).trans f3).trans f4).trans f5
 have D3:Below w1.heap.size w1 w3:=hb2.trans (F3.toBelow hb2.size fun b hb e=>by have e:b=g3:=e;omega)
 have B3:=btr hb1 hb1.size D3
 simp only [Addr.add_mk,Nat.zero_add,b3.cell,lds]
 rw [he.kind,he.nm,he.text]
 refine own2_calls s.kind s.nm s.attrs e.ats s.text (none,0,0) (he.ats.keep B3) fun w4 hb4=>⟨_,rfl,?_⟩
 have B4:=btr B3 B3.size hb4
 have b14:=(b1.keep D3).keep hb4
 have H:=h w4 B4
 unfold slotB at H
 refine bre (fun h0=>?_) (fun h0=>?_)
 ·rw [decide_eq_true h0,Bool.true_and] at H
  simp only [Addr.add_mk,Nat.zero_add,b14.cell,lds]
  rw [he.kind]
  refine bre (fun hk=>?_) (fun hk=>?_)
  ·rw [decide_eq_true hk,Bool.true_or] at H;exact H
  ·rw [decide_eq_false hk,Bool.false_or] at H
   have:(((e.kids.2.1:Nat):Int) == 0)=decide (s.kids.length=0):=by
    rw [he.kids.2.1,Bool.eq_iff_iff];simp
   rw [this];exact H
 ·rw [decide_eq_false h0,Bool.false_and] at H;exact H
theorem RSl.norm {w:World}{s:Sl}{e:S8} (h:RSl w s e):RSl w (normS s) (normE e):=by
 unfold normS normE
 rw [h.live,h.kind]
 cases s.live
 ·simp only [Bool.false_eq_true,if_false]
  exact⟨h.gen,rfl,rfl,rfl,rfl,rfl,rr_nil,rr_nil⟩
 ·simp only [if_true]
  by_cases hk:s.kind=2
  ·rw [if_pos hk,if_pos hk]
   exact⟨h.gen,rfl,rfl,rfl,h.text,h.parent,rr_nil,rr_nil⟩
  ·rw [if_neg hk,if_neg hk]
   exact⟨h.gen,rfl,rfl,h.nm,rfl,h.parent,h.ats,h.kids⟩
theorem SlOk.norm {s:Sl} (h:SlOk s):SlOk (normS s):=by
 unfold normS
 split
 ·split
  ·exact⟨h.gen,h.parent,by simp⟩
  ·exact⟨h.gen,h.parent,h.kids⟩
 ·exact⟨h.gen,by simp,by simp⟩
theorem zrow_flags (N:Nat):zrow #[.bool false] (N*1)=flagsOf N []:=by
 refine Array.ext_getElem? fun j=>?_
 rw [Nat.mul_one]
 rcases Nat.lt_or_ge j N with hj | hj
 ·rw [flags_get hj];simp [zrow,hj,Nat.mod_one]
 ·rw [Array.getElem?_eq_none (by simpa [zrow] using hj),Array.getElem?_eq_none (by rw [flags_size];exact hj)]
def LoadK (R:Ending→World→Prop) (o:Option Im) (ok:Nat→Bool) (k:Nat) (w:World):Prop:=match o with
 | none=>R (.returned (.tuple #[.pointer none,.int .i64 36])) w
 | some D=>∀g vs vr,k≤g→RDr (newOr ok k w) g D vs vr→R (.returned (.tuple #[.pointer (some ⟨g,0,none⟩),.int .i64 0])) w
theorem loadR_calls (x:Im) (vs vr:Sv) (ok:Nat→Bool) {w:World}{R:Ending→World→Prop} (hx:RIm (wOnly ok w) x vs vr) (h:∀w',Below w.heap.size w w'→LoadK R (loadF x) ok w.heap.size w') :
  Calls Tryz.prog 39 #[.agg #[.slice vs.1 vs.2.1 vs.2.2,.slice vr.1 vr.2.1 vr.2.2]] w R:=by
 have hx':RIm w x vs vr:=hx.sub sub_of_only
 obtain⟨es,hn,hr0,hes0⟩:=hx.row
 have hr:Rd LS8 w vs.1 vs.2.2 es:=sub_of_only.rd hr0
 have hes:Z2 (RSl w) x.sl es:=hes0.mono fun _ _ h=>h.sub sub_of_only
 have hel:=hes.len
 have hxl:=hx.len
 refine ok39 vs.1 vs.2.1 vs.2.2 vr.1 vr.2.1 vr.2.2 ?_
 unfold F39
 refine al fun g1 w1 hb1 b1 hge1=>?_
 simp only [Addr.add_mk,Nat.zero_add,b1.cell,lds]
 refine brd (fun hgt=>?_) (fun hle=>?_)
 ·have H:=h w1 hb1
  unfold loadF at H
  rw [if_pos (by omega)] at H
  exact H
 have hs1:=hb1.size
 refine al fun g6 w2 hb2 b6 hge6=>?_
 have B2:=btr hb1 hs1 hb2
 have b12:=b1.keep hb2
 simp only [Addr.add_mk,Nat.zero_add,b12.cell,lds]
 refine apC (L:=LHn) (.int .u64 0) 8 rfl rfl rfl (by decide) (hx'.roots.keep B2) (j:=w2.heap.size) (Nat.le_refl _) fun vr' w3 hb3 hr3=>⟨_,_,_,rfl,?_⟩
 have B3:=btr B2 B2.size hb3
 have b13:=b12.keep hb3
 have hs2:=B2.size
 have hs3:=hb3.size
 refine al fun gd w4 hb4 b4 hge4=>?_
 have hgd:=b4.lt
 have hs4:=hb4.size
 refine⟨fun i w'=>∃(k:Nat) (A:Option Addr) (n c:Nat),i=k∧k≤x.sl.length∧Below w3.heap.size w3 w'∧w4.heap.size≤w'.heap.size∧Blk w' gd #[.slice A n c,.slice vr'.1 vr'.2.1 vr'.2.2] 107 ∧
   Own LS8 w' w4.heap.size 162 (.slice A n c) ((es.take k).map normE)∧slotsB (x.sl.take k)=true,fun i _=>x.sl.length-i.toNat,⟨0,none,0,0,rfl,by omega,hb4,Nat.le_refl _,b4,by simpa using Own.nil _ _ _ _,rfl⟩,?_⟩
 rintro i w5 ⟨k,A,n,c,rfl,hk,hb5,hs5,b5,ho,hok⟩
 unfold F39_l5
 have B5:=btr B3 B3.size hb5
 have b15:=b13.keep hb5
 simp only [Addr.add_mk,Nat.zero_add,b15.cell,lds]
 refine brd (fun hlt=>?_) (fun hge=>?_)
 ·have hk2:k < x.sl.length:=by omega
  have hke:k < es.length:=by omega
  have hne:∀{b:Bool},(decide (1≤x.sl[k].gen) && (!x.sl[k].live || slotB x.sl[k]))=b→slotsB (x.sl.take (k+1))=b:=fun {b} e=>by
   unfold slotsB at hok ⊢
   rw [List.take_succ_eq_append_getElem hk2,List.all_append,hok,Bool.true_and,List.all_cons,List.all_nil,Bool.and_true];exact e
  have hbad:∀w',Below w.heap.size w w'→slotsB (x.sl.take (k+1))=false→LoadK R none ok w.heap.size w':=fun w' hw hf=>by
   have H:=h w' hw
   unfold loadF at H
   have hfull:¬slotsB x.sl=true:=fun e=>by
    unfold slotsB at e hf
    rw [←List.take_append_drop (k+1) x.sl,List.all_append,hf] at e
    cases e
   rw [if_neg (by omega),if_neg hfull] at H
   exact H
  refine (hr.keep B5).s8 hn rfl (k:=k) hke fun b o c0 c1 c2 c3 c4 c5 c6 c7=>?_
  simp only [Addr.add_mk,c0,c1,c2,c3,c4,c5,c6,c7,lds]
  have hsl:=(hes.get k hk2 hke).sub (sub_below B5)
  refine al fun gs w6 hb6 bs hges=>?_
  refine st_blk bs (by simp) fun u1 q1 f1=>st_blk q1 (by simp) fun u2 q2 f2=>st_blk q2 (by simp) fun u3 q3 f3=>st_blk q3 (by simp) fun u4 q4 f4=>st_blk q4 (by simp) fun u5 q5 f5=>st_blk q5 (by simp) fun u6 q6 f6=>st_blk q6 (by simp) fun u7 q7 f7=>st_blk q7 (by simp) fun w7 bs7 f8=>?_
  simp only [List.setIfInBounds_toArray,List.set_cons_zero,List.set_cons_succ] at bs7
  have F7:Fm (·=gs) w6 w7:=((((((f1.trans f2).trans f3).trans f4).trans f5).trans f6).trans f7).trans f8
  have D7:Below w5.heap.size w5 w7:=hb6.trans (F7.toBelow hb6.size fun b hb e=>by have e:b=gs:=e;omega)
  have B7:=btr B5 B5.size D7
  refine⟨fun w'=>Below w7.heap.size w7 w'∧slotsB (x.sl.take (k+1))=true,?_,?_⟩
  ·rintro w8 ⟨hb8,hok8⟩
   unfold F39_j10
   have bs8:=bs7.keep hb8
   have E8:Below w5.heap.size w5 w8:=btr D7 D7.size hb8
   refine⟨fun w'=>Below w5.heap.size w5 w'∧Blk w' gs (normE es[k]).cells.toArray 162,?_,?_⟩
   ·rintro w9 ⟨hb9,bs9⟩
    unfold F39_j15
    have hd:Below w9.heap.size w9 w9.drew:=(Below.refl _ _).drew
    have b9:=b5.keep hb9
    have hs9:=hb9.size
    have hds:=hd.size
    have hn9:n=k:=by
     have:=ho.rd.1
     rw [List.length_map,List.length_take] at this;omega
    subst hn9
    refine⟨fun w'=>Below w9.heap.size w9 w',hd,?_⟩
    refine⟨_,_,_,fun w2 h2=>by rw [(b9.keep h2).cell];rfl,?_⟩
    refine⟨_,fun w2 h2=>by rw [(bs9.keep h2).cell];rfl,?_⟩
    refine⟨_,fun w2 h2=>by rw [Addr.add_mk,(bs9.keep h2).cell];rfl,?_⟩
    refine⟨_,fun w2 h2=>by rw [Addr.add_mk,(bs9.keep h2).cell];rfl,?_⟩
    refine⟨_,fun w2 h2=>by rw [Addr.add_mk,(bs9.keep h2).cell];rfl,?_⟩
    refine⟨_,_,_,fun w2 h2=>by rw [Addr.add_mk,(bs9.keep h2).cell];rfl,?_⟩
    refine⟨_,fun w2 h2=>by rw [Addr.add_mk,(bs9.keep h2).cell];rfl,?_⟩
    refine⟨_,fun w2 h2=>by rw [Addr.add_mk,(bs9.keep h2).cell];rfl,?_⟩
    refine⟨_,_,_,fun w2 h2=>by rw [Addr.add_mk,(bs9.keep h2).cell];rfl,?_⟩
    have hlm:((es.take n).map normE).length=n:=by rw [List.length_map,List.length_take];omega
    refine ap1S (L:=LS8) (x:=normE es[n]) (.agg #[.int .u32 0,.bool false,.int .i64 0,.string ⟨#[]⟩,.slice none 0 0,.string ⟨#[]⟩,.int .u64 0,.slice none 0 0]) 104 rfl rfl rfl rfl ((ho.keep hb9).keep hd) (by omega) (by omega) (by simp only [maxLen];omega) (fun w2 h2=>hd.trans (h2.mono hd.size)) fun A' c' w10 o10 g10=>⟨_,_,_,rfl,?_⟩
    have b10:=(b9.keep hd).below g10.below hgd
    refine st_blk b10 (by simp) fun w11 b11 f11=>?_
    simp only [List.setIfInBounds_toArray,List.set_cons_zero,List.set_cons_succ] at b11
    have f11:Fm (·=gd) w10 w11:=f11
    have hs10:=g10.lt
    have hs11:=f11.size
    have E10:Below w3.heap.size w3 w10:=((btr hb5 hb5.size hb9).trans (hd.mono (by have:=hb5.size;omega))).trans (g10.below.mono hs4)
    have E11:Below w3.heap.size w3 w11:=E10.trans (f11.toBelow E10.size fun b hb e=>by have e:b=gd:=e;omega)
    refine⟨inR_i64 (by omega) (by omega),⟨n+1,_,_,_,by simp,by omega,E11,by omega,b11,?_,hok8⟩,(by first | omega | (dsimp only;omega))⟩
    rw [List.take_succ_eq_append_getElem hke,List.map_append,List.map_singleton]
    exact own_fm o10 f11 fun b hb e=>by
     have e:b=gd:=e
     have:=(o10.lt b hb).1;omega
   ·simp only [Addr.add_mk,Nat.zero_add,bs8.cell,lds]
    rw [brnot]
    refine br (fun hl=>?_) (fun hl=>?_)
    ·refine bre (fun hk=>?_) (fun hk=>?_)
     ·refine st_blk bs8 (by simp) fun u1 q1 f1=>st_blk q1 (by simp) fun u2 q2 f2=>st_blk q2 (by simp) fun u3 q3 f3=>?_
      simp only [List.setIfInBounds_toArray,List.set_cons_zero,List.set_cons_succ] at q3
      have f:Fm (·=gs) w8 u3:=(Fm.trans f1 f2).trans f3
      refine⟨E8.trans (f.toBelow E8.size fun b hb e=>by have e:b=gs:=e;omega),?_⟩
      have e:normE es[k]={ es[k] with nm:=noB,ats:=(none,0,0),kids:=(none,0,0) }:=by unfold normE;rw [if_pos hl,if_pos hk]
      rw [e];exact q3
     ·refine st_blk bs8 (by simp) fun u1 q1 f1=>?_
      simp only [List.setIfInBounds_toArray,List.set_cons_zero,List.set_cons_succ] at q1
      have f:Fm (·=gs) w8 u1:=f1
      refine⟨E8.trans (f.toBelow E8.size fun b hb e=>by have e:b=gs:=e;omega),?_⟩
      have e:normE es[k]={ es[k] with text:=noB }:=by unfold normE;rw [if_pos hl,if_neg hk]
      rw [e];exact q1
    ·refine st_blk bs8 (by simp) fun u1 q1 f1=>st_blk q1 (by simp) fun u2 q2 f2=>st_blk q2 (by simp) fun u3 q3 f3=>st_blk q3 (by simp) fun u4 q4 f4=>st_blk q4 (by simp) fun u5 q5 f5=>st_blk q5 (by simp) fun u6 q6 f6=>st_blk q6 (by simp) fun u7 q7 f7=>st_blk q7 (by simp) fun u8 q8 f8=>?_
     simp only [List.setIfInBounds_toArray,List.set_cons_zero,List.set_cons_succ] at q8
     have f:Fm (·=gs) w8 u8:=((((((Fm.trans f1 f2).trans f3).trans f4).trans f5).trans f6).trans f7).trans f8
     refine⟨E8.trans (f.toBelow E8.size fun b hb e=>by have e:b=gs:=e;omega),?_⟩
     have e:normE es[k]=⟨es[k].gen,false,0,noB,(none,0,0),noB,0,(none,0,0)⟩:=by unfold normE;rw [if_neg (by rw [hl];decide)]
     rw [e];exact q8
  ·simp only [Addr.add_mk,Nat.zero_add,bs7.cell,lds]
   refine brd (fun hg0=>?_) (fun hg1=>?_)
   ·refine hbad w7 B7 (hne ?_)
    rw [hsl.gen] at hg0
    rw [decide_eq_false (by omega),Bool.false_and]
   ·rw [hsl.gen] at hg1
    refine br (fun hl=>?_) (fun hl=>?_)
    ·refine slot_calls (hsl.sub (sub_below D7)) fun w8 hb8=>⟨_,rfl,?_⟩
     rw [brnot]
     rw [hsl.live] at hl
     refine br (fun hs=>⟨hb8,hne ?_⟩) (fun hs=>hbad w8 (btr B7 B7.size hb8) (hne ?_))
     ·rw [decide_eq_true (by omega),hs,Bool.or_true];rfl
     ·rw [hl,hs,decide_eq_true (by omega)];rfl
    ·rw [hsl.live] at hl
     refine⟨Below.refl _ _,hne ?_⟩
     rw [hl,decide_eq_true (by omega)];rfl
 ·have hk2:k=x.sl.length:=by omega
  subst hk2
  rw [List.take_of_length_le (by omega)] at ho
  rw [List.take_length] at hok
  obtain⟨hon,hord⟩:=ho.rd
  rw [List.length_map,hel] at hon
  subst hon
  have hs5':=B5.size
  have hrt5:RR LHn (above w2.heap.size w5) x.roots vr':=hr3.sub (above_fm (M:=fun _=>False) (.below hb5) (Nat.le_refl _) fun _ _ h=>h)
  have hDok:∀s∈x.sl.map normS,SlOk s:=fun s hs=>by
   obtain⟨t,ht,rfl⟩:=List.mem_map.1 hs
   exact (hx.ok t ht).norm
  have hlenm:(x.sl.map normS).length=x.sl.length:=List.length_map ..
  have hD5:RDr w5 gd ⟨x.sl.map normS,x.roots⟩ (A,x.sl.length,c) vr':=by
   refine⟨by rw [b5.cell];rfl,by rw [b5.cell];rfl,?_⟩
   refine⟨by rw [hlenm];exact hxl,⟨es.map normE,by rw [List.length_map,hel],hord,Z2.map (fun _ _ h=>h.norm) (hes.mono fun _ _ h=>h.sub (sub_below B5))⟩,hrt5.sub sub_of_only,hDok,hx.rok⟩
  have hD5n:RDr (newOr ok w.heap.size w5) gd ⟨x.sl.map normS,x.roots⟩ (A,x.sl.length,c) vr':=by
   have bn:Blk (newOr ok w.heap.size w5) gd #[.slice A x.sl.length c,.slice vr'.1 vr'.2.1 vr'.2.2] 107:=cells_only (by rw [Nat.ble_eq_true_of_le (by omega),Bool.or_true]) b5
   refine⟨by rw [bn.cell];rfl,by rw [bn.cell];rfl,?_⟩
   refine⟨by rw [hlenm];exact hxl,⟨es.map normE,by rw [List.length_map,hel],above_newOr.rd (own_above ho (j:=w.heap.size) (by omega)).rd.2,Z2.map (fun _ _ h=>h.norm) (hes0.mono fun _ _ h=>h.sub (old_newOr B5))⟩,?_,hDok,hx.rok⟩
   exact (hrt5.sub (above_fm (M:=fun _=>False) (.below (Below.refl _ _)) hs2 fun _ _ h=>h)).sub above_newOr
  have hd:Below w5.heap.size w5 w5.drew:=(Below.refl _ _).drew
  refine⟨fun w'=>Below w5.heap.size w5 w',hd,?_⟩
  refine⟨_,_,_,fun w2 h2=>by rw [(b5.keep h2).cell];rfl,?_⟩
  refine⟨_,_,_,fun w2 h2=>by rw [(b5.keep h2).cell];rfl,by omega,by omega,by omega,?_⟩
  refine al fun gs w6 hb6 bs hges=>?_
  have E6:=btr hd hd.size hb6
  refine⟨E6,?_⟩
  have hgs:w5.heap.size≤gs:=Nat.le_trans hd.size hges
  rw [Int.toNat_natCast] at bs ⊢
  rw [zrow_flags] at bs
  have hc:=hangR_calls (D:=⟨x.sl.map normS,x.roots⟩) (g:=gd) (gs:=gs) (vs:=(A,x.sl.length,c)) (vr:=vr') 64 x.roots vr' 0 [] (w:=w6) (R:=post R fun v2 w1_7=>∃(x78_0:Int) (x78_1:Bool),v2=(.tuple #[(.int .i64 x78_0),(.bool x78_1)]) ∧
   ∃J19:World→Prop,(∀(w1_8:World),J19 w1_8→F39_j19 ⟨gd,0,none⟩ w1_8 R) ∧
   (Br (!x78_1) (R (.returned (.tuple #[(.pointer none),(.int .i64 36)])) w1_7)
   (Calls Tryz.prog 43 #[(.pointer (some ⟨gd,0,none⟩))] w1_7 (post R fun v3 w1_8=>∃(x86:Int),v3=(.int .i64 x86) ∧
    Br (x78_0 != x86) (R (.returned (.tuple #[(.pointer none),(.int .i64 36)])) w1_8) (J19 w1_8)))))
   (by omega) (hD5.sub (old_but E6 hgs)) ((hrt5.sub sub_of_only).sub (old_but E6 hgs)) hx.rok (by rw [hlenm];exact bs) ⟨List.nodup_nil,by simp⟩ ?_
  ·rw [hlenm,show (65-((64:Nat):Int))=1 by decide] at hc
   exact hc
  ·intro w7 hf7
   have E7:Below w5.heap.size w5 w7:=E6.trans (hf7.toBelow E6.size fun b hb e=>by have e:b=gs:=e;omega)
   have H:=h w7 (btr B5 B5.size E7)
   unfold loadF at H
   rw [if_neg (by omega),if_pos hok] at H
   cases hh:hangF (x.sl.map normS) 64 x.roots 0 [] with
   | none =>
    rw [hh] at H
    exact fun n=>⟨_,_,rfl,fun _=>False,fun _ h=>h.elim,H⟩
   | some sn =>
    rw [hh] at H
    intro hB7
    refine⟨_,_,rfl,fun w'=>w'=w7∧sn.length=liveN (x.sl.map normS),?_,?_⟩
    ·rintro _ ⟨rfl,hl⟩
     unfold F39_j19
     simp only [if_pos hl] at H
     exact H gd (A,x.sl.length,c) vr' (by omega) (hD5n.sub (sub_only (fun _ _ h=>h) fun b hb _=>E7.block b hb))
    ·rw [Bool.not_true,Br_f]
     refine len_calls (hD5.keep E7) ⟨_,rfl,?_⟩
     refine brn (fun hne=>?_) (fun he=>⟨rfl,by simp only [List.length_nil] at he;omega⟩)
     simp only [if_neg (show ¬sn.length=liveN (x.sl.map normS) from fun e=>hne (by rw [e];simp))] at H
     exact H
set_option maxRecDepth 100000
def goodS (s:Sl):Bool:=decide (1≤s.gen) && (!s.live || slotB s)
set_option maxRecDepth 100000
def NodeO (R:Ending→World→Prop) (i:Nat) (s:Sl) (k:Nat) (w:World):Prop:=match goodS s with
 | false=>∀p,R (.returned (.tuple #[.pointer p,.bool false])) w
 | true=>∀g a,k≤g→Blk w g (nodeC i (normS s) a none (none,0,0)) 202→Own LAt w k 205 (slV a) (normS s).attrs→(∀x,rowOf (slV a)=some x→x≠g)→R (.returned (.tuple #[.pointer (some ⟨g,0,none⟩),.bool true])) w
theorem nodeO_calls {w:World}{s:Sl}{e:S8} (he:RSl w s e) (hso:SlOk s) {i:Nat} (hi:i < 1048576) (hT:Tabs w) {R:Ending→World→Prop} (h:∀w',Below w.heap.size w w'→NodeO R i s w.heap.size w') :
  Calls Tryz.prog 113 #[.agg #[.int .u32 (e.gen:Nat),.bool e.live,.int .i64 e.kind,.string e.nm,.slice e.ats.1 e.ats.2.1 e.ats.2.2,.string e.text,.int .u64 (e.parent:Nat),.slice e.kids.1 e.kids.2.1 e.kids.2.2,.int .i64 (i+1:Nat)]] w R:=by
 refine ok113 (e.gen:Nat) e.live e.kind e.nm e.ats.1 e.ats.2.1 e.ats.2.2 e.text (e.parent:Nat) e.kids.1 e.kids.2.1 e.kids.2.2 (i+1:Nat) ?_
 unfold F113
 refine al fun gs w1 hb1 b1 hge1=>?_
 simp only [Addr.add_mk,Nat.zero_add,b1.cell,lds]
 refine⟨⟨by simp [IntKind.min,IntKind.signed];omega,by simp [IntKind.max,IntKind.signed,IntKind.bits];omega⟩,?_⟩
 refine al fun gn w2 hb2 bn hge2=>?_
 have b12:=b1.keep hb2
 have B2:=btr hb1 hb1.size hb2
 have hs1:=hb1.size
 have hs2:=hb2.size
 simp only [Addr.add_mk,Nat.zero_add,b12.cell,lds]
 rw [he.gen,he.live]
 rw [he.gen,he.live] at bn
 refine bre (fun h0=>?_) (fun h0=>?_)
 ·have H:=h w2 B2
  unfold NodeO at H
  rw [show goodS s=false by unfold goodS;rw [decide_eq_false (by omega),Bool.false_and]] at H
  exact H none
 rw [brnot]
 refine br (fun hl=>?_) (fun hl=>?_)
 ·have hgood:∀b,slotB s=b→goodS s=b:=fun b e=>by unfold goodS;rw [decide_eq_true (by omega),hl,e];cases b <;> rfl
  refine al fun g5 w3 hb3 b5 hge3=>?_
  refine st_blk b5 (by simp) fun u1 q1 f1=>st_blk q1 (by simp) fun u2 q2 f2=>st_blk q2 (by simp) fun u3 q3 f3=>st_blk q3 (by simp) fun u4 q4 f4=>st_blk q4 (by simp) fun w4 b4 f5=>?_
  simp only [List.setIfInBounds_toArray,List.set_cons_zero,List.set_cons_succ] at b4
  have F4:Fm (·=g5) w3 w4:=(((f1.trans f2).trans f3).trans f4).trans f5
  have D4:Below w2.heap.size w2 w4:=hb3.trans (F4.toBelow hb3.size fun b hb e=>by have e:b=g5:=e;omega)
  have B4:=btr B2 B2.size D4
  refine⟨fun w'=>Below w4.heap.size w4 w'∧slotB s=true,?_,?_⟩
  ·rintro w5 ⟨hb5,hsb⟩
   unfold F113_j9
   have D5:=btr D4 D4.size hb5
   have B5:=btr B2 B2.size D5
   have bs5:=b12.keep D5
   have bn5:=bn.keep D5
   simp only [Addr.add_mk,Nat.zero_add,bs5.cell,lds]
   refine st_blk bn5 (by simp) fun w6 bn6 f6=>?_
   simp only [List.setIfInBounds_toArray,List.set_cons_zero,List.set_cons_succ] at bn6
   have f6:Fm (·=gn) w5 w6:=f6
   have hgn:=bn.lt
   have hgs:gs < w2.heap.size:=b12.lt
   have E6:Below w1.heap.size w1 w6:=(hb2.trans (D5.mono hs2)).trans (f6.toBelow (by have:=D5.size;omega) fun b hb e=>by have e:b=gn:=e;omega)
   have B6:=btr hb1 hs1 E6
   have bs6:=b1.keep E6
   refine⟨fun w'=>Below w.heap.size w w'∧∃a,Blk w' gn (nodeC i (normS s) a none (none,0,0)) 202∧Own LAt w' w.heap.size 205 (slV a) (normS s).attrs∧∀x,rowOf (slV a)=some x→x≠gn,?_,?_⟩
   ·rintro w7 ⟨hw,a,h1,h2,h3⟩
    unfold F113_j13
    have H:=h w7 hw
    unfold NodeO at H
    rw [hgood _ hsb] at H
    exact H gn a (by omega) h1 h2 h3
   ·simp only [Addr.add_mk,Nat.zero_add,bn6.cell,lds]
    rw [he.kind]
    rw [he.kind] at bn6
    refine bre (fun hk=>?_) (fun hk=>?_)
    ·simp only [Addr.add_mk,Nat.zero_add,bs6.cell,lds]
     refine st_blk bn6 (by simp) fun w7 bn7 f7=>?_
     simp only [List.setIfInBounds_toArray,List.set_cons_zero,List.set_cons_succ] at bn7
     have f7:Fm (·=gn) w6 w7:=f7
     refine⟨B6.trans (f7.toBelow B6.size fun b hb e=>by have e:b=gn:=e;omega),(none,0,0),?_,?_,fun x hx=>(by cases hx)⟩
     ·have e:normS s={ s with nm:=noB,attrs:=[],kids:=[] }:=by unfold normS;rw [if_pos hl,if_pos hk]
      rw [e,←he.text];exact bn7
     ·have e:(normS s).attrs=[]:=by unfold normS;rw [if_pos hl,if_pos hk]
      rw [e];exact Own.nil _ _ _ _
    ·have hd:Below w6.heap.size w6 w6.drew:=(Below.refl _ _).drew
     refine⟨fun w'=>Below w6.heap.size w6 w',hd,?_⟩
     refine⟨_,fun w2 h2=>by rw [(bs6.keep h2).cell];rfl,?_⟩
     refine⟨_,_,_,fun w2 h2=>by rw [(bs6.keep h2).cell];rfl,?_⟩
     refine cloneOwn_calls s.attrs e.ats (he.ats.keep (btr B6 B6.size hd)) fun a w7 hb7 ha=>⟨_,_,_,rfl,?_⟩
     have E7:=btr hd hd.size hb7
     have hs6:=f6.size
     have hs5:=D5.size
     refine⟨E7,st_blk (bn6.keep E7) (by simp) fun w8 bn8 f8=>st_blk bn8 (by simp) fun w9 bn9 f9=>?_⟩
     simp only [List.setIfInBounds_toArray,List.set_cons_zero,List.set_cons_succ] at bn9
     have f:Fm (·=gn) w7 w9:=Fm.trans f8 f9
     refine⟨(btr B6 B6.size E7).trans (f.toBelow (btr B6 B6.size E7).size fun b hb e=>by have e:b=gn:=e;omega),a,?_,?_,fun x hx=>by have:=(ha.lt x hx).1;have hdz:=hd.size;have:=B6.size;omega⟩
     ·have e:normS s={ s with text:=noB }:=by unfold normS;rw [if_pos hl,if_neg hk]
      rw [e,←he.nm];exact bn9
     ·have e:(normS s).attrs=s.attrs:=by unfold normS;rw [if_pos hl,if_neg hk]
      rw [e]
      exact (own_fm ha f fun x hx e=>by have e:x=gn:=e;have:=(ha.lt x hx).1;have hdz:=hd.size;omega).rebase fun x hx=>by have:=(ha.lt x hx).1;have hdz:=hd.size;have:=B6.size;omega
  ·simp only [Addr.add_mk,Nat.zero_add,b4.cell,lds]
   rw [he.kind,he.nm,he.text]
   refine own1_calls s.kind s.nm s.attrs e.ats s.text (none,0,0) (hT.keep B4) (he.ats.keep B4) fun w5 hb5=>⟨_,rfl,?_⟩
   have B5:=btr B4 B4.size hb5
   have bs5:=b12.keep (btr D4 D4.size hb5)
   have hbad:slotB s=false→R (.returned (.tuple #[.pointer none,.bool false])) w5:=fun e=>by
    have H:=h w5 B5
    unfold NodeO at H
    rw [hgood _ e] at H
    exact H none
   refine brn (fun hne=>hbad (by unfold slotB;rw [decide_eq_false hne,Bool.false_and])) (fun h0=>?_)
   simp only [Addr.add_mk,Nat.zero_add,bs5.cell,lds]
   rw [he.kind]
   refine bre (fun hk=>?_) (fun hk=>?_)
   ·refine brd (fun hp=>hbad ?_) (fun hp=>⟨hb5,?_⟩)
    ·rw [he.kids.2.1] at hp
     unfold slotB;rw [decide_eq_false (show ¬s.kind=1 by omega),decide_eq_false (show ¬s.kids.length=0 by omega)];simp
    ·rw [he.kids.2.1] at hp
     unfold slotB;rw [decide_eq_true h0,decide_eq_true (show s.kids.length=0 by omega)];simp
   ·have hk1:s.kind=1:=by
     unfold ownF at h0
     by_cases h1:s.kind=1
     ·exact h1
     ·rw [if_neg h1,if_neg hk] at h0;cases h0
    exact⟨hb5,by unfold slotB;rw [decide_eq_true h0,decide_eq_true hk1];rfl⟩
 ·have H:=h w2 B2
  unfold NodeO at H
  rw [show goodS s=true by unfold goodS;rw [decide_eq_true (by omega),hl];rfl] at H
  have e:normS s=⟨s.gen,false,0,noB,[],noB,0,[]⟩:=by unfold normS;rw [if_neg (by rw [hl];decide)]
  rw [e] at H
  rw [hl] at bn
  exact H gn (none,0,0) (by omega) bn (Own.nil _ _ _ _) fun x hx=>by cases hx
set_option maxRecDepth 100000
section
variable {w w1 w2:World}{o o1:Nat→Nat}{θ:Th}{S:PS}{M:Nat→Prop}{bs:List Nat}
theorem PM.push (h:PM w o θ S) {b:Nat} (hb0:w.heap.size≤b) {s0:Sl}{a0:Sv} (hp0:s0.parent=0) (hk0:s0.kids=[]) (hg0:s0.gen < 4294967296) (hf0:s0.attrs.length≤1048576) (hB:Blk w1 b (nodeC S.D.sl.length s0 a0 none (none,0,0)) 202) (hA:Own LAt w1 w.heap.size 205 (slV a0) s0.attrs) (hAb:∀x,rowOf (slV a0)=some x→x≠b) {v v':Sv} (hc:∀x,rowOf (slV v)=some x→o x=2) (hf:Fm (fun x=>rowOf (slV v)=some x) w w1)
  (hO:Own LPt w1 0 152 (slV v') (S.bs++[b])) (hr:rowOf (slV v')=rowOf (slV v)∨rowOf (slV v')=none∨∃g,rowOf (slV v')=some g∧w.heap.size≤g∧g≠b∧rowOf (slV a0)≠some g) (hl:S.D.sl.length < 4096) {K:World→Prop}
  (hK:∀w2 o2,PM w2 o2 θ { S with D:={ S.D with sl:=S.D.sl++[s0] },bs:=S.bs++[b] }→EvC (fun c=>c=1∨c=2) w o w2 o2→K w2):St w1 ⟨θ.g,0,none⟩ (slV v') K:=by
 have ob0:o b=0:=Classical.byContradiction fun h0=>by have:=h.lt b h0;omega
 have hrc:∀x,rowOf (slV v')=some x→(o x=2∨(o x=0∧w.heap.size≤x))∧x≠b:=fun x hx=>by
  rcases hr with e | e | ⟨g,e,hge,hgb,hga⟩
  ·have:=hc x (by rw [←e];exact hx)
   exact⟨.inl this,fun e=>by rw [e,ob0] at this;omega⟩
  ·rw [e] at hx;cases hx
  ·rw [e] at hx;cases hx
   refine⟨.inr ⟨Classical.byContradiction fun h0=>?_,hge⟩,hgb⟩
   have:=h.lt _ h0;omega
 obtain⟨nv,rv,hd⟩:=h.doc
 have hg1:=h.col
 have hbl:=h.len
 have hb1:Blk w1 θ.g (docC nv rv S.lv S.wn S.lo θ.tl) θ.t:=hf.blk hd.blk fun e=>by have:=hc _ e;omega
 refine st_blk hb1 (Nat.lt_of_lt_of_le (by omega) doc_size) fun w2 b2 f2=>?_
 rw [doc_set0] at b2
 have hbg:b≠θ.g:=fun e=>by rw [e,hg1] at ob0;omega
 have F:Fm (fun x=>o x=1∨o x=2) w w2:=(hf.mono fun x _ e=>.inr (hc x e)).trans (f2.mono fun x _ e=>.inl (by have e:x=θ.g:=e;rw [e];exact hg1))
 have hlt2:∀x,rowOf (slV v')=some x→x < w2.heap.size:=fun x hx=>Nat.lt_of_lt_of_le (hO.lt x hx).2 f2.size
 have hbl2:b < w2.heap.size:=Nat.lt_of_lt_of_le hB.lt f2.size
 let o2:Nat→Nat:=fun x=>if x=b then 8+4*S.D.sl.length else if rowOf (slV a0)=some x then 10+4*S.D.sl.length else cl o (rowOf (slV v')) 2 x
 have hA0:∀x,rowOf (slV a0)=some x→w.heap.size≤x∧x < w2.heap.size∧o x=0:=fun x hx=>by
  have q:=hA.lt x hx
  exact⟨q.1,Nat.lt_of_lt_of_le q.2 f2.size,Classical.byContradiction fun e=>by have:=h.lt x e;omega⟩
 have hold:∀x,o x≠0→o2 x=o x:=fun x hx=>by
  show (if x=b then _ else if _ then _ else _)=_
  rw [if_neg (fun e=>hx (by rw [e];exact ob0)),if_neg (fun e=>hx (hA0 x e).2.2),cl_old hx]
 have hob:o2 b=8+4*S.D.sl.length:=by
  show (if b=b then _ else _)=_
  rw [if_pos rfl]
 have hva:∀x,rowOf (slV v')=some x→¬rowOf (slV a0)=some x:=fun x hx e=>by
  rcases hr with q | q | ⟨g,q,hge,hgb,hga⟩
  ·have:=hc x (by rw [←q];exact hx)
   rw [(hA0 x e).2.2] at this;omega
  ·rw [q] at hx;cases hx
  ·rw [q] at hx;cases hx;exact hga e
 have hrow2:∀x,rowOf (slV v')=some x→o2 x=2:=fun x hx=>by
  show (if x=b then _ else if _ then _ else _)=_
  obtain⟨e1,e2⟩:=hrc x hx
  rw [if_neg e2,if_neg (hva x hx)]
  exact cl_row hx (e1.elim .inr fun e=>.inl e.1)
 have hoa:∀x,rowOf (slV a0)=some x→o2 x=10+4*S.D.sl.length:=fun x hx=>by
  show (if x=b then _ else if _ then _ else _)=_
  rw [if_neg (hAb x hx),if_pos hx]
 have hnew:∀x,o x=0→o2 x≠0→w.heap.size≤x∧x < w2.heap.size∧(o2 x=2∨o2 x=8+4*S.D.sl.length∨o2 x=10+4*S.D.sl.length):=fun x h0 h2=>by
  by_cases e:x=b
  ·subst e;exact⟨hb0,hbl2,.inr (.inl hob)⟩
  by_cases ea:rowOf (slV a0)=some x
  ·exact⟨(hA0 x ea).1,(hA0 x ea).2.1,.inr (.inr (hoa x ea))⟩
  ·have e3:o2 x=cl o (rowOf (slV v')) 2 x:=by
    show (if x=b then _ else if _ then _ else _)=_
    rw [if_neg e,if_neg ea]
   by_cases e4:rowOf (slV v')=some x
   ·refine⟨?_,hlt2 x e4,.inl (hrow2 x e4)⟩
    rcases (hrc x e4).1 with e5 | e5
    ·rw [h0] at e5;omega
    ·exact e5.2
   ·rw [e3] at h2
    unfold cl at h2
    rw [if_neg (fun e=>e4 e.1)] at h2
    exact absurd h0 h2
 have Fn:∀x,o x≠0→o x≠1→o x≠2→¬(o x=1∨o x=2):=fun x _ h1 h2 h3=>h3.elim h1 h2
 have hkid:∀s∈S.D.sl,∀x∈s.kids,inN S.bs.length x:=fun s hs x hx=>by rw [hbl];exact (h.rng s hs).kids x hx
 have inN1:∀x,inN S.D.sl.length x→inN (S.D.sl++[s0]).length x:=fun x hx=>⟨hx.1,by have:=hx.2;simp;omega⟩
 refine hK w2 o2 ⟨by rw [hold _ (by omega)];exact hg1,fun x hx=>?_,by simp [hbl],by simp;omega,fun i b' hb'=>?_,⟨v',rv,?_⟩,fun i b' s hb' hs=>?_,fun s hs=>?_,⟨fun x hx=>inN1 x (h.rts.1 x hx),h.rts.2⟩,h.cnt⟩ ⟨F,hold,fun x hx h0=>?_,fun x hx=>?_⟩
 ·by_cases h0:o x=0
  ·exact (hnew x h0 hx).2.1
  ·exact Nat.lt_of_lt_of_le (h.lt x h0) F.size
 ·rcases Nat.lt_or_ge i S.bs.length with hi | hi
  ·have hb':S.bs[i]?=some b':=by rw [←hb'];exact (List.getElem?_append_left hi).symm
   have:=h.nc i b' hb'
   rw [hold _ (by omega)];exact this
  ·have hb':(S.bs++[b])[i]?=some b':=hb'
   rw [List.getElem?_append_right hi] at hb'
   have hi2:i-S.bs.length=0:=by
    have:=(List.getElem?_eq_some_iff.1 hb').1
    simp at this;omega
   rw [hi2] at hb'
   simp at hb'
   subst hb'
   rw [hob];omega
 ·refine⟨b2,own_fm hO f2 fun x hx e=>?_,hrow2,?_,fun x hx=>?_⟩
  ·have e:x=θ.g:=e
   rcases (hrc x hx).1 with e2 | ⟨e2,_⟩ <;> rw [e,hg1] at e2 <;> omega
  ·show Own LPt w2 0 _ (slV rv) (S.D.roots.map (pb (S.bs++[b])))
   rw [map_pb_app (fun x hx=>by rw [hbl];exact h.rts.1 x hx)]
   exact own_fm hd.r1 F fun x hx=>by have:=hd.r2 x hx;omega
  ·have:=hd.r2 x hx
   rw [hold _ (by omega)];exact this
 ·rcases Nat.lt_or_ge i S.bs.length with hi | hi
  ·have hb':S.bs[i]?=some b':=by rw [←hb'];exact (List.getElem?_append_left hi).symm
   have hs:S.D.sl[i]?=some s:=by rw [←hs];exact (List.getElem?_append_left (by omega)).symm
   obtain⟨a,kv,hn⟩:=h.nodes i b' s hb' hs
   have hn2:=hn.keep (o1:=o2) (h.nc i b' hb') F (fun x hx=>Fn x (by omega) (by omega) (by omega)) fun x hx=>hold x (by omega)
   have hsm:=List.mem_of_getElem? hs
   refine⟨a,kv,⟨?_,hn2.at1,hn2.at2,?_,hn2.kd2⟩⟩
   ·show Blk w2 b' (nodeC i s a (ptrH (S.bs++[b]) s.parent) kv) _
    rw [ptr_app (by rw [hbl];exact (h.rng s hsm).par)];exact hn2.blk
   ·show Own LPt w2 0 _ (slV kv) (s.kids.map (pb (S.bs++[b])))
    rw [map_pb_app (hkid s hsm)];exact hn2.kd1
  ·have hb':(S.bs++[b])[i]?=some b':=hb'
   have hs:(S.D.sl++[s0])[i]?=some s:=hs
   rw [List.getElem?_append_right hi] at hb'
   rw [List.getElem?_append_right (by omega)] at hs
   have hi2:i-S.bs.length=0:=by
    have:=(List.getElem?_eq_some_iff.1 hb').1
    simp at this;omega
   rw [hi2] at hb'
   rw [show i-S.D.sl.length=0 by omega] at hs
   simp at hb' hs
   subst hb' hs
   have e:i=S.D.sl.length:=by omega
   subst e
   refine⟨a0,(none,0,0),⟨?_,(own_fm hA f2 fun x hx e=>by
    have e:x=θ.g:=e
    have:=(hA0 x hx).2.2
    rw [e,hg1] at this;omega).rebase fun _ _=>Nat.zero_le _,hoa,by rw [hk0];exact Own.nil _ _ _ _,fun x hx=>(by cases hx)⟩⟩
   rw [hp0]
   exact f2.blk hB hbg
 ·rcases List.mem_append.1 hs with hs | hs
  ·have r:=h.rng s hs
   exact⟨r.gen,r.par.imp id (inN1 _),fun x hx=>inN1 x (r.kids x hx),r.few,r.atf⟩
  ·rw [List.mem_singleton] at hs
   subst hs
   exact⟨hg0,.inl hp0,by rw [hk0];simp,by rw [hk0];simp,hf0⟩
 ·refine Classical.byContradiction fun h2=>?_
  have:=(hnew x h0 h2).1
  omega
 ·by_cases h0:o x=0
  ·refine .inr ?_
   rcases (hnew x h0 hx).2.2 with e | e | e <;> rw [e]
   ·exact .inr (.inl rfl)
   ·exact (pc_nd _).1
   ·exact (pc_nd _).2.2
  ·exact .inl h0
end
set_option maxRecDepth 100000
--PURE
theorem hang_split {sl:List Sl}{r x:Nat}{l:List Nat}{p:Nat}{sn sn':List Nat} (h:hangF sl r (x :: l) p sn=some sn') :
  ∃q k s s2,r=q+1∧atF sl x=some k∧sl[k]?=some s∧k∉sn∧s.parent=p∧hangF sl q s.kids x (k :: sn)=some s2∧hangF sl (q+1) l p s2=some sn':=by
 cases r with
 | zero=>rw [hangF_zero] at h;cases h
 | succ q =>
  cases ha:atF sl x with
  | none=>rw [hangF_no ha] at h;cases h
  | some k =>
   obtain⟨hk,-⟩:=atF_some ha
   by_cases hb:k∈sn∨sl[k].parent≠p
   ·rw [hangF_bad ha hk hb] at h;cases h
   ·rw [hangF_step ha hk hb] at h
    cases hr:hangF sl q sl[k].kids x (k :: sn) with
    | none=>rw [hr] at h;cases h
    | some s2 =>
     rw [hr] at h
     exact⟨q,k,sl[k],s2,rfl,rfl,List.getElem?_eq_getElem hk,fun e=>hb (.inl e),Classical.byContradiction fun e=>hb (.inr e),hr,h⟩
theorem atF_zero (sl:List Sl):atF sl 0=none:=by unfold atF;rw [if_pos (by decide)]
theorem slA_of {sl:List Sl}{h k:Nat}{s:Sl} (h1:atF sl h=some k) (h2:sl[k]?=some s):slA sl h=some s:=by unfold slA;rw [h1];exact h2
theorem slA_to {sl:List Sl}{h:Nat}{s:Sl} (h1:slA sl h=some s):∃k,atF sl h=some k∧sl[k]?=some s:=by
 unfold slA at h1
 cases e:atF sl h with
 | none=>rw [e] at h1;cases h1
 | some k=>rw [e] at h1;exact⟨k,rfl,h1⟩
def HungS (sl:List Sl) (l:List Nat) (p d r:Nat) (sn sn':List Nat) (k:Nat):Prop :=
 ∃s h,sl[k]?=some s∧atF sl h=some k∧(∃c,d < c∧c≤d+r∧Ch (slA sl) h c)∧(s.parent=p∧h∈l∨∃j t,j∈sn'∧j∉sn∧sl[j]?=some t∧atF sl s.parent=some j∧h∈t.kids) ∧
  s.kids.Nodup∧∀x∈s.kids,∃j t,atF sl x=some j∧sl[j]?=some t∧t.parent=h
structure HungO (sl:List Sl) (r:Nat) (l:List Nat) (p d:Nat) (sn sn':List Nat):Prop where
 mem:∀x∈l,∃k s,atF sl x=some k∧sl[k]?=some s∧s.parent=p∧k∉sn∧k∈sn'
 one:l.Nodup
 sub:∀k∈sn,k∈sn'
 all:∀k∈sn',k∉sn→HungS sl l p d r sn sn' k
theorem hung_out {sl:List Sl}:∀(r:Nat) (l:List Nat) (p d:Nat) (sn sn':List Nat),hangF sl r l p sn=some sn'→Ch (slA sl) p d→HungO sl r l p d sn sn'
 | r,[],p,d,sn,sn',h,_=>by
  rw [hangF_nil] at h;cases h
  exact⟨fun x hx=>by simp at hx,List.nodup_nil,fun k hk=>hk,fun k hk hn=>absurd hk hn⟩
 | 0,x :: l,p,d,sn,sn',h,_=>by rw [hangF_zero] at h;cases h
 | r+1,x :: l,p,d,sn,sn',h,hp=>by
  obtain⟨q,k,s,s2,e,ha,hs,hn,hpar,h1,h2⟩:=hang_split h
  obtain rfl:r=q:=by omega
  have hx0:x≠0:=fun e=>by rw [e,atF_zero] at ha;cases ha
  have hcx:Ch (slA sl) x (d+1):=.succ hx0 (slA_of ha hs) (by rw [hpar];exact hp)
  have i1:=hung_out r s.kids x (d+1) (k :: sn) s2 h1 hcx
  have i2:=hung_out (r+1) l p d s2 sn' h2 hp
  have hk2:k∈s2:=i1.sub k (by simp)
  have hsn:∀j∈sn,j∈s2:=fun j hj=>i1.sub j (by simp [hj])
  refine⟨fun y hy=>?_,?_,fun j hj=>i2.sub j (hsn j hj),fun j hj hjn=>?_⟩
  ·rcases List.mem_cons.1 hy with rfl | hy
   ·exact⟨k,s,ha,hs,hpar,hn,i2.sub k hk2⟩
   ·obtain⟨j,t,a1,a2,a3,a4,a5⟩:=i2.mem y hy
    exact⟨j,t,a1,a2,a3,fun e=>a4 (hsn j e),a5⟩
  ·refine List.nodup_cons.2 ⟨fun hxl=>?_,i2.one⟩
   obtain⟨j,t,a1,a2,a3,a4,a5⟩:=i2.mem x hxl
   rw [ha] at a1;cases a1
   exact a4 hk2
  ·by_cases hj2:j∈s2
   ·by_cases hjk:j=k
    ·subst hjk
     refine⟨s,x,hs,ha,⟨d+1,by omega,by omega,hcx⟩,.inl ⟨hpar,by simp⟩,i1.one,fun y hy=>?_⟩
     obtain⟨i,t,a1,a2,a3,_⟩:=i1.mem y hy
     exact⟨i,t,a1,a2,a3⟩
    ·obtain⟨t,h',a1,a2,⟨c,c1,c2,c3⟩,a4,a5,a6⟩:=i1.all j hj2 fun e=>(List.mem_cons.1 e).elim hjk hjn
     refine⟨t,h',a1,a2,⟨c,by omega,by omega,c3⟩,.inr ?_,a5,a6⟩
     rcases a4 with ⟨b1,b2⟩ | ⟨i,u,b1,b2,b3,b4,b5⟩
     ·exact⟨k,s,i2.sub k hk2,hn,hs,by rw [b1];exact ha,b2⟩
     ·exact⟨i,u,i2.sub i b1,fun e=>b2 (by simp [e]),b3,b4,b5⟩
   ·obtain⟨t,h',a1,a2,a3,a4,a5,a6⟩:=i2.all j hj hj2
    refine⟨t,h',a1,a2,a3,?_,a5,a6⟩
    rcases a4 with ⟨b1,b2⟩ | ⟨i,u,b1,b2,b3,b4,b5⟩
    ·exact .inl ⟨b1,by simp [b2]⟩
    ·exact .inr ⟨i,u,b1,fun e=>b2 (hsn i e),b3,b4,b5⟩
termination_by r l=>(r,l.length)
theorem live_idx {sl:List Sl}{a:List Nat} (hn:a.Nodup) (h:∀k∈a,∃s,sl[k]?=some s∧s.live=true):a.length≤liveN sl:=by
 have h1:=nodup_sub (b:=(sl.zipIdx.filter fun p=>p.1.live).map (·.2)) hn fun k hk=>by
  obtain⟨s,h1,h2⟩:=h k hk
  exact List.mem_map.2 ⟨(s,k),List.mem_filter.2 ⟨List.mk_mem_zipIdx_iff_getElem?.2 h1,h2⟩,rfl⟩
 have h2:(sl.zipIdx.filter fun p=>p.1.live).length=liveN sl:=by
  unfold liveN
  have h3:sl.zipIdx.map Prod.fst=sl:=by simp
  conv=>rhs;rw [←h3,List.filter_map,List.length_map]
  rfl
 rw [List.length_map,h2] at h1
 exact h1
theorem slot_ok {s:Sl} (h:slotB s=true) (hl:s.live=true):okSl (normS s):=by
 unfold slotB at h
 rw [Bool.and_eq_true,decide_eq_true_eq,Bool.or_eq_true,decide_eq_true_eq,decide_eq_true_eq] at h
 obtain⟨h1,h2⟩:=h
 unfold normS okSl
 rw [if_pos hl]
 by_cases hk:s.kind=2
 ·rw [if_pos hk]
  refine⟨?_,.inr ⟨hk,rfl,rfl,rfl⟩⟩
  unfold ownF at h1 ⊢
  have h21:¬s.kind=1:=by omega
  rw [if_neg h21,if_pos hk] at h1 ⊢
  exact h1
 ·rw [if_neg hk]
  have hk1:s.kind=1:=by
   unfold ownF at h1
   by_cases e:s.kind=1
   ·exact e
   ·rw [if_neg e,if_neg hk] at h1;cases h1
  refine⟨?_,.inl ⟨hk1,rfl⟩⟩
  unfold ownF at h1 ⊢
  rw [if_pos hk1] at h1 ⊢
  exact h1
theorem norm_live (s:Sl):(normS s).live=s.live:=by
 unfold normS
 by_cases hl:s.live=true
 ·rw [if_pos hl];split <;> rfl
 ·rw [if_neg hl]
  have:s.live=false:=by simpa using hl
  exact this.symm
theorem norm_gen (s:Sl):(normS s).gen=s.gen:=by
 unfold normS
 split
 ·split <;> rfl
 ·rfl
theorem load_wf {x D:Im} (hx:∀s∈x.sl,SlOk s) (h:loadF x=some D):Wf D:=by
 unfold loadF at h
 by_cases h0:4096 < x.sl.length
 ·rw [if_pos h0] at h;cases h
 rw [if_neg h0] at h
 by_cases hsl:slotsB x.sl=true
 rotate_left
 ·rw [if_neg hsl] at h;cases h
 rw [if_pos hsl] at h
 generalize hL:x.sl.map normS=sl at h
 cases hh:hangF sl 64 x.roots 0 [] with
 | none=>rw [hh] at h;cases h
 | some sn =>
  rw [hh] at h
  have h:(if sn.length=liveN sl then some (⟨sl,x.roots⟩:Im) else none)=some D:=h
  by_cases hn:sn.length=liveN sl
  rotate_left
  ·rw [if_neg hn] at h;cases h
  rw [if_pos hn] at h
  cases h
  have hslot:∀s∈sl,∃t∈x.sl,s=normS t∧1≤t.gen∧(t.live=true→slotB t=true):=fun s hs=>by
   rw [←hL] at hs
   obtain⟨t,ht,rfl⟩:=List.mem_map.1 hs
   unfold slotsB at hsl
   have:=List.all_eq_true.1 hsl t ht
   rw [Bool.and_eq_true,decide_eq_true_eq,Bool.or_eq_true,Bool.not_eq_true'] at this
   exact⟨t,ht,rfl,this.1,fun e=>this.2.resolve_left (by rw [e];simp)⟩
  have hu:=hung_out 64 x.roots 0 0 [] sn hh .zero
  obtain⟨hg,-⟩:=hangF_good _ _ _ _ _ hh ⟨List.nodup_nil,fun k hk=>by simp at hk⟩
  have hlive:∀k∈sn,∃s,sl[k]?=some s∧s.live=true:=fun k hk=>by
   obtain⟨s,h',a1,a2,_⟩:=hu.all k hk (by simp)
   obtain⟨hk2,b1,_⟩:=atF_some a2
   rw [List.getElem?_eq_getElem hk2] at a1
   exact⟨_,List.getElem?_eq_getElem hk2,b1⟩
  have hall:∀k s,sl[k]?=some s→s.live=true→k∈sn:=fun k s h1 h2=>Classical.byContradiction fun e=>by
   have:=live_idx (sl:=sl) (a:=k :: sn) (List.nodup_cons.2 ⟨e,hg.one⟩) fun j hj=>by
    rcases List.mem_cons.1 hj with rfl | hj
    ·exact⟨s,h1,h2⟩
    ·exact hlive j hj
   rw [List.length_cons] at this;omega
  have hok:∀h' s,slA sl h'=some s→okSl s:=fun h' s e=>by
   obtain⟨k,e1,e2⟩:=slA_to e
   obtain⟨hk2,b1,_⟩:=atF_some e1
   rw [List.getElem?_eq_getElem hk2] at e2
   obtain⟨t,_,q1,_,q3⟩:=hslot s (List.mem_of_getElem? (by rw [List.getElem?_eq_getElem hk2];exact e2))
   have hsl2:s.live=true:=by rw [←Option.some.inj e2];exact b1
   subst q1
   rw [norm_live] at hsl2
   exact slot_ok (q3 hsl2) hsl2
  have hsn:∀h' s,slA sl h'=some s→∃k,atF sl h'=some k∧sl[k]?=some s∧HungS sl x.roots 0 0 64 [] sn k:=fun h' s e=>by
   obtain⟨k,e1,e2⟩:=slA_to e
   obtain⟨hk2,b1,_⟩:=atF_some e1
   exact⟨k,e1,e2,hu.all k (hall k _ (List.getElem?_eq_getElem hk2) b1) (by simp)⟩
  have hone:∀{a b k:Nat},atF sl a=some k→atF sl b=some k→a=b:=fun {a b k} e1 e2=>by
   obtain⟨_,_,q1,_⟩:=atF_some e1
   obtain⟨_,_,q2,_⟩:=atF_some e2
   exact q1.symm.trans q2
  refine⟨⟨?_,fun s hs=>?_,fun s hs hd=>?_,fun s hs hd=>?_⟩,⟨?_,hok,fun h' s e=>?_,fun h' s e=>?_,fun h' s e=>?_,?_,fun h' s e _=>?_,fun h' hh'=>by simp at hh'⟩⟩
  ·rw [←hL,List.length_map];omega
  ·obtain⟨t,ht,rfl,_⟩:=hslot s hs
   rw [norm_gen];exact (hx t ht).gen
  ·obtain⟨t,ht,rfl,_⟩:=hslot s hs
   rw [norm_live] at hd
   rw [norm_gen]
   unfold normS deadS
   rw [if_neg (by rw [hd];decide)]
  ·obtain⟨t,ht,rfl,h1,_⟩:=hslot s hs
   rw [norm_gen];exact h1
  ·unfold slA;rw [atF_zero];rfl
  ·obtain⟨k,e1,e2,s',h2,a1,a2,a3,a4,a5,a6⟩:=hsn h' s e
   rw [e2] at a1;cases a1
   rcases a4 with ⟨b1,_⟩ | ⟨j,t,b1,b2,b3,b4,b5⟩
   ·exact .inl b1
   ·have ht:=slA_of b4 b3
    refine .inr ⟨t,ht,?_⟩
    rcases (hok _ _ ht).2 with q | q
    ·exact q.1
    ·rw [q.2.2.2] at b5;simp at b5
  ·obtain⟨k,e1,e2,s',h2,a1,a2,⟨c,c1,c2,c3⟩,_⟩:=hsn h' s e
   rw [hone e1 a2]
   exact⟨c,by omega,c3⟩
  ·obtain⟨k,e1,e2,s',h2,a1,a2,a3,a4,a5,a6⟩:=hsn h' s e
   rw [e2] at a1;cases a1
   refine⟨a5,fun y hy=>⟨by simp,?_⟩⟩
   obtain⟨j,t,b1,b2,b3⟩:=a6 y hy
   exact⟨t,slA_of b1 b2,by rw [b3];exact hone a2 e1⟩
  ·refine⟨hu.one,fun y hy=>⟨by simp,?_⟩⟩
   obtain⟨k,t,b1,b2,b3,_⟩:=hu.mem y hy
   exact⟨t,slA_of b1 b2,b3⟩
  ·obtain⟨k,e1,e2,s',h2,a1,a2,a3,a4,a5,a6⟩:=hsn h' s e
   rw [e2] at a1;cases a1
   rw [hone e1 a2]
   unfold lstA
   rcases a4 with ⟨b1,b2⟩ | ⟨j,t,b1,b2,b3,b4,b5⟩
   ·rw [if_pos b1];exact b2
   ·have hp0:s.parent≠0:=fun q=>by rw [q,atF_zero] at b4;cases b4
    rw [if_neg hp0,slA_of b4 b3];exact b5
set_option maxRecDepth 100000
theorem st_eq {w:World}{a:Addr}{v:Value}{K:World→Prop} (h:St w a v fun w2=>w2=w.setCell a v→K w2):St w a v K:=⟨h.1,h.2.1,h.2.2 rfl⟩
def bareS (s:Sl):Sl:={ s with parent:=0,kids:=[] }
structure Part (sl:List Sl) (sn:List Nat) (P:List Sl):Prop where
 len:P.length=sl.length
 bare:∀k,k∉sn→P[k]?=(sl[k]?).map bareS
 same:∀k,k∈sn→∃s t,sl[k]?=some s∧P[k]?=some t∧t={ s with kids:=t.kids }
def NilK (w:World) (bs:List Nat) (sn:List Nat):Prop:=∀i b,bs[i]?=some b→∃v:Sv,w.cell? ⟨b,8,none⟩=some (slV v)∧(v.1=none↔i∉sn)
theorem cell_of {w w1:World}{b i:Nat} (h:w1.heap[b]?=w.heap[b]?):w1.cell? ⟨b,i,none⟩=w.cell? ⟨b,i,none⟩:=by
 simp [World.cell?,h]
theorem NilK.keep {w w1:World}{bs sn:List Nat} (h:NilK w bs sn) (hb:∀(i b:Nat),bs[i]?=some b→w1.heap[b]?=w.heap[b]?):NilK w1 bs sn:=fun i b hi=>by
 obtain⟨v,h1,h2⟩:=h i b hi
 exact⟨v,by rw [cell_of (hb i b hi)];exact h1,h2⟩
theorem NilK.edit {w w1:World}{bs sn sn':List Nat}{k b:Nat} (h:NilK w bs sn) (hk:bs[k]?=some b) (hb:∀(i c:Nat),bs[i]?=some c→i≠k→w1.heap[c]?=w.heap[c]?) {v:Sv} (hc:w1.cell? ⟨b,8,none⟩=some (slV v)) (hs:∀i,i≠k→(i∈sn'↔i∈sn)) (hv:v.1=none↔k∉sn'):NilK w1 bs sn':=fun i c hi=>by
 by_cases e:i=k
 ·subst e
  rw [hk] at hi;cases hi
  exact⟨v,hc,hv⟩
 ·obtain⟨u,h1,h2⟩:=h i c hi
  exact⟨u,by rw [cell_of (hb i c hi e)];exact h1,by rw [hs i e];exact h2⟩
theorem part_get {sl P:List Sl}{sn:List Nat} (h:Part sl sn P) {k:Nat}{s:Sl} (hs:sl[k]?=some s):∃t,P[k]?=some t∧t.gen=s.gen∧t.live=s.live:=by
 by_cases e:k∈sn
 ·obtain⟨s',t,h1,h2,h3⟩:=h.same k e
  rw [hs] at h1;cases h1
  exact⟨t,h2,by rw [h3],by rw [h3]⟩
 ·exact⟨bareS s,by rw [h.bare k e,hs];rfl,rfl,rfl⟩
theorem part_at {sl P:List Sl}{sn:List Nat} (h:Part sl sn P) (x:Nat):atF P x=atF sl x:=by
 unfold atF
 by_cases h0:x % 4294967296=0
 ·rw [if_pos h0,if_pos h0]
 rw [if_neg h0,if_neg h0]
 cases hs:sl[x % 4294967296-1]? with
 | none =>
  have:P[x % 4294967296-1]?=none:=by
   rw [List.getElem?_eq_none_iff] at hs ⊢
   rw [h.len];exact hs
  rw [this]
 | some s =>
  obtain⟨t,h1,h2,h3⟩:=part_get h hs
  rw [h1]
  dsimp only
  rw [h2,h3]
structure HgR (sl:List Sl) (p:Nat) (l sn sn':List Nat) (S S':PS):Prop where
 sub:∀j∈sn,j∈sn'
 full:∀j,j∈sn'→j∉sn→S'.D.sl[j]?=sl[j]?
 rest:∀j,¬(j∈sn'∧j∉sn)→S'.D.sl[j]?=if p≠0∧p % 4294967296=j+1 then (S.D.sl[j]?).map (fun s=>{ s with kids:=l }) else S.D.sl[j]?
 roots:S'.D.roots=if p=0 then l else S.D.roots
 bs:S'.bs=S.bs
 cnt:S'.lv=S.lv∧S'.wn=S.wn∧S'.lo=S.lo
structure HS (w0 w:World) (o:Nat→Nat) (g gl:Nat) (vs vr:Sv) (sl:List Sl) (sn:List Nat) (S:PS):Prop where
 pm:PM w o ⟨g,98,[]⟩ S
 bel:Below w0.heap.size w0 w
 col:∀b,o b≠0→w0.heap.size≤b
 gl0:w0.heap.size≤gl
 glo:o gl=0
 blk:Blk w gl #[.pointer (some ⟨g,0,none⟩),slV vs,slV vr,.int .i64 (sn.length:Nat)] 214
 part:Part sl sn S.D.sl
 nil:NilK w S.bs sn
 good:Good sl.length sn
section
variable {w0 w w1:World}{o o1:Nat→Nat}{g gl:Nat}{vs vr:Sv}{sl:List Sl}{sn sn':List Nat}{S:PS}{R:Ending→World→Prop}
theorem HS.below (h:HS w0 w o g gl vs vr sl sn S) (hb:Below w.heap.size w w1):HS w0 w1 o g gl vs vr sl sn S :=
 ⟨h.pm.below hb,btr h.bel h.bel.size hb,h.col,h.gl0,h.glo,h.blk.keep hb,h.part,h.nil.keep fun i b hi=>hb.block b (h.pm.lt b (by rw [h.pm.nc i b hi];omega)),h.good⟩
theorem HgR.start {p:Nat} (h0:lstR S.D p=[]):HgR sl p [] sn sn S S:=by
 refine⟨fun j h=>h,fun j h1 h2=>absurd h1 h2,fun j _=>?_,?_,rfl,rfl,rfl,rfl⟩
 ·split
  ·rename_i e
   unfold lstR at h0
   rw [if_neg e.1,e.2,Nat.add_sub_cancel] at h0
   cases hj:S.D.sl[j]? with
   | none=>rfl
   | some s =>
    rw [hj] at h0
    have h0:s.kids=[]:=h0
    rw [Option.map_some]
    congr 1
    obtain⟨a1,a2,a3,a4,a5,a6,a7,a8⟩:=s
    dsimp only at h0
    rw [h0]
  ·rfl
 ·split
  ·rename_i e
   unfold lstR at h0
   rw [if_pos e] at h0;exact h0
  ·rfl
def hgS (S:PS) (k x p:Nat) (s:Sl) (l:List Nat):PS:={ (({ S with D:=setI S.D x [] }:PS).setS k s) with D:=setI (({ S with D:=setI S.D x [] }:PS).setS k s).D p l }
theorem hgS_get {S:PS}{k x p:Nat}{s:Sl}{l:List Nat} (hx:x % 4294967296=k+1) (hk:k < S.D.sl.length) (hp:p≠0→p % 4294967296≠k+1) (hp1:p≠0→1≤p % 4294967296) :
  (hgS S k x p s l).D.sl.length=S.D.sl.length∧(hgS S k x p s l).D.sl[k]?=some s∧(∀j,j≠k→(hgS S k x p s l).D.sl[j]?=if p≠0∧p % 4294967296=j+1 then (S.D.sl[j]?).map (fun s=>{ s with kids:=l }) else S.D.sl[j]?)∧(hgS S k x p s l).D.roots=if p=0 then l else S.D.roots:=by
 have hx0:x≠0:=by rintro rfl;simp at hx
 have e1:(setI S.D x []).sl=S.D.sl.modify k fun s=>{ s with kids:=[] }:=by unfold setI;rw [if_neg hx0,hx,Nat.add_sub_cancel]
 have e2:(setI S.D x []).roots=S.D.roots:=by unfold setI;rw [if_neg hx0]
 unfold hgS PS.setS
 dsimp only
 by_cases h0:p=0
 ·subst h0
  unfold setI at *
  rw [if_pos rfl]
  dsimp only
  rw [e1]
  refine⟨by simp,?_,fun j hj=>?_,by rw [if_pos rfl]⟩
  ·rw [List.getElem?_set_self (by simpa using hk)]
  ·rw [if_neg (fun q=>q.1 rfl),List.getElem?_set_ne (Ne.symm hj),List.getElem?_modify]
   simp [Ne.symm hj]
 ·have hp2:=hp h0
  have hp3:=hp1 h0
  have e3:∀D:Im,setI D p l={ D with sl:=D.sl.modify (p % 4294967296-1) fun s=>{ s with kids:=l } }:=fun D=>by unfold setI;rw [if_neg h0]
  rw [e3]
  dsimp only
  rw [e1,e2]
  refine⟨by simp,?_,fun j hj=>?_,by rw [if_neg h0]⟩
  ·rw [List.getElem?_modify,List.getElem?_set_self (by simpa using hk)]
   have:¬p % 4294967296-1=k:=by omega
   simp [this]
  ·rw [List.getElem?_modify,List.getElem?_set_ne (Ne.symm hj),List.getElem?_modify]
   by_cases e:p % 4294967296=j+1
   ·have:p % 4294967296-1=j:=by omega
    rw [if_pos ⟨h0,e⟩]
    simp [this,Ne.symm hj]
   ·have:¬p % 4294967296-1=j:=by omega
    rw [if_neg (fun q=>e q.2)]
    simp [this,Ne.symm hj]
end
set_option maxRecDepth 100000
section
variable {w0 w w1:World}{o o1:Nat→Nat}{g gl:Nat}{vs vr:Sv}{sl:List Sl}{sn sn1 sn2:List Nat}{S S1 S7:PS}{R:Ending→World→Prop}{p x k:Nat}{l:List Nat}{s:Sl}
theorem HgR.step (h1:HgR sl p l sn sn1 S S1) (hlen:S1.D.sl.length=sl.length) (hk:sl[k]?=some s) (hkn:k∉sn1) (hx:x % 4294967296=k+1) (hpk:p≠0→∃kp,kp∈sn∧p % 4294967296=kp+1)
  (h2:HgR sl x s.kids (k :: sn1) sn2 (hgS S1 k x p { s with kids:=[] } (l++[x])) S7):HgR sl p (l++[x]) sn sn2 S S7:=by
 have hx0:x≠0:=by rintro rfl;simp at hx
 have hkl:k < S1.D.sl.length:=by rw [hlen];exact (List.getElem?_eq_some_iff.1 hk).1
 have hps:∀j,p≠0∧p % 4294967296=j+1→j∈sn:=fun j q=>by
  obtain⟨kp,a,b⟩:=hpk q.1
  have:kp=j:=by omega
  rw [←this];exact a
 obtain⟨g1,g2,g3,g4⟩:=hgS_get (S:=S1) (s:={ s with kids:=[] }) (l:=l++[x]) hx hkl (fun q e=>hkn (h1.sub k (hps k ⟨q,e⟩))) (fun q=>by obtain⟨kp,_,b⟩:=hpk q;omega)
 have hk2:k∈sn2:=h2.sub k (by simp)
 have h12:∀j∈sn1,j∈sn2:=fun j hj=>h2.sub j (by simp [hj])
 have hxs:∀j,j≠k→¬(x≠0∧x % 4294967296=j+1):=fun j hj q=>by have:=q.2;omega
 refine⟨fun j hj=>h12 j (h1.sub j hj),fun j hj hjn=>?_,fun j hj=>?_,?_,h2.bs.trans h1.bs,h2.cnt.1.trans h1.cnt.1,h2.cnt.2.1.trans h1.cnt.2.1,h2.cnt.2.2.trans h1.cnt.2.2⟩
 ·by_cases e:j=k
  ·subst e
   rw [h2.rest j (fun q=>q.2 (by simp)),if_pos ⟨hx0,hx⟩,g2,hk]
   rfl
  ·by_cases e2:j∈sn1
   ·rw [h2.rest j (fun q=>q.2 (by simp [e2])),if_neg (hxs j e),g3 j e,if_neg (fun q=>hjn (hps j q))]
    exact h1.full j e2 hjn
   ·exact h2.full j hj (by simp [e,e2])
 ·have e:j≠k:=fun e=>hj ⟨by rw [e];exact hk2,fun q=>hkn (by rw [←e];exact h1.sub j q)⟩
  have e2:¬(j∈sn2∧j∉k :: sn1):=fun q=>hj ⟨q.1,fun q2=>q.2 (by simp [h1.sub j q2])⟩
  have e3:¬(j∈sn1∧j∉sn):=fun q=>hj ⟨h12 j q.1,q.2⟩
  rw [h2.rest j e2,if_neg (hxs j e),g3 j e,h1.rest j e3]
  split
  ·simp [Function.comp_def]
  ·rfl
 ·rw [h2.roots,if_neg hx0,g4,h1.roots]
  split <;> rfl
theorem part_hg (h1:HgR sl p l sn sn1 S S1) (hP:Part sl sn1 S1.D.sl) (hk:sl[k]?=some s) (hkn:k∉sn1) (hx:x % 4294967296=k+1) (hpk:p≠0→∃kp,kp∈sn∧p % 4294967296=kp+1) :
  Part sl (k :: sn1) (hgS S1 k x p { s with kids:=[] } (l++[x])).D.sl:=by
 have hkl:k < S1.D.sl.length:=by rw [hP.len];exact (List.getElem?_eq_some_iff.1 hk).1
 have hps:∀j,p≠0∧p % 4294967296=j+1→j∈sn:=fun j q=>by
  obtain⟨kp,a,b⟩:=hpk q.1
  have:kp=j:=by omega
  rw [←this];exact a
 obtain⟨g1,g2,g3,g4⟩:=hgS_get (S:=S1) (s:={ s with kids:=[] }) (l:=l++[x]) hx hkl (fun q e=>hkn (h1.sub k (hps k ⟨q,e⟩))) (fun q=>by obtain⟨kp,_,b⟩:=hpk q;omega)
 refine⟨by rw [g1];exact hP.len,fun j hj=>?_,fun j hj=>?_⟩
 ·have e:j≠k:=fun e=>hj (by simp [e])
  have e2:j∉sn1:=fun e=>hj (by simp [e])
  rw [g3 j e,if_neg (fun q=>e2 (h1.sub j (hps j q)))]
  exact hP.bare j e2
 ·by_cases e:j=k
  ·subst e;exact⟨s,_,hk,g2,rfl⟩
  ·obtain⟨s',t,a1,a2,a3⟩:=hP.same j ((List.mem_cons.1 hj).resolve_left e)
   rw [g3 j e]
   split
   ·exact⟨s',{ t with kids:=l++[x] },a1,by rw [a2];rfl,by rw [a3]⟩
   ·exact⟨s',t,a1,a2,a3⟩
theorem st_eq2 {w:World}{a:Addr}{v:Value}{K:World→Prop} (h:St w a v fun w2=>(∃u,w.cell? a=some u)→w2=w.setCell a v→K w2):St w a v K:=⟨h.1,h.2.1,h.2.2 h.1 rfl⟩
theorem cell_set {w:World}{b i:Nat}{c:Array Value}{t:TypeId} (h:Blk w b c t) (hi:i < c.size) (v:Value):(w.setCell ⟨b,i,none⟩ v).cell? ⟨b,i,none⟩=some v:=by
 rw [(h.set i v).cell];simp [hi]
theorem cell_set_ne {w:World}{b i j:Nat}{c:Array Value}{t:TypeId} (h:Blk w b c t) (hij:i≠j) (v:Value):(w.setCell ⟨b,i,none⟩ v).cell? ⟨b,j,none⟩=w.cell? ⟨b,j,none⟩:=by
 rw [(h.set i v).cell,h.cell,Array.getElem?_setIfInBounds_ne hij]
theorem cell_set2 {w:World}{b i:Nat}{u:Value} (h:w.cell? ⟨b,i,none⟩=some u) (v:Value):(w.setCell ⟨b,i,none⟩ v).cell? ⟨b,i,none⟩=some v:=by
 unfold World.cell? at h ⊢
 unfold World.setCell
 cases hh:w.heap[b]? with
 | none=>rw [hh] at h;cases h
 | some ob =>
  cases ob <;> simp_all [Array.getElem?_modify]
  obtain⟨hi,_⟩:=Array.getElem?_eq_some_iff.1 h
  simp [hi]
theorem col_ev {C:Nat→Prop}{wa wb:World}{oa ob:Nat→Nat} (e:EvC C wa oa wb ob) (hc:∀b,oa b≠0→w0.heap.size≤b) (hs:w0.heap.size≤wa.heap.size):∀b,ob b≠0→w0.heap.size≤b:=fun b hb=>by
 rcases Nat.lt_or_ge b w0.heap.size with hlt | hge
 ·have h0:oa b=0:=Classical.byContradiction fun q=>by have:=hc b q;omega
  exact absurd (e.old b (by omega) h0) hb
 ·exact hge
theorem bel_ev {C:Nat→Prop}{wa wb:World}{oa ob:Nat→Nat} (e:EvC C wa oa wb ob) (h0:¬C 0) (hc:∀b,oa b≠0→w0.heap.size≤b) (hb:Below w0.heap.size w0 wa):Below w0.heap.size w0 wb :=
 hb.trans (e.fm.toBelow hb.size fun b hlt hm=>by
  have hm:C (oa b):=hm
  have:oa b=0:=Classical.byContradiction fun q=>by have:=hc b q;omega
  rw [this] at hm;exact h0 hm)
def HangL (R:Ending→World→Prop) (w0:World) (g gl:Nat) (vs vr:Sv) (sl:List Sl) (S:PS) (p:Nat) (l sn:List Nat):Option (List Nat)→Prop
 | none=>∀w',Below w0.heap.size w0 w'→R (.returned (.bool false)) w'
 | some sn'=>∀w' o' S',HS w0 w' o' g gl vs vr sl sn' S'→HgR sl p l sn sn' S S'→R (.returned (.bool true)) w'
def AtP (sl:List Sl) (sn:List Nat) (p:Nat):Prop:=p=0∨∃kp,kp∈sn∧atF sl p=some kp
theorem AtP.idx (h:AtP sl sn p):p≠0→∃kp,kp∈sn∧p % 4294967296=kp+1:=fun h0=>by
 obtain⟨kp,a,b⟩:=h.resolve_left h0
 obtain⟨_,_,_,e⟩:=atF_some b
 exact⟨kp,a,e.symm⟩
theorem atF_inN {x k:Nat} (h:atF sl x=some k):inN sl.length x∧x % 4294967296=k+1∧x≠0:=by
 obtain⟨hk,_,_,e⟩:=atF_some h
 refine⟨⟨by omega,by omega⟩,e.symm,?_⟩
 rintro rfl;simp at e
theorem AtP.inN (h:AtP sl sn p):p=0∨inN sl.length p:=h.imp id fun⟨kp,_,b⟩=>(atF_inN b).1
theorem placeH_calls (h:HS w0 w o g gl vs vr sl sn S) (hp:AtP sl sn p) (hK:∀w',Below w.heap.size w w'→R (.returned (.int .u64 (p:Nat))) w'):Calls Tryz.prog 111 #[.pointer (ptrH S.bs p)] w R:=by
 by_cases h0:p=0
 ·subst h0
  refine ok111 none ?_
  unfold F111
  rw [Option.isNone_none,Br_t]
  exact hK w (.refl _ _)
 ·obtain⟨kp,a,b⟩:=hp.resolve_left h0
  have e:atF S.D.sl p=some kp:=by rw [part_at h.part];exact b
  obtain⟨hk,_⟩:=atF_some e
  unfold ptrH
  rw [if_neg h0]
  exact hnd_calls h.pm (slA_of e (List.getElem?_eq_getElem hk)) hK
theorem hang_node (h : HS w0 w o g gl vs vr sl sn1 S1) (h1 : HgR sl p l sn sn1 S S1) (hl : l.length < 1048576) (hlp : lstR S1.D p = l) (hp : AtP sl sn p) (hk : atF sl x = some k) (hs : sl[k]? = some s) (hkn : k ∉ sn1) (hpar : s.parent = p) (hli : ∀ y ∈ l, inN sl.length y) {L2 : Int → World → Prop} {m : Int} {deep : Int}
    (hsz : sn1.length < 1048576)
    (hK : ∀ w7 o7, HS w0 w7 o7 g gl vs vr sl (k :: sn1) (hgS S1 k x p { s with kids := [] } (l ++ [x])) → ∃ S : World → Prop, S w7.drew ∧ NonNil (some ⟨gl, 0, none⟩) fun p87 =>
 ∃ (x90 : Option Addr) (x90N : Nat) (x90C : Nat), Held S (p87.add 1) (.slice x90 x90N x90C) ∧ NonNil (some ⟨pb S1.bs x, 0, none⟩) fun p92 =>
 ∃ (x94 : Int), Held S p92 (.int .u32 x94) ∧ InR .u32 (x94 - (1 : Int)) ∧ IdxA x90 x90N (x94 - (1 : Int)) 8 fun q96 =>
 ∃ (x98 : Option Addr) (x98N : Nat) (x98C : Nat), Held S (q96.add 7) (.slice x98 x98N x98C) ∧ InR .i64 (deep + (1 : Int)) ∧ Calls Tryz.prog 114 #[(.pointer (some ⟨gl, 0, none⟩)), (.slice x98 x98N x98C), (.pointer (some ⟨pb S1.bs x, 0, none⟩)), (.int .i64 (deep + (1 : Int)))] w7.drew (post R fun v4 w1_11 =>
 ∃ (x102 : Bool), v4 = (.bool x102) ∧
 Br (!x102)
 (R (.returned (.bool false)) w1_11)
 (InR .i64 (m + (1 : Int)) ∧ L2 (m + (1 : Int)) w1_11))) :
    F114_j7 (some ⟨gl, 0, none⟩) (ptrH S1.bs p) deep L2 m (some ⟨pb S1.bs x, 0, none⟩) w R := by
  unfold F114_j7
  obtain ⟨hin, hx, hx0⟩ := atF_inN hk
  have hinS : inN S1.D.sl.length x := by rw [h.part.len]; exact hin
  have hpn : p = 0 ∨ inN S1.D.sl.length p := by rw [h.part.len]; exact hp.inN
  have hps : ∀ j, p ≠ 0 ∧ p % 4294967296 = j + 1 → j ∈ sn := fun j q => by
    obtain ⟨kp, a, b⟩ := hp.idx q.1
    have : kp = j := by omega
    rw [← this]; exact a
  refine al fun g57 w1 hb1 b57 hge57 => ?_
  have H1 := h.below hb1
  simp only [NonNil_some, Addr.add_mk, Nat.zero_add]
  obtain ⟨hbk, sx, hsx⟩ := pb_get h.pm.len hinS
  rw [hx, Nat.add_sub_cancel] at hbk hsx
  have hsx2 : sx = bareS s := by
    have := h.part.bare k hkn
    rw [hsx, hs] at this
    exact Option.some.inj this
  obtain ⟨v1, cv1, ov1, rv1, lv1⟩ := H1.pm.list (.inr hinS)
  have el : lad g S1.bs x = ⟨pb S1.bs x, 8, none⟩ := by unfold lad; rw [if_neg hx0]
  rw [← el]
  refine st_eq (H1.pm.setList (v := v1) (v' := (some ⟨g57, 0, none⟩, 0, 0)) (l := []) (.inr hinS) rv1 (Fm.refl _ _) (Own.bare _ _ _ _ _) (.inr (.inl rfl)) ⟨by simp, by simp⟩ fun w2 o2 h2 e2 q2 => ?_)
  have hcx0 : ¬ lcC x 0 := by unfold lcC; rw [if_neg hx0]; omega
  have hcp0 : ¬ lcC p 0 := by unfold lcC; split <;> omega
  have hgl1 := H1.blk.lt
  have b2 : Blk w2 gl _ 214 := e2.fm.blk H1.blk (by show ¬ lcC x (o gl); rw [h.glo]; exact hcx0)
  have og2 : o2 gl = 0 := e2.old gl hgl1 h.glo
  have hc2 := col_ev e2 H1.col H1.bel.size
  have B2 := bel_ev e2 hcx0 H1.col H1.bel
  obtain ⟨a1, kv1, hN1⟩ := H1.pm.nodes k _ _ hbk hsx
  have n2 : NilK w2 S1.bs (k :: sn1) := by
    refine H1.nil.edit hbk (fun j c hj hjk => e2.fm.block c (H1.pm.lt c (by rw [H1.pm.nc j c hj]; omega)) ?_) (v := (some ⟨g57, 0, none⟩, 0, 0)) ?_ (fun j hj => by simp [hj]) ?_
    · show ¬ lcC x (o c)
      rw [H1.pm.nc j c hj]
      unfold lcC
      rw [if_neg hx0, hx]; omega
    · rw [q2, el]
      exact cell_set hN1.blk (by simp [nodeC]) _
    · exact ⟨fun q => by simp at q, fun q => absurd (by simp) q⟩
  have hlen2 : (setI S1.D x []).sl.length = S1.D.sl.length := by unfold setI; rw [if_neg hx0]; simp
  have hs2 : (setI S1.D x []).sl[k]? = some { bareS s with kids := [] } := by
    unfold setI
    rw [if_neg hx0, hx, Nat.add_sub_cancel]
    dsimp only
    rw [List.getElem?_modify, hsx, hsx2]; simp
  have es : ({ ({ bareS s with kids := [] } : Sl) with parent := p } : Sl) = { s with kids := [] } := by subst hpar; rfl
  refine st_eq (h2.stPar (i := k) hbk hs2 (p := p) (by show p = 0 ∨ inN (setI S1.D x []).sl.length p; rw [hlen2]; exact hpn) fun w3 h3 e3 q3 => ?_)
  rw [es] at h3
  have hck0 : ¬ ((0 : Nat) = 8 + 4 * k ∨ (0 : Nat) = 9 + 4 * k ∨ (0 : Nat) = 10 + 4 * k) := by omega
  have hgl2 := b2.lt
  have b3 : Blk w3 gl _ 214 := e3.fm.blk b2 (by show ¬ (o2 gl = _ ∨ o2 gl = _ ∨ o2 gl = _); rw [og2]; omega)
  have B3 := bel_ev e3 hck0 hc2 B2
  have n3 : NilK w3 S1.bs (k :: sn1) := by
    obtain ⟨v, c1, c2⟩ := n2 k _ hbk
    obtain ⟨a2, kv2, hN2⟩ := h2.nodes k _ _ hbk hs2
    refine n2.edit hbk (fun j c hj hjk => e3.fm.block c (h2.lt c (by rw [h2.nc j c hj]; omega)) ?_) (v := v) ?_ (fun _ _ => Iff.rfl) c2
    · show ¬ (o2 c = _ ∨ o2 c = _ ∨ o2 c = _)
      rw [h2.nc j c hj]; omega
    · rw [q3, cell_set_ne hN2.blk (by omega) _]; exact c1
  simp only [b3.cell, lds]
  refine list_calls (θ := ⟨g, 98, []⟩) (S := S1) ⟨_, rfl, ?_⟩
  have hpn3 : p = 0 ∨ inN ((({ S1 with D := setI S1.D x [] } : PS).setS k { s with kids := [] }).D.sl).length p := by
    show p = 0 ∨ inN ((setI S1.D x []).sl.set k _).length p
    rw [List.length_set, hlen2]; exact hpn
  obtain ⟨v3, cv3, ov3, rv3, lv3⟩ := h3.list hpn3
  have hl3 : lstR (({ S1 with D := setI S1.D x [] } : PS).setS k { s with kids := [] }).D p = l := by
    rw [← hlp]
    unfold lstR PS.setS
    dsimp only
    by_cases h0 : p = 0
    · rw [if_pos h0, if_pos h0]
      unfold setI; rw [if_neg hx0]
    · rw [if_neg h0, if_neg h0]
      obtain ⟨kp, a, b⟩ := hp.idx h0
      have hne : k ≠ kp := fun e => hkn (by rw [e]; exact h1.sub kp a)
      rw [b, Nat.add_sub_cancel, List.getElem?_set_ne hne]
      unfold setI
      rw [if_neg hx0, hx, Nat.add_sub_cancel]
      dsimp only
      rw [List.getElem?_modify]
      simp [hne]
  rw [hl3] at ov3 lv3
  have cv3' : w3.cell? (lad g S1.bs p) = some (.slice v3.1 v3.2.1 v3.2.2) := cv3
  simp only [NonNil_some, cv3', lds]
  have ov3' : Own LPt w3 0 152 (.slice v3.1 v3.2.1 v3.2.2) (l.map (pb S1.bs)) := ov3
  refine ap1 (L := LPt) (x := pb S1.bs x) (base := 0) (.pointer none) 8 rfl (by kernel_rfl) (by kernel_rfl) (by kernel_rfl) ov3' (Nat.zero_le _) (by rw [List.length_map]; omega) (by rw [List.length_map]; unfold maxLen; omega) fun A' c' w5 o5 g5 => ⟨A', _, c', rfl, ?_⟩
  have hA' : A' ≠ none := fun e => by
    obtain ⟨_, _, q, _⟩ := o5.rd.2
    subst e
    have := o5.rd.2.1
    rw [q rfl] at this
    simp at this
  refine st_eq2 (h3.setList (v := v3) (v' := (A', _, c')) (l := l ++ [x]) hpn3 rv3 (Fm.grown g5.grown fun b hb => hb) (by rw [List.map_append]; exact o5) g5.row ⟨fun y hy => ?_, by simp; omega⟩ fun w6 o6 h6 e6 q5 q6 => ?_)
  · show inN ((setI S1.D x []).sl.set k _).length y
    rw [List.length_set, hlen2, h.part.len]
    rcases List.mem_append.1 hy with hy | hy
    · exact hli y hy
    · rw [List.mem_singleton.1 hy]; exact hin
  have og3 : o2 gl = 0 := og2
  have hgl3 := b3.lt
  have b6 : Blk w6 gl _ 214 := e6.fm.blk b3 (by show ¬ lcC p (o2 gl); rw [og3]; exact hcp0)
  have og6 : o6 gl = 0 := e6.old gl hgl3 og3
  have hc6 := col_ev e6 hc2 B3.size
  have B6 := bel_ev e6 hcp0 hc2 B3
  have n6 : NilK w6 S1.bs (k :: sn1) := by
    by_cases h0 : p = 0
    · refine n3.keep fun j c hj => e6.fm.block c (h3.lt c (by rw [h3.nc j c hj]; omega)) ?_
      show ¬ lcC p (o2 c)
      rw [h3.nc j c hj]
      unfold lcC
      rw [if_pos h0]; omega
    · obtain ⟨kp, a, b⟩ := hp.idx h0
      have hbp : S1.bs[kp]? = some (pb S1.bs p) := by
        have := (pb_get h.pm.len (hpn.resolve_left h0)).1
        rw [b, Nat.add_sub_cancel] at this
        exact this
      have ep : lad g S1.bs p = ⟨pb S1.bs p, 8, none⟩ := by unfold lad; rw [if_neg h0]
      refine n3.edit hbp (fun j c hj hjk => e6.fm.block c (h3.lt c (by rw [h3.nc j c hj]; omega)) ?_) (v := (A', (l.map (pb S1.bs)).length + 1, c')) ?_ (fun _ _ => Iff.rfl) ?_
      · show ¬ lcC p (o2 c)
        rw [h3.nc j c hj]
        unfold lcC
        rw [if_neg h0, b]; omega
      · obtain ⟨u, hu⟩ := q5
        rw [q6]
        have hu : w5.cell? (lad g S1.bs p) = some u := hu
        rw [ep] at hu
        show (w5.setCell (lad g S1.bs p) _).cell? ⟨pb S1.bs p, 8, none⟩ = _
        rw [ep]
        exact cell_set2 hu _
      · exact ⟨fun q => absurd q hA', fun q => absurd (by simp [h1.sub kp a]) q⟩
  simp only [b6.cell, lds]
  refine ⟨inR_i64 (by omega) (by omega), ?_⟩
  refine st_blk b6 (by simp) fun w7 b7 f7 => ?_
  simp only [List.setIfInBounds_toArray, List.set_cons_zero, List.set_cons_succ] at b7
  have f7 : Fm (· = gl) w6 w7 := f7
  have hgl0 := h.gl0
  have hpm7 := h6.keep (M := (· = gl)) f7 (fun b hb e => by
    have e : b = gl := e
    rw [e, og6] at hb; exact not_pc0 hb) (fun _ _ => rfl) (fun b hb => Nat.lt_of_lt_of_le (h6.lt b hb) f7.size)
  have H := hK w7 o6 ⟨hpm7, B6.trans (f7.toBelow B6.size fun b hb e => by have e : b = gl := e; omega), hc6, h.gl0, og6, by rw [List.length_cons]; exact b7, part_hg h1 h.part hs hkn hx hp.idx, n6.keep fun j c hj => f7.block c (h6.lt c (by rw [h6.nc j c hj]; omega)) (fun e => by
    have e : c = gl := e
    have := h6.nc j c hj
    rw [e, og6] at this; omega), ⟨List.nodup_cons.2 ⟨hkn, h.good.one⟩, fun j hj => by
      rcases List.mem_cons.1 hj with rfl | hj
      · exact (List.getElem?_eq_some_iff.1 hs).1
      · exact h.good.lt j hj⟩⟩
  simp only [NonNil_some, Addr.add_mk, Nat.zero_add] at H
  exact H
end
set_option maxRecDepth 100000
section
variable {w0 w w1:World}{o o1:Nat→Nat}{g gl:Nat}{vs vr:Sv}{sl:List Sl}{sn sn1 sn2:List Nat}{S S1 S7:PS}{R:Ending→World→Prop}{p x k:Nat}{l:List Nat}{s:Sl}{X:Im}
theorem inR_u32' {z:Int} (h0:0≤z) (h1:z≤4294967295):InR .u32 z:=⟨by simpa [IntKind.min,IntKind.signed] using h0,by simpa [IntKind.max,IntKind.signed,IntKind.bits] using h1⟩
theorem lst_hg (h:HS w0 w o g gl vs vr sl sn S) (h1:HgR sl p l sn sn1 S S1) (hp:AtP sl sn p):lstR S1.D p=l:=by
 unfold lstR
 by_cases h0:p=0
 ·rw [if_pos h0,h1.roots,if_pos h0]
 ·rw [if_neg h0]
  obtain⟨kp,a,b⟩:=hp.resolve_left h0
  obtain⟨hk,_,_,e⟩:=atF_some b
  have hk2:kp < S.D.sl.length:=by rw [h.part.len];exact hk
  rw [←e,Nat.add_sub_cancel,h1.rest kp (fun q=>q.2 a),if_pos ⟨h0,e.symm⟩,List.getElem?_eq_getElem hk2]
  rfl
theorem lst_in (h:HS w0 w o g gl vs vr sl sn S) (p:Nat):∀y∈lstR S.D p,inN sl.length y:=fun y hy=>by
 rw [←h.part.len]
 unfold lstR at hy
 by_cases h0:p=0
 ·rw [if_pos h0] at hy;exact h.pm.rts.1 y hy
 ·rw [if_neg h0] at hy
  cases e:S.D.sl[p % 4294967296-1]? with
  | none=>rw [e] at hy;simp at hy
  | some s=>rw [e] at hy;exact (h.pm.rng s (List.mem_of_getElem? e)).kids y hy
theorem hangP_calls (hX : RIm w0 X vs vr) (hsl : sl = X.sl.map normS) (hfew : X.sl.length ≤ 4096) (hN : ∀ (k : Nat) (s : Sl), X.sl[k]? = some s → s.live = true → (normS s).kids = s.kids ∧ (normS s).parent = s.parent) : ∀ (r : Nat) (l : List Nat) (v : Sv) (p : Nat) {w : World} {o : Nat → Nat} {sn : List Nat} {S : PS} {R : Ending → World → Prop}, r ≤ 64 →
    HS w0 w o g gl vs vr sl sn S → AtP sl sn p → lstR S.D p = [] → RR LHn w0 l v → (∀ x ∈ l, x < 18446744073709551616) → HangL R w0 g gl vs vr sl S p l sn (hangF sl r l p sn) →
    Calls Tryz.prog 114 #[.pointer (some ⟨gl, 0, none⟩), .slice v.1 v.2.1 v.2.2, .pointer (ptrH S.bs p), .int .i64 (65 - (r : Int))] w R := by
  have main : ∀ r : Nat, (∀ q, r = q + 1 → ∀ (l : List Nat) (v : Sv) (p : Nat) {w : World} {o : Nat → Nat} {sn : List Nat} {S : PS} {R : Ending → World → Prop}, q ≤ 64 →
    HS w0 w o g gl vs vr sl sn S → AtP sl sn p → lstR S.D p = [] → RR LHn w0 l v → (∀ x ∈ l, x < 18446744073709551616) → HangL R w0 g gl vs vr sl S p l sn (hangF sl q l p sn) →
    Calls Tryz.prog 114 #[.pointer (some ⟨gl, 0, none⟩), .slice v.1 v.2.1 v.2.2, .pointer (ptrH S.bs p), .int .i64 (65 - (q : Int))] w R) →
    ∀ (l : List Nat) (v : Sv) (p : Nat) {w : World} {o : Nat → Nat} {sn : List Nat} {S : PS} {R : Ending → World → Prop}, r ≤ 64 →
    HS w0 w o g gl vs vr sl sn S → AtP sl sn p → lstR S.D p = [] → RR LHn w0 l v → (∀ x ∈ l, x < 18446744073709551616) → HangL R w0 g gl vs vr sl S p l sn (hangF sl r l p sn) →
    Calls Tryz.prog 114 #[.pointer (some ⟨gl, 0, none⟩), .slice v.1 v.2.1 v.2.2, .pointer (ptrH S.bs p), .int .i64 (65 - (r : Int))] w R := by
    intro r ih l v p w o sn S R hr h hp hl0 hlv hlx H
    obtain ⟨z0, z1, z2⟩ := hlv
    obtain ⟨es, hn, hrd, hes⟩ := hX.row
    have hel := hes.len
    have hsll : sl.length = X.sl.length := by rw [hsl, List.length_map]
    refine ok114 (some ⟨gl, 0, none⟩) v.1 v.2.1 v.2.2 (ptrH S.bs p) (65 - (r : Int)) ?_
    unfold F114
    have bad : hangF sl r l p sn = none → ∀ w', Below w0.heap.size w0 w' → R (.returned (.bool false)) w' := fun e w' hb => by rw [e] at H; exact H w' hb
    refine ⟨fun i w' => ∃ (m : Nat) (o' : Nat → Nat) (sn1 : List Nat) (S1 : PS), i = m ∧ m ≤ l.length ∧ HS w0 w' o' g gl vs vr sl sn1 S1 ∧ HgR sl p (l.take m) sn sn1 S S1 ∧ hangF sl r (l.drop m) p sn1 = hangF sl r l p sn, fun i _ => l.length - i.toNat, ⟨0, o, sn, S, rfl, by omega, h, HgR.start hl0, rfl⟩, ?_⟩
    rintro _ w1 ⟨m, o1, sn1, S1, rfl, hm, H1, G1, hF⟩
    unfold F114_l2
    refine brd (fun hlt => ?_) (fun hge => ?_)
    · have hm2 : m < l.length := by omega
      have hxk := hlx _ (List.getElem_mem hm2)
      have hdrop : l.drop m = l[m] :: l.drop (m + 1) := List.drop_eq_getElem_cons hm2
      rw [hdrop] at hF
      have htk : l.take (m + 1) = l.take m ++ [l[m]] := List.take_succ_eq_append_getElem hm2
      refine (z2.keep H1.bel).hn z1 rfl (k := m) hm2 fun b oo c0 => ?_
      simp only [c0, lds]
      generalize l[m] = x at *
      simp only [NonNil_some, H1.blk.cell, lds]
      refine atL_calls H1.pm hxk fun w2 hb2 => ⟨_, rfl, ?_⟩
      have H2 := H1.below hb2
      have hdr : Below w2.heap.size w2 w2.drew := (Below.refl _ _).drew
      have H3 := H2.below hdr
      have B3 := H3.bel
      have hp1 : AtP sl sn1 p := hp.imp id fun ⟨kp, a, b⟩ => ⟨kp, G1.sub kp a, b⟩
      cases hk : atF sl x with
      | none =>
        have hpl : ptrL S1 x = none := by
          unfold ptrL slA
          rw [part_at H1.part, hk]; rfl
        rw [hpl]
        refine ⟨fun _ => False, fun _ h => h.elim, ?_⟩
        refine ⟨fun w' => Below w2.drew.heap.size w2.drew w', .refl _ _, ?_⟩
        rw [Option.isNone_none, Br_t]
        exact bad (by rw [← hF, hangF_no hk]) _ B3
      | some k =>
        obtain ⟨hkl, _⟩ := atF_some hk
        obtain ⟨hin, hx, hx0⟩ := atF_inN hk
        have hkS : k < S1.D.sl.length := by rw [H1.part.len]; exact hkl
        have hbk := (pb_get H1.pm.len (by rw [H1.part.len]; exact hin)).1
        rw [hx, Nat.add_sub_cancel] at hbk
        have hpl : ptrL S1 x = some ⟨pb S1.bs x, 0, none⟩ := by
          unfold ptrL
          rw [slA_of (by rw [part_at H1.part]; exact hk) (List.getElem?_eq_getElem hkS)]; rfl
        rw [hpl]
        have hkX : k < X.sl.length := by omega
        have hke : k < es.length := by omega
        have hsk : sl[k]? = some (normS X.sl[k]) := by rw [hsl, List.getElem?_map, List.getElem?_eq_getElem hkX]; rfl
        have hskl : sl[k] = normS X.sl[k] := by rw [List.getElem?_eq_getElem hkl] at hsk; exact Option.some.inj hsk
        have hlive : X.sl[k].live = true := by
          obtain ⟨_, q, _⟩ := atF_some hk
          rw [hskl, norm_live] at q; exact q
        obtain ⟨n1, n2⟩ := hN k _ (List.getElem?_eq_getElem hkX) hlive
        have hRS := hes.get k hkX hke
        refine ⟨fun w' => (∃ q, r = q + 1) ∧ k ∉ sn1 ∧ sl[k].parent = p ∧ HS w0 w' o1 g gl vs vr sl sn1 S1, ?_, ?_⟩
        · rintro w4 ⟨⟨q, rfl⟩, hkn, hpar, H4⟩
          have hstep := hangF_step (r := q) (l := l.drop (m + 1)) (sn := sn1) hk hkl (fun e => e.elim hkn fun e2 => e2 hpar)
          rw [hstep] at hF
          have hlp := lst_hg h G1 hp
          have hsn1 : sn1.length < 1048576 := by have := good_len H4.good; omega
          have hbs : S1.bs = S.bs := G1.bs
          rw [← hbs]
          refine hang_node H4 G1 (by rw [List.length_take]; omega) hlp hp hk (List.getElem?_eq_getElem hkl) hkn hpar (by rw [← hlp]; exact lst_in H4 p) hsn1 fun w7 o7 H7 => ?_
          have hdr7 : Below w7.heap.size w7 w7.drew := (Below.refl _ _).drew
          have H8 := H7.below hdr7
          refine ⟨fun w' => Below w7.drew.heap.size w7.drew w', .refl _ _, ?_⟩
          simp only [NonNil_some, Addr.add_mk, Nat.zero_add]
          obtain ⟨g1, g2, g3, g4⟩ := hgS_get (S := S1) (x := x) (k := k) (p := p) (s := { sl[k] with kids := [] }) (l := l.take m ++ [x]) hx hkS (fun q e => by
            obtain ⟨kp, a, b⟩ := hp.idx q
            exact hkn (G1.sub k (by have : kp = k := by omega
                                    rw [← this]; exact a))) (fun q => by obtain ⟨kp, _, b⟩ := hp.idx q; omega)
          have hci := H8.pm.cIdx (i := k) hbk g2
          refine ⟨_, _, _, fun w' hw => by rw [(H8.blk.keep hw).cell]; rfl, _, fun w' hw => kcell hw hci, inR_u32' (by omega) (by omega), ?_⟩
          have ei : (((k + 1 : Nat) : Int) - 1).toNat = k := by omega
          refine (hrd.keep H8.bel).held (fun _ h => h) hn (by omega) (by omega) rfl fun b oo cc => ?_
          simp only [ei] at cc
          refine ⟨_, _, _, cc 7 _ rfl, inR_i64 (by omega) (by omega), ?_⟩
          have ed : (65 - ((q + 1 : Nat) : Int)) + 1 = 65 - (q : Int) := by omega
          rw [ed]
          have hptr : (some ⟨pb S1.bs x, 0, none⟩ : Option Addr) = ptrH (hgS S1 k x p { sl[k] with kids := [] } (l.take m ++ [x])).bs x := by
            unfold ptrH; rw [if_neg hx0]; rfl
          rw [hptr]
          have hkids : X.sl[k].kids = sl[k].kids := by rw [hskl, n1]
          refine ih q rfl sl[k].kids es[k].kids x (by omega) H8 (.inr ⟨k, by simp, hk⟩) ?_ (by rw [← hkids]; exact hRS.kids) (by rw [← hkids]; exact (hX.ok _ (List.getElem_mem hkX)).kids) ?_
          · unfold lstR
            rw [if_neg hx0, hx, Nat.add_sub_cancel, g2]
          · cases hres : hangF sl q sl[k].kids x (k :: sn1) with
            | none =>
              intro w' hb'
              refine ⟨_, rfl, ?_⟩
              rw [Bool.not_false, Br_t]
              exact bad (by rw [← hF, hres]) _ hb'
            | some sn2 =>
              intro w' o' S' H' G'
              refine ⟨_, rfl, ?_⟩
              rw [Bool.not_true, Br_f]
              rw [hres] at hF
              exact ⟨inR_i64 (by omega) (by omega), ⟨m + 1, o', sn2, S', by simp, by omega, H', by rw [htk]; exact G1.step H4.part.len (List.getElem?_eq_getElem hkl) hkn hx hp.idx G', hF⟩, (by first | omega | (dsimp only; omega))⟩
        · refine ⟨fun w' => Below w2.drew.heap.size w2.drew w', .refl _ _, ?_⟩
          rw [Option.isNone_some, Br_f]
          refine brd (fun hd => bad ?_ _ B3) (fun hd => ?_)
          · obtain rfl : r = 0 := by omega
            rw [← hF, hangF_zero]
          obtain ⟨q, rfl⟩ : ∃ q, r = q + 1 := ⟨r - 1, by omega⟩
          simp only [NonNil_some, Addr.add_mk, Nat.zero_add]
          obtain ⟨vk, ck, cn⟩ := H3.nil k _ hbk
          refine ⟨vk.1, vk.2.1, vk.2.2, fun w' hw => kcell hw ck, ?_⟩
          have hbadk : ∀ {w' : World}, (k ∈ sn1 ∨ sl[k].parent ≠ p) → Below w0.heap.size w0 w' → R (.returned (.bool false)) w' := fun {w'} e hb => bad (by rw [← hF, hangF_bad hk hkl e]) w' hb
          rw [brnot]
          refine br (fun hnil => ?_) (fun hnn => ?_)
          · have hkn : k ∉ sn1 := cn.1 (by simpa using hnil)
            have hci := H3.pm.cIdx (i := k) hbk (List.getElem?_eq_getElem hkS)
            refine ⟨_, _, _, fun w' hw => by rw [(H3.blk.keep hw).cell]; rfl, _, fun w' hw => kcell hw hci, inR_u32' (by omega) (by omega), ?_⟩
            have ei : (((k + 1 : Nat) : Int) - 1).toNat = k := by omega
            refine (hrd.keep H3.bel).held (fun _ h => h) hn (by omega) (by omega) rfl fun b oo cc => ?_
            simp only [ei] at cc
            refine ⟨_, cc 6 _ rfl, ?_⟩
            have hbs : S1.bs = S.bs := G1.bs
            rw [← hbs]
            refine placeH_calls H3 hp1 fun w4 hb4 => ⟨_, rfl, hb4, ?_⟩
            have H4 := H3.below hb4
            have hpar : es[k].parent = sl[k].parent := by rw [hRS.parent, hskl, n2]
            rw [hpar]
            refine brn (fun hne => hbadk (.inr fun e => hne (by rw [e])) H4.bel) (fun he => ⟨⟨q, rfl⟩, hkn, by omega, H4⟩)
          · refine hbadk (.inl (Classical.byContradiction fun e => ?_)) B3
            rw [cn.2 e] at hnn; simp at hnn
    · have hm2 : m = l.length := by omega
      subst hm2
      rw [List.take_length] at G1
      rw [List.drop_length, hangF_nil] at hF
      rw [← hF] at H
      exact H w1 o1 S1 H1 G1
  intro r
  induction r with
  | zero => exact main 0 fun q e => by omega
  | succ r ih =>
    refine main (r + 1) fun q e => ?_
    obtain rfl : r = q := by omega
    exact ih
end
set_option maxRecDepth 100000
structure LdS (w0 w:World) (o:Nat→Nat) (gd:Nat) (X:Im) (k:Nat) (S:PS):Prop where
 pm:PM w o ⟨gd,98,[]⟩ S
 bel:Below w0.heap.size w0 w
 col:∀b,o b≠0→w0.heap.size≤b
 sl:S.D.sl=(X.sl.take k).map fun s=>bareS (normS s)
 rts:S.D.roots=[]
 lo:S.lo=0
 lv:S.lv=liveN S.D.sl
 wn:S.wn=wornN S.D.sl
 nil:NilK w S.bs []
section
variable {w0 w w1:World}{o o1:Nat→Nat}{gd g1:Nat}{X:Im}{vs vr:Sv}{k:Nat}{S:PS}{R:Ending→World→Prop}
theorem LdS.below (h:LdS w0 w o gd X k S) (hb:Below w.heap.size w w1):LdS w0 w1 o gd X k S :=
 ⟨h.pm.below hb,btr h.bel h.bel.size hb,h.col,h.sl,h.rts,h.lo,h.lv,h.wn,h.nil.keep fun i b hi=>hb.block b (h.pm.lt b (by rw [h.pm.nc i b hi];omega))⟩
theorem live_app (a:List Sl) (s:Sl):liveN (a++[s])=liveN a+(if s.live=true then 1 else 0):=by
 unfold liveN
 rw [List.filter_append,List.length_append,List.filter_cons]
 split <;> rfl
theorem worn_app (a:List Sl) (s:Sl):wornN (a++[s])=wornN a+(if (!s.live && decide (4294967295≤s.gen))=true then 1 else 0):=by
 unfold wornN
 rw [List.filter_append,List.length_append,List.filter_cons]
 split <;> rfl
theorem live_le (a:List Sl):liveN a≤a.length:=List.length_filter_le _ _
theorem worn_le (a:List Sl):wornN a≤a.length:=List.length_filter_le _ _
def LoadPK (R:Ending→World→Prop) (w0:World):Option Im→Prop
 | none=>∀w',Below w0.heap.size w0 w'→R (.returned (.tuple #[.pointer none,.int .i64 36])) w'
 | some D=>∀w' g o' S,Below w0.heap.size w0 w'→PM w' o' ⟨g,98,[]⟩ S→PI S→S.D=D→(∀b,o' b≠0→w0.heap.size≤b)→R (.returned (.tuple #[.pointer (some ⟨g,0,none⟩),.int .i64 0])) w'
theorem live_bare (l:List Sl):liveN (l.map bareS)=liveN l:=by unfold liveN;rw [List.filter_map,List.length_map];rfl
theorem worn_bare (l:List Sl):wornN (l.map bareS)=wornN l:=by unfold wornN;rw [List.filter_map,List.length_map];rfl
theorem hang_all {sl:List Sl}{roots sn:List Nat} (hh:hangF sl 64 roots 0 []=some sn) (hn:sn.length=liveN sl):∀(k:Nat) (s:Sl),sl[k]?=some s→s.live=true→k∈sn:=by
 have hu:=hung_out 64 roots 0 0 [] sn hh .zero
 obtain⟨hg,-⟩:=hangF_good _ _ _ _ _ hh ⟨List.nodup_nil,fun k hk=>by simp at hk⟩
 have hlive:∀k∈sn,∃s,sl[k]?=some s∧s.live=true:=fun k hk=>by
  obtain⟨s,h',a1,a2,_⟩:=hu.all k hk (by simp)
  obtain⟨hk2,b1,_⟩:=atF_some a2
  exact⟨_,List.getElem?_eq_getElem hk2,b1⟩
 intro k s h1 h2
 refine Classical.byContradiction fun e=>?_
 have:=live_idx (sl:=sl) (a:=k :: sn) (List.nodup_cons.2 ⟨e,hg.one⟩) fun j hj=>by
  rcases List.mem_cons.1 hj with rfl | hj
  ·exact⟨s,h1,h2⟩
  ·exact hlive j hj
 rw [List.length_cons] at this;omega
theorem load_hang (hX : RIm w0 X vs vr) (hg1 : Blk w0 g1 #[slV vs, slV vr] 25) (hfew : X.sl.length ≤ 4096) (hsb : slotsB X.sl = true) (h : LdS w0 w o gd X X.sl.length S) (H : LoadPK R w0 (loadF X)) {J : World → Prop}
    (hJ : ∀ w', (R (.returned (.tuple #[.pointer (some ⟨gd, 0, none⟩), .int .i64 0])) w' → J w')) :
    Al w #[.pointer (some ⟨gd, 0, none⟩), slV vs, slV vr, .int .i64 0] 214 fun g71 w1_3 =>
      ∃ S : World → Prop, S w1_3.drew ∧ ∃ (x74 : Option Addr) (x74N : Nat) (x74C : Nat), Held S ⟨g1, 1, none⟩ (.slice x74 x74N x74C) ∧ Calls Tryz.prog 114 #[(.pointer (some g71)), (.slice x74 x74N x74C), (.pointer none), (.int .i64 1)] w1_3.drew (post R fun v w1_5 =>
       ∃ (x75 : Bool), v = (.bool x75) ∧
       S w1_5 ∧ Br (!x75)
       (R (.returned (.tuple #[(.pointer none), (.int .i64 36)])) w1_5)
       (LdI .i64 (w1_5.cell? (g71.add 3)) fun x81 =>
       LdI .i64 (w1_5.cell? ⟨gd, 2, none⟩) fun x85 =>
       Br (x81 != x85)
       (R (.returned (.tuple #[(.pointer none), (.int .i64 36)])) w1_5)
       (J w1_5))) := by
  refine al fun gl w1 hb1 bl hgl => ?_
  have hdr : Below w1.heap.size w1 w1.drew := (Below.refl _ _).drew
  have h2 := (h.below hb1).below hdr
  have bl2 := bl.keep hdr
  have hlow := h.bel.size
  have ogl : o gl = 0 := Classical.byContradiction fun e => by have := h.pm.lt gl e; omega
  generalize hsl : X.sl.map normS = sl
  have hPsl : S.D.sl = sl.map bareS := by rw [h.sl, List.take_length, ← hsl, List.map_map]; rfl
  have hpart : Part sl [] S.D.sl := ⟨by rw [hPsl, List.length_map], fun j _ => by rw [hPsl, List.getElem?_map], fun j hj => by simp at hj⟩
  have hs : HS w0 w1.drew o gd gl vs vr sl [] S := ⟨h2.pm, h2.bel, h2.col, by omega, ogl, bl2, hpart, h2.nil, ⟨List.nodup_nil, fun k hk => by simp at hk⟩⟩
  have hN : ∀ (k : Nat) (s : Sl), X.sl[k]? = some s → s.live = true → (normS s).kids = s.kids ∧ (normS s).parent = s.parent := fun k s hk hl => by
    have hg := hsb
    unfold slotsB at hg
    have := List.all_eq_true.1 hg s (List.mem_of_getElem? hk)
    rw [hl] at this
    simp only [Bool.not_true, Bool.false_or, Bool.and_eq_true] at this
    have h3 := this.2
    unfold slotB at h3
    rw [Bool.and_eq_true, Bool.or_eq_true, decide_eq_true_eq, decide_eq_true_eq, decide_eq_true_eq] at h3
    unfold normS
    rw [if_pos hl]
    by_cases hk2 : s.kind = 2
    · rw [if_pos hk2]
      rcases h3.2 with e | e
      · omega
      · exact ⟨(List.eq_nil_of_length_eq_zero e).symm, rfl⟩
    · rw [if_neg hk2]; exact ⟨rfl, rfl⟩
  refine ⟨fun w' => Below w0.heap.size w0 w', h2.bel, vr.1, vr.2.1, vr.2.2, fun w' hw => by rw [(hg1.keep hw).cell]; rfl, ?_⟩
  have hrt := hX.roots
  have e64 : (1 : Int) = 65 - ((64 : Nat) : Int) := by decide
  have hloadF : loadF X = match hangF sl 64 X.roots 0 [] with
    | some sn => if sn.length = liveN sl then some ⟨sl, X.roots⟩ else none
    | none => none := by
    unfold loadF
    rw [if_neg (by omega), if_pos hsb, hsl]
    all_goals rfl
  rw [hloadF] at H
  rw [e64]
  refine hangP_calls (X := X) hX hsl.symm hfew hN 64 X.roots vr 0 (by omega) hs (.inl rfl) (by unfold lstR; rw [if_pos rfl]; exact h.rts) hrt hX.rok ?_
  cases hres : hangF sl 64 X.roots 0 [] with
  | none =>
    rw [hres] at H
    intro w' hb'
    refine ⟨_, rfl, hb', ?_⟩
    rw [Bool.not_false, Br_t]
    exact H w' hb'
  | some sn =>
    rw [hres] at H
    intro w' o' S' H' G'
    refine ⟨_, rfl, H'.bel, ?_⟩
    rw [Bool.not_true, Br_f]
    have cl := H'.pm.cells.2.1
    have elv : S'.lv = liveN sl := by rw [G'.cnt.1, h.lv, hPsl, live_bare]
    rw [elv] at cl
    simp only [Addr.add_mk, Nat.zero_add, H'.blk.cell, List.getElem?_toArray, List.getElem?_cons_zero, List.getElem?_cons_succ, cl, lds]
    have H : LoadPK R w0 (if sn.length = liveN sl then some ⟨sl, X.roots⟩ else none) := H
    refine brn (fun hne => ?_) (fun he => ?_)
    · rw [if_neg (by omega)] at H
      exact H w' H'.bel
    · have hn : sn.length = liveN sl := by omega
      rw [if_pos hn] at H
      have hall := hang_all hres hn
      have hD : S'.D = ⟨sl, X.roots⟩ := by
        have e1 : S'.D.sl = sl := by
          refine List.ext_getElem? fun j => ?_
          by_cases hj : j ∈ sn
          · exact G'.full j hj (by simp)
          · rw [G'.rest j (fun q => hj q.1), if_neg (fun q => q.1 rfl), hPsl, List.getElem?_map]
            cases hs' : sl[j]? with
            | none => rfl
            | some s =>
              rw [Option.map_some]
              have hd : s.live = false := by
                cases hl : s.live with
                | false => rfl
                | true => exact absurd (hall j s hs' hl) hj
              rw [← hsl, List.getElem?_map] at hs'
              cases hx : X.sl[j]? with
              | none => rw [hx] at hs'; cases hs'
              | some t =>
                rw [hx] at hs'
                have hs' : normS t = s := Option.some.inj hs'
                rw [← hs', norm_live] at hd
                rw [← hs']
                unfold normS
                rw [if_neg (by rw [hd]; decide)]
                rfl
        have e2 : S'.D.roots = X.roots := by rw [G'.roots, if_pos rfl]
        rw [← e1, ← e2]
      refine hJ w' (H w' gd o' S' H'.bel H'.pm ⟨?_, ?_, ?_, fun i s hi => ?_⟩ hD H'.col)
      · rw [elv, hD]
      · rw [G'.cnt.2.1, h.wn, hPsl, worn_bare, hD]
      · rw [G'.cnt.2.2, h.lo]; exact Nat.zero_le _
      · rw [G'.cnt.2.2, h.lo] at hi; omega
end
set_option maxRecDepth 100000
section
variable {w0 w w1:World}{o o1:Nat→Nat}{gd g1:Nat}{X:Im}{vs vr:Sv}{k:Nat}{S:PS}{R:Ending→World→Prop}
theorem LdS.len (h:LdS w0 w o gd X k S) (hk:k≤X.sl.length):S.D.sl.length=k∧S.bs.length=k:=by
 have:S.D.sl.length=k:=by rw [h.sl,List.length_map,List.length_take];omega
 exact⟨this,by rw [h.pm.len];exact this⟩
theorem nil_own {g:Nat}{c:Array Value}{t:TypeId}{i:Nat}{s:Sl}{a:Sv} (h:Blk w g (nodeC i s a none (none,0,0)) t):w.cell? ⟨g,8,none⟩=some (slV (none,0,0)):=by rw [h.cell];rfl
theorem loadP_calls (hX:RIm w X vs vr) (hT:Tabs w) (H:LoadPK R w (loadF X)):Calls Tryz.prog 68 #[.agg #[.slice vs.1 vs.2.1 vs.2.2,.slice vr.1 vr.2.1 vr.2.2]] w R:=by
 refine ok68 vs.1 vs.2.1 vs.2.2 vr.1 vr.2.1 vr.2.2 ?_
 unfold F68
 refine al fun g1 w0 hb0 b1 hge1=>?_
 have hs0:=hb0.size
 have hX0:=hX.keep hb0
 have hT0:Tabs w0:=hT.keep hb0
 have hb1:Blk w0 g1 #[slV vs,slV vr] 25:=b1
 have bad:loadF X=none→∀w',Below w0.heap.size w0 w'→R (.returned (.tuple #[.pointer none,.int .i64 36])) w':=fun e w' hb=>by
  rw [e] at H;exact H w' (btr hb0 hs0 hb)
 have H0:LoadPK R w0 (loadF X):=by
  cases e:loadF X with
  | none=>rw [e] at H;exact fun w' hb=>H w' (btr hb0 hs0 hb)
  | some D=>rw [e] at H;exact fun w' g o' S hb hp hi hd hc=>H w' g o' S (btr hb0 hs0 hb) hp hi hd fun b hb2=>Nat.le_trans hs0 (hc b hb2)
 refine al fun gd w1 hbd bd hged=>?_
 have b11:=hb1.keep hbd
 obtain⟨es,hn,hrd,hes⟩:=hX0.row
 have hel:=hes.len
 simp only [Addr.add_mk,Nat.zero_add,b11.cell,slV,lds]
 refine brd (fun hgt=>bad (by unfold loadF;rw [if_pos (by omega)]) _ hbd) (fun hle=>?_)
 have hfew:X.sl.length≤4096:=by omega
 have hL0:LdS w0 w1 (fun b=>if b=gd then 1 else 0) gd X 0 S0:=by
  refine⟨pm_zero bd,hbd,fun b hb=>?_,rfl,rfl,rfl,rfl,rfl,fun i b hi=>by cases hi⟩
  have hb:(if b=gd then 1 else 0)≠0:=hb
  by_cases e:b=gd
  ·rw [e];exact hged
  ·rw [if_neg e] at hb;exact absurd rfl hb
 refine⟨fun i w'=>∃(k:Nat) (o':Nat→Nat) (S':PS),i=k∧k≤X.sl.length∧LdS w0 w' o' gd X k S'∧slotsB (X.sl.take k)=true,fun i _=>X.sl.length-i.toNat,⟨0,_,_,rfl,by omega,hL0,rfl⟩,?_⟩
 rintro _ w5 ⟨k,o5,S5,rfl,hk,h5,hok⟩
 unfold F68_l5
 obtain⟨hl5,hbl5⟩:=h5.len hk
 refine brd (fun hlt=>?_) (fun hge=>?_)
 ·have hk2:k < X.sl.length:=by omega
  have hke:k < es.length:=by omega
  have hone:∀{b:Bool},goodS X.sl[k]=b→slotsB (X.sl.take (k+1))=b:=fun {b} e=>by
   unfold goodS at e
   unfold slotsB at hok ⊢
   rw [List.take_succ_eq_append_getElem hk2,List.all_append,hok,Bool.true_and,List.all_cons,List.all_nil,Bool.and_true];exact e
  have hbad:∀w',Below w0.heap.size w0 w'→goodS X.sl[k]=false→R (.returned (.tuple #[.pointer none,.int .i64 36])) w':=fun w' hw hf=>bad (by
   unfold loadF
   have hfull:¬slotsB X.sl=true:=fun e=>by
    have hf:=hone hf
    unfold slotsB at e hf
    rw [←List.take_append_drop (k+1) X.sl,List.all_append,hf] at e
    cases e
   rw [if_neg (by omega),if_neg hfull]) w' hw
  refine⟨fun w'=>∃(o':Nat→Nat) (S':PS),LdS w0 w' o' gd X (k+1) S'∧slotsB (X.sl.take (k+1))=true,?_,?_⟩
  ·rintro w' ⟨o',S',q1,q2⟩
   unfold F68_j15
   exact⟨inR_i64 (by omega) (by omega),⟨k+1,o',S',by simp,by omega,q1,q2⟩,(by first | omega | (dsimp only;omega))⟩
  refine (hrd.keep h5.bel).s8 hn rfl (k:=k) hke fun b o c0 c1 c2 c3 c4 c5 c6 c7=>?_
  simp only [Addr.add_mk,c0,c1,c2,c3,c4,c5,c6,c7,lds]
  have hsl0:=hes.get k hk2 hke
  refine al fun gs w6 hb6 bs hges=>?_
  simp only [Addr.add_mk,Nat.zero_add]
  refine st_blk bs (by simp) fun u1 q1 f1=>st_blk q1 (by simp) fun u2 q2 f2=>st_blk q2 (by simp) fun u3 q3 f3=>st_blk q3 (by simp) fun u4 q4 f4=>st_blk q4 (by simp) fun u5 q5 f5=>st_blk q5 (by simp) fun u6 q6 f6=>st_blk q6 (by simp) fun u7 q7 f7=>st_blk q7 (by simp) fun w7 bs7 f8=>?_
  simp only [List.setIfInBounds_toArray,List.set_cons_zero,List.set_cons_succ] at bs7
  have F7:Fm (·=gs) w6 w7:=((((((f1.trans f2).trans f3).trans f4).trans f5).trans f6).trans f7).trans f8
  have D7:Below w5.heap.size w5 w7:=hb6.trans (F7.toBelow hb6.size fun b hb e=>by have e:b=gs:=e;omega)
  simp only [Addr.add_mk,Nat.zero_add,bs7.cell,lds]
  have h7:=h5.below D7
  have ek:((k:Nat):Int)+1=((k+1:Nat):Int):=by omega
  rw [ek]
  refine⟨inR_i64 (by omega) (by omega),?_⟩
  refine nodeO_calls (hsl0.sub (sub_below h7.bel)) (hX.ok _ (List.getElem_mem hk2)) (i:=k) (by omega) (hT0.keep h7.bel) fun w8 hb8=>?_
  have h8:=h7.below hb8
  unfold NodeO
  cases hg:goodS X.sl[k] with
  | false =>
   intro p
   refine⟨_,_,rfl,?_⟩
   rw [Bool.not_false,Br_t]
   exact hbad w8 h8.bel hg
  | true =>
   intro gn a hgn bn oa hna
   refine⟨_,_,rfl,?_⟩
   rw [Bool.not_true,Br_f]
   obtain⟨⟨v,cv,ov,rv⟩,_⟩:=h8.pm.cells
   have cv:w8.cell? ⟨gd,0,none⟩=some (.slice v.1 v.2.1 v.2.2):=cv
   simp only [cv,lds]
   have ov':Own LPt w8 0 152 (.slice v.1 v.2.1 v.2.2) S5.bs:=ov
   refine ap1 (L:=LPt) (x:=gn) (base:=0) (.pointer none) 8 rfl (by kernel_rfl) (by kernel_rfl) (by kernel_rfl) ov' (Nat.zero_le _) (by omega) (by unfold maxLen;omega) fun A' c' w9 o9 g9=>⟨A',_,c',rfl,?_⟩
   have FG:Fm (fun b=>rowOf (slV v)=some b) w8 w9:=Fm.grown g9.grown fun b hb=>hb
   have hgnl:=bn.lt
   have hrl:∀x,rowOf (slV v)=some x→x < w7.heap.size:=fun x hx=>h7.pm.lt x (by rw [rv x hx];decide)
   have bn9:Blk w9 gn (nodeC k (normS X.sl[k]) a none (none,0,0)) 202:=FG.blk bn fun e=>by have:=hrl gn e;omega
   have bn9':Blk w9 gn (nodeC S5.D.sl.length (bareS (normS X.sl[k])) a none (none,0,0)) 202:=by rw [hl5];exact bn9
   have oa9:Own LAt w9 w7.heap.size 205 (slV a) (bareS (normS X.sl[k])).attrs:=own_fm oa FG fun x hx e=>by have:=hrl x e;have:=(oa.lt x hx).1;omega
   have hgb:(bareS (normS X.sl[k])).gen=X.sl[k].gen:=norm_gen _
   have hlb:(bareS (normS X.sl[k])).live=X.sl[k].live:=norm_live _
   have hat:(normS X.sl[k]).attrs.length≤1048576:=by
    have:=hsl0.ats.1
    unfold normS
    split
    ·split
     ·simp
     ·exact this
    ·simp
   have hgen:=(hX.ok _ (List.getElem_mem hk2)).gen
   refine st_eq (h7.pm.push (b:=gn) (s0:=bareS (normS X.sl[k])) (a0:=a) (v:=v) (v':=(A',_,c')) hgn rfl rfl (by rw [hgb];exact hgen) hat bn9' oa9 hna rv ((Fm.below hb8).trans FG) o9 ?_ (by omega) fun w10 o10 h10 e10 q10=>?_)
   ·rcases g9.row with q | q | ⟨g,q,q2⟩
    ·exact .inl q
    ·exact .inr (.inl q)
    ·refine .inr (.inr ⟨g,q,Nat.le_trans hb8.size q2,by omega,fun e=>by have:=(oa.lt g e).2;omega⟩)
   have c120:¬((0:Nat)=1∨(0:Nat)=2):=by omega
   have hc10:=col_ev e10 h7.col h7.bel.size
   have B10:=bel_ev e10 c120 h7.col h7.bel
   have hgd1:=h7.pm.col
   have hgdl:gd < w7.heap.size:=h7.pm.lt gd (by rw [show o5 gd=1 from hgd1];decide)
   have bn10:Blk w10 gn (nodeC k (normS X.sl[k]) a none (none,0,0)) 202:=by
    rw [q10]
    exact bn9.other (a:=⟨gd,0,none⟩) (by show gd≠gn;omega) _
   have n10:NilK w10 (S5.bs++[gn]) []:=fun i b hi=>by
    rcases Nat.lt_or_ge i S5.bs.length with hlt' | hge'
    ·rw [List.getElem?_append_left hlt'] at hi
     obtain⟨u,u1,u2⟩:=h7.nil i b hi
     refine⟨u,?_,u2⟩
     rw [cell_of (e10.fm.block b (h7.pm.lt b (by rw [h7.pm.nc i b hi];omega)) ?_)]
     ·exact u1
     ·show ¬(o5 b=1∨o5 b=2)
      rw [h7.pm.nc i b hi];omega
    ·rw [List.getElem?_append_right hge'] at hi
     have:b=gn:=by
      cases hj:i-S5.bs.length with
      | zero=>rw [hj] at hi;simpa using hi.symm
      | succ j=>rw [hj] at hi;simp at hi
     subst this
     exact⟨(none,0,0),nil_own (c:=#[]) bn10,⟨fun _=>by simp,fun _=>rfl⟩⟩
   have hbk:(S5.bs++[gn])[k]?=some gn:=by rw [List.getElem?_append_right (by omega),hbl5,Nat.sub_self];rfl
   have hsk:(S5.D.sl++[bareS (normS X.sl[k])])[k]?=some (bareS (normS X.sl[k])):=by rw [List.getElem?_append_right (by omega),hl5,Nat.sub_self];rfl
   have cL:=h10.cLive (i:=k) hbk hsk
   have cG:=h10.cGen (i:=k) hbk hsk
   obtain⟨_,cl,cw,_⟩:=h10.cells
   have hsl2:S5.D.sl++[bareS (normS X.sl[k])]=(X.sl.take (k+1)).map fun s=>bareS (normS s):=by rw [h7.sl,List.take_succ_eq_append_getElem hk2,List.map_append];rfl
   have hlv:=live_le S5.D.sl
   have hwn:=worn_le S5.D.sl
   have la:=live_app S5.D.sl (bareS (normS X.sl[k]))
   have wa:=worn_app S5.D.sl (bareS (normS X.sl[k]))
   rw [hlb] at la
   rw [hlb,hgb] at wa
   rw [hlb] at cL
   rw [hgb] at cG
   have fin:∀{w11:World}{lv wn:Nat},PM w11 o10 ⟨gd,98,[]⟩ { S5 with D:={ S5.D with sl:=S5.D.sl++[bareS (normS X.sl[k])] },bs:=S5.bs++[gn],lv:=lv,wn:=wn }→EvC (fun c=>c=1∨c=2∨c=3) w10 o10 w11 o10 →
     lv=liveN (S5.D.sl++[bareS (normS X.sl[k])])→wn=wornN (S5.D.sl++[bareS (normS X.sl[k])])→∃(o':Nat→Nat) (S':PS),LdS w0 w11 o' gd X (k+1) S'∧slotsB (X.sl.take (k+1))=true:=fun {w11 lv wn} p1 p2 p3 p4 =>
    ⟨o10,_,⟨p1,bel_ev p2 (by omega) hc10 B10,hc10,hsl2,h7.rts,h7.lo,p3,p4,n10.keep fun i b hi=>p2.fm.block b (h10.lt b (by rw [h10.nc i b hi];omega)) (by
     show ¬(o10 b=1∨o10 b=2∨o10 b=3)
     rw [h10.nc i b hi];omega)⟩,hone hg⟩
   simp only [NonNil_some,Addr.add_mk,Nat.zero_add,cL,lds]
   have cl:w10.cell? ⟨gd,2,none⟩=some (.int .i64 (S5.lv:Nat)):=cl
   have cw:w10.cell? ⟨gd,3,none⟩=some (.int .i64 (S5.wn:Nat)):=cw
   have elv:=h7.lv
   have ewn:=h7.wn
   refine br (fun hlv2=>?_) (fun hdd=>?_)
   ·rw [hlv2] at la wa
    simp only [cl,lds]
    refine⟨inR_i64 (by omega) (by omega),?_⟩
    have e1:((S5.lv:Nat):Int)+1=((S5.lv+1:Nat):Int):=by omega
    rw [e1]
    refine h10.stLive (S5.lv+1) (by omega) fun w11 h11 e11=>?_
    exact fin (lv:=S5.lv+1) (wn:=S5.wn) h11 e11 (by rw [la,elv];rfl) (by rw [wa,ewn];rfl)
   ·rw [hdd] at la wa
    simp only [cG,lds]
    refine bre (fun hge2=>?_) (fun hlt2=>?_)
    ·simp only [cw,lds]
     refine⟨inR_i64 (by omega) (by omega),?_⟩
     have e1:((S5.wn:Nat):Int)+1=((S5.wn+1:Nat):Int):=by omega
     rw [e1]
     refine h10.stWorn (S5.wn+1) (by omega) fun w11 h11 e11=>?_
     refine fin (lv:=S5.lv) (wn:=S5.wn+1) h11 e11 (by rw [la,elv];rfl) ?_
     rw [wa,ewn,decide_eq_true (by omega)];rfl
    ·refine fin (lv:=S5.lv) (wn:=S5.wn) h10 EvC.refl (by rw [la,elv];rfl) ?_
     rw [wa,ewn,decide_eq_false (by omega)];rfl
 ·have hk2:k=X.sl.length:=by omega
  subst hk2
  rw [List.take_length] at hok
  have b15:=hb1.keep h5.bel
  simp only [Addr.add_mk,Nat.zero_add,b15.cell,slV,lds]
  have:=load_hang (R:=R) hX0 hb1 hfew hok h5 H0 (J:=fun w'=>R (.returned (.tuple #[.pointer (some ⟨gd,0,none⟩),.int .i64 0])) w') fun w' h=>h
  unfold slV at this
  unfold Al at this ⊢
  exact⟨fun w'=>R (.returned (.tuple #[.pointer (some ⟨gd,0,none⟩),.int .i64 0])) w',fun w' h=>h,this⟩
end
set_option maxRecDepth 100000
section
variable {w w1 w0:World}{o o1:Nat→Nat}{g:Nat}{ty:TypeId}{S:PS}{M:Nat→Prop}{R:Ending→World→Prop}{θ:Th}{X:Im}{vs vr:Sv}
theorem PM.moved (h:PM w o θ S) {g':Nat}{t':TypeId}{tl:List Value} (hf:Fm M w w1) (hm:∀b,o b≠0→¬M b) (hB:∀nv rv,Blk w θ.g (docC nv rv S.lv S.wn S.lo θ.tl) θ.t→Blk w1 g' (docC nv rv S.lv S.wn S.lo tl) t')
  (ho:∀b,o b≠0→b≠θ.g→o1 b=o b) (hg:o1 g'=1) (hl:∀b,o1 b≠0→b < w1.heap.size):PM w1 o1 ⟨g',t',tl⟩ S:=by
 have hgc:=h.col
 have hn:∀b c,o b=c→c≠0→¬M b:=fun b c hb hc=>hm b (by omega)
 have hne:∀b c,o b=c→c≠0→c≠1→o1 b=c:=fun b c hb hc hc1=>by
  rw [ho b (by omega) (fun e=>by rw [e,hgc] at hb;omega)];exact hb
 obtain⟨nv,rv,hd⟩:=h.doc
 refine⟨hg,hl,h.len,h.few,fun i b hb=>hne b _ (h.nc i b hb) (by omega) (by omega),⟨nv,rv,⟨hB nv rv hd.blk,own_fm hd.n1 hf fun x hx=>hn x 2 (hd.n2 x hx) (by decide),fun x hx=>hne x 2 (hd.n2 x hx) (by decide) (by decide),own_fm hd.r1 hf fun x hx=>hn x 3 (hd.r2 x hx) (by decide),fun x hx=>hne x 3 (hd.r2 x hx) (by decide) (by decide)⟩⟩,fun i b s hb hs=>?_,h.rng,h.rts,h.cnt⟩
 obtain⟨a,kv,hnd⟩:=h.nodes i b s hb hs
 refine⟨a,kv,hnd.keep (h.nc i b hb) hf (fun x hx=>?_) (fun x hx=>?_)⟩
 ·rcases hx with e | e | e
  ·exact hn x _ e (by omega)
  ·exact hn x _ e (by omega)
  ·exact hn x _ e (by omega)
 ·rcases hx with e | e
  ·rw [hne x _ e (by omega) (by omega)];exact e.symm
  ·rw [hne x _ e (by omega) (by omega)];exact e.symm
def LoadLK (R:Ending→World→Prop) (w0:World):Option Im→Prop
 | none=>∀w',Below w0.heap.size w0 w'→R (.returned (.tuple #[.pointer none,.int .i64 36])) w'
 | some D=>∀w' g o',Below w0.heap.size w0 w'→LD 1 g 105 w' o' D→(∀b,o' b≠0→w0.heap.size≤b)→R (.returned (.tuple #[.pointer (some ⟨g,0,none⟩),.int .i64 0])) w'
theorem loadL_calls (hX:RIm w X vs vr) (hT:Tabs w) (H:LoadLK R w (loadF X)):Calls Tryz.prog 37 #[.agg #[.slice vs.1 vs.2.1 vs.2.2,.slice vr.1 vr.2.1 vr.2.2]] w R:=by
 refine ok37 vs.1 vs.2.1 vs.2.2 vr.1 vr.2.1 vr.2.2 ?_
 unfold F37
 refine al fun g1 w1 hb1 b1 hge1=>?_
 have b1:Blk w1 g1 #[slV vs,slV vr] 25:=b1
 have hs1:=hb1.size
 simp only [Addr.add_mk,Nat.zero_add,b1.cell,slV,lds]
 refine loadP_calls (hX.keep hb1) (hT.keep hb1) ?_
 cases e:loadF X with
 | none =>
  rw [e] at H
  intro w' hb
  refine⟨none,36,rfl,?_⟩
  rw [show ((36:Int) != 0)=true from rfl,Br_t]
  exact H w' (btr hb1 hs1 hb)
 | some D =>
  rw [e] at H
  intro w2 g o2 S hb2 hp hi hd hc
  subst hd
  have hwf:Wf S.D:=load_wf hX.ok e
  have hA:=hwf.a
  refine⟨some ⟨g,0,none⟩,0,rfl,?_⟩
  rw [show ((0:Int) != 0)=false from rfl,Br_f]
  have B2:Below w.heap.size w w2:=btr hb1 hs1 hb2
  obtain⟨nv,rv,hd⟩:=hp.doc
  have hB2:Blk w2 g (docC nv rv S.lv S.wn S.lo []) 98:=hd.blk
  have k0:w2.cell? ⟨g,0,none⟩=some (.slice nv.1 nv.2.1 nv.2.2):=by rw [hB2.cell];rfl
  have k1:w2.cell? ⟨g,1,none⟩=some (.slice rv.1 rv.2.1 rv.2.2):=by rw [hB2.cell];rfl
  have k2:w2.cell? ⟨g,2,none⟩=some (.int .i64 (S.lv:Nat)):=by rw [hB2.cell];rfl
  have k3:w2.cell? ⟨g,3,none⟩=some (.int .i64 (S.wn:Nat)):=by rw [hB2.cell];rfl
  have k4:w2.cell? ⟨g,4,none⟩=some (.int .i64 (S.lo:Nat)):=by rw [hB2.cell];rfl
  simp only [NonNil_some,Addr.add_mk,Nat.zero_add,k0,k1,k2,k3,k4,lds]
  unfold AlM
  have hb3:Below w2.heap.size w2 (w2.alloc (.map #[] 0)):=(Below.refl _ _).alloc (Nat.le_refl _) _
  have mp3:Mp .u64 (w2.alloc (.map #[] 0)) w2.heap.size fun _=>none:=Mp.made w2 .u64
  generalize hw3:(w2.alloc (.map #[] 0))=w3 at *
  have h3s:=mp3.lt
  refine al fun g4 w4 hb4 b4 hge4=>?_
  have hgc:=hp.col
  have hlt2:=hp.lt
  have hgc:o2 g=1:=hgc
  have hgl:g < w2.heap.size:=hlt2 g (by omega)
  have B24:Below w2.heap.size w2 w4:=btr hb3 hb3.size hb4
  have hs3:=hb3.size
  have hs4:=hb4.size
  have hgw:w1.heap.size≤g:=hc g (by omega)
  generalize ho4:(fun b=>if b=g4 then 1 else if b=w2.heap.size then 6 else if b=g then 0 else o2 b)=o4
  have q1:o4 g4=1:=by rw [←ho4];exact if_pos rfl
  have q2:o4 w2.heap.size=6:=by rw [←ho4];dsimp only;rw [if_neg (by omega),if_pos rfl]
  have q3:∀b,o2 b≠0→b≠g→o4 b=o2 b:=fun b hb hbg=>by
   have:=hlt2 b hb
   rw [←ho4];dsimp only;rw [if_neg (by omega),if_neg (by omega),if_neg hbg]
  have q4:∀b,o4 b≠0→b < w4.heap.size:=fun b hb=>by
   rw [←ho4] at hb;dsimp only at hb
   by_cases e1:b=g4
   ·rw [e1];exact b4.lt
   ·rw [if_neg e1] at hb
    by_cases e2:b=w2.heap.size
    ·omega
    ·rw [if_neg e2] at hb
     by_cases e3:b=g
     ·omega
     ·rw [if_neg e3] at hb
      have:=hlt2 b hb;omega
  have q5:∀b,o4 b≠0→w.heap.size≤b:=fun b hb=>by
   rw [←ho4] at hb;dsimp only at hb
   by_cases e1:b=g4
   ·omega
   ·rw [if_neg e1] at hb
    by_cases e2:b=w2.heap.size
    ·have:=hb2.size;omega
    ·rw [if_neg e2] at hb
     by_cases e3:b=g
     ·omega
     ·rw [if_neg e3] at hb
      have:=hc b hb;omega
  have hp4:PM w4 o4 ⟨g4,105,tlL none none 0 0 (some w2.heap.size)⟩ S:=by
   refine hp.moved (M:=fun _=>False) (.below B24) (fun _ _ h=>h) (fun nv' rv' hB'=>?_) q3 q1 q4
   obtain⟨z1,-⟩:=blk_inj hB' hB2
   have e1:docC nv' rv' S.lv S.wn S.lo (tlL none none 0 0 (some w2.heap.size))=docC nv rv S.lv S.wn S.lo (tlL none none 0 0 (some w2.heap.size)):=by
    unfold docC at z1 ⊢
    simp only [Array.mk.injEq,List.cons.injEq,and_true,true_and,List.toArray_inj] at z1 ⊢
    exact⟨z1.1,z1.2⟩
   rw [e1]
   exact b4
  have hE0:EndR w4 o4 (some w2.heap.size) fun _=>none:=by
   refine⟨q2,?_⟩
   have e0:mpE (fun _=>none)=fun _=>none:=by funext k;unfold mpE;split <;> rfl
   rw [e0]
   exact mp3.fm (M:=fun _=>False) (.below hb4) fun h=>h
  have hx4:LX w4 o4 g4 105 S [0] 0 fun _=>none:=.inr ⟨⟨_,hp4,hE0⟩,rfl,rfl,fun _=>rfl⟩
  have B4:Below w.heap.size w w4:=btr B2 B2.size B24
  refine Roots_calls (θ:=⟨g4,105,_⟩) hp4 hA fun v w5 hb5 ov=>⟨_,_,_,rfl,?_⟩
  have hx5:=hx4.below hb5
  have ovc:∀b,rowOf (slV v)=some b→o4 b=0:=fun b hb=>Classical.byContradiction fun e=>by
   have:=q4 b e
   have:=(ov.lt b hb).1;omega
  have hkl:∀y∈S.D.roots,(∃t,slA S.D.sl y=some t)∧Ch (slA S.D.sl) y 1:=fun y hy=>by
   obtain⟨_,u,u1,u2⟩:=hA.root.2 y hy
   exact⟨⟨u,u1⟩,.succ (hA.ne0 u1) u1 (by rw [u2];exact .zero)⟩
  have hnd:=rootsAll_nodup hA
  have hfew:=rootsAll_few hwf.s hA
  have hk4:S.D.roots.length≤4096:=Nat.le_trans (live_few (fun y hy=>(hkl y hy).1) hA.root.1) hwf.s.few
  have hwl:∀(E':Nat→Option (Nat × Nat)) (l:List Nat),(∀y∈l,y∈S.D.roots)→(l.flatMap (wrd (slA S.D.sl) E' 65)).length=2*(l.flatMap (allA (slA S.D.sl) 65)).length:=fun E' l hl=>flat_len2 fun y hy=>by
   obtain⟨⟨t,t1⟩,t2⟩:=hkl y (hl y hy)
   exact wrd_len hA 65 y 1 t1 t2 (by omega)
  have hv1:v.2.1=S.D.roots.length:=by
   obtain⟨A,cc,hvf,_⟩:=ov.form
   rw [slvF hvf]
  refine⟨fun last j w'=>∃(k:Nat) (o':Nat→Nat) (E':Nat→Option (Nat × Nat)) (la:Nat),last=(la:Nat)∧j=k∧k≤S.D.roots.length ∧
    LX w' o' g4 105 S (0 :: (S.D.roots.take k).flatMap (wrd (slA S.D.sl) E' 65)) (2*((S.D.roots.take k).flatMap (allA (slA S.D.sl) 65)).length) E' ∧
    EvL w5 o4 w' o'∧(∀y,y∉(S.D.roots.take k).flatMap (allA (slA S.D.sl) 65)→E' y=none)∧(∀y∈(S.D.roots.take k).flatMap (allA (slA S.D.sl) 65),E' y≠none) ∧
    Own LHn w' w4.heap.size 65 (slV v) S.D.roots∧(∀b,rowOf (slV v)=some b→o' b=0) ∧
    (0 :: (S.D.roots.take k).flatMap (wrd (slA S.D.sl) E' 65))[((S.D.roots.take k).flatMap (wrd (slA S.D.sl) E' 65)).length]?=some la,fun _ j _=>S.D.roots.length-j.toNat,
   ⟨0,o4,fun _=>none,0,rfl,rfl,Nat.zero_le _,hx5,EvL.refl,fun _ _=>rfl,fun y hy=>by simp at hy,ov,ovc,rfl⟩,?_⟩
  rintro last j w6 ⟨k,o6,E6,la,rfl,rfl,hk,h6,ev6,z1,z2,ov6,ovc6,hla⟩
  unfold F37_l7
  have hm6:=hwl E6 (S.D.roots.take k) fun y hy=>List.mem_of_mem_take hy
  refine brd (fun hlt=>?_) (fun hge=>?_)
  ·have hk2:k < S.D.roots.length:=by omega
   obtain⟨A,cc,hvf,hrd⟩:=ov6.form
   have e1:v.1=A:=by rw [slvF hvf]
   rw [←e1] at hrd
   refine hrd.hn hv1 rfl hk2 fun bb oo cx=>?_
   simp only [cx,lds]
   have hkm:S.D.roots[k]∈S.D.roots:=List.getElem_mem hk2
   obtain⟨⟨t,t1⟩,t2⟩:=hkl S.D.roots[k] hkm
   have hst:∀f:Nat→List Nat,(S.D.roots.take (k+1)).flatMap f=(S.D.roots.take k).flatMap f++f S.D.roots[k]:=fun f=>by
    rw [List.take_succ_eq_append_getElem hk2,List.flatMap_append];simp
   have hall:S.D.roots.flatMap (allA (slA S.D.sl) 65)=(S.D.roots.take (k+1)).flatMap (allA (slA S.D.sl) 65)++(S.D.roots.drop (k+1)).flatMap (allA (slA S.D.sl) 65):=by rw [←List.flatMap_append,List.take_append_drop]
   have hle:((S.D.roots.take (k+1)).flatMap (allA (slA S.D.sl) 65)).length≤4096:=by
    rw [hall,List.length_append] at hfew;omega
   have hdis:∀y∈(S.D.roots.take k).flatMap (allA (slA S.D.sl) 65),y∉allA (slA S.D.sl) 65 S.D.roots[k]:=fun y hy hy2=>by
    rw [hall,hst] at hnd
    have:=(List.nodup_append.1 hnd).1
    exact (List.nodup_append.1 this).2.2 y hy y hy2 rfl
   rw [hst,List.length_append] at hle
   refine tag_calls hA 65 S.D.roots[k] 1 t1 t2 (by omega) h6 hla (by rw [List.length_cons,hm6];omega) (by omega) fun w7 o7 E7 h7 ev7 y1 y2=>⟨_,rfl,inR_i64 (by omega) (by omega),⟨k+1,o7,E7,_,rfl,by simp,by omega,?_,ev6.trans ev7,?_,?_,own_fm ov6 ev7.fm fun b hb e=>by have:=ovc6 b hb;omega,fun b hb=>ev7.old b (ov6.lt b hb).2 (ovc6 b hb),?_⟩,(by first | omega | (dsimp only;omega))⟩
   ·have hcg:(S.D.roots.take k).flatMap (wrd (slA S.D.sl) E6 65)=(S.D.roots.take k).flatMap (wrd (slA S.D.sl) E7 65):=flat_congr fun y hy=>wrd_congr 65 y fun z hz=>(y1 z (hdis z (List.mem_flatMap.2 ⟨y,hy,hz⟩))).symm
    rw [hst,hst,←hcg]
    have e1:(0 :: (S.D.roots.take k).flatMap (wrd (slA S.D.sl) E6 65)).length=((S.D.roots.take k).flatMap (wrd (slA S.D.sl) E6 65)).length+1:=List.length_cons
    rw [List.take_of_length_le (by omega),List.drop_of_length_le (by omega),List.append_nil] at h7
    have e3:2*((S.D.roots.take k).flatMap (allA (slA S.D.sl) 65)).length+2*(allA (slA S.D.sl) 65 S.D.roots[k]).length=2*((S.D.roots.take k).flatMap (allA (slA S.D.sl) 65)++allA (slA S.D.sl) 65 S.D.roots[k]).length:=by rw [List.length_append];omega
    rw [e3] at h7
    exact h7.x
   ·intro y hy
    rw [hst,List.mem_append,not_or] at hy
    rw [y1 y hy.2];exact z1 y hy.1
   ·intro y hy
    rw [hst,List.mem_append] at hy
    rcases hy with hy | hy
    ·rw [y1 y (hdis y hy)];exact z2 y hy
    ·exact y2 y hy
   ·rw [hst,wrd_some (r:=64) (E:=E7) t1]
    generalize (S.D.roots.take k).flatMap (wrd (slA S.D.sl) E7 65)=ws
    generalize t.kids.flatMap (wrd (slA S.D.sl) E7 64)=xs
    have e1:0 :: (ws++((eN E7 S.D.roots[k]).1 :: xs++[(eN E7 S.D.roots[k]).2]))=(0 :: (ws++(eN E7 S.D.roots[k]).1 :: xs))++[(eN E7 S.D.roots[k]).2]:=by simp
    rw [e1,List.getElem?_append_right (by simp only [List.length_append,List.length_cons,List.length_nil];omega)]
    simp only [List.length_append,List.length_cons,List.length_nil]
    rw [show ws.length+(xs.length+1+(0+1))-(ws.length+(xs.length+1)+1)=0 by omega]
    rfl
  ·have hk2:k=S.D.roots.length:=by omega
   subst hk2
   rw [List.take_length] at h6 z1 z2
   have hs0:=B4.size
   have h54:=hb5.size
   have B5:Below w.heap.size w w5:=btr B4 hs0 hb5
   have B6:Below w.heap.size w w6:=B5.trans (ev6.fm.toBelow (by omega) fun b hb e=>by
    have:=q5 b (by omega);omega)
   refine H w6 g4 o6 B6 ⟨S,_,_,E6,rfl,⟨h6,hi,rfl,fun y hy=>?_,fun y s hs=>?_,by omega⟩⟩ fun b hb=>?_
   ·exact (mem_all_roots hA).1 (Classical.byContradiction fun e=>hy (z1 y e))
   ·exact z2 y ((mem_all_roots hA).2 ⟨s,hs⟩)
   ·refine Classical.byContradiction fun hlt'=>hb ?_
    exact ev6.old b (by omega) (Classical.byContradiction fun e=>hlt' (q5 b e))
end
set_option maxRecDepth 100000
section
variable {w w1:World}{R:Ending→World→Prop}
end
set_option maxRecDepth 100000
structure E12 where
 a:Ac
 e:E5
structure Both (p:Value) (P:Nat→World→(Nat→Nat)→Im→Prop) (w0:World) (g k:Nat) (w:World) (o:Nat→Nat) (D:Im) (vs vr:Sv):Prop where
 p:P k w o D
 wf:Wf D
 r:RM (okc o) w g D vs vr
 og:o g=0
 old:Below w0.heap.size w0 w
 col:∀b,b < w0.heap.size→o b=0
 gne:w0.heap.size≤g
section
variable {p:Value}{P:Nat→World→(Nat→Nat)→Im→Prop}{k:Nat}{w w0 w1:World}{o:Nat→Nat}{g:Nat}{D:Im}{vs vr:Sv}{R:Ending→World→Prop}
end
set_option maxRecDepth 100000
section
variable {w w1:World}{R:Ending→World→Prop}
end
set_option maxRecDepth 100000
section
variable {W w w1:World}{o:Nat→Nat}{g gd k:Nat}{D:Im}{vs vr:Sv}{R:Ending→World→Prop}{M:Nat→Prop}{x:Im}
theorem RDr.rw (h:RDr w g D vs vr) (hf:D.sl.length≤4096):∃es,RW [] w g D vs vr es:=by
 obtain⟨es,e1,e2,e3⟩:=h.im.row
 have hl:=e3.len
 refine⟨es,h.c0,h.c1,e1,e2,hl,hf,fun i s e hs he=>?_,h.im.roots,h.im.ok,h.im.rok⟩
 obtain⟨hi,hs⟩:=List.getElem?_eq_some_iff.1 hs
 obtain⟨hi',he⟩:=List.getElem?_eq_some_iff.1 he
 have:=e3.get i hi hi'
 rw [hs,he] at this
 exact⟨⟨this.gen,this.live,this.kind,this.nm,this.text,this.parent,this.ats⟩,fun _=>this.kids⟩
theorem tabs_wc (hT:Tabs W) (hb:Below W.heap.size W w) (hc:∀b,o b≠0→W.heap.size≤b):Tabs (wc o w):=hT.sub fun b c t fr h=>by
 have hlt:=(Array.getElem?_eq_some_iff.1 h).1
 refine cells_only (ok:=fun b=>Nat.beq (o b) 0) ?_ (by rw [hb.block b hlt];exact h)
 have:o b=0:=Classical.byContradiction fun e=>by have:=hc b e;omega
 rw [this];rfl
theorem begins_tail (hL:LD k g 105 w o D) (hk:k < 1099511627776) (hw:Wf D) (hT:Tabs W) (hB:Below W.heap.size W w) (hc:∀b,o b≠0→W.heap.size≤b)
  (hr:∀(M:Nat→Prop) w',Fm M w w'→(∀b,b < w.heap.size→M b→o b≠0)→∃vs vr es,RW [] w' gd D vs vr es)
  (hK:∀gx w' vs vr es,Below W.heap.size W w'→Ix w' gx D→RW [] w' gd D vs vr es→R (.returned (.tuple #[.pointer (some ⟨gx,0,none⟩),.pointer (some ⟨gd,0,none⟩),.bool true])) w'):F9_j7 (some ⟨g,0,none⟩) (some ⟨gd,0,none⟩) w R:=by
 unfold F9_j7
 have hlt:∀b,o b≠0→b < w.heap.size:=by
  obtain⟨S,nms,gv,E,_,h⟩:=hL
  exact h.x.lt
 refine New_callsF hL hw fun gx w1 hb1 hix=>⟨_,_,rfl,?_⟩
 refine⟨fun w'=>w1=w',?_,brn (fun h=>absurd rfl h) fun _=>by rw [Option.isNone_some,Br_f]⟩
 rintro _ rfl
 unfold F9_j10
 have B1:=btr hB hB.size hb1
 have hL1:LD k g 105 w1 o D:=by
  obtain⟨S,nms,gv,E,e,h⟩:=hL
  exact⟨S,nms,gv,E,e,⟨h.x.below hb1,h.pi,h.word,h.def1,h.def2,h.gv_⟩⟩
 refine insertL_calls (a:=0) (e:=eX (ByteArray.mk #[108,97,116,101,114,32,120,32,121])) hL1 hk hw (tabs_wc hT B1 hc) (exX_rd _) (by decide) fun w2 o2 hL2 ev=>⟨_,_,rfl,?_⟩
 have hf:Fm (fun b=>o b≠0) w1 w2:=ev.fm
 have B2:Below W.heap.size W w2:=B1.trans (hf.toBelow B1.size fun b hb e=>by have:=hc b e;omega)
 obtain⟨vs,vr,es,hR⟩:=hr (fun b=>o b≠0) w2 ((Fm.below hb1).trans hf) fun b _ h=>h
 exact hK gx w2 vs vr es B2 (hix _ w2 hf fun b _ h=>hlt b h) hR
theorem begins_calls (hX : RIm W x vs vr) (hT : Tabs W) (hK : ∀ gx gd w' D vs vr es, Wf D → Below W.heap.size W w' → Ix w' gx D → RW [] w' gd D vs vr es → R (.returned (.tuple #[.pointer (some ⟨gx, 0, none⟩), .pointer (some ⟨gd, 0, none⟩), .bool true])) w') :
    Calls Tryz.prog 9 #[.agg #[.slice vs.1 vs.2.1 vs.2.2, .slice vr.1 vr.2.1 vr.2.2]] W R := by
  refine ok9 vs.1 vs.2.1 vs.2.2 vr.1 vr.2.1 vr.2.2 ?_
  unfold F9
  refine al fun g1 w1 hb1 b1 hge1 => ?_
  have b1 : Blk w1 g1 #[slV vs, slV vr] 25 := b1
  simp only [Addr.add_mk, Nat.zero_add, b1.cell, slV, lds]
  refine copiedImage_calls x vs vr (hX.keep hb1) fun vs2 vr2 w2 hb2 hX2 => ⟨_, _, _, _, _, _, rfl, ?_⟩
  have B2 := btr hb1 hb1.size hb2
  have hX2' : RIm w2 x vs2 vr2 := hX2.sub sub_of_only
  have hs2 := B2.size
  have fin : ∀ (x14 : Option Addr) (e14 : Int) (w3 : World) (o : Nat → Nat), Below w2.heap.size w2 w3 → (loadF x = none → x14 = none ∧ e14 = 36) → (∀ D, loadF x = some D → ∃ g, x14 = some ⟨g, 0, none⟩ ∧ e14 = 0 ∧ LD 1 g 105 w3 o D ∧ ∀ b, o b ≠ 0 → w2.heap.size ≤ b) →
      LdSl (w3.cell? ⟨g1, 0, none⟩) fun x18_0 x18_0N x18_0C => LdSl (w3.cell? ⟨g1, 0 + 1, none⟩) fun x18_1 x18_1N x18_1C =>
      Calls Tryz.prog 39 #[(.agg #[(.slice x18_0 x18_0N x18_0C), (.slice x18_1 x18_1N x18_1C)])] w3 (post R fun v3 w1_4 =>
       ∃ (x19_0 : Option Addr) (x19_1 : Int), v3 = (.tuple #[(.pointer x19_0), (.int .i64 x19_1)]) ∧
       ∃ J5 : World → Prop, (∀  (w1_5 : World), J5 w1_5 → F9_j5 x14 x19_0 w1_5 R) ∧
       (Br (e14 != x19_1)
       (R (.returned (.tuple #[(.pointer none), (.pointer none), (.bool false)])) w1_4)
       (Br (!((x14).isNone == (x19_0).isNone))
       (R (.returned (.tuple #[(.pointer none), (.pointer none), (.bool false)])) w1_4)
       (J5 w1_4)))) := by
    intro x14 e14 w3 o hb3 h0 h1
    have b3 := (b1.keep hb2).keep hb3
    simp only [Addr.add_mk, Nat.zero_add, b3.cell, slV, lds]
    have B3 := btr B2 B2.size hb3
    have hs3 := hb3.size
    have hsub : Sub W (wOnly (fun b => decide (b < W.heap.size)) w3) := fun b c t fr h => by
      have hlt := (Array.getElem?_eq_some_iff.1 h).1
      exact cells_only (ok := fun b => decide (b < W.heap.size)) (decide_eq_true hlt) (by rw [B3.block b hlt]; exact h)
    refine loadR_calls x vs vr (fun b => decide (b < W.heap.size)) (hX.sub hsub) fun w4 hb4 => ?_
    have B4 := btr B3 B3.size hb4
    cases hl : loadF x with
    | none =>
      obtain ⟨rfl, rfl⟩ := h0 hl
      refine ⟨none, 36, rfl, fun w' => w4 = w', ?_, ?_⟩
      rotate_left
      · rw [show ((36 : Int) != 36) = false from rfl, Br_f, show (!((none : Option Addr).isNone == (none : Option Addr).isNone)) = false from rfl, Br_f]
      rintro _ rfl
      unfold F9_j5
      refine ⟨fun p d w' => ∃ gp gd, p = some ⟨gp, 0, none⟩ ∧ d = some ⟨gd, 0, none⟩ ∧ Blk w' gp #[.slice none 0 0, .slice none 0 0, .int .i64 0, .int .i64 0, .int .i64 0, .map none, .pointer none, .int .u64 0, .int .u64 0, .map none] 105 ∧ Blk w' gd #[.slice none 0 0, .slice none 0 0] 107 ∧ gp ≠ gd ∧ W.heap.size ≤ gp ∧ Below W.heap.size W w', ?_, ?_⟩
      · rintro _ _ w5 ⟨gp, gd, rfl, rfl, bp, bd, hne, hgp, hb5⟩
        refine begins_tail (ld_zero bp) (by decide) nil_wf hT hb5 (fun b hb => ?_) (fun M w6 hf hm => ?_) fun gx w6 vs' vr' es q1 q2 q3 => hK gx gd w6 _ vs' vr' es nil_wf q1 q2 q3
        · by_cases e : b = gp
          · rw [e]; exact hgp
          · rw [if_neg e] at hb; exact absurd rfl hb
        · have hd6 := hf.blk bd fun e => by have := hm gd bd.lt e; rw [if_neg (fun e => hne e.symm)] at this; exact this rfl
          obtain ⟨es, h⟩ := (rm_zero (ok := fun _ => true) hd6).re
          exact ⟨_, _, es, h⟩
      · simp only [Option.isNone_none, Br_t]
        refine al fun gp w5 hb5 b5 hge5 => al fun gd w6 hb6 b6 hge6 => ?_
        have hl5 := b5.lt
        exact ⟨gp, gd, rfl, rfl, b5.keep hb6, b6, by omega, by have := B4.size; omega, btr B4 B4.size (btr hb5 hb5.size hb6)⟩
    | some D =>
      obtain ⟨g, rfl, rfl, hL, hc⟩ := h1 D hl
      have hw : Wf D := load_wf hX.ok hl
      intro gd vs' vr' hgd hD
      refine ⟨some ⟨gd, 0, none⟩, 0, rfl, fun w' => w4 = w', ?_, ?_⟩
      rotate_left
      · rw [show ((0 : Int) != 0) = false from rfl, Br_f, Option.isNone_some, Option.isNone_some, show (!(false == false)) = false from rfl, Br_f]
      rintro _ rfl
      unfold F9_j5
      refine ⟨fun p d w' => p = some ⟨g, 0, none⟩ ∧ d = some ⟨gd, 0, none⟩ ∧ w4 = w', ?_, ?_⟩
      rotate_left
      · rw [Option.isNone_some, Br_f]; exact ⟨rfl, rfl, rfl⟩
      rintro _ _ _ ⟨rfl, rfl, rfl⟩
      have hlt : ∀ b, o b ≠ 0 → b < w3.heap.size := by
        obtain ⟨S, nms, gv, E, _, h⟩ := hL
        exact h.x.lt
      have hL4 : LD 1 g 105 w4 o D := by
        obtain ⟨S, nms, gv, E, e, h⟩ := hL
        exact ⟨S, nms, gv, E, e, ⟨h.x.below hb4, h.pi, h.word, h.def1, h.def2, h.gv_⟩⟩
      refine begins_tail hL4 (by decide) hw hT B4 (fun b hb => by have := hc b hb; omega) (fun M w6 hf hm => ?_) fun gx w6 vs' vr' es q1 q2 q3 => hK gx gd w6 _ vs' vr' es hw q1 q2 q3
      have hs : Sub (newOr (fun b => decide (b < W.heap.size)) w3.heap.size w4) (newOr (fun b => decide (b < W.heap.size)) w3.heap.size w6) := sub_only (fun b _ h => h) fun b hb h => hf.block b hb fun e => by
        have h1 := hm b hb e
        have h2 := hc b h1
        have h3 := hlt b h1
        rcases (newOr_iff (ok := fun b => decide (b < W.heap.size))).1 h with h4 | h4
        · rw [decide_eq_true_eq] at h4; omega
        · omega
      obtain ⟨es, h⟩ := ((hD.sub hs).sub sub_of_only).rw hw.s.few
      exact ⟨_, _, es, h⟩
  refine loadL_calls hX2' (hT.keep B2) ?_
  cases hl : loadF x with
  | none => exact fun w3 hb3 => ⟨_, _, rfl, fin none 36 w3 (fun _ => 0) hb3 (fun _ => ⟨rfl, rfl⟩) fun D h => by rw [hl] at h; cases h⟩
  | some D => exact fun w3 g o hb3 hL hc => ⟨_, _, rfl, fin _ 0 w3 o hb3 (fun h => by rw [hl] at h; cases h) fun D' h => by rw [hl] at h; cases h; exact ⟨g, rfl, rfl, hL, hc⟩⟩
end
end Go.Proofs.YtccplipiahdhiaaGreatDoor
