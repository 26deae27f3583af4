/- UpdateChecks: Check and Plan of any list of edits are as the document has them. -/
import Derived.Test.YtncbjdgcgclnnaaGreatDoorProg
import Derived.Lib.Bytealg
import Derived.Laws.Externs
import Derived.Deep.Slices
import Derived.SizedLaws
import Derived.DataReads
import Derived.WideShapes
import Derived.Test.YtncbjdgcgclnnaaGreatDoorRows
import Derived.Lib.SmallJoins
import Derived.MapKept
import Derived.Laws.IdiomRangeMap
import Derived.Test.YtncbjdgcgclnnaaGreatDoorUc2
namespace Go.Proofs.YtncbjdgcgclnnaaGreatDoor
open Go.RowKit Go.Vc
set_option linter.unusedVariables false
set_option linter.unusedSimpArgs false
set_option maxRecDepth 100000
theorem Tabs.sub {w w1:World} (h:Tabs w) (hs:Sub w w1):Tabs w1:=⟨fun c hc=>hs.cell (h.1 c hc),fun i hi=>⟨hs.cell (h.2 i hi).1,hs.cell (h.2 i hi).2⟩⟩
theorem looks_app:∀(l m:List Tr) (deep n:Nat),looksF (l++m) deep n=if (looksF l deep n).2≠0 then looksF l deep n else looksF m deep (looksF l deep n).1
 | [],m,deep,n=>by simp [looksF]
 | x :: l,m,deep,n=>by
  rw [List.cons_append,looksF]
  conv=>rhs;rw [looksF]
  by_cases h:(lookF x deep n).2≠0
  ·simp only [if_pos h]
  ·simp only [if_neg h]
   exact looks_app l m deep _
theorem dpL_snoc (l:List Tr) (x:Tr):dpL (l++[x])=max (dpL l) (dpT x):=by
 induction l with
 | nil=>simp [dpL]
 | cons y l ih=>simp only [List.cons_append,dpL,ih];omega
theorem subB {w w':World}{gl:Nat} (hf:Fm (·=gl) w w'):Sub (but gl w) (but gl w') :=
 sub_only (fun b _ h=>h) fun b hb h=>hf.block b hb fun e=>by
  have e:b=gl:=e
  subst e
  rw [show Nat.beq b b=true from Nat.beq_refl b] at h;cases h
theorem look_calls:∀(x:Tr) {w:World}{gl deep n md:Nat}{e:E5}{R:Ending→World→Prop},Blk w gl #[.int .i64 (n:Nat),.int .i64 (md:Nat)] 125→RTr (but gl w) x e→Tabs (but gl w)→n≤4096→deep≤65→1≤deep→md≤65 →
  (∀w' n' md',Fm (·=gl) w w'→Blk w' gl #[.int .i64 (n':Nat),.int .i64 (md':Nat)] 125→n'=(lookF x deep n).1→((lookF x deep n).2=0→md'=max md (deep+dpT x-1))→R (.returned (.int .i64 (lookF x deep n).2)) w') →
  Calls Tryz.prog 63 #[.pointer (some ⟨gl,0,none⟩),.agg #[.int .i64 e.kind,.string e.nm,slV e.ats,.string e.text,slV e.kids],.int .i64 (deep:Nat)] w R:=by
 refine Tr.ind fun kind nm attrs text kids ih=>?_
 intro w gl deep n md e R hB hT hTb hn hd hd1 hmd hK
 have hT0:=hT
 simp only [RTr] at hT
 obtain⟨t1,t2,t3,t4,t5,es,t6,t7,t8⟩:=hT
 have hel:=t8.len
 refine ok63 (some ⟨gl,0,none⟩) e.kind e.nm e.ats.1 e.ats.2.1 e.ats.2.2 e.text e.kids.1 e.kids.2.1 e.kids.2.2 (deep:Nat) ?_
 unfold F63
 refine al fun g4 w1 hb1 b4 hge4=>?_
 have hgl:=hB.lt
 have hB1:=hB.keep hb1
 have hne4:g4≠gl:=by omega
 have hlook:lookF (.mk kind nm attrs text kids) deep n=if 64 < deep∨4096≤n then (n,2) else if ownF kind nm attrs text≠0 then (n,ownF kind nm attrs text) else if kind=2 then (n+1,0) else looksF kids (deep+1) (n+1):=by rw [lookF]
 refine⟨fun w'=>w1=w'∧¬(64 < deep∨4096≤n),?_,?_⟩
 ·rintro _ ⟨rfl,hlim⟩
  rw [if_neg hlim] at hlook
  unfold F63_j3
  simp only [Addr.add_mk,Nat.zero_add,NonNil_some,b4.cell,lds]
  have hs1:Sub (but gl w) (but gl w1):=subB (.below hb1)
  refine own1_calls e.kind e.nm attrs e.ats e.text e.kids ((hTb.sub hs1).sub sub_of_only) ((t4.sub hs1).sub sub_of_only) fun w2 hb2=>⟨_,rfl,?_⟩
  rw [t1,t2,t3]
  have hB2:=hB1.keep hb2
  have b42:=b4.keep hb2
  refine brn (fun hne=>?_) (fun heq=>?_)
  ·rw [if_pos hne] at hlook
   have:=hK w2 n md (.below (btr hb1 hb1.size hb2)) hB2 (by rw [hlook]) (fun h=>by rw [hlook] at h;exact absurd h hne)
   rw [hlook] at this;exact this
  rw [if_neg (by rw [heq];simp)] at hlook
  simp only [Addr.add_mk,Nat.zero_add,NonNil_some,hB2.cell,lds]
  have e5:((n:Nat):Int)+1=((n+1:Nat):Int):=by omega
  rw [e5]
  refine⟨inR_i64 (by omega) (by omega),st_blk hB2 (by simp) fun w3 hB3 f3=>?_⟩
  simp only [List.setIfInBounds_toArray,List.set_cons_zero,List.set_cons_succ] at hB3
  simp only [Addr.add_mk,Nat.zero_add,NonNil_some,hB3.cell,lds]
  refine st_blk hB3 (by simp) fun w4 hB4 f4=>?_
  simp only [List.setIfInBounds_toArray,List.set_cons_zero,List.set_cons_succ] at hB4
  have e6:(if ((deep:Nat):Int) > ((md:Nat):Int) then ((deep:Nat):Int) else ((md:Nat):Int))=((max md deep:Nat):Int):=by
   split <;> omega
  rw [e6] at hB4
  have F4:Fm (·=gl) w w4:=((Fm.below (btr hb1 hb1.size hb2)).trans f3).trans f4
  have b44:Blk w4 g4 _ 54:=(f3.trans f4).blk b42 (fun e=>hne4 e)
  simp only [Addr.add_mk,Nat.zero_add,NonNil_some,b44.cell,lds]
  have hpos:dpT (.mk kind nm attrs text kids)=if kind=2 then 1 else 1+dpL kids:=by rw [dpT]
  refine bre (fun hk=>?_) (fun hk=>?_)
  ·rw [if_pos (by rw [←t1];exact hk)] at hlook hpos
   have:=hK w4 (n+1) (max md deep) F4 hB4 (by rw [hlook]) (fun _=>by rw [hpos];omega)
   rw [hlook] at this;exact this
  ·rw [if_neg (by rw [←t1];exact hk)] at hlook hpos
   refine⟨fun j w'=>∃k n' md':Nat,j=k∧k≤kids.length∧Fm (·=gl) w w'∧Blk w' gl #[.int .i64 (n':Nat),.int .i64 (md':Nat)] 125∧(looksF (kids.take k) (deep+1) (n+1)).2=0∧n'=(looksF (kids.take k) (deep+1) (n+1)).1∧md'=max (max md deep) (deep+dpL (kids.take k))∧n'≤4096∧md'≤65,fun j _=>kids.length-j.toNat,
    ⟨0,n+1,max md deep,rfl,by omega,F4,hB4,by simp [looksF],by simp [looksF],by simp [dpL],by omega,by omega⟩,?_⟩
   rintro j w5 ⟨k,n5,md5,rfl,hk5,F5,hB5,q1,q2,q3,q4,q5⟩
   unfold F63_l11
   have hs5:Sub (but gl w) (but gl w5):=subB F5
   have hr5:Rd LE5 w5 e.kids.1 e.kids.2.2 es:=sub_of_only.rd (hs5.rd t7)
   refine brd (fun hlt=>?_) (fun hge=>?_)
   ·have hk6:k < kids.length:=by omega
    have hk7:k < es.length:=by omega
    refine hr5.e5 t6 rfl (k:=k) hk7 fun bb oo c0 c1 c2 c3 c4=>?_
    simp only [Addr.add_mk,Nat.zero_add,c0,c1,c2,c3,c4,lds]
    refine al fun kb w6 hb6 bk6 hge6=>?_
    refine st_blk bk6 (by simp) fun u1 s1 f1=>st_blk s1 (by simp) fun u2 s2 f2=>st_blk s2 (by simp) fun u3 s3 f3=>st_blk s3 (by simp) fun u4 s4 f4=>st_blk s4 (by simp) fun w7 s5 f5=>?_
    simp only [List.setIfInBounds_toArray,List.set_cons_zero,List.set_cons_succ] at s5
    have FK:Fm (·=kb) w6 w7:=(((f1.trans f2).trans f3).trans f4).trans f5
    have D7:Below w5.heap.size w5 w7:=hb6.trans (FK.toBelow hb6.size fun b hb e=>by have e:b=kb:=e;omega)
    simp only [Addr.add_mk,Nat.zero_add,NonNil_some,s5.cell,lds]
    have e8:((deep:Nat):Int)+1=((deep+1:Nat):Int):=by omega
    rw [e8]
    have hs7:Sub (but gl w) (but gl w7):=hs5.trans (subB (.below D7))
    refine⟨inR_i64 (by omega) (by omega),?_⟩
    refine ih kids[k] (List.getElem_mem hk6) (gl:=gl) (n:=n5) (md:=md5) (e:=es[k]) (hB5.keep D7) (RTr.sub hs7 _ _ (t8.get k hk6 hk7)) (hTb.sub hs7) q4 (by omega) (by omega) q5 fun w8 n8 md8 F8 hB8 z1 z2=>⟨_,rfl,?_⟩
    have F58:Fm (·=gl) w w8:=(F5.trans (.below D7)).trans F8
    have hst:=looks_app (kids.take k) [kids[k]] (deep+1) (n+1)
    rw [if_neg (by rw [q1];simp),←q2] at hst
    have hst2:looksF [kids[k]] (deep+1) n5=lookF kids[k] (deep+1) n5:=by
     rw [looksF]
     by_cases h:(lookF kids[k] (deep+1) n5).2≠0
     ·rw [if_pos h]
     ·rw [if_neg h,looksF]
      have h:(lookF kids[k] (deep+1) n5).2=0:=by simpa using h
      rw [←h]
    rw [hst2,←List.take_succ_eq_append_getElem hk6] at hst
    refine brn (fun hne=>?_) (fun heq=>?_)
    ·have hall:=looks_app (kids.take (k+1)) (kids.drop (k+1)) (deep+1) (n+1)
     rw [List.take_append_drop,hst,if_pos hne] at hall
     rw [hall] at hlook
     have:=hK w8 n8 md8 F58 hB8 (by rw [hlook];exact z1) (fun h=>by rw [hlook] at h;exact absurd h hne)
     rw [hlook] at this;exact this
    ·obtain⟨a1,a2,a3,a4⟩:=look_ok kids[k] (deep+1) n5 heq
     have z2:=z2 heq
     refine⟨inR_i64 (by omega) (by omega),⟨k+1,n8,md8,by simp,by omega,F58,hB8,by rw [hst];exact heq,by rw [hst];exact z1,?_,by omega,by omega⟩,(by first | omega | (dsimp only;omega))⟩
     rw [List.take_succ_eq_append_getElem hk6,dpL_snoc]
     omega
   ·have hk6:k=kids.length:=by omega
    subst hk6
    rw [List.take_length] at q1 q2 q3
    have:=hK w5 n5 md5 F5 hB5 (by rw [hlook];exact q2) (fun _=>by rw [hpos];omega)
    rw [hlook,q1] at this;exact this
 ·have hbad:(64 < deep∨4096≤n)→R (.returned (.int .i64 2)) w1:=fun h=>by
   rw [if_pos h] at hlook
   have:=hK w1 n md (.below hb1) hB1 (by rw [hlook]) (fun h=>by rw [hlook] at h;cases h)
   rw [hlook] at this;exact this
  refine brd (fun h=>hbad (.inl (by omega))) (fun h=>?_)
  simp only [Addr.add_mk,Nat.zero_add,NonNil_some,hB1.cell,lds]
  exact brd (fun h2=>hbad (.inr (by omega))) (fun h2=>⟨trivial,by omega⟩)
section
variable {w w1 w2:World}{o o1 o2:Nat→Nat}{θ:Th}{S:PS}{M:Nat→Prop}{bs:List Nat}{R:Ending→World→Prop}
end
set_option maxRecDepth 100000
section
variable {w w1 w2:World}{o o1 o2:Nat→Nat}{θ:Th}{S:PS}{M:Nat→Prop}{bs:List Nat}{R:Ending→World→Prop}
theorem lst_live {loose:List Nat} (hA:WfA (slA S.D.sl) S.D.roots loose) (p:Nat):∀x∈lstI S.D p,∃t,slA S.D.sl x=some t:=fun x hx=>by
 obtain⟨_,t,ht,_⟩:=(hA.lst p).2 x hx
 exact⟨t,ht⟩
theorem lst_few {loose:List Nat} (hw:WfS S.D.sl) (hA:WfA (slA S.D.sl) S.D.roots loose) (p:Nat):(lstI S.D p).length≤4096 :=
 Nat.le_trans (live_few (lst_live hA p) (hA.lst p).1) hw.few
theorem upd_same {D:Im}{n:Nat}{f:Sl→Sl}{s:Sl} (hn:slA D.sl n=some s) (hf:f s=s):updI D n f=D:=by
 obtain⟨k,h1,h2,_⟩:=slA_iff.1 hn
 unfold updI
 rw [h1,Nat.add_sub_cancel,modify_set _ _ _ _ h2,hf]
 have:D.sl.set k s=D.sl:=by
  refine List.ext_getElem? fun j=>?_
  by_cases e:k=j
  ·subst e;rw [List.getElem?_set_self (List.getElem?_eq_some_iff.1 h2).1,h2]
  ·rw [List.getElem?_set_ne e]
 rw [this]
theorem insert_calls (h:PM w o θ S) (hp:PI S) (hw:Wf S.D) (hT:Tabs (wc o w)) {x:Tr}{e:E5} (hx:RTr (wc o w) x e) {wh:Int}{a:Nat} (ha:a < 18446744073709551616)
  (hK:∀w' o' S',PM w' o' θ S'→PI S'→S'.D=(insF S.D wh a x).1→EvP w o w' o'→R (.returned (.tuple #[.int .u64 ((insF S.D wh a x).2.1:Nat),.int .i64 (insF S.D wh a x).2.2])) w') :
  Calls Tryz.prog 48 #[.pointer (some ⟨θ.g,0,none⟩),.int .i64 wh,.int .u64 (a:Nat),.agg #[.int .i64 e.kind,.string e.nm,slV e.ats,.string e.text,slV e.kids]] w R:=by
 have h00:=slA_zero S.D.sl
 have hfewS:=h.few
 refine ok48 (some ⟨θ.g,0,none⟩) wh (a:Nat) e.kind e.nm e.ats.1 e.ats.2.1 e.ats.2.2 e.text e.kids.1 e.kids.2.1 e.kids.2.2 ?_
 unfold F48
 refine al fun g7 w1 hb1 b7 hge7=>?_
 have h1:=h.below hb1
 refine shaped_calls ⟨_,rfl,?_⟩
 rw [Bool.not_not]
 have hpl:(placeF S.D wh a)=if wh < 1∨4 < wh∨(a=0∧2 < wh) then ((0,1):Nat × Int) else if a=0 then (0,0) else match slA S.D.sl a with
  | none=>(0,8)
  | some s=>if wh≤2 then (if s.kind=2 then (0,31) else (a,0)) else (s.parent,0):=by unfold placeF;rfl
 refine brd (fun hsh=>?_) (fun hsh=>?_)
 ·rw [if_pos hsh] at hpl
  have e1:insF S.D wh a x=(S.D,0,1):=by unfold insF;rw [hpl,if_pos rfl]
  have:=hK w1 o S h1 hp (by rw [e1]) (EvC.below hb1)
  rw [e1] at this;exact this
 rw [if_neg hsh] at hpl
 have hne1:(placeF S.D wh a).2≠1:=by
  rw [hpl]
  split
  ·simp
  ·split
   ·simp
   ·split
    ·split <;> simp
    ·simp
 refine al fun gl w2 hb2 bl hgel=>?_
 have h2:=h1.below hb2
 have b72:=b7.keep hb2
 have B12:=btr hb1 hb1.size hb2
 simp only [Addr.add_mk,Nat.zero_add,NonNil_some,b72.cell,lds]
 have hlsub:Sub w (but gl w2):=old_but B12 (by have:=hb1.size;omega)
 refine look_calls x (gl:=gl) (deep:=1) (n:=0) (md:=0) (e:=e) bl (RTr.sub (sub_of_only.trans hlsub) _ _ hx) (hT.sub (sub_of_only.trans hlsub)) (by omega) (by omega) (by omega) (by omega) fun w3 n3 md3 F3 hB3 q1 q2=>⟨_,rfl,?_⟩
 have og:o gl=0:=Classical.byContradiction fun h0=>by have:=h1.lt gl h0;have:=hb1.size;omega
 have o7:o g7=0:=Classical.byContradiction fun h0=>by have:=h.lt g7 h0;omega
 have h3:PM w3 o θ S:=h2.keep F3 (fun b hb hm=>by have hm:b=gl:=hm;rw [hm,og] at hb;exact not_pc0 hb) (fun _ _=>rfl) fun b hb=>Nat.lt_of_lt_of_le (h2.lt b hb) F3.size
 have E3:EvP w o w3 o:=⟨(Fm.below B12).trans' F3 (fun b hb hm=>by have hm:b=gl:=hm;have:=hb1.size;omega),fun _ _=>rfl,fun _ _ h=>h,fun _ h=>.inl h⟩
 refine brn (fun hne=>?_) (fun heq=>?_)
 ·have e1:insF S.D wh a x=(S.D,0,(lookF x 1 0).2):=by unfold insF;rw [if_neg hne1,if_pos hne]
  have:=hK w3 o S h3 hp (by rw [e1]) E3
  rw [e1] at this;exact this
 obtain⟨k1,k2,k3,k4⟩:=look_ok x 1 0 heq
 have q2:=q2 heq
 rw [k2] at q1
 have hdpos:=dpT_pos x
 have hmd:md3=dpT x:=by rw [q2];omega
 refine atL_calls h3 ha fun w4 hb4=>⟨_,rfl,?_⟩
 have h4:=h3.below hb4
 have E4:=EvP.trans E3 (EvC.below hb4)
 have bl4:=hB3.keep hb4
 have b74:Blk w4 g7 _ 54:=(F3.blk b72 (fun e=>by have e:g7=gl:=e;have:=b7.lt;omega)).keep hb4
 refine⟨fun w'=>w4=w'∧(a=0∨∃s,slA S.D.sl a=some s),?_,?_⟩
 ·rintro _ ⟨rfl,hae⟩
  unfold F48_j10
  rw [ptrL_H h00 hae]
  refine par_calls h4 hsh hae ⟨_,_,rfl,?_⟩
  have hins:insF S.D wh a x=if (placeF S.D wh a).2≠0 then (S.D,0,(placeF S.D wh a).2) else
    if 64 < cntI S.D (placeF S.D wh a).1+dpT x then (S.D,0,32) else if 4096 < tk S.D.sl+szT x then (S.D,0,33) else
    (putI { S.D with sl:=makeF x (placeF S.D wh a).1 S.D.sl } (freshH S.D.sl) (placeF S.D wh a).1 wh a,freshH S.D.sl,0):=by
   unfold insF;rw [if_neg hne1,if_neg (by rw [heq];simp)]
  refine brn (fun hne=>?_) (fun hpz=>?_)
  ·rw [if_pos hne] at hins
   have:=hK w4 o S h4 hp (by rw [hins]) E4
   rw [hins] at this;exact this
  rw [if_neg (by rw [hpz];simp)] at hins
  obtain⟨p1,p2,p3,p4,p5,p6⟩:=place_ok hw hpz
  generalize hP:(placeF S.D wh a).1=p at *
  obtain⟨c1,c2⟩:=hw.cnt (p1.imp id fun⟨t,h,_⟩=>⟨t,h⟩)
  have hd4:Below w4.heap.size w4 w4.drew:=(Below.refl _ _).drew
  refine⟨fun w'=>Below w4.heap.size w4 w',hd4,?_⟩
  simp only [Addr.add_mk,Nat.zero_add]
  refine⟨_,fun w' hb=>by rw [(bl4.keep hb).cell];rfl,?_⟩
  refine level_calls (h4.below hd4) h00 c2 c1 ⟨_,rfl,hd4,?_⟩
  refine⟨inR_i64 (by clear p1;omega) (by clear p1;omega),inR_i64 (by clear p1;omega) (by clear p1;omega),?_⟩
  refine brd (fun hgt=>?_) (fun hle=>?_)
  ·rw [if_pos (by clear p1;omega)] at hins
   have:=hK w4.drew o S (h4.below hd4) hp (by rw [hins]) (EvP.trans E4 (EvC.below hd4))
   rw [hins] at this;exact this
  rw [if_neg (by clear p1;omega)] at hins
  refine dr fun w5 hb5 _=>?_
  have D5:=btr hd4 (by simp) hb5
  have h5:=h4.below D5
  have bl5:=bl4.keep D5
  obtain⟨_,d2,d3,_⟩:=h5.cells
  have htk:=tk_sum S.D.sl
  have hlv:=hp.lv
  have hwn:=hp.wn
  have htl:=tk_le (sl:=S.D.sl)
  simp only [NonNil_some,d2,d3,bl5.cell,lds]
  refine⟨inR_i64 (by clear p1;omega) (by clear p1;omega),inR_i64 (by clear p1;omega) (by clear p1;omega),?_⟩
  refine brd (fun hgt=>?_) (fun hle2=>?_)
  ·rw [if_pos (by clear p1;omega)] at hins
   have:=hK w5 o S h5 hp (by rw [hins]) (EvP.trans E4 (EvC.below D5))
   rw [hins] at this;exact this
  rw [if_neg (by clear p1;omega)] at hins
  have b75:=b74.keep D5
  simp only [Addr.add_mk,Nat.zero_add,NonNil_some,b75.cell,lds]
  have E5:=EvP.trans E4 (EvC.below D5)
  refine make_calls x (p:=p) (c:=cntI S.D p) (loose:=[]) h5 hp k1 hw.s hw.a p1 c2 (by clear p1;omega) (by clear p1;omega) (RTr.sub E5.sub _ _ hx) fun w6 o6 S6 h6 p6' hD6 ⟨y6,hy6⟩ e6=>⟨_,rfl,?_⟩
  have Mk:=make_wf x k1 hw.s hw.a p1 c2 (by clear p1;omega) (by clear p1;omega)
  obtain⟨st,st1,st2⟩:=Mk.top
  have hne0:freshH S.D.sl≠0:=by unfold freshH hnd;omega
  have hsl6:S6.D.sl=makeF x p S.D.sl:=by rw [hD6]
  have hro6:S6.D.roots=S.D.roots:=by rw [hD6]
  have hn6:slA S6.D.sl (freshH S.D.sl)=some st:=by rw [hsl6];exact st1
  have hA6:WfA (slA S6.D.sl) S6.D.roots [freshH S.D.sl]:=by rw [hsl6,hro6];exact Mk.wf
  have hpe:p=0∨∃t,slA S6.D.sl p=some t:=by
   rcases p1 with e | ⟨t,ht,_⟩
   ·exact .inl e
   ·exact .inr ⟨t,by rw [hsl6];exact Mk.ext _ _ ht⟩
  have hptr:ptrH S6.bs (freshH S.D.sl)=some ⟨pb S6.bs (freshH S.D.sl),0,none⟩:=by unfold ptrH;rw [if_neg hne0]
  have hpp:ptrH S.bs p=ptrH S6.bs p:=by
   rw [hy6]
   refine (ptr_ext ?_).symm
   rw [h.len];exact live_inN p1
  have hpa:ptrH S.bs a=ptrH S6.bs a:=by
   rw [hy6]
   refine (ptr_ext ?_).symm
   rw [h.len]
   rcases hae with e | ⟨s,hs⟩
   ·exact .inl e
   ·obtain⟨_,_,_,_,hin⟩:=h.of hs;exact .inr hin
  have hnp:freshH S.D.sl≠p:=fun e=>by
   rcases p1 with e1 | ⟨t,ht,_⟩
   ·exact hne0 (e.trans e1)
   ·rw [←e,Mk.new] at ht;cases ht
  rw [hptr,hpp,hpa]
  have hlst6:lstI S6.D p=lstI S.D p:=by
   unfold lstI lstA
   rw [hro6]
   by_cases h0:p=0
   ·rw [if_pos h0,if_pos h0]
   ·rw [if_neg h0,if_neg h0]
    obtain⟨t,ht,_⟩:=p1.resolve_left h0
    rw [ht,hsl6,Mk.ext _ _ ht]
  refine put_calls h6 hn6 hpe (lst_live hA6 p) (lst_few (by rw [hsl6];exact Mk.wfs) hA6 p) (fun h2=>?_) hnp fun w7 o7 h7 e7=>⟨rfl,?_⟩
  ·rw [hlst6]
   obtain⟨s,s1,s2⟩:=p4 h2
   have:=hw.a.mem a s s1 (by simp)
   rw [s2] at this;exact this
  have hput:updI (putI S6.D (freshH S.D.sl) p wh a) (freshH S.D.sl) (fun s=>{ s with parent:=p })=putI S6.D (freshH S.D.sl) p wh a:=by
   have e4:slA (putI S6.D (freshH S.D.sl) p wh a).sl (freshH S.D.sl)=some st:=by
    unfold putI
    rw [(setI_A (l:=insAt (lstI S6.D p) (posF wh a (lstI S6.D p)) (freshH S.D.sl)) hpe).1,setA_of hn6,if_neg (fun e=>hnp e.1)]
   refine upd_same e4 ?_
   cases st
   simp only at st2
   simp only [st2]
  rw [hput] at h7
  have e4:slA (putI S6.D (freshH S.D.sl) p wh a).sl (freshH S.D.sl)=some st:=by
   unfold putI
   rw [(setI_A (l:=insAt (lstI S6.D p) (posF wh a (lstI S6.D p)) (freshH S.D.sl)) hpe).1,setA_of hn6,if_neg (fun e=>hnp e.1)]
  refine hnd_calls h7 e4 fun w8 hb8=>⟨_,rfl,?_⟩
  have p7:PI { S6 with D:=putI S6.D (freshH S.D.sl) p wh a }:=by
   unfold putI setI
   by_cases h0:p=0
   ·rw [if_pos h0];exact⟨p6'.lv,p6'.wn,p6'.lo,p6'.lo2⟩
   ·rw [if_neg h0]
    obtain⟨t,ht⟩:=hpe.resolve_left h0
    obtain⟨k,m1,m2,_⟩:=slA_iff.1 ht
    rw [m1,Nat.add_sub_cancel,modify_set _ _ _ _ m2]
    exact p6'.set (s':={ t with kids:=insAt (lstI S6.D p) (posF wh a (lstI S6.D p)) (freshH S.D.sl) }) m2 rfl rfl
  have:=hK w8 o7 { S6 with D:=putI S6.D (freshH S.D.sl) p wh a } (h7.below hb8) p7 (by rw [hins,hD6]) (EvP.trans (EvP.trans (EvP.trans E5 (e6.mono fun c h=>h.1)) e7) (EvC.below hb8))
  rw [hins] at this;exact this
 ·have hbad:slA S.D.sl a=none→a≠0→R (.returned (.tuple #[.int .u64 0,.int .i64 8])) w4:=fun hn h0=>by
   rw [if_neg h0,hn] at hpl
   have e1:insF S.D wh a x=(S.D,0,8):=by unfold insF;rw [if_neg hne1,if_neg (by rw [heq];simp),if_pos (by rw [hpl];simp),hpl]
   have:=hK w4 o S h4 hp (by rw [e1]) E4
   rw [e1] at this;exact this
  refine brn (fun h0=>?_) (fun h0=>⟨rfl,.inl (by omega)⟩)
  have h0:a≠0:=by omega
  cases hs:slA S.D.sl a with
  | none =>
   have e:ptrL S a=none:=by unfold ptrL;rw [hs];rfl
   rw [e]
   simp only [Option.isNone_none,Br_t]
   exact hbad hs h0
  | some s =>
   have e:(ptrL S a).isNone=false:=by unfold ptrL;rw [hs];rfl
   rw [e,Br_f]
   exact⟨rfl,.inr ⟨s,rfl⟩⟩
end
set_option maxRecDepth 100000
section
variable {w w1 w2:World}{o o1 o2:Nat→Nat}{θ:Th}{S:PS}{M:Nat→Prop}{bs:List Nat}{R:Ending→World→Prop}
end
end Go.Proofs.YtncbjdgcgclnnaaGreatDoor
set_option linter.unusedVariables false
set_option maxRecDepth 100000
namespace Go.Proofs.YtncbjdgcgclnnaaGreatDoor
open Go.Vc
end Go.Proofs.YtncbjdgcgclnnaaGreatDoor
namespace Go.Proofs.YtncbjdgcgclnnaaGreatDoor
open Go.RowKit Go.Vc
set_option linter.unusedVariables false
set_option linter.unusedSimpArgs false
set_option maxRecDepth 100000
set_option maxRecDepth 100000
section
variable {w w1 w2:World}{o o1 o2:Nat→Nat}{θ:Th}{S:PS}{M:Nat→Prop}{bs:List Nat}{R:Ending→World→Prop}
end
set_option maxRecDepth 100000
section
variable {w w1 w2:World}{o o1 o2:Nat→Nat}{θ:Th}{S:PS}{M:Nat→Prop}{bs:List Nat}{R:Ending→World→Prop}
end
set_option maxRecDepth 100000
section
variable {ok ok1:Nat→Bool}{opn:List Nat}{w w1:World}{g:Nat}{D:Im}{vs vr:Sv}{es:List S8}{M:Nat→Prop}{R:Ending→World→Prop}
theorem slv_form {v:Sv}{A:Option Addr}{n c:Nat} (h:slV v=.slice A n c):v=(A,n,c):=by
 obtain⟨a1,a2,a3⟩:=v
 unfold slV at h
 simp only [Value.slice.injEq] at h
 obtain⟨rfl,rfl,rfl⟩:=h
 rfl
end
set_option maxRecDepth 100000
section
variable {ok ok1:Nat→Bool}{opn:List Nat}{w w1:World}{g:Nat}{D:Im}{vs vr:Sv}{es:List S8}{M:Nat→Prop}{R:Ending→World→Prop}
end
set_option maxRecDepth 100000
section
variable {α:Type}{L:Lay α}{w w1:World}{e:TypeId}{q:Nat}
end
section
variable {ok ok1:Nat→Bool}{opn opn1:List Nat}{w w1:World}{g:Nat}{D:Im}{vs vr:Sv}{es:List S8}{M:Nat→Prop}{R:Ending→World→Prop}
end
set_option maxRecDepth 100000
section
variable {ok ok1:Nat→Bool}{opn opn1:List Nat}{w w1:World}{g:Nat}{D:Im}{vs vr:Sv}{es:List S8}{M:Nat→Prop}{R:Ending→World→Prop}
end
set_option maxRecDepth 100000
theorem kidsR_calls (e:E5) {w:World}{R:Ending→World→Prop} (hK:∀w',Below w.heap.size w w'→R (.returned (slV (if e.kind=1 then e.kids else (none,0,0)))) w') :
  Calls Tryz.prog 92 #[.agg #[.int .i64 e.kind,.string e.nm,slV e.ats,.string e.text,slV e.kids]] w R:=by
 refine ok92 e.kind e.nm e.ats.1 e.ats.2.1 e.ats.2.2 e.text e.kids.1 e.kids.2.1 e.kids.2.2 ?_
 unfold F92
 refine al fun g4 w1 hb1 b4 hge4=>?_
 simp only [Addr.add_mk,Nat.zero_add,b4.cell,lds]
 refine bre (fun hk=>?_) (fun hk=>?_)
 ·rw [if_pos hk] at hK;exact hK w1 hb1
 ·rw [if_neg hk] at hK;exact hK w1 hb1
theorem own_kind {kind:Int}{nm:ByteArray}{l:List At}{t:ByteArray} (h:ownF kind nm l t=0):kind=1∨kind=2:=by
 unfold ownF at h
 by_cases h1:kind=1
 ·exact .inl h1
 ·by_cases h2:kind=2
  ·exact .inr h2
  ·simp [h1,h2] at h
theorem check_calls:∀(x:Tr) {w:World}{deep n:Nat}{e:E5}{R:Ending→World→Prop},RTr w x e→n≤4096→deep≤65→1≤deep →
  (∀w',Below w.heap.size w w'→R (.returned (.tuple #[.int .i64 ((lookF x deep n).1:Nat),.int .i64 (lookF x deep n).2])) w') →
  Calls Tryz.prog 64 #[.agg #[.int .i64 e.kind,.string e.nm,slV e.ats,.string e.text,slV e.kids],.int .i64 (deep:Nat),.int .i64 (n:Nat)] w R:=by
 refine Tr.ind fun kind nm attrs text kids ih=>?_
 intro w deep n e R hT hn hd hd1 hK
 have hT0:=hT
 simp only [RTr] at hT
 obtain⟨t1,t2,t3,t4,t5,es,t6,t7,t8⟩:=hT
 have hel:=t8.len
 refine ok64 e.kind e.nm e.ats.1 e.ats.2.1 e.ats.2.2 e.text e.kids.1 e.kids.2.1 e.kids.2.2 (deep:Nat) (n:Nat) ?_
 unfold F64
 refine al fun g4 w1 hb1 b4 hge4=>?_
 have hlook:lookF (.mk kind nm attrs text kids) deep n=if 64 < deep∨4096≤n then (n,2) else if ownF kind nm attrs text≠0 then (n,ownF kind nm attrs text) else if kind=2 then (n+1,0) else looksF kids (deep+1) (n+1):=by rw [lookF]
 refine⟨fun w'=>w1=w'∧¬(64 < deep∨4096≤n),?_,?_⟩
 ·rintro _ ⟨rfl,hlim⟩
  rw [if_neg hlim] at hlook
  unfold F64_j3
  simp only [Addr.add_mk,Nat.zero_add,b4.cell,lds]
  refine own2_calls e.kind e.nm attrs e.ats e.text e.kids (t4.keep hb1) fun w2 hb2=>⟨_,rfl,?_⟩
  rw [t1,t2,t3]
  have b42:=b4.keep hb2
  have B2:=btr hb1 hb1.size hb2
  refine brn (fun hne=>?_) (fun heq=>?_)
  ·rw [if_pos hne] at hlook
   have:=hK w2 B2
   rw [hlook] at this;exact this
  have heq:ownF kind nm attrs text=0:=heq
  rw [if_neg (by rw [heq];simp)] at hlook
  simp only [Addr.add_mk,Nat.zero_add,b42.cell,lds]
  have e5:((n:Nat):Int)+1=((n+1:Nat):Int):=by omega
  rw [e5]
  refine⟨inR_i64 (by omega) (by omega),?_⟩
  have hkk:=own_kind heq
  refine kidsR_calls e fun w3 hb3=>?_
  have B3:=btr B2 B2.size hb3
  rcases hkk with hk1 | hk2
  ·rw [if_pos (by omega)]
   rw [if_neg (by omega)] at hlook
   refine⟨_,_,_,rfl,?_⟩
   refine⟨fun n2 j w'=>∃k n':Nat,n2=n'∧j=k∧k≤kids.length∧Below w.heap.size w w'∧(looksF (kids.take k) (deep+1) (n+1)).2=0∧n'=(looksF (kids.take k) (deep+1) (n+1)).1∧n'≤4096,fun _ j _=>kids.length-j.toNat,
    ⟨0,n+1,rfl,rfl,by omega,B3,by simp [looksF],by simp [looksF],by omega⟩,?_⟩
   rintro n2 j w5 ⟨k,n5,rfl,rfl,hk5,B5,q1,q2,q4⟩
   unfold F64_l9
   have hr5:Rd LE5 w5 e.kids.1 e.kids.2.2 es:=t7.keep B5
   refine brd (fun hlt=>?_) (fun hge=>?_)
   ·have hk6:k < kids.length:=by omega
    have hk7:k < es.length:=by omega
    refine hr5.e5 t6 rfl (k:=k) hk7 fun bb oo c0 c1 c2 c3 c4=>?_
    simp only [Addr.add_mk,Nat.zero_add,c0,c1,c2,c3,c4,lds]
    have e8:((deep:Nat):Int)+1=((deep+1:Nat):Int):=by omega
    rw [e8]
    refine⟨inR_i64 (by omega) (by omega),?_⟩
    have hdp:deep+1≤65:=by omega
    refine ih kids[k] (List.getElem_mem hk6) (n:=n5) (e:=es[k]) ((t8.get k hk6 hk7).keep B5) q4 (by omega) (by omega) fun w8 hb8=>⟨_,_,rfl,?_⟩
    have B8:=btr B5 B5.size hb8
    have hst:=looks_app (kids.take k) [kids[k]] (deep+1) (n+1)
    rw [if_neg (by rw [q1];simp),←q2] at hst
    have hst2:looksF [kids[k]] (deep+1) n5=lookF kids[k] (deep+1) n5:=by
     rw [looksF]
     by_cases h:(lookF kids[k] (deep+1) n5).2≠0
     ·rw [if_pos h]
     ·rw [if_neg h,looksF]
      have h:(lookF kids[k] (deep+1) n5).2=0:=by simpa using h
      rw [←h]
    rw [hst2,←List.take_succ_eq_append_getElem hk6] at hst
    refine brn (fun hne=>?_) (fun heq=>?_)
    ·have hall:=looks_app (kids.take (k+1)) (kids.drop (k+1)) (deep+1) (n+1)
     rw [List.take_append_drop,hst,if_pos hne] at hall
     rw [hall] at hlook
     have:=hK w8 B8
     rw [hlook] at this;exact this
    ·obtain⟨a1,a2,a3,a4⟩:=look_ok kids[k] (deep+1) n5 heq
     refine⟨inR_i64 (by omega) (by omega),⟨k+1,(lookF kids[k] (deep+1) n5).1,rfl,by simp,by omega,B8,by rw [hst];exact heq,by rw [hst],by omega⟩,(by first | omega | (dsimp only;omega))⟩
   ·have hk6:k=kids.length:=by omega
    subst hk6
    rw [List.take_length] at q1 q2
    have:=hK w5 B5
    rw [hlook,q1,←q2] at this;exact this
  ·rw [if_neg (by omega)]
   rw [if_pos hk2] at hlook
   refine⟨none,0,0,rfl,?_⟩
   refine⟨fun n2 j w'=>n2=((n+1:Nat):Int)∧j=0∧Below w.heap.size w w',fun _ _ _=>0,⟨rfl,rfl,B3⟩,?_⟩
   rintro n2 j w5 ⟨rfl,rfl,B5⟩
   unfold F64_l9
   refine brd (fun hlt=>absurd hlt (by simp)) (fun _=>?_)
   have:=hK w5 B5
   rw [hlook] at this;exact this
 ·have hbad:(64 < deep∨4096≤n)→R (.returned (.tuple #[.int .i64 (n:Nat),.int .i64 2])) w1:=fun h=>by
   rw [if_pos h] at hlook
   have:=hK w1 hb1
   rw [hlook] at this;exact this
  refine brd (fun h=>hbad (.inl (by omega))) (fun h=>?_)
  exact brd (fun h2=>hbad (.inr (by omega))) (fun h2=>⟨rfl,by omega⟩)
theorem Check_calls (x:Tr) {w:World}{e:E5}{R:Ending→World→Prop} (hT:RTr w x e) (hK:∀w',Below w.heap.size w w'→R (.returned (.int .i64 (lookF x 1 0).2)) w') :
  Calls Tryz.prog 33 #[.agg #[.int .i64 e.kind,.string e.nm,slV e.ats,.string e.text,slV e.kids]] w R:=by
 refine ok33 e.kind e.nm e.ats.1 e.ats.2.1 e.ats.2.2 e.text e.kids.1 e.kids.2.1 e.kids.2.2 ?_
 unfold F33
 refine al fun g4 w1 hb1 b4 hge4=>?_
 simp only [Addr.add_mk,Nat.zero_add,b4.cell,lds]
 exact check_calls x (deep:=1) (n:=0) (hT.keep hb1) (by omega) (by omega) (by omega) fun w2 hb2=>⟨_,_,rfl,hK w2 (btr hb1 hb1.size hb2)⟩
set_option maxRecDepth 100000
section
variable {α:Type}{L:Lay α}{w w1:World}{e:TypeId}{q:Nat}
end
section
variable {ok ok1 ok2:Nat→Bool}{opn opn1:List Nat}{w w1 w2:World}{g:Nat}{D:Im}{vs vr:Sv}{es:List S8}{M:Nat→Prop}{R:Ending→World→Prop}
end
set_option maxRecDepth 100000
section
variable {ok ok1 ok2:Nat→Bool}{opn opn1:List Nat}{w w1 w2:World}{g:Nat}{D:Im}{vs vr:Sv}{es:List S8}{M:Nat→Prop}{R:Ending→World→Prop}
end
section
variable {g:Nat}
end
set_option maxRecDepth 100000
section
variable {ok:Nat→Bool}{w w1:World}{g:Nat}{D:Im}{vs vr:Sv}{R:Ending→World→Prop}
end
set_option maxRecDepth 100000
section
variable {ok:Nat→Bool}{opn:List Nat}{w w1 w0:World}{g:Nat}{D:Im}{vs vr:Sv}{es:List S8}{R:Ending→World→Prop}
end
set_option maxRecDepth 100000
section
variable {opn:List Nat}{w w1 w0:World}{g:Nat}{D:Im}{vs vr:Sv}{es:List S8}{R:Ending→World→Prop}{loose:List Nat}
end
set_option maxRecDepth 100000
section
variable {ok:Nat→Bool}{opn:List Nat}{w w1 w0:World}{g:Nat}{D:Im}{vs vr:Sv}{es:List S8}{R:Ending→World→Prop}{loose:List Nat}
end
set_option maxRecDepth 100000
section
variable {ok:Nat→Bool}{opn:List Nat}{w w1 w0:World}{g:Nat}{D:Im}{vs vr:Sv}{es:List S8}{R:Ending→World→Prop}{loose:List Nat}
end
end Go.Proofs.YtncbjdgcgclnnaaGreatDoor
set_option linter.unusedVariables false
set_option maxRecDepth 100000
namespace Go.Proofs.YtncbjdgcgclnnaaGreatDoor
open Go.Vc
def F28_l4 (g1:Addr) (g2:Addr) (L4:Option Addr→Nat→Nat→Int→World→Prop) (l:Option Addr) (lN:Nat) (lC:Nat) (i:Int) (ua:World) (R:Ending→World→Prop):Prop :=
 LdSl (ua.cell? (g1.add 4)) fun ab ka sa =>
 Br (decide (i < ((ka:Nat):Int)))
 (LdSl (ua.cell? (g1.add 4)) fun ya ra na =>
 IdxA ya ra i 5 fun za =>
 LdI .i64 (ua.cell? za) fun s =>
 LdStr (ua.cell? (za.add 1)) fun r =>
 LdSl (ua.cell? (za.add 2)) fun ha c m =>
 LdStr (ua.cell? (za.add 3)) fun fa =>
 LdSl (ua.cell? (za.add 4)) fun ea d e =>
 Calls Tryz.prog 28 #[(.agg #[(.int .i64 s),(.string r),(.slice ha c m),(.string fa),(.slice ea d e)])] ua (post R fun v2 pa =>
 ∃(q:Int) (ca:ByteArray) (v:Option Addr) (g:Nat) (k:Nat) (aa:ByteArray) (t:Option Addr) (h:Nat) (a:Nat),v2=(.agg #[(.int .i64 q),(.string ca),(.slice v g k),(.string aa),(.slice t h a)]) ∧
 Al pa #[(.int .i64 q),(.string ca),(.slice v g k),(.string aa),(.slice t h a)] 54 fun g25 qa =>
 Raw Tryz.prog (Builtin.append_ #[52,52] 52 #[(.slice l lN lC),(.slice (some g25) 1 1)]) qa fun v3 ta =>
 ∃(va:Option Addr) (ma:Nat) (ja:Nat),v3=(.slice va ma ja) ∧
 InR .i64 (i+(1:Int))∧L4 va ma ja (i+(1:Int)) ta))
 (St ua (g1.add 4) (.slice l lN lC) fun pa =>
 LdI .i64 (pa.cell? g1) fun ba =>
 LdStr (pa.cell? (g1.add 1)) fun p =>
 LdSl (pa.cell? (g1.add 2)) fun ga n j =>
 LdStr (pa.cell? (g1.add 3)) fun da =>
 LdSl (pa.cell? (g1.add 4)) fun z f b =>
 St pa g2 (.int .i64 ba) fun qa =>
 St qa (g2.add 1) (.string p) fun ta =>
 St ta (g2.add 2) (.slice ga n j) fun y =>
 St y (g2.add 3) (.string da) fun ia =>
 St ia (g2.add 4) (.slice z f b) fun u =>
 LdI .i64 (u.cell? g2) fun res0_0 =>
 LdStr (u.cell? (g2.add 1)) fun res0_1 =>
 LdSl (u.cell? (g2.add 2)) fun res0_2 res0_2N res0_2C =>
 LdStr (u.cell? (g2.add 3)) fun res0_3 =>
 LdSl (u.cell? (g2.add 4)) fun res0_4 res0_4N res0_4C =>
 R (.returned (.agg #[(.int .i64 res0_0),(.string res0_1),(.slice res0_2 res0_2N res0_2C),(.string res0_3),(.slice res0_4 res0_4N res0_4C)])) u)
def F28 (x_0:Int) (x_1:ByteArray) (x_2:Option Addr) (x_2N:Nat) (x_2C:Nat) (x_3:ByteArray) (x_4:Option Addr) (x_4N:Nat) (x_4C:Nat) (n:World) (R:Ending→World→Prop):Prop :=
 Al n #[(.int .i64 x_0),(.string x_1),(.slice x_2 x_2N x_2C),(.string x_3),(.slice x_4 x_4N x_4C)] 54 fun g1 w1 =>
 Al w1 #[(.int .i64 0),(.string (ByteArray.mk #[])),(.slice none 0 0),(.string (ByteArray.mk #[])),(.slice none 0 0)] 54 fun g2 c =>
 Al c #[] 120 fun g5 d =>
 LdSl (d.cell? (g1.add 2)) fun p k h =>
 Raw Tryz.prog (Builtin.append_ #[51,51] 51 #[(.slice (some g5) 0 0),(.slice p k h)]) d fun v f =>
 ∃(q:Option Addr) (g:Nat) (j:Nat),v=(.slice q g j) ∧
 St f (g1.add 2) (.slice q g j) fun a =>
 Al a #[] 54 fun g10 e =>
 ∃(I:Option Addr→Nat→Nat→Int→World→Prop) (m:Option Addr→Nat→Nat→Int→World→Nat),I (some g10) 0 0 (0:Int) e ∧
 ∀(l:Option Addr) (lN:Nat) (lC:Nat) (i:Int) (b:World),I l lN lC i b→F28_l4 g1 g2 (fun l' lN' lC' i' w2=>I l' lN' lC' i' w2∧m l' lN' lC' i' w2 < m l lN lC i b) l lN lC i b R
theorem ok28 (x_0:Int) (x_1:ByteArray) (x_2:Option Addr) (x_2N:Nat) (x_2C:Nat) (x_3:ByteArray) (x_4:Option Addr) (x_4N:Nat) (x_4C:Nat) {w:World}{R:Ending→World→Prop} (h:F28 x_0 x_1 x_2 x_2N x_2C x_3 x_4 x_4N x_4C w R):Calls Tryz.prog 28 #[(.agg #[(.int .i64 x_0),(.string x_1),(.slice x_2 x_2N x_2C),(.string x_3),(.slice x_4 x_4N x_4C)])] w R :=
 vc_calls (pl:=⟨30,⟨[]⟩,[],[(4,⟨[(3,(.s .slice)),(4,(.s (.int .i64)))],[(3,27)]⟩)]⟩) Tryz.func28 (by kernel_rfl) (by kernel_rfl) (by kernel_rfl) (Eq.mp (by kernel_rfl) h)
end Go.Proofs.YtncbjdgcgclnnaaGreatDoor
namespace Go.Proofs.YtncbjdgcgclnnaaGreatDoor
open Go.RowKit Go.Vc
set_option linter.unusedVariables false
set_option linter.unusedSimpArgs false
set_option maxRecDepth 100000
mutual
def OTr (w:World):Tr→E5→Nat→Nat→Prop
 | .mk kind nm attrs text ks,e,lo,hi=>e.kind=kind∧e.nm=nm∧e.text=text∧attrs.length≤1048576∧ks.length≤1048576∧Own LAt w 0 120 (slV e.ats) attrs∧∃mid es,lo≤mid∧mid≤hi∧(∀b,rowOf (slV e.ats)=some b→lo≤b∧b < mid) ∧
   Own LE5 w 0 54 (slV e.kids) es∧(∀b,rowOf (slV e.kids)=some b→mid≤b∧b < hi)∧OTl w ks es mid hi (rowOf (slV e.kids))
def OTl (w:World):List Tr→List E5→Nat→Nat→Option Nat→Prop
 | [],es,_,_,_=>es=[]
 | t :: ts,es,lo,hi,x=>∃e es' a b,es=e :: es'∧lo≤a∧a≤b∧b≤hi∧(∀r,x=some r→¬(a≤r∧r < b))∧OTr w t e a b∧OTl w ts es' b hi x
end
mutual
theorem OTr.fm {w w1:World}{M:Nat→Prop} (hf:Fm M w w1):∀(t:Tr) (e:E5) (lo hi:Nat),(∀b,lo≤b→b < hi→¬M b)→OTr w t e lo hi→OTr w1 t e lo hi
 | .mk kind nm attrs text ks,e,lo,hi,hm,h=>by
  simp only [OTr] at h ⊢
  obtain⟨h1,h2,h3,h4,h5,h6,mid,es,h7,h8,h9,h10,h11,h12⟩:=h
  exact⟨h1,h2,h3,h4,h5,own_fm h6 hf fun b hb=>by have:=h9 b hb;exact hm b this.1 (by omega),mid,es,h7,h8,h9,own_fm h10 hf fun b hb=>by have:=h11 b hb;exact hm b (by omega) this.2,h11,OTl.fm hf ks es mid hi _ (fun b h1 h2 _=>hm b (by omega) h2) h12⟩
theorem OTl.fm {w w1:World}{M:Nat→Prop} (hf:Fm M w w1):∀(ts:List Tr) (es:List E5) (lo hi:Nat) (x:Option Nat),(∀b,lo≤b→b < hi→x≠some b→¬M b)→OTl w ts es lo hi x→OTl w1 ts es lo hi x
 | [],es,lo,hi,x,hm,h=>by simp only [OTl] at h ⊢;exact h
 | t :: ts,es,lo,hi,x,hm,h=>by
  simp only [OTl] at h ⊢
  obtain⟨e,es',a,b,h1,h2,h3,h4,h5,h6,h7⟩:=h
  exact⟨e,es',a,b,h1,h2,h3,h4,h5,OTr.fm hf t e a b (fun c h8 h9=>hm c (by omega) (by omega) fun e=>h5 c e ⟨h8,h9⟩) h6,OTl.fm hf ts es' b hi x (fun c h8 h9 h10=>hm c (by omega) h9 h10) h7⟩
end
theorem OTl.len {w:World}:∀{ts:List Tr}{es:List E5}{lo hi:Nat}{x:Option Nat},OTl w ts es lo hi x→es.length=ts.length
 | [],es,_,_,_,h=>by simp only [OTl] at h;subst h;rfl
 | t :: ts,es,_,_,_,h=>by
  simp only [OTl] at h
  obtain⟨e,es',a,b,rfl,_,_,_,_,_,h7⟩:=h
  simp [h7.len]
theorem OTl.snoc {w:World}{t:Tr}{e:E5}{a b hi':Nat}{x:Option Nat} (ht:OTr w t e a b) (hab:a≤b) (hb:b≤hi') (hx:∀r,x=some r→¬(a≤r∧r < b)):∀{ts:List Tr}{es:List E5}{lo hi:Nat},OTl w ts es lo hi x→lo≤a→hi≤a→OTl w (ts++[t]) (es++[e]) lo hi' x
 | [],es,lo,hi,h,h0,h1=>by
  simp only [OTl] at h
  subst h
  simp only [List.nil_append,OTl]
  exact⟨e,[],a,b,rfl,h0,hab,hb,hx,ht,rfl⟩
 | u :: ts,es,lo,hi,h,h0,h1=>by
  simp only [OTl] at h
  obtain⟨e',es',a',b',rfl,h2,h3,h4,h5,h6,h7⟩:=h
  simp only [List.cons_append,OTl]
  exact⟨e',_,a',b',rfl,h2,h3,by omega,h5,h6,OTl.snoc ht hab hb hx h7 (by omega) h1⟩
theorem OTl.other {w:World}{x x':Option Nat}:∀{ts:List Tr}{es:List E5}{lo hi:Nat},OTl w ts es lo hi x→(∀r,x'=some r→x=some r∨hi≤r)→OTl w ts es lo hi x'
 | [],es,lo,hi,h,_=>by simp only [OTl] at h ⊢;exact h
 | u :: ts,es,lo,hi,h,hx=>by
  simp only [OTl] at h ⊢
  obtain⟨e',es',a',b',rfl,h2,h3,h4,h5,h6,h7⟩:=h
  refine⟨e',es',a',b',rfl,h2,h3,h4,fun r hr=>?_,h6,h7.other hx⟩
  rcases hx r hr with e | e
  ·exact h5 r e
  ·omega
theorem OTl.wide {w:World}{x:Option Nat}{hi':Nat}:∀{ts:List Tr}{es:List E5}{lo hi:Nat},OTl w ts es lo hi x→hi≤hi'→OTl w ts es lo hi' x
 | [],es,lo,hi,h,_=>by simp only [OTl] at h ⊢;exact h
 | u :: ts,es,lo,hi,h,hx=>by
  simp only [OTl] at h ⊢
  obtain⟨e',es',a',b',rfl,h2,h3,h4,h5,h6,h7⟩:=h
  exact⟨e',es',a',b',rfl,h2,h3,by omega,h5,h6,h7.wide hx⟩
theorem own_rr {α:Type}{L:Lay α}{w:World}{ok:Nat→Bool}{q:Nat}{e:TypeId}{v:Sv}{xs:List α} (o:Own L w q e (slV v) xs) (h1:∀b,rowOf (slV v)=some b→ok b=true) (hl:xs.length≤1048576):RR L (wOnly ok w) xs v:=by
 have ho:Own L (wOnly ok w) q e (slV v) xs:=by
  rcases o with h2 | h2 | ⟨g',c',cur,hv,hb,hh,hn,hm,hs,ht⟩
  ·exact .inl h2
  ·exact .inr (.inl h2)
  ·exact .inr (.inr ⟨g',c',cur,hv,hb,cells_only (h1 g' (by rw [hv];rfl)) hh,hn,hm,hs,ht⟩)
 obtain⟨A,c,hv,hr⟩:=ho.form
 rw [slv_form hv]
 exact⟨hl,rfl,hr⟩
mutual
theorem OTr.rtr {w:World}{ok:Nat→Bool}:∀(t:Tr) (e:E5) (lo hi:Nat),(∀b,lo≤b→b < hi→ok b=true)→OTr w t e lo hi→RTr (wOnly ok w) t e
 | .mk kind nm attrs text ks,e,lo,hi,hm,h=>by
  simp only [OTr] at h
  obtain⟨h1,h2,h3,h4,h5,h6,mid,es,h7,h8,h9,h10,h11,h12⟩:=h
  simp only [RTr]
  have hl:=h12.len
  obtain⟨z0,z1,z2⟩:=own_rr h10 (ok:=ok) (fun b hb=>by have:=h11 b hb;exact hm b (by omega) this.2) (by omega)
  exact⟨h1,h2,h3,own_rr h6 (fun b hb=>by have:=h9 b hb;exact hm b this.1 (by omega)) h4,h5,es,z1,z2,OTl.rtl ks es mid hi _ (fun b h1 h2=>hm b (by omega) h2) h12⟩
theorem OTl.rtl {w:World}{ok:Nat→Bool}:∀(ts:List Tr) (es:List E5) (lo hi:Nat) (x:Option Nat),(∀b,lo≤b→b < hi→ok b=true)→OTl w ts es lo hi x→RTl (wOnly ok w) ts es
 | [],es,lo,hi,x,hm,h=>by simp only [OTl] at h;simp only [RTl];exact h
 | t :: ts,es,lo,hi,x,hm,h=>by
  simp only [OTl] at h
  simp only [RTl]
  obtain⟨e,es',a,b,h1,h2,h3,h4,h5,h6,h7⟩:=h
  exact⟨e,es',h1,OTr.rtr t e a b (fun c h8 h9=>hm c (by omega) (by omega)) h6,OTl.rtl ts es' b hi x (fun c h8 h9=>hm c (by omega) h9) h7⟩
end
theorem copied_calls:∀(x:Tr) {w:World}{e:E5}{R:Ending→World→Prop},RTr w x e →
  (∀w' e',Below w.heap.size w w'→OTr w' x e' w.heap.size w'.heap.size→R (.returned (.agg #[.int .i64 e'.kind,.string e'.nm,slV e'.ats,.string e'.text,slV e'.kids])) w') →
  Calls Tryz.prog 28 #[.agg #[.int .i64 e.kind,.string e.nm,slV e.ats,.string e.text,slV e.kids]] w R:=by
 refine Tr.ind fun kind nm attrs text kids ih=>?_
 intro w e R hT hK
 simp only [RTr] at hT
 obtain⟨t1,t2,t3,⟨y0,y1,y2⟩,t5,et,t6,t7,t8⟩:=hT
 have hel:=t8.len
 refine ok28 e.kind e.nm e.ats.1 e.ats.2.1 e.ats.2.2 e.text e.kids.1 e.kids.2.1 e.kids.2.2 ?_
 unfold F28
 refine al fun g1 w1 hb1 b1 hge1=>al fun g2 w2 hb2 b2 hge2=>al fun g5 w3 hb3 b5 hge5=>?_
 have B2:=btr hb1 hb1.size hb2
 have B3:=btr B2 B2.size hb3
 have b13:=(b1.keep hb2).keep hb3
 simp only [Addr.add_mk,Nat.zero_add,b13.cell,lds]
 have hm32:attrs.length*32≤1048576*32:=Nat.mul_le_mul y0 (Nat.le_refl _)
 have hg1:=b1.lt
 have hg2:=b2.lt
 have hs1:=hb1.size
 have hs2:=hb2.size
 have hs3:=hb3.size
 refine ap (L:=LAt) (e:=120) (xs:=[]) (ys:=attrs) (base:=w3.heap.size) (.agg #[.string ⟨#[]⟩,.string ⟨#[]⟩]) 32 y1 (by kernel_rfl) (by kernel_rfl) (by kernel_rfl) (Own.bare _ _ _ _ _) (y2.keep B3) (Nat.le_refl _) (by simp only [List.length_nil,Nat.zero_add];omega) (by simp [maxLen];omega) fun A4 c4 w4 o4 g4=>⟨A4,_,c4,rfl,?_⟩
 rw [List.nil_append] at o4
 have B4:Below w.heap.size w w4:=B3.trans (g4.below.mono (by omega))
 have hs4:=g4.lt
 generalize hav:(A4,([]:List At).length+attrs.length,c4)=av at *
 have hav':Value.slice A4 (([]:List At).length+attrs.length) c4=slV av:=by rw [←hav];rfl
 rw [hav'] at o4 ⊢
 refine st_blk (b13.keep g4.below) (by simp) fun w5 b15 f5=>?_
 simp only [List.setIfInBounds_toArray,List.set_cons_zero,List.set_cons_succ] at b15
 have hs5:=f5.size
 refine al fun g10 w6 hb6 b10 hge10=>?_
 have hs6:=hb6.size
 have b16:=b15.keep hb6
 have b26:Blk w6 g2 _ 54:=(f5.blk ((b2.keep hb3).keep g4.below) (fun e=>by have e:g2=g1:=e;omega)).keep hb6
 have B6:Below w.heap.size w w6:=(B4.trans (f5.toBelow (by omega) fun b hb e=>by have e:b=g1:=e;omega)).trans (hb6.mono (by omega))
 have o6:Own LAt w6 w3.heap.size 120 (slV av) attrs:=(own_fm o4 f5 fun b hb e=>by have e:b=g1:=e;have:=(o4.lt b hb).1;omega).keep hb6
 have hatr:∀b,rowOf (slV av)=some b→w3.heap.size≤b∧b < w6.heap.size:=fun b hb=>o6.lt b hb
 refine⟨fun l lN lC j w'=>∃(k:Nat) (es':List E5),j=k∧k≤kids.length∧Below w.heap.size w w'∧w6.heap.size≤w'.heap.size∧Blk w' g1 #[.int .i64 e.kind,.string e.nm,slV av,.string e.text,slV e.kids] 54∧Blk w' g2 #[.int .i64 0,.string (ByteArray.mk #[]),.slice none 0 0,.string (ByteArray.mk #[]),.slice none 0 0] 54 ∧
   Own LAt w' w3.heap.size 120 (slV av) attrs∧Own LE5 w' w6.heap.size 54 (.slice l lN lC) es'∧OTl w' (kids.take k) es' w6.heap.size w'.heap.size (rowOf (.slice l lN lC)),fun _ _ _ j _=>kids.length-j.toNat,
  ⟨0,[],rfl,by omega,B6,Nat.le_refl _,b16,b26,o6,Own.bare _ _ _ _ _,by simp [OTl]⟩,?_⟩
 rintro l lN lC j w7 ⟨k,es7,rfl,hk7,B7,hs7,b17,b27,o7,ol,hot⟩
 unfold F28_l4
 have hel7:=hot.len
 rw [List.length_take] at hel7
 have hlr:∀b,rowOf (.slice l lN lC)=some b→w6.heap.size≤b∧b < w7.heap.size:=fun b hb=>ol.lt b hb
 simp only [Addr.add_mk,Nat.zero_add,b17.cell,lds]
 simp only [slV,lds]
 refine brd (fun hlt=>?_) (fun hge=>?_)
 ·have hk2:k < kids.length:=by omega
  have hk3:k < et.length:=by omega
  refine (t7.keep B7).e5 t6 rfl hk3 fun bb oo c0 c1 c2 c3 c4=>?_
  simp only [Addr.add_mk,Nat.zero_add,c0,c1,c2,c3,c4,lds]
  refine ih kids[k] (List.getElem_mem hk2) (e:=et[k]) ((t8.get k hk2 hk3).keep B7) fun w8 e8 hb8 hot8=>⟨_,_,_,_,_,_,_,_,_,rfl,?_⟩
  have hs8:=hb8.size
  refine al fun g25 w9 hb9 b9 hge9=>?_
  have hs9:=hb9.size
  have r9:Rd LE5 w9 (some ⟨g25,0,none⟩) 1 [e8]:=by
   refine⟨by simp,by simp [maxLen],fun h0=>(by cases h0),fun _=>⟨g25,0,rfl,fun j u hj=>?_⟩⟩
   rw [LE5.all_one] at hj
   rw [b9.cell];simpa [LE5,E5.cells,slV] using hj
  have D9:Below w7.heap.size w7 w9:=btr hb8 hb8.size hb9
  refine ap (L:=LE5) (e:=54) (xs:=es7) (ys:=[e8]) (base:=w6.heap.size) (v:=.slice l lN lC) (.agg #[.int .i64 0,.string (ByteArray.mk #[]),.slice none 0 0,.string (ByteArray.mk #[]),.slice none 0 0]) 88 rfl (by kernel_rfl) (by kernel_rfl) (by kernel_rfl) (ol.keep D9) r9 (by omega) (by simp;omega) (by simp [maxLen];omega) fun A' c' w10 o10 g10'=>⟨A',_,c',rfl,?_⟩
  have F10:Fm (fun b=>rowOf (.slice l lN lC)=some b) w9 w10:=Fm.grown g10'.grown fun x hx=>hx
  have hs10:=F10.size
  have hrow:∀b,rowOf (.slice A' (es7.length+[e8].length) c')=some b→rowOf (.slice l lN lC)=some b∨w9.heap.size≤b:=fun b hb=>by
   rcases g10'.row with e | e | ⟨g,e,hge⟩
   ·left;rw [←e];exact hb
   ·rw [e] at hb;cases hb
   ·right;rw [e] at hb;cases hb;exact hge
  refine⟨inR_i64 (by omega) (by omega),⟨k+1,es7++[e8],by simp,by omega,(B7.trans (D9.mono (by omega))).trans (F10.toBelow (by omega) fun b hb e=>by have:=(hlr b e).1;omega),by omega,F10.blk (b17.keep D9) (fun e=>by have:=(hlr _ e).1;omega),F10.blk (b27.keep D9) (fun e=>by have:=(hlr _ e).1;omega),own_fm (o7.keep D9) F10 (fun b hb e=>by have:=(hlr b e).1;have:=(hatr b hb).2;omega),o10,?_⟩,(by first | omega | (dsimp only;omega))⟩
  rw [List.take_succ_eq_append_getElem hk2]
  refine OTl.snoc (a:=w7.heap.size) (b:=w8.heap.size) ?_ (by omega) (by omega) (fun r hr h9=>?_) (hi:=w7.heap.size) ?_ (by omega) (Nat.le_refl _)
  ·exact OTr.fm ((Fm.below (M:=fun b=>rowOf (.slice l lN lC)=some b) hb9).trans F10) _ _ _ _ (fun b h1 h2 e=>by have:=(hlr b e).2;omega) hot8
  ·rcases hrow r hr with e | e
   ·have:=(hlr r e).2;omega
   ·omega
  ·refine OTl.other (OTl.fm ((Fm.below (M:=fun b=>rowOf (.slice l lN lC)=some b) D9).trans F10) _ _ _ _ _ (fun b _ _ h1 h2=>h1 h2) hot) fun r hr=>?_
   rcases hrow r hr with e | e
   ·exact .inl e
   ·right;omega
 ·have hk2:k=kids.length:=by omega
  subst hk2
  rw [List.take_length] at hot
  refine st_blk b17 (by simp) fun w8 b18 f8=>?_
  simp only [List.setIfInBounds_toArray,List.set_cons_zero,List.set_cons_succ] at b18
  simp only [Addr.add_mk,Nat.zero_add,b18.cell,lds]
  simp only [slV,lds]
  have b28:=f8.blk b27 (fun e=>by have e:g2=g1:=e;omega)
  refine st_blk b28 (by simp) fun v1 p1 r1=>st_blk p1 (by simp) fun v2 p2 r2=>st_blk p2 (by simp) fun v3 p3 r3=>st_blk p3 (by simp) fun v4 p4 r4=>st_blk p4 (by simp) fun w9 p5 r5=>?_
  simp only [List.setIfInBounds_toArray,List.set_cons_zero,List.set_cons_succ] at p5
  have F9:Fm (·=g2) w8 w9:=(((r1.trans r2).trans r3).trans r4).trans r5
  simp only [Addr.add_mk,Nat.zero_add,p5.cell,lds]
  have FF:Fm (fun b=>b=g1∨b=g2) w7 w9:=(f8.mono fun b _ e=>.inl e).trans (F9.mono fun b _ e=>.inr e)
  have hs9:=FF.size
  have hkl:lN=es7.length:=by
   obtain⟨A,c,hv,_⟩:=ol.form
   cases hv;rfl
  have:=hK w9 ⟨e.kind,e.nm,av,e.text,(l,lN,lC)⟩ (B7.trans (FF.toBelow (by omega) fun b hb e=>by rcases e with e | e <;> omega)) ?_
  ·exact this
  ·simp only [OTr]
   refine⟨t1,t2,t3,y0,t5,(own_fm o7 FF fun b hb e=>by have:=(hatr b hb).1;rcases e with e | e <;> omega).rebase fun k _=>Nat.zero_le _,w6.heap.size,es7,by omega,by omega,fun b hb=>?_,(own_fm ol FF fun b hb e=>by have:=(hlr b hb).1;rcases e with e | e <;> omega).rebase fun k _=>Nat.zero_le _,fun b hb=>?_,?_⟩
   ·have:=hatr b hb;omega
   ·have:=hlr b hb;omega
   ·exact (OTl.fm FF _ _ _ _ _ (fun b h1 h2 h3 h4=>by rcases h4 with e | e <;> omega) hot).wide hs9
set_option maxRecDepth 100000
structure O1 where
 kind:Int
 node:Nat
 at_:Nat
 wh:Int
 nm:ByteArray
 val:ByteArray
 t:Tr
structure E11 where
 o:O1
 e:E5
def E11.cells (x:E11):List Value:=[.int .i64 x.o.kind,.int .u64 (x.o.node:Nat),.int .u64 (x.o.at_:Nat),.int .i64 x.o.wh,.string x.o.nm,.string x.o.val,.int .i64 x.e.kind,.string x.e.nm,.slice x.e.ats.1 x.e.ats.2.1 x.e.ats.2.2,.string x.e.text,.slice x.e.kids.1 x.e.kids.2.1 x.e.kids.2.2]
def LOp:Lay E11:=⟨11,E11.cells,fun _=>rfl,fun _=>by simp [E11.cells,Value.oneCell'],by decide⟩
def sgB (k:Int):Bool:=decide (k=2) || (decide (k=4) || (decide (k=5) || decide (k=8)))
def atK (k:Int):Bool:=decide (k=6) || decide (k=7)
def cfB (a b:O1):Bool:=decide (a.node=b.node) && ((decide (a.kind=b.kind) && sgB a.kind) || ((atK a.kind && atK b.kind) && decide (a.nm=b.nm)))
def badO (pre:List O1) (o:O1):Int:=if o.kind < 1∨8 < o.kind then 170 else if (o.kind=1∨o.kind=8)∧(lookF o.t 1 0).2≠0 then (lookF o.t 1 0).2 else if (pre.any fun a=>cfB a o)=true then 171 else 0
def chkF (pre:List O1):List O1→Nat × Int
 | []=>(0,0)
 | o :: l=>if badO pre o≠0 then (pre.length,badO pre o) else chkF (pre++[o]) l
def checkF (l:List O1):Nat × Int:=if 4096 < l.length then (0,2) else chkF [] l
def ahE (pre:List E11) (n:Nat):List E11:=pre.filter fun a=>decide (a.o.node=n) && (sgB a.o.kind || atK a.o.kind)
theorem any_ah (pre:List E11) (o:O1):((pre.map (·.o)).any fun a=>cfB a o)=(ahE pre o.node).any fun a=>cfB a.o o:=by
 unfold ahE
 rw [List.any_filter,List.any_map]
 congr 1
 funext a
 simp only [Function.comp_apply]
 unfold cfB
 cases decide (a.o.node=o.node) <;> cases sgB a.o.kind <;> cases atK a.o.kind <;> simp
theorem chk_step {l:List O1}{k:Nat} (hk:k < l.length):chkF (l.take k) (l.drop k)=if badO (l.take k) l[k]≠0 then (k,badO (l.take k) l[k]) else chkF (l.take (k+1)) (l.drop (k+1)):=by
 rw [List.drop_eq_getElem_cons hk,chkF,List.take_succ_eq_append_getElem hk,List.length_take,Nat.min_eq_left (by omega)]
theorem ahE_app (pre:List E11) (x:E11) (n:Nat):ahE (pre++[x]) n=ahE pre n++(if (decide (x.o.node=n) && (sgB x.o.kind || atK x.o.kind))=true then [x] else []):=by
 unfold ahE
 rw [List.filter_append,List.filter_cons]
 rfl
theorem ahE_len (pre:List E11) (n:Nat):(ahE pre n).length≤pre.length:=List.length_filter_le _ _
def phF (k:Int):Int:=if k=1 then 1 else if k=2 then 2 else if k=8 then 3 else if k=3 then 4 else 0
def phsF (l:List O1) (p:Int) (k:Nat):List Int:=((List.range k).filter fun i:Nat=>decide ((l[i]?.map fun o=>phF o.kind)=some p)).map fun i:Nat=>(i:Int)
def planF (l:List O1) (p:Nat):List Int:=(List.range p).flatMap fun q=>phsF l (q:Nat) l.length
theorem phs_zero (l:List O1) (p:Int):phsF l p 0=[]:=rfl
theorem phs_step {l:List O1}{p:Int}{k:Nat} (hk:k < l.length):phsF l p (k+1)=phsF l p k++(if phF l[k].kind=p then [(k:Int)] else []):=by
 unfold phsF
 rw [List.range_succ,List.filter_append,List.map_append]
 congr 1
 rw [List.filter_cons,List.getElem?_eq_getElem hk,Option.map_some]
 by_cases e:phF l[k].kind=p
 ·rw [if_pos (by simpa using e),if_pos e];rfl
 ·rw [if_neg (by simpa using e),if_neg e];rfl
theorem phs_len (l:List O1) (p:Int) (k:Nat):(phsF l p k).length≤k:=by
 unfold phsF
 rw [List.length_map]
 exact Nat.le_trans (List.length_filter_le _ _) (by simp)
theorem plan_zero (l:List O1):planF l 0=[]:=rfl
theorem plan_step (l:List O1) (p:Nat):planF l (p+1)=planF l p++phsF l (p:Nat) l.length:=by
 unfold planF
 rw [List.range_succ,List.flatMap_append];simp
theorem plan_len (l:List O1):∀p,(planF l p).length≤p*l.length
 | 0=>by simp [plan_zero]
 | p+1=>by
  have:=plan_len l p
  have:=phs_len l (p:Nat) l.length
  rw [plan_step,List.length_append,Nat.add_mul];omega
end Go.Proofs.YtncbjdgcgclnnaaGreatDoor
set_option linter.unusedVariables false
set_option maxRecDepth 100000
namespace Go.Proofs.YtncbjdgcgclnnaaGreatDoor
open Go.Vc
def F74_j3 (m_:Option Addr) (op:Addr) (na:World) (R:Ending→World→Prop):Prop :=
 LdI .i64 (na.cell? op) fun ta =>
 Br (ta == (4:Int))
 (∃S:World→Prop,S na.drew∧NonNil m_ fun p25 =>
 ∃(pa:Option Addr),Held S p25 (.pointer pa)∧∃(kb:Int),Held S (op.add 1) (.int .u64 kb)∧∃(za:ByteArray),Held S (op.add 4) (.string za)∧Calls Tryz.prog 107 #[(.pointer pa),(.int .u64 kb),(.string za)] na.drew (post R fun v ja =>
 ∃(sa:Int),v=(.int .i64 sa) ∧
 R (.returned (.tuple #[(.int .u64 0),(.int .i64 sa)])) ja))
 (Br (ta == (5:Int))
 (∃S:World→Prop,S na.drew∧NonNil m_ fun p36 =>
 ∃(eb:Option Addr),Held S p36 (.pointer eb)∧∃(va:Int),Held S (op.add 1) (.int .u64 va)∧∃(nb:ByteArray),Held S (op.add 5) (.string nb)∧Calls Tryz.prog 108 #[(.pointer eb),(.int .u64 va),(.string nb)] na.drew (post R fun v ja =>
 ∃(fb:Int),v=(.int .i64 fb) ∧
 R (.returned (.tuple #[(.int .u64 0),(.int .i64 fb)])) ja))
 (Br (ta == (6:Int))
 (∃S:World→Prop,S na.drew∧NonNil m_ fun p47 =>
 ∃(ra:Option Addr),Held S p47 (.pointer ra)∧∃(gb:Int),Held S (op.add 1) (.int .u64 gb)∧∃(ma:ByteArray),Held S (op.add 4) (.string ma)∧∃(bb:ByteArray),Held S (op.add 5) (.string bb)∧Calls Tryz.prog 109 #[(.pointer ra),(.int .u64 gb),(.string ma),(.string bb)] na.drew (post R fun v ja =>
 ∃(ya:Int),v=(.int .i64 ya) ∧
 R (.returned (.tuple #[(.int .u64 0),(.int .i64 ya)])) ja))
 (Br (ta == (7:Int))
 (∃S:World→Prop,S na.drew∧NonNil m_ fun p60 =>
 ∃(pb:Option Addr),Held S p60 (.pointer pb)∧∃(hb:Int),Held S (op.add 1) (.int .u64 hb)∧∃(db:ByteArray),Held S (op.add 4) (.string db)∧Calls Tryz.prog 110 #[(.pointer pb),(.int .u64 hb),(.string db)] na.drew (post R fun v ja =>
 ∃(qb:Int),v=(.int .i64 qb) ∧
 R (.returned (.tuple #[(.int .u64 0),(.int .i64 qb)])) ja))
 (Br (ta == (1:Int))
 (∃S:World→Prop,S na.drew∧NonNil m_ fun p71 =>
 ∃(ib:Option Addr),Held S p71 (.pointer ib)∧∃(ka:Int),Held S (op.add 3) (.int .i64 ka)∧∃(ab:Int),Held S (op.add 2) (.int .u64 ab)∧∃(y:Int),Held S (op.add 6) (.int .i64 y)∧∃(t:ByteArray),Held S ((op.add 6).add 1) (.string t)∧∃(u:Option Addr) (e:Nat) (p:Nat),Held S ((op.add 6).add 2) (.slice u e p)∧∃(r:ByteArray),Held S ((op.add 6).add 3) (.string r)∧∃(z:Option Addr) (n:Nat) (f:Nat),Held S ((op.add 6).add 4) (.slice z n f)∧Calls Tryz.prog 48 #[(.pointer ib),(.int .i64 ka),(.int .u64 ab),(.agg #[(.int .i64 y),(.string t),(.slice u e p),(.string r),(.slice z n f)])] na.drew (post R fun v ja =>
 ∃(aa:Int) (s:Int),v=(.tuple #[(.int .u64 aa),(.int .i64 s)]) ∧
 R (.returned (.tuple #[(.int .u64 aa),(.int .i64 s)])) ja))
 (Br (ta == (2:Int))
 (∃S:World→Prop,S na.drew∧NonNil m_ fun p86 =>
 ∃(cb:Option Addr),Held S p86 (.pointer cb)∧∃(jb:Int),Held S (op.add 1) (.int .u64 jb)∧∃(qa:Int),Held S (op.add 3) (.int .i64 qa)∧∃(ua:Int),Held S (op.add 2) (.int .u64 ua)∧Calls Tryz.prog 111 #[(.pointer cb),(.int .u64 jb),(.int .i64 qa),(.int .u64 ua)] na.drew (post R fun v ja =>
 ∃(mb:Int),v=(.int .i64 mb) ∧
 R (.returned (.tuple #[(.int .u64 0),(.int .i64 mb)])) ja))
 (Br (ta == (3:Int))
 (LdI .u64 (na.cell? (op.add 1)) fun ba =>
 Calls Tryz.prog 112 #[(.pointer m_),(.int .u64 ba)] na (post R fun v ia =>
 ∃(da:Int),v=(.int .i64 da) ∧
 R (.returned (.tuple #[(.int .u64 0),(.int .i64 da)])) ia))
 (∃S:World→Prop,S na.drew∧NonNil m_ fun p104 =>
 ∃(fa:Option Addr),Held S p104 (.pointer fa)∧∃(ha:Int),Held S (op.add 1) (.int .u64 ha)∧∃(h:Int),Held S (op.add 6) (.int .i64 h)∧∃(m:ByteArray),Held S ((op.add 6).add 1) (.string m)∧∃(i:Option Addr) (a:Nat) (b:Nat),Held S ((op.add 6).add 2) (.slice i a b)∧∃(k:ByteArray),Held S ((op.add 6).add 3) (.string k)∧∃(g:Option Addr) (d:Nat) (c:Nat),Held S ((op.add 6).add 4) (.slice g d c)∧Calls Tryz.prog 48 #[(.pointer fa),(.int .i64 3),(.int .u64 ha),(.agg #[(.int .i64 h),(.string m),(.slice i a b),(.string k),(.slice g d c)])] na.drew (post R fun v ja =>
 ∃(q:Int) (j:Int),v=(.tuple #[(.int .u64 q),(.int .i64 j)]) ∧
 Br (j != (0:Int))
 (R (.returned (.tuple #[(.int .u64 0),(.int .i64 j)])) ja)
 (LdI .u64 (ja.cell? (op.add 1)) fun ga =>
 Calls Tryz.prog 112 #[(.pointer m_),(.int .u64 ga)] ja (post R fun v2 ea =>
 ∃(ca:Int),v2=(.int .i64 ca) ∧
 R (.returned (.tuple #[(.int .u64 q),(.int .i64 ca)])) ea))))))))))
def F74 (m_:Option Addr) (op_0:Int) (op_1:Int) (op_2:Int) (op_3:Int) (op_4:ByteArray) (op_5:ByteArray) (op_6:Int) (op_7:ByteArray) (op_8:Option Addr) (op_8N:Nat) (op_8C:Nat) (op_9:ByteArray) (op_10:Option Addr) (op_10N:Nat) (op_10C:Nat) (g:World) (R:Ending→World→Prop):Prop :=
 Al g #[(.int .i64 op_0),(.int .u64 op_1),(.int .u64 op_2),(.int .i64 op_3),(.string op_4),(.string op_5),(.int .i64 op_6),(.string op_7),(.slice op_8 op_8N op_8C),(.string op_9),(.slice op_10 op_10N op_10C)] 64 fun op w1 =>
 ∃J3:World→Prop,(∀ (b:World),J3 b→F74_j3 m_ op b R) ∧
 (∃S:World→Prop,S w1.drew∧∃(f:Int),Held S op (.int .i64 f)∧Br (f != (1:Int))
 (NonNil m_ fun p13 =>
 ∃(c:Option Nat),Held S (p13.add 1) (.map c)∧∃(e:Int),Held S (op.add 1) (.int .u64 e)∧Raw Tryz.prog (Instr.lookup 95 (.map c) (.int .u64 e) false) w1.drew fun v a =>
 ∃(d:Bool),v=(.bool d) ∧
 Br d
 (R (.returned (.tuple #[(.int .u64 0),(.int .i64 0)])) a)
 (J3 a))
 (J3 w1.drew))
theorem ok74 (m_:Option Addr) (op_0:Int) (op_1:Int) (op_2:Int) (op_3:Int) (op_4:ByteArray) (op_5:ByteArray) (op_6:Int) (op_7:ByteArray) (op_8:Option Addr) (op_8N:Nat) (op_8C:Nat) (op_9:ByteArray) (op_10:Option Addr) (op_10N:Nat) (op_10C:Nat) {w:World}{R:Ending→World→Prop} (h:F74 m_ op_0 op_1 op_2 op_3 op_4 op_5 op_6 op_7 op_8 op_8N op_8C op_9 op_10 op_10N op_10C w R):Calls Tryz.prog 74 #[(.pointer m_),(.agg #[(.int .i64 op_0),(.int .u64 op_1),(.int .u64 op_2),(.int .i64 op_3),(.string op_4),(.string op_5),(.int .i64 op_6),(.string op_7),(.slice op_8 op_8N op_8C),(.string op_9),(.slice op_10 op_10N op_10C)])] w R :=
 vc_calls (pl:=⟨122,⟨[]⟩,[(3,⟨[],[(4,20)]⟩)],[]⟩) Tryz.func74 (by kernel_rfl) (by kernel_rfl) (by kernel_rfl) (Eq.mp (by kernel_rfl) h)
def F8_l14 (l:Option Addr) (lN:Nat) (L4:Int→World→Prop) (i:Int) (op:Addr) (L14:Int→World→Prop) (k:Int) (pa:World) (R:Ending→World→Prop):Prop :=
 Br (decide (k < i))
 (∃S:World→Prop,S pa.drew∧IdxA l lN k 11 fun qa =>
 ∃(q:Int),Held S qa (.int .i64 q)∧∃(u:Int),Held S (qa.add 1) (.int .u64 u)∧∃(ea:Int),Held S (qa.add 2) (.int .u64 ea)∧∃(ba:Int),Held S (qa.add 3) (.int .i64 ba)∧∃(ha:ByteArray),Held S (qa.add 4) (.string ha)∧∃(s:ByteArray),Held S (qa.add 5) (.string s)∧∃(z:Int),Held S (qa.add 6) (.int .i64 z)∧∃(ia:ByteArray),Held S (qa.add 7) (.string ia)∧∃(p:Option Addr) (f:Nat) (j:Nat),Held S (qa.add 8) (.slice p f j)∧∃(ka:ByteArray),Held S (qa.add 9) (.string ka)∧∃(g:Option Addr) (a:Nat) (b:Nat),Held S (qa.add 10) (.slice g a b)∧∃(y:Int),Held S op (.int .i64 y)∧∃(ga:Int),Held S (op.add 1) (.int .u64 ga)∧∃(n:Int),Held S (op.add 2) (.int .u64 n)∧∃(fa:Int),Held S (op.add 3) (.int .i64 fa)∧∃(ma:ByteArray),Held S (op.add 4) (.string ma)∧∃(ca:ByteArray),Held S (op.add 5) (.string ca)∧∃(aa:Int),Held S (op.add 6) (.int .i64 aa)∧∃(r:ByteArray),Held S (op.add 7) (.string r)∧∃(ja:Option Addr) (e:Nat) (h:Nat),Held S (op.add 8) (.slice ja e h)∧∃(da:ByteArray),Held S (op.add 9) (.string da)∧∃(m:Option Addr) (d:Nat) (c:Nat),Held S (op.add 10) (.slice m d c)∧Calls Tryz.prog 34 #[(.agg #[(.int .i64 q),(.int .u64 u),(.int .u64 ea),(.int .i64 ba),(.string ha),(.string s),(.int .i64 z),(.string ia),(.slice p f j),(.string ka),(.slice g a b)]),(.agg #[(.int .i64 y),(.int .u64 ga),(.int .u64 n),(.int .i64 fa),(.string ma),(.string ca),(.int .i64 aa),(.string r),(.slice ja e h),(.string da),(.slice m d c)])] pa.drew (post R fun v t =>
 ∃(na:Bool),v=(.bool na) ∧
 Br na
 (R (.returned (.tuple #[(.int .i64 i),(.int .i64 171)])) t)
 (InR .i64 (k+(1:Int))∧L14 (k+(1:Int)) t)))
 (InR .i64 (i+(1:Int))∧L4 (i+(1:Int)) pa)
def F8_j13 (l:Option Addr) (lN:Nat) (L4:Int→World→Prop) (i:Int) (op:Addr) (b:World) (R:Ending→World→Prop):Prop :=
 ∃(I:Int→World→Prop) (m:Int→World→Nat),I (0:Int) b ∧
 ∀(k:Int) (a:World),I k a→F8_l14 l lN L4 i op (fun k' w2=>I k' w2∧m k' w2 < m k a) k a R
def F8_j9 (l:Option Addr) (lN:Nat) (L4:Int→World→Prop) (i:Int) (op:Addr) (m:World) (R:Ending→World→Prop):Prop :=
 ∃J13:World→Prop,(∀ (j:World),J13 j→F8_j13 l lN L4 i op j R) ∧
 (LdI .i64 (m.cell? op) fun p =>
 Br (p == (1:Int))
 (LdI .i64 (m.cell? (op.add 6)) fun h =>
 LdStr (m.cell? ((op.add 6).add 1)) fun k =>
 LdSl (m.cell? ((op.add 6).add 2)) fun e a d =>
 LdStr (m.cell? ((op.add 6).add 3)) fun g =>
 LdSl (m.cell? ((op.add 6).add 4)) fun f c b =>
 Calls Tryz.prog 33 #[(.agg #[(.int .i64 h),(.string k),(.slice e a d),(.string g),(.slice f c b)])] m (post R fun v j =>
 ∃(n:Int),v=(.int .i64 n) ∧
 Br (n != (0:Int))
 (R (.returned (.tuple #[(.int .i64 i),(.int .i64 n)])) j)
 (J13 j)))
 (LdI .i64 (m.cell? op) fun q =>
 Br (q == (8:Int))
 (LdI .i64 (m.cell? (op.add 6)) fun h =>
 LdStr (m.cell? ((op.add 6).add 1)) fun k =>
 LdSl (m.cell? ((op.add 6).add 2)) fun e a d =>
 LdStr (m.cell? ((op.add 6).add 3)) fun g =>
 LdSl (m.cell? ((op.add 6).add 4)) fun f c b =>
 Calls Tryz.prog 33 #[(.agg #[(.int .i64 h),(.string k),(.slice e a d),(.string g),(.slice f c b)])] m (post R fun v j =>
 ∃(n:Int),v=(.int .i64 n) ∧
 Br (n != (0:Int))
 (R (.returned (.tuple #[(.int .i64 i),(.int .i64 n)])) j)
 (J13 j)))
 (J13 m)))
def F8_l4 (l:Option Addr) (lN:Nat) (L4:Int→World→Prop) (i:Int) (ga:World) (R:Ending→World→Prop):Prop :=
 Br (decide (i < ((lN:Nat):Int)))
 (IdxA l lN i 11 fun ja =>
 LdI .i64 (ga.cell? ja) fun j =>
 LdI .u64 (ga.cell? (ja.add 1)) fun f =>
 LdI .u64 (ga.cell? (ja.add 2)) fun t =>
 LdI .i64 (ga.cell? (ja.add 3)) fun g =>
 LdStr (ga.cell? (ja.add 4)) fun v =>
 LdStr (ga.cell? (ja.add 5)) fun p =>
 LdI .i64 (ga.cell? (ja.add 6)) fun h =>
 LdStr (ga.cell? (ja.add 7)) fun q =>
 LdSl (ga.cell? (ja.add 8)) fun r c e =>
 LdStr (ga.cell? (ja.add 9)) fun m =>
 LdSl (ga.cell? (ja.add 10)) fun d b a =>
 Al ga #[(.int .i64 0),(.int .u64 0),(.int .u64 0),(.int .i64 0),(.string (ByteArray.mk #[])),(.string (ByteArray.mk #[])),(.int .i64 0),(.string (ByteArray.mk #[])),(.slice none 0 0),(.string (ByteArray.mk #[])),(.slice none 0 0)] 64 fun op w1 =>
 St w1 op (.int .i64 j) fun ea =>
 St ea (op.add 1) (.int .u64 f) fun fa =>
 St fa (op.add 2) (.int .u64 t) fun ba =>
 St ba (op.add 3) (.int .i64 g) fun y =>
 St y (op.add 4) (.string v) fun ca =>
 St ca (op.add 5) (.string p) fun z =>
 St z (op.add 6) (.int .i64 h) fun aa =>
 St aa (op.add 7) (.string q) fun da =>
 St da (op.add 8) (.slice r c e) fun n =>
 St n (op.add 9) (.string m) fun u =>
 St u (op.add 10) (.slice d b a) fun k =>
 ∃J9:World→Prop,(∀ (s:World),J9 s→F8_j9 l lN L4 i op s R) ∧
 (LdI .i64 (k.cell? op) fun ha =>
 Br (decide (ha < (1:Int)))
 (R (.returned (.tuple #[(.int .i64 i),(.int .i64 170)])) k)
 (LdI .i64 (k.cell? op) fun ia =>
 Br (decide (ia > (8:Int)))
 (R (.returned (.tuple #[(.int .i64 i),(.int .i64 170)])) k)
 (J9 k))))
 (R (.returned (.tuple #[(.int .i64 0),(.int .i64 0)])) ga)
def F8 (l:Option Addr) (lN:Nat) (lC:Nat) (a:World) (R:Ending→World→Prop):Prop :=
 Br (decide (((lN:Nat):Int) > (4096:Int)))
 (R (.returned (.tuple #[(.int .i64 0),(.int .i64 2)])) a)
 (∃(I:Int→World→Prop) (m:Int→World→Nat),I (0:Int) a ∧
 ∀(i:Int) (w1:World),I i w1→F8_l4 l lN (fun i' w2=>I i' w2∧m i' w2 < m i w1) i w1 R)
theorem ok8 (l:Option Addr) (lN:Nat) (lC:Nat) {w:World}{R:Ending→World→Prop} (h:F8 l lN lC w R):Calls Tryz.prog 8 #[(.slice l lN lC)] w R :=
 vc_calls (pl:=⟨57,⟨[]⟩,[(13,⟨[],[(2,4),(6,45)]⟩),(9,⟨[],[(2,4),(21,30)]⟩)],[(14,⟨[(7,(.s (.int .i64)))],[(2,4),(7,57)]⟩),(4,⟨[(4,(.s (.int .i64)))],[(2,57)]⟩)]⟩) Tryz.func8 (by kernel_rfl) (by kernel_rfl) (by kernel_rfl) (Eq.mp (by kernel_rfl) h)
def F10_j10 (L9:Option Addr→Nat→Nat→Int→World→Prop) (i:Int) (r3:Option Addr) (rN3:Nat) (rC3:Nat) (a:World) (R:Ending→World→Prop):Prop :=
 InR .i64 (i+(1:Int))∧L9 r3 rN3 rC3 (i+(1:Int)) a
def F10_l9 (l:Option Addr) (lN:Nat) (L6:Option Addr→Nat→Nat→Int→World→Prop) (p:Int) (L9:Option Addr→Nat→Nat→Int→World→Prop) (r2:Option Addr) (rN2:Nat) (rC2:Nat) (i:Int) (k:World) (R:Ending→World→Prop):Prop :=
 Br (decide (i < ((lN:Nat):Int)))
 (∃J10:Option Addr→Nat→Nat→World→Prop,(∀(r3:Option Addr) (rN3:Nat) (rC3:Nat) (c:World),J10 r3 rN3 rC3 c→F10_j10 L9 i r3 rN3 rC3 c R) ∧
 (IdxA l lN i 11 fun h =>
 LdI .i64 (k.cell? h) fun f =>
 Calls Tryz.prog 36 #[(.int .i64 f)] k (post R fun v2 c =>
 ∃(j:Int),v2=(.int .i64 j) ∧
 Br (j == p)
 (Al c #[(.int .i64 i)] 3 fun g38 e =>
 Raw Tryz.prog (Builtin.append_ #[27,27] 27 #[(.slice r2 rN2 rC2),(.slice (some g38) 1 1)]) e fun v3 b =>
 ∃(g:Option Addr) (d:Nat) (a:Nat),v3=(.slice g d a) ∧
 J10 g d a b)
 (J10 r2 rN2 rC2 c))))
 (InR .i64 (p+(1:Int))∧L6 r2 rN2 rC2 (p+(1:Int)) k)
def F10_l6 (l:Option Addr) (lN:Nat) (L6:Option Addr→Nat→Nat→Int→World→Prop) (r:Option Addr) (rN:Nat) (rC:Nat) (p:Int) (b:World) (R:Ending→World→Prop):Prop :=
 Br (decide (p < (5:Int)))
 (∃(I:Option Addr→Nat→Nat→Int→World→Prop) (m:Option Addr→Nat→Nat→Int→World→Nat),I r rN rC (0:Int) b ∧
 ∀(r2:Option Addr) (rN2:Nat) (rC2:Nat) (i:Int) (a:World),I r2 rN2 rC2 i a→F10_l9 l lN L6 p (fun r2' rN2' rC2' i' w2=>I r2' rN2' rC2' i' w2∧m r2' rN2' rC2' i' w2 < m r2 rN2 rC2 i a) r2 rN2 rC2 i a R)
 (R (.returned (.tuple #[(.slice r rN rC),(.int .i64 0)])) b)
def F10 (l:Option Addr) (lN:Nat) (lC:Nat) (e:World) (R:Ending→World→Prop):Prop :=
 Calls Tryz.prog 8 #[(.slice l lN lC)] e (post R fun v w1 =>
 ∃(a:Int) (b:Int),v=(.tuple #[(.int .i64 a),(.int .i64 b)]) ∧
 Br (b != (0:Int))
 (R (.returned (.tuple #[(.slice none 0 0),(.int .i64 b)])) w1)
 (Al w1 #[] 3 fun g17 c =>
 ∃(I:Option Addr→Nat→Nat→Int→World→Prop) (m:Option Addr→Nat→Nat→Int→World→Nat),I (some g17) 0 0 (0:Int) c ∧
 ∀(r:Option Addr) (rN:Nat) (rC:Nat) (p:Int) (d:World),I r rN rC p d→F10_l6 l lN (fun r' rN' rC' p' w2=>I r' rN' rC' p' w2∧m r' rN' rC' p' w2 < m r rN rC p d) r rN rC p d R))
theorem ok10 (l:Option Addr) (lN:Nat) (lC:Nat) {w:World}{R:Ending→World→Prop} (h:F10 l lN lC w R):Calls Tryz.prog 10 #[(.slice l lN lC)] w R :=
 vc_calls (pl:=⟨41,⟨[]⟩,[(10,⟨[(6,(.s .slice))],[(6,7),(28,40)]⟩)],[(9,⟨[(6,(.s .slice)),(8,(.s (.int .i64)))],[(6,7),(8,40)]⟩),(6,⟨[(6,(.s .slice)),(7,(.s (.int .i64)))],[(6,40)]⟩)]⟩) Tryz.func10 (by kernel_rfl) (by kernel_rfl) (by kernel_rfl) (Eq.mp (by kernel_rfl) h)
def F34_j5 (a:Addr) (b:Addr) (attr:Bool) (one:Bool) (e:World) (R:Ending→World→Prop):Prop :=
 Br one
 (R (.returned (.bool true)) e)
 (Br attr
 (LdStr (e.cell? (a.add 4)) fun d =>
 LdStr (e.cell? (b.add 4)) fun c =>
 R (.returned (.bool (d.toList == c.toList))) e)
 (R (.returned (.bool false)) e))
def F34_j4 (a:Addr) (b:Addr) (attr:Bool) (e:World) (R:Ending→World→Prop):Prop :=
 ∃J5:Bool→World→Prop,(∀(one:Bool) (c:World),J5 one c→F34_j5 a b attr one c R) ∧
 (LdI .i64 (e.cell? a) fun h =>
 LdI .i64 (e.cell? b) fun g =>
 Br (h == g)
 (LdI .i64 (e.cell? a) fun j =>
 Br (j == (2:Int))
 (J5 true e)
 (LdI .i64 (e.cell? a) fun i =>
 Br (i == (4:Int))
 (J5 true e)
 (LdI .i64 (e.cell? a) fun f =>
 Br (f == (5:Int))
 (J5 true e)
 (LdI .i64 (e.cell? a) fun d =>
 J5 (d == (8:Int)) e))))
 (J5 false e))
def F34 (a_0:Int) (a_1:Int) (a_2:Int) (a_3:Int) (a_4:ByteArray) (a_5:ByteArray) (a_6:Int) (a_7:ByteArray) (a_8:Option Addr) (a_8N:Nat) (a_8C:Nat) (a_9:ByteArray) (a_10:Option Addr) (a_10N:Nat) (a_10C:Nat) (b_0:Int) (b_1:Int) (b_2:Int) (b_3:Int) (b_4:ByteArray) (b_5:ByteArray) (b_6:Int) (b_7:ByteArray) (b_8:Option Addr) (b_8N:Nat) (b_8C:Nat) (b_9:ByteArray) (b_10:Option Addr) (b_10N:Nat) (b_10C:Nat) (j:World) (R:Ending→World→Prop):Prop :=
 Al j #[(.int .i64 a_0),(.int .u64 a_1),(.int .u64 a_2),(.int .i64 a_3),(.string a_4),(.string a_5),(.int .i64 a_6),(.string a_7),(.slice a_8 a_8N a_8C),(.string a_9),(.slice a_10 a_10N a_10C)] 64 fun a w1 =>
 Al w1 #[(.int .i64 b_0),(.int .u64 b_1),(.int .u64 b_2),(.int .i64 b_3),(.string b_4),(.string b_5),(.int .i64 b_6),(.string b_7),(.slice b_8 b_8N b_8C),(.string b_9),(.slice b_10 b_10N b_10C)] 64 fun b c =>
 LdI .u64 (c.cell? (a.add 1)) fun k =>
 LdI .u64 (c.cell? (b.add 1)) fun f =>
 Br (k != f)
 (R (.returned (.bool false)) c)
 (∃J4:Bool→World→Prop,(∀(attr:Bool) (d:World),J4 attr d→F34_j4 a b attr d R) ∧
 (LdI .i64 (c.cell? a) fun g =>
 Br (g == (6:Int))
 (LdI .i64 (c.cell? b) fun h =>
 Br (h == (6:Int))
 (J4 true c)
 (LdI .i64 (c.cell? b) fun i =>
 J4 (i == (7:Int)) c))
 (LdI .i64 (c.cell? a) fun e =>
 Br (e == (7:Int))
 (LdI .i64 (c.cell? b) fun h =>
 Br (h == (6:Int))
 (J4 true c)
 (LdI .i64 (c.cell? b) fun i =>
 J4 (i == (7:Int)) c))
 (J4 false c))))
theorem ok34 (a_0:Int) (a_1:Int) (a_2:Int) (a_3:Int) (a_4:ByteArray) (a_5:ByteArray) (a_6:Int) (a_7:ByteArray) (a_8:Option Addr) (a_8N:Nat) (a_8C:Nat) (a_9:ByteArray) (a_10:Option Addr) (a_10N:Nat) (a_10C:Nat) (b_0:Int) (b_1:Int) (b_2:Int) (b_3:Int) (b_4:ByteArray) (b_5:ByteArray) (b_6:Int) (b_7:ByteArray) (b_8:Option Addr) (b_8N:Nat) (b_8C:Nat) (b_9:ByteArray) (b_10:Option Addr) (b_10N:Nat) (b_10C:Nat) {w:World}{R:Ending→World→Prop} (h:F34 a_0 a_1 a_2 a_3 a_4 a_5 a_6 a_7 a_8 a_8N a_8C a_9 a_10 a_10N a_10C b_0 b_1 b_2 b_3 b_4 b_5 b_6 b_7 b_8 b_8N b_8C b_9 b_10 b_10N b_10C w R):Calls Tryz.prog 34 #[(.agg #[(.int .i64 a_0),(.int .u64 a_1),(.int .u64 a_2),(.int .i64 a_3),(.string a_4),(.string a_5),(.int .i64 a_6),(.string a_7),(.slice a_8 a_8N a_8C),(.string a_9),(.slice a_10 a_10N a_10C)]),(.agg #[(.int .i64 b_0),(.int .u64 b_1),(.int .u64 b_2),(.int .i64 b_3),(.string b_4),(.string b_5),(.int .i64 b_6),(.string b_7),(.slice b_8 b_8N b_8C),(.string b_9),(.slice b_10 b_10N b_10C)])] w R :=
 vc_calls (pl:=⟨66,⟨[]⟩,[(5,⟨[(6,(.s .bool))],[(6,55)]⟩),(4,⟨[(5,(.s .bool))],[(5,30)]⟩)],[]⟩) Tryz.func34 (by kernel_rfl) (by kernel_rfl) (by kernel_rfl) (Eq.mp (by kernel_rfl) h)
def F36 (kind:Int) (a:World) (R:Ending→World→Prop):Prop :=
 Br (kind == (1:Int))
 (R (.returned (.int .i64 1)) a)
 (Br (kind == (2:Int))
 (R (.returned (.int .i64 2)) a)
 (Br (kind == (8:Int))
 (R (.returned (.int .i64 3)) a)
 (Br (kind == (3:Int))
 (R (.returned (.int .i64 4)) a)
 (R (.returned (.int .i64 0)) a))))
theorem ok36 (kind:Int) {w:World}{R:Ending→World→Prop} (h:F36 kind w R):Calls Tryz.prog 36 #[(.int .i64 kind)] w R :=
 vc_calls (pl:=⟨12,⟨[]⟩,[],[]⟩) Tryz.func36 (by kernel_rfl) (by kernel_rfl) (by kernel_rfl) (Eq.mp (by kernel_rfl) h)
def F17_l7 (d:Option Addr) (l:Option Addr) (lN:Nat) (y:Option Addr) (c:Nat) (i:Nat) (t:Option Addr) (h:Nat) (r31:Nat) (L7:Int→World→Prop) (ca:Int) (ba:World) (R:Ending→World→Prop):Prop :=
 Br (decide (ca < ((h:Nat):Int)))
 (IdxA t h ca 1 fun aa =>
 LdI .i64 (ba.cell? aa) fun da =>
 IdxA l lN da 11 fun ea =>
 LdI .i64 (ba.cell? ea) fun p =>
 LdI .u64 (ba.cell? (ea.add 1)) fun s =>
 LdI .u64 (ba.cell? (ea.add 2)) fun j =>
 LdI .i64 (ba.cell? (ea.add 3)) fun n =>
 LdStr (ba.cell? (ea.add 4)) fun r =>
 LdStr (ba.cell? (ea.add 5)) fun v =>
 LdI .i64 (ba.cell? (ea.add 6)) fun q =>
 LdStr (ba.cell? (ea.add 7)) fun u =>
 LdSl (ba.cell? (ea.add 8)) fun m e f =>
 LdStr (ba.cell? (ea.add 9)) fun k =>
 LdSl (ba.cell? (ea.add 10)) fun g a b =>
 Calls Tryz.prog 43 #[(.iface 34 (.pointer d)),(.func (.func 24) #[(.pointer d)] #[]),(.map (some r31)),(.agg #[(.int .i64 p),(.int .u64 s),(.int .u64 j),(.int .i64 n),(.string r),(.string v),(.int .i64 q),(.string u),(.slice m e f),(.string k),(.slice g a b)])] ba (post R fun v3 z =>
 v3=(.tuple #[]) ∧
 InR .i64 (ca+(1:Int))∧L7 (ca+(1:Int)) z))
 (R (.returned (.tuple #[(.slice y c i),(.int .i64 0),(.int .i64 0)])) ba)
def F17 (d:Option Addr) (l:Option Addr) (lN:Nat) (lC:Nat) (r:World) (R:Ending→World→Prop):Prop :=
 Calls Tryz.prog 15 #[(.pointer d),(.slice l lN lC)] r (post R fun v w1 =>
 ∃(j:Option Addr) (b:Nat) (c:Nat) (i:Int) (h:Int),v=(.tuple #[(.slice j b c),(.int .i64 i),(.int .i64 h)]) ∧
 Br (h != (0:Int))
 (R (.returned (.tuple #[(.slice none 0 0),(.int .i64 i),(.int .i64 h)])) w1)
 (Calls Tryz.prog 9 #[(.slice l lN lC)] w1 (post R fun v2 k =>
 ∃(f:Option Addr) (e:Nat) (a:Nat) (g:Int),v2=(.tuple #[(.slice f e a),(.int .i64 g)]) ∧
 AlM k fun r31 n =>
 ∃(I:Int→World→Prop) (m:Int→World→Nat),I (0:Int) n ∧
 ∀(q:Int) (p:World),I q p→F17_l7 d l lN j b c f e r31 (fun q' w2=>I q' w2∧m q' w2 < m q p) q p R)))
theorem ok17 (d:Option Addr) (l:Option Addr) (lN:Nat) (lC:Nat) {w:World}{R:Ending→World→Prop} (h:F17 d l lN lC w R):Calls Tryz.prog 17 #[(.pointer d),(.slice l lN lC)] w R :=
 vc_calls (pl:=⟨50,⟨[]⟩,[],[(7,⟨[(34,(.s (.int .i64)))],[(14,15),(34,49)]⟩)]⟩) Tryz.func17 (by kernel_rfl) (by kernel_rfl) (by kernel_rfl) (Eq.mp (by kernel_rfl) h)
def F7_j21 (L5:Int→World→Prop) (a:Int) (b:World) (R:Ending→World→Prop):Prop :=
 InR .i64 (a+(1:Int))∧L5 (a+(1:Int)) b
def F7_l14 (r13:Nat) (nc:Int) (J21:World→Prop) (op:Addr) (bd:Option Addr) (hc:Nat) (L14:Int→World→Prop) (vc:Int) (yc:World) (R:Ending→World→Prop):Prop :=
 Br (decide (vc < ((hc:Nat):Int)))
 (IdxA bd hc vc 11 fun dd =>
 LdI .i64 (yc.cell? dd) fun va =>
 LdI .u64 (yc.cell? (dd.add 1)) fun za =>
 LdI .u64 (yc.cell? (dd.add 2)) fun vb =>
 LdI .i64 (yc.cell? (dd.add 3)) fun db =>
 LdStr (yc.cell? (dd.add 4)) fun hb =>
 LdStr (yc.cell? (dd.add 5)) fun ya =>
 LdI .i64 (yc.cell? (dd.add 6)) fun qa =>
 LdStr (yc.cell? (dd.add 7)) fun ta =>
 LdSl (yc.cell? (dd.add 8)) fun z i r =>
 LdStr (yc.cell? (dd.add 9)) fun mb =>
 LdSl (yc.cell? (dd.add 10)) fun u e d =>
 Al yc #[(.int .i64 0),(.int .u64 0),(.int .u64 0),(.int .i64 0),(.string (ByteArray.mk #[])),(.string (ByteArray.mk #[])),(.int .i64 0),(.string (ByteArray.mk #[])),(.slice none 0 0),(.string (ByteArray.mk #[])),(.slice none 0 0)] 64 fun o ca =>
 St ca o (.int .i64 va) fun nb =>
 St nb (o.add 1) (.int .u64 za) fun eb =>
 St eb (o.add 2) (.int .u64 vb) fun dc =>
 St dc (o.add 3) (.int .i64 db) fun cc =>
 St cc (o.add 4) (.string hb) fun bc =>
 St bc (o.add 5) (.string ya) fun fc =>
 St fc (o.add 6) (.int .i64 qa) fun da =>
 St da (o.add 7) (.string ta) fun ec =>
 St ec (o.add 8) (.slice z i r) fun ac =>
 St ac (o.add 9) (.string mb) fun pa =>
 St pa (o.add 10) (.slice u e d) fun ab =>
 LdI .i64 (ab.cell? o) fun sb =>
 LdI .u64 (ab.cell? (o.add 1)) fun zb =>
 LdI .u64 (ab.cell? (o.add 2)) fun rb =>
 LdI .i64 (ab.cell? (o.add 3)) fun fa =>
 LdStr (ab.cell? (o.add 4)) fun qb =>
 LdStr (ab.cell? (o.add 5)) fun tb =>
 LdI .i64 (ab.cell? (o.add 6)) fun ea =>
 LdStr (ab.cell? (o.add 7)) fun ka =>
 LdSl (ab.cell? (o.add 8)) fun kb k v =>
 LdStr (ab.cell? (o.add 9)) fun ub =>
 LdSl (ab.cell? (o.add 10)) fun n f h =>
 LdI .i64 (ab.cell? op) fun ib =>
 LdI .u64 (ab.cell? (op.add 1)) fun ba =>
 LdI .u64 (ab.cell? (op.add 2)) fun ra =>
 LdI .i64 (ab.cell? (op.add 3)) fun jb =>
 LdStr (ab.cell? (op.add 4)) fun cb =>
 LdStr (ab.cell? (op.add 5)) fun ga =>
 LdI .i64 (ab.cell? (op.add 6)) fun ua =>
 LdStr (ab.cell? (op.add 7)) fun pb =>
 LdSl (ab.cell? (op.add 8)) fun gb p j =>
 LdStr (ab.cell? (op.add 9)) fun ia =>
 LdSl (ab.cell? (op.add 10)) fun t c b =>
 Calls Tryz.prog 30 #[(.agg #[(.int .i64 sb),(.int .u64 zb),(.int .u64 rb),(.int .i64 fa),(.string qb),(.string tb),(.int .i64 ea),(.string ka),(.slice kb k v),(.string ub),(.slice n f h)]),(.agg #[(.int .i64 ib),(.int .u64 ba),(.int .u64 ra),(.int .i64 jb),(.string cb),(.string ga),(.int .i64 ua),(.string pb),(.slice gb p j),(.string ia),(.slice t c b)])] ab (post R fun v2 fb =>
 ∃(pc:Bool),v2=(.bool pc) ∧
 Br pc
 (R (.returned (.tuple #[(.int .i64 nc),(.int .i64 171)])) fb)
 (InR .i64 (vc+(1:Int))∧L14 (vc+(1:Int)) fb)))
 (LdI .i64 (yc.cell? op) fun tc =>
 Calls Tryz.prog 31 #[(.int .i64 tc)] yc (post R fun v2 ca =>
 ∃(zc:Bool),v2=(.bool zc) ∧
 Br zc
 (∃S:World→Prop,S ca.drew∧∃(sc:Int),Held S (op.add 1) (.int .u64 sc)∧∃(rc:Int),Held S (op.add 1) (.int .u64 rc)∧∃(sa:Int),Held S op (.int .i64 sa)∧∃(bb:Int),Held S (op.add 1) (.int .u64 bb)∧∃(yb:Int),Held S (op.add 2) (.int .u64 yb)∧∃(gc:Int),Held S (op.add 3) (.int .i64 gc)∧∃(na:ByteArray),Held S (op.add 4) (.string na)∧∃(ma:ByteArray),Held S (op.add 5) (.string ma)∧∃(ha:Int),Held S (op.add 6) (.int .i64 ha)∧∃(y:ByteArray),Held S (op.add 7) (.string y)∧∃(ja:Option Addr) (m:Nat) (s:Nat),Held S (op.add 8) (.slice ja m s)∧∃(aa:ByteArray),Held S (op.add 9) (.string aa)∧∃(q:Option Addr) (g:Nat) (a:Nat),Held S (op.add 10) (.slice q g a)∧(Raw Tryz.prog (Instr.lookup 68 (.map (some r13)) (.int .u64 rc) false) ca.drew fun v3 eb =>
 ∃(uc:Option Addr) (ic:Nat) (mc:Nat),v3=(.slice uc ic mc) ∧
 S eb∧Al eb #[(.int .i64 sa),(.int .u64 bb),(.int .u64 yb),(.int .i64 gc),(.string na),(.string ma),(.int .i64 ha),(.string y),(.slice ja m s),(.string aa),(.slice q g a)] 64 fun g75 dc =>
 S dc∧Raw Tryz.prog (Builtin.append_ #[22,22] 22 #[(.slice uc ic mc),(.slice (some g75) 1 1)]) dc fun v4 cc =>
 ∃(ad:Option Addr) (jc:Nat) (kc:Nat),v4=(.slice ad jc kc) ∧
 S cc∧Raw Tryz.prog (Instr.mapUpdate 68 (.map (some r13)) (.int .u64 sc) (.slice ad jc kc)) cc fun _ bc =>
 J21 bc)
 ∧ (Al ca.drew #[(.int .i64 sa),(.int .u64 bb),(.int .u64 yb),(.int .i64 gc),(.string na),(.string ma),(.int .i64 ha),(.string y),(.slice ja m s),(.string aa),(.slice q g a)] 64 fun g75 eb =>
 S eb∧Raw Tryz.prog (Instr.lookup 68 (.map (some r13)) (.int .u64 rc) false) eb fun v3 dc =>
 ∃(uc:Option Addr) (ic:Nat) (mc:Nat),v3=(.slice uc ic mc) ∧
 S dc∧Raw Tryz.prog (Builtin.append_ #[22,22] 22 #[(.slice uc ic mc),(.slice (some g75) 1 1)]) dc fun v4 cc =>
 ∃(ad:Option Addr) (jc:Nat) (kc:Nat),v4=(.slice ad jc kc) ∧
 S cc∧Raw Tryz.prog (Instr.mapUpdate 68 (.map (some r13)) (.int .u64 sc) (.slice ad jc kc)) cc fun _ bc =>
 J21 bc))
 (LdI .i64 (ca.cell? op) fun cd =>
 Calls Tryz.prog 32 #[(.int .i64 cd)] ca (post R fun v3 nb =>
 ∃(qc:Bool),v3=(.bool qc) ∧
 Br qc
 (∃S:World→Prop,S nb.drew∧∃(sc:Int),Held S (op.add 1) (.int .u64 sc)∧∃(rc:Int),Held S (op.add 1) (.int .u64 rc)∧∃(sa:Int),Held S op (.int .i64 sa)∧∃(bb:Int),Held S (op.add 1) (.int .u64 bb)∧∃(yb:Int),Held S (op.add 2) (.int .u64 yb)∧∃(gc:Int),Held S (op.add 3) (.int .i64 gc)∧∃(na:ByteArray),Held S (op.add 4) (.string na)∧∃(ma:ByteArray),Held S (op.add 5) (.string ma)∧∃(ha:Int),Held S (op.add 6) (.int .i64 ha)∧∃(y:ByteArray),Held S (op.add 7) (.string y)∧∃(ja:Option Addr) (m:Nat) (s:Nat),Held S (op.add 8) (.slice ja m s)∧∃(aa:ByteArray),Held S (op.add 9) (.string aa)∧∃(q:Option Addr) (g:Nat) (a:Nat),Held S (op.add 10) (.slice q g a)∧(Raw Tryz.prog (Instr.lookup 68 (.map (some r13)) (.int .u64 rc) false) nb.drew fun v4 dc =>
 ∃(uc:Option Addr) (ic:Nat) (mc:Nat),v4=(.slice uc ic mc) ∧
 S dc∧Al dc #[(.int .i64 sa),(.int .u64 bb),(.int .u64 yb),(.int .i64 gc),(.string na),(.string ma),(.int .i64 ha),(.string y),(.slice ja m s),(.string aa),(.slice q g a)] 64 fun g75 cc =>
 S cc∧Raw Tryz.prog (Builtin.append_ #[22,22] 22 #[(.slice uc ic mc),(.slice (some g75) 1 1)]) cc fun v5 bc =>
 ∃(ad:Option Addr) (jc:Nat) (kc:Nat),v5=(.slice ad jc kc) ∧
 S bc∧Raw Tryz.prog (Instr.mapUpdate 68 (.map (some r13)) (.int .u64 sc) (.slice ad jc kc)) bc fun _ fc =>
 J21 fc)
 ∧ (Al nb.drew #[(.int .i64 sa),(.int .u64 bb),(.int .u64 yb),(.int .i64 gc),(.string na),(.string ma),(.int .i64 ha),(.string y),(.slice ja m s),(.string aa),(.slice q g a)] 64 fun g75 dc =>
 S dc∧Raw Tryz.prog (Instr.lookup 68 (.map (some r13)) (.int .u64 rc) false) dc fun v4 cc =>
 ∃(uc:Option Addr) (ic:Nat) (mc:Nat),v4=(.slice uc ic mc) ∧
 S cc∧Raw Tryz.prog (Builtin.append_ #[22,22] 22 #[(.slice uc ic mc),(.slice (some g75) 1 1)]) cc fun v5 bc =>
 ∃(ad:Option Addr) (jc:Nat) (kc:Nat),v5=(.slice ad jc kc) ∧
 S bc∧Raw Tryz.prog (Instr.mapUpdate 68 (.map (some r13)) (.int .u64 sc) (.slice ad jc kc)) bc fun _ fc =>
 J21 fc))
 (J21 nb)))))
def F7_j13 (r13:Nat) (h:Int) (J21:World→Prop) (op:Addr) (e:World) (R:Ending→World→Prop):Prop :=
 LdI .u64 (e.cell? (op.add 1)) fun g =>
 Raw Tryz.prog (Instr.lookup 68 (.map (some r13)) (.int .u64 g) false) e fun v b =>
 ∃(i:Option Addr) (d:Nat) (c:Nat),v=(.slice i d c) ∧
 ∃(I:Int→World→Prop) (m:Int→World→Nat),I (0:Int) b ∧
 ∀(f:Int) (a:World),I f a→F7_l14 r13 h J21 op i d (fun f' w2=>I f' w2∧m f' w2 < m f a) f a R
def F7_j9 (r13:Nat) (q:Int) (J21:World→Prop) (op:Addr) (k:World) (R:Ending→World→Prop):Prop :=
 ∃J13:World→Prop,(∀ (j:World),J13 j→F7_j13 r13 q J21 op j R) ∧
 (LdI .i64 (k.cell? op) fun n =>
 Br (n == (1:Int))
 (LdI .i64 (k.cell? (op.add 6)) fun i =>
 LdStr (k.cell? ((op.add 6).add 1)) fun h =>
 LdSl (k.cell? ((op.add 6).add 2)) fun e a d =>
 LdStr (k.cell? ((op.add 6).add 3)) fun g =>
 LdSl (k.cell? ((op.add 6).add 4)) fun f c b =>
 Calls Tryz.prog 29 #[(.agg #[(.int .i64 i),(.string h),(.slice e a d),(.string g),(.slice f c b)])] k (post R fun v j =>
 ∃(m:Int),v=(.int .i64 m) ∧
 Br (m != (0:Int))
 (R (.returned (.tuple #[(.int .i64 q),(.int .i64 m)])) j)
 (J13 j)))
 (LdI .i64 (k.cell? op) fun p =>
 Br (p == (8:Int))
 (LdI .i64 (k.cell? (op.add 6)) fun i =>
 LdStr (k.cell? ((op.add 6).add 1)) fun h =>
 LdSl (k.cell? ((op.add 6).add 2)) fun e a d =>
 LdStr (k.cell? ((op.add 6).add 3)) fun g =>
 LdSl (k.cell? ((op.add 6).add 4)) fun f c b =>
 Calls Tryz.prog 29 #[(.agg #[(.int .i64 i),(.string h),(.slice e a d),(.string g),(.slice f c b)])] k (post R fun v j =>
 ∃(m:Int),v=(.int .i64 m) ∧
 Br (m != (0:Int))
 (R (.returned (.tuple #[(.int .i64 q),(.int .i64 m)])) j)
 (J13 j)))
 (J13 k)))
def F7_l5 (l:Option Addr) (lN:Nat) (r13:Nat) (L5:Int→World→Prop) (ha:Int) (ga:World) (R:Ending→World→Prop):Prop :=
 Br (decide (ha < ((lN:Nat):Int)))
 (∃J21:World→Prop,(∀ (ea:World),J21 ea→F7_j21 L5 ha ea R) ∧
 (IdxA l lN ha 11 fun ka =>
 LdI .i64 (ga.cell? ka) fun j =>
 LdI .u64 (ga.cell? (ka.add 1)) fun f =>
 LdI .u64 (ga.cell? (ka.add 2)) fun t =>
 LdI .i64 (ga.cell? (ka.add 3)) fun g =>
 LdStr (ga.cell? (ka.add 4)) fun v =>
 LdStr (ga.cell? (ka.add 5)) fun p =>
 LdI .i64 (ga.cell? (ka.add 6)) fun i =>
 LdStr (ga.cell? (ka.add 7)) fun q =>
 LdSl (ga.cell? (ka.add 8)) fun r c e =>
 LdStr (ga.cell? (ka.add 9)) fun m =>
 LdSl (ga.cell? (ka.add 10)) fun d b a =>
 Al ga #[(.int .i64 0),(.int .u64 0),(.int .u64 0),(.int .i64 0),(.string (ByteArray.mk #[])),(.string (ByteArray.mk #[])),(.int .i64 0),(.string (ByteArray.mk #[])),(.slice none 0 0),(.string (ByteArray.mk #[])),(.slice none 0 0)] 64 fun op ea =>
 St ea op (.int .i64 j) fun fa =>
 St fa (op.add 1) (.int .u64 f) fun ba =>
 St ba (op.add 2) (.int .u64 t) fun y =>
 St y (op.add 3) (.int .i64 g) fun ca =>
 St ca (op.add 4) (.string v) fun z =>
 St z (op.add 5) (.string p) fun aa =>
 St aa (op.add 6) (.int .i64 i) fun da =>
 St da (op.add 7) (.string q) fun n =>
 St n (op.add 8) (.slice r c e) fun u =>
 St u (op.add 9) (.string m) fun k =>
 St k (op.add 10) (.slice d b a) fun s =>
 ∃J9:World→Prop,(∀ (h:World),J9 h→F7_j9 r13 ha J21 op h R) ∧
 (LdI .i64 (s.cell? op) fun ia =>
 Br (decide (ia < (1:Int)))
 (R (.returned (.tuple #[(.int .i64 ha),(.int .i64 170)])) s)
 (LdI .i64 (s.cell? op) fun ja =>
 Br (decide (ja > (8:Int)))
 (R (.returned (.tuple #[(.int .i64 ha),(.int .i64 170)])) s)
 (J9 s)))))
 (R (.returned (.tuple #[(.int .i64 0),(.int .i64 0)])) ga)
def F7 (l:Option Addr) (lN:Nat) (lC:Nat) (c:World) (R:Ending→World→Prop):Prop :=
 Br (decide (((lN:Nat):Int) > (4096:Int)))
 (R (.returned (.tuple #[(.int .i64 0),(.int .i64 2)])) c)
 (AlM c fun r13 w1 =>
 ∃(I:Int→World→Prop) (m:Int→World→Nat),I (0:Int) w1 ∧
 ∀(b:Int) (a:World),I b a→F7_l5 l lN r13 (fun b' w2=>I b' w2∧m b' w2 < m b a) b a R)
theorem ok7 (l:Option Addr) (lN:Nat) (lC:Nat) {w:World}{R:Ending→World→Prop} (h:F7 l lN lC w R):Calls Tryz.prog 7 #[(.slice l lN lC)] w R :=
 vc_calls (pl:=⟨78,⟨[]⟩,[(13,⟨[],[(2,4),(7,8),(30,45)]⟩),(9,⟨[],[(2,4),(21,30)]⟩),(21,⟨[],[(2,4),(5,10),(18,77)]⟩)],[(14,⟨[(50,(.s (.int .i64)))],[(2,4),(9,10),(50,59)]⟩),(5,⟨[(16,(.s (.int .i64)))],[(2,4),(5,10),(16,78)]⟩)]⟩) Tryz.func7 (by kernel_rfl) (by kernel_rfl) (by kernel_rfl) (Eq.mp (by kernel_rfl) h)
def F9_j13 (L9:Option Addr→Nat→Nat→Int→World→Prop) (b:Int) (out3:Option Addr) (outN3:Nat) (outC3:Nat) (a:World) (R:Ending→World→Prop):Prop :=
 InR .i64 (b+(1:Int))∧L9 out3 outN3 outC3 (b+(1:Int)) a
def F9_l9 (l:Option Addr) (lN:Nat) (L6:Option Addr→Nat→Nat→Int→World→Prop) (qa:Int) (L9:Option Addr→Nat→Nat→Int→World→Prop) (out2:Option Addr) (outN2:Nat) (outC2:Nat) (pa:Int) (na:World) (R:Ending→World→Prop):Prop :=
 Br (decide (pa < ((lN:Nat):Int)))
 (∃J13:Option Addr→Nat→Nat→World→Prop,(∀(out3:Option Addr) (outN3:Nat) (outC3:Nat) (ia:World),J13 out3 outN3 outC3 ia→F9_j13 L9 pa out3 outN3 outC3 ia R) ∧
 (IdxA l lN pa 11 fun ka =>
 LdI .i64 (na.cell? ka) fun p =>
 LdI .u64 (na.cell? (ka.add 1)) fun f =>
 LdI .u64 (na.cell? (ka.add 2)) fun h =>
 LdI .i64 (na.cell? (ka.add 3)) fun u =>
 LdStr (na.cell? (ka.add 4)) fun v =>
 LdStr (na.cell? (ka.add 5)) fun z =>
 LdI .i64 (na.cell? (ka.add 6)) fun t =>
 LdStr (na.cell? (ka.add 7)) fun j =>
 LdSl (na.cell? (ka.add 8)) fun r e d =>
 LdStr (na.cell? (ka.add 9)) fun k =>
 LdSl (na.cell? (ka.add 10)) fun c a b =>
 Al na #[(.int .i64 0),(.int .u64 0),(.int .u64 0),(.int .i64 0),(.string (ByteArray.mk #[])),(.string (ByteArray.mk #[])),(.int .i64 0),(.string (ByteArray.mk #[])),(.slice none 0 0),(.string (ByteArray.mk #[])),(.slice none 0 0)] 64 fun op ia =>
 St ia op (.int .i64 p) fun fa =>
 St fa (op.add 1) (.int .u64 f) fun ca =>
 St ca (op.add 2) (.int .u64 h) fun ga =>
 St ga (op.add 3) (.int .i64 u) fun da =>
 St da (op.add 4) (.string v) fun ea =>
 St ea (op.add 5) (.string z) fun ha =>
 St ha (op.add 6) (.int .i64 t) fun q =>
 St q (op.add 7) (.string j) fun aa =>
 St aa (op.add 8) (.slice r e d) fun n =>
 St n (op.add 9) (.string k) fun s =>
 St s (op.add 10) (.slice c a b) fun g =>
 LdI .i64 (g.cell? op) fun ra =>
 Calls Tryz.prog 35 #[(.int .i64 ra)] g (post R fun v2 i =>
 ∃(sa:Int),v2=(.int .i64 sa) ∧
 Br (sa == qa)
 (Al i #[(.int .i64 pa)] 3 fun g38 y =>
 Raw Tryz.prog (Builtin.append_ #[27,27] 27 #[(.slice out2 outN2 outC2),(.slice (some g38) 1 1)]) y fun v3 m =>
 ∃(ma:Option Addr) (ja:Nat) (ba:Nat),v3=(.slice ma ja ba) ∧
 J13 ma ja ba m)
 (J13 out2 outN2 outC2 i))))
 (InR .i64 (qa+(1:Int))∧L6 out2 outN2 outC2 (qa+(1:Int)) na)
def F9_l6 (l:Option Addr) (lN:Nat) (L6:Option Addr→Nat→Nat→Int→World→Prop) (out:Option Addr) (outN:Nat) (outC:Nat) (b:Int) (c:World) (R:Ending→World→Prop):Prop :=
 Br (decide (b < (5:Int)))
 (∃(I:Option Addr→Nat→Nat→Int→World→Prop) (m:Option Addr→Nat→Nat→Int→World→Nat),I out outN outC (0:Int) c ∧
 ∀(out2:Option Addr) (outN2:Nat) (outC2:Nat) (d:Int) (a:World),I out2 outN2 outC2 d a→F9_l9 l lN L6 b (fun out2' outN2' outC2' d' w2=>I out2' outN2' outC2' d' w2∧m out2' outN2' outC2' d' w2 < m out2 outN2 outC2 d a) out2 outN2 outC2 d a R)
 (R (.returned (.tuple #[(.slice out outN outC),(.int .i64 0)])) c)
def F9 (l:Option Addr) (lN:Nat) (lC:Nat) (f:World) (R:Ending→World→Prop):Prop :=
 Calls Tryz.prog 7 #[(.slice l lN lC)] f (post R fun v w1 =>
 ∃(b:Int) (a:Int),v=(.tuple #[(.int .i64 b),(.int .i64 a)]) ∧
 Br (a != (0:Int))
 (R (.returned (.tuple #[(.slice none 0 0),(.int .i64 a)])) w1)
 (0≤(0:Int)∧(0:Int)≤((lN:Nat):Int)∧((8:Nat):Int)*((lN:Nat):Int)≤281474976710656∧Al w1 (zrow #[(.int .i64 0)] ((((lN:Nat):Int)).toNat*1)) 3 fun g20 c =>
 ∃(I:Option Addr→Nat→Nat→Int→World→Prop) (m:Option Addr→Nat→Nat→Int→World→Nat),I (some g20) ((0:Int)).toNat (((lN:Nat):Int)).toNat (0:Int) c ∧
 ∀(out:Option Addr) (outN:Nat) (outC:Nat) (e:Int) (d:World),I out outN outC e d→F9_l6 l lN (fun out' outN' outC' e' w2=>I out' outN' outC' e' w2∧m out' outN' outC' e' w2 < m out outN outC e d) out outN outC e d R))
theorem ok9 (l:Option Addr) (lN:Nat) (lC:Nat) {w:World}{R:Ending→World→Prop} (h:F9 l lN lC w R):Calls Tryz.prog 9 #[(.slice l lN lC)] w R :=
 vc_calls (pl:=⟨43,⟨[]⟩,[(13,⟨[(6,(.s .slice))],[(6,7),(8,10),(28,40)]⟩)],[(9,⟨[(6,(.s .slice)),(26,(.s (.int .i64)))],[(6,7),(8,10),(26,41)]⟩),(6,⟨[(6,(.s .slice)),(21,(.s (.int .i64)))],[(6,42)]⟩)]⟩) Tryz.func9 (by kernel_rfl) (by kernel_rfl) (by kernel_rfl) (Eq.mp (by kernel_rfl) h)
def F15 (d:Option Addr) (l:Option Addr) (lN:Nat) (lC:Nat) (i:World) (R:Ending→World→Prop):Prop :=
 Br (d).isNone
 (R (.returned (.tuple #[(.slice none 0 0),(.int .i64 0),(.int .i64 1)])) i)
 (Calls Tryz.prog 24 #[(.pointer d)] i (post R fun v w1 =>
 ∃(h:Option Addr),v=(.pointer h) ∧
 Calls Tryz.prog 39 #[(.pointer h),(.slice l lN lC)] w1 (post R fun v2 g =>
 ∃(f:Option Addr) (a:Nat) (b:Nat) (c:Int) (e:Int),v2=(.tuple #[(.slice f a b),(.int .i64 c),(.int .i64 e)]) ∧
 R (.returned (.tuple #[(.slice f a b),(.int .i64 c),(.int .i64 e)])) g)))
theorem ok15 (d:Option Addr) (l:Option Addr) (lN:Nat) (lC:Nat) {w:World}{R:Ending→World→Prop} (h:F15 d l lN lC w R):Calls Tryz.prog 15 #[(.pointer d),(.slice l lN lC)] w R :=
 vc_calls (pl:=⟨16,⟨[]⟩,[],[]⟩) Tryz.func15 (by kernel_rfl) (by kernel_rfl) (by kernel_rfl) (Eq.mp (by kernel_rfl) h)
def F32 (kind:Int) (a:World) (R:Ending→World→Prop):Prop :=
 Br (kind == (6:Int))
 (R (.returned (.bool true)) a)
 (R (.returned (.bool (kind == (7:Int)))) a)
theorem ok32 (kind:Int) {w:World}{R:Ending→World→Prop} (h:F32 kind w R):Calls Tryz.prog 32 #[(.int .i64 kind)] w R :=
 vc_calls (pl:=⟨9,⟨[]⟩,[],[]⟩) Tryz.func32 (by kernel_rfl) (by kernel_rfl) (by kernel_rfl) (Eq.mp (by kernel_rfl) h)
def F30_j5 (a:Addr) (b:Addr) (g:World) (R:Ending→World→Prop):Prop :=
 LdI .i64 (g.cell? a) fun e =>
 Calls Tryz.prog 32 #[(.int .i64 e)] g (post R fun v c =>
 ∃(k:Bool),v=(.bool k) ∧
 Br k
 (LdI .i64 (c.cell? b) fun h =>
 Calls Tryz.prog 32 #[(.int .i64 h)] c (post R fun v2 d =>
 ∃(i:Bool),v2=(.bool i) ∧
 Br i
 (LdStr (d.cell? (a.add 4)) fun f =>
 LdStr (d.cell? (b.add 4)) fun j =>
 R (.returned (.bool (f.toList == j.toList))) d)
 (R (.returned (.bool false)) d)))
 (R (.returned (.bool false)) c))
def F30 (a_0:Int) (a_1:Int) (a_2:Int) (a_3:Int) (a_4:ByteArray) (a_5:ByteArray) (a_6:Int) (a_7:ByteArray) (a_8:Option Addr) (a_8N:Nat) (a_8C:Nat) (a_9:ByteArray) (a_10:Option Addr) (a_10N:Nat) (a_10C:Nat) (b_0:Int) (b_1:Int) (b_2:Int) (b_3:Int) (b_4:ByteArray) (b_5:ByteArray) (b_6:Int) (b_7:ByteArray) (b_8:Option Addr) (b_8N:Nat) (b_8C:Nat) (b_9:ByteArray) (b_10:Option Addr) (b_10N:Nat) (b_10C:Nat) (j:World) (R:Ending→World→Prop):Prop :=
 Al j #[(.int .i64 a_0),(.int .u64 a_1),(.int .u64 a_2),(.int .i64 a_3),(.string a_4),(.string a_5),(.int .i64 a_6),(.string a_7),(.slice a_8 a_8N a_8C),(.string a_9),(.slice a_10 a_10N a_10C)] 64 fun a w1 =>
 Al w1 #[(.int .i64 b_0),(.int .u64 b_1),(.int .u64 b_2),(.int .i64 b_3),(.string b_4),(.string b_5),(.int .i64 b_6),(.string b_7),(.slice b_8 b_8N b_8C),(.string b_9),(.slice b_10 b_10N b_10C)] 64 fun b d =>
 ∃J5:World→Prop,(∀ (c:World),J5 c→F30_j5 a b c R) ∧
 (LdI .u64 (d.cell? (a.add 1)) fun k =>
 LdI .u64 (d.cell? (b.add 1)) fun i =>
 Br (k != i)
 (R (.returned (.bool false)) d)
 (LdI .i64 (d.cell? a) fun g =>
 LdI .i64 (d.cell? b) fun e =>
 Br (g == e)
 (LdI .i64 (d.cell? a) fun h =>
 Calls Tryz.prog 31 #[(.int .i64 h)] d (post R fun v c =>
 ∃(f:Bool),v=(.bool f) ∧
 Br f
 (R (.returned (.bool true)) c)
 (J5 c)))
 (J5 d)))
theorem ok30 (a_0:Int) (a_1:Int) (a_2:Int) (a_3:Int) (a_4:ByteArray) (a_5:ByteArray) (a_6:Int) (a_7:ByteArray) (a_8:Option Addr) (a_8N:Nat) (a_8C:Nat) (a_9:ByteArray) (a_10:Option Addr) (a_10N:Nat) (a_10C:Nat) (b_0:Int) (b_1:Int) (b_2:Int) (b_3:Int) (b_4:ByteArray) (b_5:ByteArray) (b_6:Int) (b_7:ByteArray) (b_8:Option Addr) (b_8N:Nat) (b_8C:Nat) (b_9:ByteArray) (b_10:Option Addr) (b_10N:Nat) (b_10C:Nat) {w:World}{R:Ending→World→Prop} (h:F30 a_0 a_1 a_2 a_3 a_4 a_5 a_6 a_7 a_8 a_8N a_8C a_9 a_10 a_10N a_10C b_0 b_1 b_2 b_3 b_4 b_5 b_6 b_7 b_8 b_8N b_8C b_9 b_10 b_10N b_10C w R):Calls Tryz.prog 30 #[(.agg #[(.int .i64 a_0),(.int .u64 a_1),(.int .u64 a_2),(.int .i64 a_3),(.string a_4),(.string a_5),(.int .i64 a_6),(.string a_7),(.slice a_8 a_8N a_8C),(.string a_9),(.slice a_10 a_10N a_10C)]),(.agg #[(.int .i64 b_0),(.int .u64 b_1),(.int .u64 b_2),(.int .i64 b_3),(.string b_4),(.string b_5),(.int .i64 b_6),(.string b_7),(.slice b_8 b_8N b_8C),(.string b_9),(.slice b_10 b_10N b_10C)])] w R :=
 vc_calls (pl:=⟨37,⟨[]⟩,[(5,⟨[],[(4,22)]⟩)],[]⟩) Tryz.func30 (by kernel_rfl) (by kernel_rfl) (by kernel_rfl) (Eq.mp (by kernel_rfl) h)
def F43_l7 (d:Value) (gone:Option Nat) (op:Addr) (b:Option Addr) (a:Nat) (L7:Int→World→Prop) (h:Int) (f:World) (R:Ending→World→Prop):Prop :=
 Br (decide (h < ((a:Nat):Int)))
 (IdxA b a h 1 fun j =>
 LdI .u64 (f.cell? j) fun g =>
 Raw Tryz.prog (Instr.mapUpdate 95 (.map gone) (.int .u64 g) (.bool true)) f fun _ c =>
 InR .i64 (h+(1:Int))∧L7 (h+(1:Int)) c)
 (LdI .u64 (f.cell? (op.add 1)) fun e =>
 CallM Tryz.prog d "Delete" #[(.int .u64 e)] f R (fun v3 c =>
 ∃(i:Int),v3=(.int .i64 i) ∧
 R (.returned (.tuple #[])) c))
def F43_j5 (d:Value) (now:Value) (gone:Option Nat) (op:Addr) (j:World) (R:Ending→World→Prop):Prop :=
 ∃S:World→Prop,S j.drew∧∃(i:Int),Held S (op.add 1) (.int .u64 i)∧CallV Tryz.prog now #[] j.drew R (fun v g =>
 ∃(n:Option Addr),v=(.pointer n) ∧
 S g∧Calls Tryz.prog 80 #[(.pointer n),(.int .u64 i)] g (post R fun v2 h =>
 ∃(e:Option Addr) (b:Nat) (a:Nat) (c:Int),v2=(.tuple #[(.slice e b a),(.int .i64 c)]) ∧
 ∃(I:Int→World→Prop) (m:Int→World→Nat),I (0:Int) h ∧
 ∀(k:Int) (f:World),I k f→F43_l7 d gone op e b (fun k' w2=>I k' w2∧m k' w2 < m k f) k f R))
def F43_j2 (d:Value) (now:Value) (gone:Option Nat) (op:Addr) (ia:World) (R:Ending→World→Prop):Prop :=
 LdI .i64 (ia.cell? op) fun ka =>
 Br (ka == (4:Int))
 (LdI .u64 (ia.cell? (op.add 1)) fun sa =>
 LdStr (ia.cell? (op.add 4)) fun ja =>
 CallM Tryz.prog d "SetName" #[(.int .u64 sa), (.string ja)] ia R (fun v ga =>
 ∃(ua:Int),v=(.int .i64 ua) ∧
 R (.returned (.tuple #[])) ga))
 (Br (ka == (5:Int))
 (LdI .u64 (ia.cell? (op.add 1)) fun pa =>
 LdStr (ia.cell? (op.add 5)) fun db =>
 CallM Tryz.prog d "SetText" #[(.int .u64 pa), (.string db)] ia R (fun v ga =>
 ∃(na:Int),v=(.int .i64 na) ∧
 R (.returned (.tuple #[])) ga))
 (Br (ka == (6:Int))
 (LdI .u64 (ia.cell? (op.add 1)) fun za =>
 LdStr (ia.cell? (op.add 4)) fun ha =>
 LdStr (ia.cell? (op.add 5)) fun ma =>
 CallM Tryz.prog d "SetAttr" #[(.int .u64 za), (.string ha), (.string ma)] ia R (fun v ga =>
 ∃(ta:Int),v=(.int .i64 ta) ∧
 R (.returned (.tuple #[])) ga))
 (Br (ka == (7:Int))
 (LdI .u64 (ia.cell? (op.add 1)) fun ya =>
 LdStr (ia.cell? (op.add 4)) fun ra =>
 CallM Tryz.prog d "DropAttr" #[(.int .u64 ya), (.string ra)] ia R (fun v ga =>
 ∃(qa:Int),v=(.int .i64 qa) ∧
 R (.returned (.tuple #[])) ga))
 (Br (ka == (1:Int))
 (LdI .i64 (ia.cell? (op.add 3)) fun cb =>
 LdI .u64 (ia.cell? (op.add 2)) fun bb =>
 LdI .i64 (ia.cell? (op.add 6)) fun q =>
 LdStr (ia.cell? ((op.add 6).add 1)) fun aa =>
 LdSl (ia.cell? ((op.add 6).add 2)) fun ba a f =>
 LdStr (ia.cell? ((op.add 6).add 3)) fun k =>
 LdSl (ia.cell? ((op.add 6).add 4)) fun p i c =>
 CallM Tryz.prog d "Insert" #[(.int .i64 cb), (.int .u64 bb), (.agg #[(.int .i64 q), (.string aa), (.slice ba a f), (.string k), (.slice p i c)])] ia R (fun v ga =>
 ∃(m:Int) (s:Int),v=(.tuple #[(.int .u64 m),(.int .i64 s)]) ∧
 R (.returned (.tuple #[])) ga))
 (Br (ka == (2:Int))
 (LdI .u64 (ia.cell? (op.add 1)) fun ca =>
 LdI .i64 (ia.cell? (op.add 3)) fun ea =>
 LdI .u64 (ia.cell? (op.add 2)) fun fa =>
 CallM Tryz.prog d "Move" #[(.int .u64 ca), (.int .i64 ea), (.int .u64 fa)] ia R (fun v ga =>
 ∃(da:Int),v=(.int .i64 da) ∧
 R (.returned (.tuple #[])) ga))
 (∃J5:World→Prop,(∀ (ga:World),J5 ga→F43_j5 d now gone op ga R) ∧
 (LdI .i64 (ia.cell? op) fun va =>
 Br (va == (8:Int))
 (LdI .u64 (ia.cell? (op.add 1)) fun ab =>
 LdI .i64 (ia.cell? (op.add 6)) fun r =>
 LdStr (ia.cell? ((op.add 6).add 1)) fun j =>
 LdSl (ia.cell? ((op.add 6).add 2)) fun n h b =>
 LdStr (ia.cell? ((op.add 6).add 3)) fun u =>
 LdSl (ia.cell? ((op.add 6).add 4)) fun y e g =>
 CallM Tryz.prog d "Insert" #[(.int .i64 3), (.int .u64 ab), (.agg #[(.int .i64 r), (.string j), (.slice n h b), (.string u), (.slice y e g)])] ia R (fun v ga =>
 ∃(t:Int) (z:Int),v=(.tuple #[(.int .u64 t),(.int .i64 z)]) ∧
 J5 ga))
 (J5 ia))))))))
def F43 (d:Value) (now:Value) (gone:Option Nat) (op_0:Int) (op_1:Int) (op_2:Int) (op_3:Int) (op_4:ByteArray) (op_5:ByteArray) (op_6:Int) (op_7:ByteArray) (op_8:Option Addr) (op_8N:Nat) (op_8C:Nat) (op_9:ByteArray) (op_10:Option Addr) (op_10N:Nat) (op_10C:Nat) (f:World) (R:Ending→World→Prop):Prop :=
 Al f #[(.int .i64 op_0),(.int .u64 op_1),(.int .u64 op_2),(.int .i64 op_3),(.string op_4),(.string op_5),(.int .i64 op_6),(.string op_7),(.slice op_8 op_8N op_8C),(.string op_9),(.slice op_10 op_10N op_10C)] 64 fun op w1 =>
 ∃J2:World→Prop,(∀ (a:World),J2 a→F43_j2 d now gone op a R) ∧
 (LdI .i64 (w1.cell? op) fun b =>
 Br (b != (1:Int))
 (LdI .u64 (w1.cell? (op.add 1)) fun c =>
 Raw Tryz.prog (Instr.lookup 95 (.map gone) (.int .u64 c) false) w1 fun v a =>
 ∃(e:Bool),v=(.bool e) ∧
 Br e
 (R (.returned (.tuple #[])) a)
 (J2 a))
 (J2 w1))
theorem ok43 (d:Value) (now:Value) (gone:Option Nat) (op_0:Int) (op_1:Int) (op_2:Int) (op_3:Int) (op_4:ByteArray) (op_5:ByteArray) (op_6:Int) (op_7:ByteArray) (op_8:Option Addr) (op_8N:Nat) (op_8C:Nat) (op_9:ByteArray) (op_10:Option Addr) (op_10N:Nat) (op_10C:Nat) {w:World}{R:Ending→World→Prop} (h:F43 d now gone op_0 op_1 op_2 op_3 op_4 op_5 op_6 op_7 op_8 op_8N op_8C op_9 op_10 op_10N op_10C w R):Calls Tryz.prog 43 #[d,now,(.map gone),(.agg #[(.int .i64 op_0),(.int .u64 op_1),(.int .u64 op_2),(.int .i64 op_3),(.string op_4),(.string op_5),(.int .i64 op_6),(.string op_7),(.slice op_8 op_8N op_8C),(.string op_9),(.slice op_10 op_10N op_10C)])] w R :=
 vc_calls (pl:=⟨107,⟨[]⟩,[(5,⟨[],[(23,32)]⟩),(2,⟨[],[(12,21)]⟩)],[(7,⟨[(42,(.s (.int .i64)))],[(11,12),(42,49)]⟩)]⟩) Tryz.func43 (by kernel_rfl) (by kernel_rfl) (by kernel_rfl) (Eq.mp (by kernel_rfl) h)
def F35 (kind:Int) (a:World) (R:Ending→World→Prop):Prop :=
 Br (kind == (1:Int))
 (R (.returned (.int .i64 1)) a)
 (Br (kind == (2:Int))
 (R (.returned (.int .i64 2)) a)
 (Br (kind == (8:Int))
 (R (.returned (.int .i64 3)) a)
 (Br (kind == (3:Int))
 (R (.returned (.int .i64 4)) a)
 (R (.returned (.int .i64 0)) a))))
theorem ok35 (kind:Int) {w:World}{R:Ending→World→Prop} (h:F35 kind w R):Calls Tryz.prog 35 #[(.int .i64 kind)] w R :=
 vc_calls (pl:=⟨12,⟨[]⟩,[],[]⟩) Tryz.func35 (by kernel_rfl) (by kernel_rfl) (by kernel_rfl) (Eq.mp (by kernel_rfl) h)
def F31 (kind:Int) (a:World) (R:Ending→World→Prop):Prop :=
 Br (kind == (2:Int))
 (R (.returned (.bool true)) a)
 (Br (kind == (4:Int))
 (R (.returned (.bool true)) a)
 (Br (kind == (5:Int))
 (R (.returned (.bool true)) a)
 (R (.returned (.bool (kind == (8:Int)))) a)))
theorem ok31 (kind:Int) {w:World}{R:Ending→World→Prop} (h:F31 kind w R):Calls Tryz.prog 31 #[(.int .i64 kind)] w R :=
 vc_calls (pl:=⟨17,⟨[]⟩,[],[]⟩) Tryz.func31 (by kernel_rfl) (by kernel_rfl) (by kernel_rfl) (Eq.mp (by kernel_rfl) h)
def F39_j15 (L8:Int→World→Prop) (a:Int) (b:World) (R:Ending→World→Prop):Prop :=
 InR .i64 (a+(1:Int))∧L8 (a+(1:Int)) b
def F39_j23 (L18:Option Addr→Nat→Nat→Int→World→Prop) (a:Int) (out2:Option Addr) (outN2:Nat) (outC2:Nat) (b:World) (R:Ending→World→Prop):Prop :=
 InR .i64 (a+(1:Int))∧L18 out2 outN2 outC2 (a+(1:Int)) b
def F39_l18 (lN:Nat) (r39:Nat) (L18:Option Addr→Nat→Nat→Int→World→Prop) (out:Option Addr) (outN:Nat) (outC:Nat) (j:Int) (i:World) (R:Ending→World→Prop):Prop :=
 Br (decide (j < ((lN:Nat):Int)))
 (∃J23:Option Addr→Nat→Nat→World→Prop,(∀(out2:Option Addr) (outN2:Nat) (outC2:Nat) (e:World),J23 out2 outN2 outC2 e→F39_j23 L18 j out2 outN2 outC2 e R) ∧
 (Raw Tryz.prog (Instr.lookup 140 (.map (some r39)) (.int .i64 j) true) i fun v3 e =>
 ∃(b:Int) (a:Bool),v3=(.tuple #[(.int .u64 b),(.bool a)]) ∧
 Br a
 (Al e #[(.int .u64 b)] 48 fun g79 d =>
 Raw Tryz.prog (Builtin.append_ #[39,39] 39 #[(.slice out outN outC),(.slice (some g79) 1 1)]) d fun v4 f =>
 ∃(h:Option Addr) (c:Nat) (g:Nat),v4=(.slice h c g) ∧
 J23 h c g f)
 (J23 out outN outC e)))
 (R (.returned (.tuple #[(.slice out outN outC),(.int .i64 0),(.int .i64 0)])) i)
def F39_l8 (l:Option Addr) (lN:Nat) (i:Option Addr) (e:Nat) (g38:Addr) (r39:Nat) (L8:Int→World→Prop) (da:Int) (aa:World) (R:Ending→World→Prop):Prop :=
 Br (decide (da < ((e:Nat):Int)))
 (∃J15:World→Prop,(∀ (z:World),J15 z→F39_j15 L8 da z R) ∧
 (IdxA i e da 1 fun ba =>
 LdI .i64 (aa.cell? ba) fun ca =>
 IdxA l lN ca 11 fun fa =>
 LdI .i64 (aa.cell? fa) fun t =>
 LdI .u64 (aa.cell? (fa.add 1)) fun p =>
 LdI .u64 (aa.cell? (fa.add 2)) fun r =>
 LdI .i64 (aa.cell? (fa.add 3)) fun g =>
 LdStr (aa.cell? (fa.add 4)) fun s =>
 LdStr (aa.cell? (fa.add 5)) fun k =>
 LdI .i64 (aa.cell? (fa.add 6)) fun q =>
 LdStr (aa.cell? (fa.add 7)) fun v =>
 LdSl (aa.cell? (fa.add 8)) fun u d c =>
 LdStr (aa.cell? (fa.add 9)) fun h =>
 LdSl (aa.cell? (fa.add 10)) fun f b a =>
 Calls Tryz.prog 74 #[(.pointer (some g38)),(.agg #[(.int .i64 t),(.int .u64 p),(.int .u64 r),(.int .i64 g),(.string s),(.string k),(.int .i64 q),(.string v),(.slice u d c),(.string h),(.slice f b a)])] aa (post R fun v3 z =>
 ∃(j:Int) (n:Int),v3=(.tuple #[(.int .u64 j),(.int .i64 n)]) ∧
 Br (n != (0:Int))
 (R (.returned (.tuple #[(.slice none 0 0),(.int .i64 ca),(.int .i64 n)])) z)
 (Br (j != (0:Int))
 (Raw Tryz.prog (Instr.mapUpdate 140 (.map (some r39)) (.int .i64 ca) (.int .u64 j)) z fun _ y =>
 J15 y)
 (J15 z)))))
 (∃(I:Option Addr→Nat→Nat→Int→World→Prop) (m:Option Addr→Nat→Nat→Int→World→Nat),I none 0 0 (0:Int) aa ∧
 ∀(out:Option Addr) (outN:Nat) (outC:Nat) (ea:Int) (z:World),I out outN outC ea z→F39_l18 lN r39 (fun out' outN' outC' ea' w2=>I out' outN' outC' ea' w2∧m out' outN' outC' ea' w2 < m out outN outC ea z) out outN outC ea z R)
def F39 (d:Option Addr) (l:Option Addr) (lN:Nat) (lC:Nat) (q:World) (R:Ending→World→Prop):Prop :=
 Calls Tryz.prog 7 #[(.slice l lN lC)] q (post R fun v w1 =>
 ∃(c:Int) (g:Int),v=(.tuple #[(.int .i64 c),(.int .i64 g)]) ∧
 Br (g != (0:Int))
 (R (.returned (.tuple #[(.slice none 0 0),(.int .i64 c),(.int .i64 g)])) w1)
 (Calls Tryz.prog 9 #[(.slice l lN lC)] w1 (post R fun v2 i =>
 ∃(e:Option Addr) (b:Nat) (a:Nat) (f:Int),v2=(.tuple #[(.slice e b a),(.int .i64 f)]) ∧
 AlM i fun r36 j =>
 Al j #[(.pointer d),(.map (some r36))] 139 fun g38 n =>
 AlM n fun r39 h =>
 ∃(I:Int→World→Prop) (m:Int→World→Nat),I (0:Int) h ∧
 ∀(p:Int) (k:World),I p k→F39_l8 l lN e b g38 r39 (fun p' w2=>I p' w2∧m p' w2 < m p k) p k R)))
theorem ok39 (d:Option Addr) (l:Option Addr) (lN:Nat) (lC:Nat) {w:World}{R:Ending→World→Prop} (h:F39 d l lN lC w R):Calls Tryz.prog 39 #[(.pointer d),(.slice l lN lC)] w R :=
 vc_calls (pl:=⟨83,⟨[]⟩,[(15,⟨[],[(4,7),(14,17),(44,64)]⟩),(23,⟨[(17,(.s .slice))],[(17,21),(69,81)]⟩)],[(8,⟨[(42,(.s (.int .i64)))],[(4,7),(14,17),(42,65)]⟩),(18,⟨[(17,(.s .slice)),(67,(.s (.int .i64)))],[(17,21),(67,82)]⟩)]⟩) Tryz.func39 (by kernel_rfl) (by kernel_rfl) (by kernel_rfl) (Eq.mp (by kernel_rfl) h)
end Go.Proofs.YtncbjdgcgclnnaaGreatDoor
namespace Go.Proofs.YtncbjdgcgclnnaaGreatDoor
open Go.RowKit Go.Vc
set_option linter.unusedVariables false
set_option linter.unusedSimpArgs false
set_option maxRecDepth 100000
theorem al11 {z0 z1 z2 z3 z4 z5 z6 z7 z8 z9 z10 v0 v1 v2 v3 v4 v5 v6 v7 v8 v9 v10:Value}{w:World}{t:TypeId}{K:Addr→World→Prop} (h:∀g w1,Below w.heap.size w w1→Blk w1 g #[v0,v1,v2,v3,v4,v5,v6,v7,v8,v9,v10] t→w.heap.size≤g→K ⟨g,0,none⟩ w1) :
  Al w #[z0,z1,z2,z3,z4,z5,z6,z7,z8,z9,z10] t fun p w1=>St w1 p v0 fun w2=>St w2 (p.add 1) v1 fun w3=>St w3 (p.add 2) v2 fun w4=>St w4 (p.add 3) v3 fun w5=>St w5 (p.add 4) v4 fun w6=>St w6 (p.add 5) v5 fun w7=>St w7 (p.add 6) v6 fun w8=>St w8 (p.add 7) v7 fun w9=>St w9 (p.add 8) v8 fun w10=>St w10 (p.add 9) v9 fun w11=>St w11 (p.add 10) v10 fun w12=>K p w12:=by
 refine al fun g w1 hb hg hge=>?_
 simp only [Addr.add_mk]
 refine st_blk hg (by simp) fun w2 b2 f2=>st_blk b2 (by simp) fun w3 b3 f3=>st_blk b3 (by simp) fun w4 b4 f4=>st_blk b4 (by simp) fun w5 b5 f5=>st_blk b5 (by simp) fun w6 b6 f6=>st_blk b6 (by simp) fun w7 b7 f7=>st_blk b7 (by simp) fun w8 b8 f8=>st_blk b8 (by simp) fun w9 b9 f9=>st_blk b9 (by simp) fun w10 b10 f10=>st_blk b10 (by simp) fun w11 b11 f11=>st_blk b11 (by simp) fun w12 b12 f12=>?_
 simp only [List.setIfInBounds_toArray,List.set_cons_zero,List.set_cons_succ] at b12
 have F:Fm (·=g) w1 w12:=((((((((((f2.trans f3).trans f4).trans f5).trans f6).trans f7).trans f8).trans f9).trans f10).trans f11).trans f12)
 exact h g w12 (hb.trans (F.toBelow hb.size fun b hb e=>by have e:b=g:=e;omega)) b12 hge
theorem rd_row {α:Type}{L:Lay α}{w:World}{g:Nat}{cs:Array Value}{t:TypeId}{xs:List α} (h:Blk w g cs t) (hc:cs.toList=L.all xs) (hm:xs.length≤maxLen):Rd L w (some ⟨g,0,none⟩) xs.length xs :=
 ⟨Nat.le_refl _,hm,(fun h=>by cases h),fun _=>⟨g,0,rfl,fun j u hj=>by rw [h.cell,Nat.zero_add,←Array.getElem?_toList,hc];exact hj⟩⟩
abbrev opV (x:E11):Value:=.agg #[.int .i64 x.o.kind,.int .u64 (x.o.node:Nat),.int .u64 (x.o.at_:Nat),.int .i64 x.o.wh,.string x.o.nm,.string x.o.val,.int .i64 x.e.kind,.string x.e.nm,.slice x.e.ats.1 x.e.ats.2.1 x.e.ats.2.2,.string x.e.text,.slice x.e.kids.1 x.e.kids.2.1 x.e.kids.2.2]
abbrev opC (x:E11):Array Value:=#[.int .i64 x.o.kind,.int .u64 (x.o.node:Nat),.int .u64 (x.o.at_:Nat),.int .i64 x.o.wh,.string x.o.nm,.string x.o.val,.int .i64 x.e.kind,.string x.e.nm,.slice x.e.ats.1 x.e.ats.2.1 x.e.ats.2.2,.string x.e.text,.slice x.e.kids.1 x.e.kids.2.1 x.e.kids.2.2]
section
variable {w:World}{R:Ending→World→Prop}
theorem sg_calls (k:Int) (hK:R (.returned (.bool (sgB k))) w):Calls Tryz.prog 31 #[.int .i64 k] w R:=by
 refine ok31 k ?_
 unfold F31
 unfold sgB at hK
 refine bre (fun h=>?_) (fun h=>?_)
 ·rw [decide_eq_true h,Bool.true_or] at hK;exact hK
 rw [decide_eq_false h,Bool.false_or] at hK
 refine bre (fun h=>?_) (fun h=>?_)
 ·rw [decide_eq_true h,Bool.true_or] at hK;exact hK
 rw [decide_eq_false h,Bool.false_or] at hK
 refine bre (fun h=>?_) (fun h=>?_)
 ·rw [decide_eq_true h,Bool.true_or] at hK;exact hK
 rw [decide_eq_false h,Bool.false_or] at hK
 exact hK
theorem atk_calls (k:Int) (hK:R (.returned (.bool (atK k))) w):Calls Tryz.prog 32 #[.int .i64 k] w R:=by
 refine ok32 k ?_
 unfold F32
 unfold atK at hK
 refine bre (fun h=>?_) (fun h=>?_)
 ·rw [decide_eq_true h,Bool.true_or] at hK;exact hK
 rw [decide_eq_false h,Bool.false_or] at hK
 exact hK
theorem phP_calls (k:Int) (hK:R (.returned (.int .i64 (phF k))) w):Calls Tryz.prog 35 #[.int .i64 k] w R:=by
 refine ok35 k ?_
 unfold F35
 unfold phF at hK
 refine bre (fun h=>?_) (fun h=>?_)
 ·rw [if_pos h] at hK;exact hK
 rw [if_neg h] at hK
 refine bre (fun h=>?_) (fun h=>?_)
 ·rw [if_pos h] at hK;exact hK
 rw [if_neg h] at hK
 refine bre (fun h=>?_) (fun h=>?_)
 ·rw [if_pos h] at hK;exact hK
 rw [if_neg h] at hK
 refine bre (fun h=>?_) (fun h=>?_)
 ·rw [if_pos h] at hK;exact hK
 rw [if_neg h] at hK
 exact hK
theorem phR_calls (k:Int) (hK:R (.returned (.int .i64 (phF k))) w):Calls Tryz.prog 36 #[.int .i64 k] w R:=by
 refine ok36 k ?_
 unfold F36
 unfold phF at hK
 refine bre (fun h=>?_) (fun h=>?_)
 ·rw [if_pos h] at hK;exact hK
 rw [if_neg h] at hK
 refine bre (fun h=>?_) (fun h=>?_)
 ·rw [if_pos h] at hK;exact hK
 rw [if_neg h] at hK
 refine bre (fun h=>?_) (fun h=>?_)
 ·rw [if_pos h] at hK;exact hK
 rw [if_neg h] at hK
 refine bre (fun h=>?_) (fun h=>?_)
 ·rw [if_pos h] at hK;exact hK
 rw [if_neg h] at hK
 exact hK
theorem cfP_calls (x y:E11) (hK:∀w',Below w.heap.size w w'→R (.returned (.bool (cfB x.o y.o))) w'):Calls Tryz.prog 30 #[opV x,opV y] w R:=by
 refine ok30 x.o.kind x.o.node x.o.at_ x.o.wh x.o.nm x.o.val x.e.kind x.e.nm x.e.ats.1 x.e.ats.2.1 x.e.ats.2.2 x.e.text x.e.kids.1 x.e.kids.2.1 x.e.kids.2.2 y.o.kind y.o.node y.o.at_ y.o.wh y.o.nm y.o.val y.e.kind y.e.nm y.e.ats.1 y.e.ats.2.1 y.e.ats.2.2 y.e.text y.e.kids.1 y.e.kids.2.1 y.e.kids.2.2 ?_
 unfold F30
 refine al fun ga w1 hb1 ba _=>al fun gb w2 hb2 bb _=>?_
 have ba2:=ba.keep hb2
 have H:=hK w2 (btr hb1 hb1.size hb2)
 unfold cfB at H
 simp only [Addr.add_mk,Nat.zero_add,ba2.cell,bb.cell,lds]
 refine⟨fun w'=>w'=w2∧x.o.node=y.o.node∧(decide (x.o.kind=y.o.kind) && sgB x.o.kind)=false,?_,?_⟩
 ·rintro _ ⟨rfl,hn,hs⟩
  rw [decide_eq_true hn,Bool.true_and,hs,Bool.false_or] at H
  unfold F30_j5
  simp only [Addr.add_mk,Nat.zero_add,ba2.cell,bb.cell,lds]
  refine atk_calls _ ⟨_,rfl,?_⟩
  refine br (fun h1=>?_) (fun h1=>by rw [h1,Bool.false_and,Bool.false_and] at H;exact H)
  rw [h1,Bool.true_and] at H
  simp only [Addr.add_mk,Nat.zero_add,ba2.cell,bb.cell,lds]
  refine atk_calls _ ⟨_,rfl,?_⟩
  refine br (fun h2=>?_) (fun h2=>by rw [h2,Bool.false_and] at H;exact H)
  rw [h2,Bool.true_and] at H
  simp only [Addr.add_mk,Nat.zero_add,ba2.cell,bb.cell,lds]
  rw [bytes_eq]
  exact H
 ·refine brn (fun hn=>?_) (fun hn=>?_)
  ·rw [decide_eq_false (fun e=>hn (by rw [e])),Bool.false_and] at H;exact H
  ·have hn:x.o.node=y.o.node:=by omega
   refine bre (fun hk=>?_) (fun hk=>⟨rfl,hn,by rw [decide_eq_false hk,Bool.false_and]⟩)
   refine sg_calls _ ⟨_,rfl,?_⟩
   refine br (fun h1=>?_) (fun h1=>⟨rfl,hn,by rw [h1,Bool.and_false]⟩)
   rw [decide_eq_true hn,Bool.true_and,decide_eq_true hk,h1] at H
   exact H
theorem cfR_calls (x y:E11) (hK:∀w',Below w.heap.size w w'→R (.returned (.bool (cfB x.o y.o))) w'):Calls Tryz.prog 34 #[opV x,opV y] w R:=by
 refine ok34 x.o.kind x.o.node x.o.at_ x.o.wh x.o.nm x.o.val x.e.kind x.e.nm x.e.ats.1 x.e.ats.2.1 x.e.ats.2.2 x.e.text x.e.kids.1 x.e.kids.2.1 x.e.kids.2.2 y.o.kind y.o.node y.o.at_ y.o.wh y.o.nm y.o.val y.e.kind y.e.nm y.e.ats.1 y.e.ats.2.1 y.e.ats.2.2 y.e.text y.e.kids.1 y.e.kids.2.1 y.e.kids.2.2 ?_
 unfold F34
 refine al fun ga w1 hb1 ba _=>al fun gb w2 hb2 bb _=>?_
 have ba2:=ba.keep hb2
 have H:=hK w2 (btr hb1 hb1.size hb2)
 unfold cfB at H
 simp only [Addr.add_mk,Nat.zero_add,ba2.cell,bb.cell,lds]
 refine brn (fun hn=>?_) (fun hn=>?_)
 ·rw [decide_eq_false (fun e=>hn (by rw [e])),Bool.false_and] at H;exact H
 have hn:x.o.node=y.o.node:=by omega
 rw [decide_eq_true hn,Bool.true_and] at H
 refine⟨fun at_ w'=>w'=w2∧at_=(atK x.o.kind && atK y.o.kind),?_,?_⟩
 ·rintro at_ w5 ⟨rfl,rfl⟩
  unfold F34_j4
  simp only [Addr.add_mk,Nat.zero_add,ba2.cell,bb.cell,lds]
  refine⟨fun one w3=>w3=w5∧one=(decide (x.o.kind=y.o.kind) && sgB x.o.kind),?_,?_⟩
  ·rintro one _ ⟨rfl,rfl⟩
   unfold F34_j5
   simp only [Addr.add_mk,Nat.zero_add,ba2.cell,bb.cell,lds]
   refine br (fun h1=>by rw [h1,Bool.true_or] at H;exact H) (fun h1=>?_)
   rw [h1,Bool.false_or] at H
   refine br (fun h2=>?_) (fun h2=>by rw [h2,Bool.false_and] at H;exact H)
   rw [h2,Bool.true_and] at H
   rw [bytes_eq]
   exact H
  ·unfold sgB
   refine bre (fun hk=>?_) (fun hk=>⟨rfl,by rw [decide_eq_false hk,Bool.false_and]⟩)
   rw [decide_eq_true hk,Bool.true_and]
   refine bre (fun h=>⟨rfl,by rw [decide_eq_true h,Bool.true_or]⟩) (fun h=>?_)
   rw [decide_eq_false h,Bool.false_or]
   refine bre (fun h=>⟨rfl,by rw [decide_eq_true h,Bool.true_or]⟩) (fun h=>?_)
   rw [decide_eq_false h,Bool.false_or]
   refine bre (fun h=>⟨rfl,by rw [decide_eq_true h,Bool.true_or]⟩) (fun h=>?_)
   rw [decide_eq_false h,Bool.false_or]
   exact⟨rfl,rfl⟩
 ·unfold atK
  refine bre (fun h=>?_) (fun h=>?_)
  ·rw [decide_eq_true h,Bool.true_or,Bool.true_and]
   refine bre (fun h=>⟨rfl,by rw [decide_eq_true h,Bool.true_or]⟩) (fun h=>?_)
   rw [decide_eq_false h,Bool.false_or]
   exact⟨rfl,rfl⟩
  rw [decide_eq_false h,Bool.false_or]
  refine bre (fun h=>?_) (fun h=>?_)
  ·rw [decide_eq_true h,Bool.true_and]
   refine bre (fun h=>⟨rfl,by rw [decide_eq_true h,Bool.true_or]⟩) (fun h=>?_)
   rw [decide_eq_false h,Bool.false_or]
   exact⟨rfl,rfl⟩
  ·exact⟨rfl,by rw [decide_eq_false h,Bool.false_and]⟩
theorem checkT_calls {x:Tr}{e:E5} (hx:RTr w x e) (hT:Tabs w) (hK:∀w',Below w.heap.size w w'→R (.returned (.int .i64 (lookF x 1 0).2)) w'):Calls Tryz.prog 29 #[.agg #[.int .i64 e.kind,.string e.nm,slV e.ats,.string e.text,slV e.kids]] w R:=by
 refine ok29 e.kind e.nm e.ats.1 e.ats.2.1 e.ats.2.2 e.text e.kids.1 e.kids.2.1 e.kids.2.2 ?_
 unfold F29
 refine al fun g1 w1 hb1 b1 hge1=>al fun gl w2 hb2 bl hgel=>?_
 have b12:=b1.keep hb2
 have B2:=btr hb1 hb1.size hb2
 simp only [Addr.add_mk,Nat.zero_add,b12.cell,lds]
 have hlsub:Sub w (but gl w2):=old_but B2 (by have:=hb1.size;omega)
 refine look_calls x (gl:=gl) (deep:=1) (n:=0) (md:=0) (e:=e) bl (RTr.sub hlsub _ _ hx) (hT.sub hlsub) (by omega) (by omega) (by omega) (by omega) fun w3 n3 md3 F3 hB3 q1 q2=>⟨_,rfl,?_⟩
 exact hK w3 (B2.trans (F3.toBelow B2.size fun b hb e=>by have e:b=gl:=e;have:=hb1.size;omega))
end
end Go.Proofs.YtncbjdgcgclnnaaGreatDoor
namespace Go.Proofs.YtncbjdgcgclnnaaGreatDoor
open Go.RowKit Go.Deep Go.WideShapes Go.ChangeShapes
section
variable {H:Type}{enc:TypeId × Value→H}{P:Program}{W:World}{α:Type}
theorem cells_of_rows {L:Lay α}{w:World}{b o:Nat}:∀(xs:List α),(∀i (h:i < xs.length),∀j u,(L.cells xs[i])[j]?=some u→w.cell? ⟨b,o+i*L.n+j,none⟩=some u) →
  ∀j u,(L.all xs)[j]?=some u→w.cell? ⟨b,o+j,none⟩=some u:=by
 intro xs h j u hj
 have hlt:j < xs.length*L.n:=by rw [←L.all_length];exact (List.getElem?_eq_some_iff.1 hj).1
 have hi:j / L.n < xs.length:=(Nat.div_lt_iff_lt_mul L.pos).2 hlt
 have hr:j % L.n < L.n:=Nat.mod_lt _ L.pos
 have hd:j / L.n*L.n+j % L.n=j:=by rw [Nat.mul_comm];exact Nat.div_add_mod j L.n
 have:=h (j / L.n) hi (j % L.n) u (by rw [←L.all_at xs _ hi _ hr,hd];exact hj)
 rwa [Nat.add_assoc,hd] at this
end
end Go.Proofs.YtncbjdgcgclnnaaGreatDoor
namespace Go.Proofs.YtncbjdgcgclnnaaGreatDoor
open Go.RowKit Go.Vc
set_option linter.unusedVariables false
set_option linter.unusedSimpArgs false
set_option maxRecDepth 100000
set_option maxRecDepth 100000
section
variable {D:Im}
end
structure Ac where
 kind:Int
 wh:Int
 how:Bool
 n:Nat
 at_:Nat
 nm:ByteArray
 val:ByteArray
 x:Tr
section
variable {w w1:World}{g:Nat}{D:Im}{vs vr:Sv}{es:List S8}{R:Ending→World→Prop}
end
set_option maxRecDepth 100000
structure EvA (w:World) (o:Nat→Nat) (w1:World) (o1:Nat→Nat):Prop where
 fm:Fm (fun b=>o b≠0) w w1
 old:∀b,b < w.heap.size→o b=0→o1 b=0
section
variable {p:Value}{P:Nat→World→(Nat→Nat)→Im→Prop}{k:Nat}{w:World}{o:Nat→Nat}{g:Nat}{D:Im}{vs vr:Sv}{R:Ending→World→Prop}
end
set_option maxRecDepth 100000
structure E12 where
 a:Ac
 e:E5
section
variable {p:Value}{P:Nat→World→(Nat→Nat)→Im→Prop}{k:Nat}{w w0 w1:World}{o:Nat→Nat}{g:Nat}{D:Im}{vs vr:Sv}{R:Ending→World→Prop}
end
end Go.Proofs.YtncbjdgcgclnnaaGreatDoor
namespace Go.Proofs.YtncbjdgcgclnnaaGreatDoor
open Go.RowKit Go.Deep Go.WideShapes Go.ChangeShapes Go.Vc
set_option linter.unusedSimpArgs false
set_option linter.unusedVariables false
set_option maxRecDepth 100000
theorem upto_one {H:Type} (d:DataW H):1≤Rows.uptoBulk d:=by
 cases d with
 | lit l=>cases l <;> simp only [Rows.uptoBulk] <;> omega
 | _=>simp only [Rows.uptoBulk];omega
theorem upto_len {H:Type}:∀(l:List (DataW H)),l.length≤Rows.uptoBulkAll l
 | []=>by simp
 | d :: l=>by
  have:=upto_len l
  have:=upto_one d
  simp only [Rows.uptoBulkAll,List.length_cons];omega
theorem upto_part {H:Type}{d:DataW H}:∀{l:List (DataW H)},d∈l→Rows.uptoBulk d≤Rows.uptoBulkAll l
 | e :: l,h=>by
  simp only [Rows.uptoBulkAll]
  rcases List.mem_cons.1 h with rfl | h
  ·omega
  ·have:=upto_part h;omega
theorem upto_small {H:Type}{d:DataW H}{l:List (DataW H)} (hk:Rows.uptoSmall H l=true) (h:d∈l):Rows.uptoBulk d≤1048576 :=
 Nat.le_trans (upto_part h) (of_decide_eq_true hk)
section
variable {H:Type}{enc:TypeId × Value→H}{P:Program}{W:World}{α:Type}
theorem trod_parts {t:TypeId}{fs:Array Field}{fuel:Nat}{cs:List Value}{x:DataW H × List MemPlace} (ht:P.underlying t=some (.struct fs)) (h:DataW.trod enc P W 0 (fun _=>true) true fuel t cs=some x) :
  cs.length=P.cellsOf t∧∀(i:Nat) (f:Field),fs[i]?=some f→∃n y,DataW.trod enc P W 0 (fun _=>true) true n f.type ((cs.drop f.offset).take (P.cellsOf f.type))=some y∧Rows.uptoBulk y.1 < Rows.uptoBulk x.1:=by
 obtain⟨xs,n,_,rfl,hl,hlen,hf⟩:=DataW.trod_struct ht h
 refine⟨hl,fun i f hi=>?_⟩
 have hlt:i < xs.length:=by rw [hlen];exact (Array.getElem?_eq_some_iff.1 hi).1
 refine⟨n,xs[i],?_,?_⟩
 ·rw [hf i f hi,List.getElem?_eq_getElem hlt]
 ·have:=upto_part (List.mem_map.2 ⟨xs[i],List.getElem_mem hlt,rfl⟩:xs[i].1∈xs.map (·.1))
  simp only [Rows.uptoBulk];omega
theorem open_bk [Inhabited α] (L:Lay α) (Q:α→Prop) {t e:TypeId}{fuel:Nat}{cs:List Value}{x:DataW H × List MemPlace} (h:DataW.trod enc P W 0 (fun _=>true) true fuel t cs=some x) (ht:P.underlying t=some (.slice e)) (hC:P.cellsOf e=L.n)
  (hel:∀(n:Nat) (cs:List Value) (y:DataW H × List MemPlace),DataW.trod enc P W 0 (fun _=>true) true n e cs=some y→Rows.uptoBulk y.1 < Rows.uptoBulk x.1→∃z:α,cs=L.cells z∧Q z) :
  ∃A c xs,cs=[.slice A xs.length c]∧Rd L W A c xs∧(∀y∈xs,Q y)∧xs.length≤Rows.uptoBulk x.1:=by
 rcases open_slice ht h with ⟨hcs,_⟩ | ⟨a,len,cap,m,n,D,Pl,hcs,_,hl,hm,hmm,hx,hi⟩
 ·exact⟨none,0,[],hcs,Rd.nil _ _,by simp,by simp⟩
 ·have hlm:len≤m:=by rw [hmm];simp;exact hl
  have hx1:=(Prod.mk.inj hx).1
  rw [hx1] at hel ⊢
  have hbulk:∀i,i < len→Rows.uptoBulk (D i) < Rows.uptoBulk (.slice ((List.range len).map D) ((List.range (m-len)).map fun j=>D (len+j))):=fun i hi=>by
   have:=upto_part (List.mem_map.2 ⟨i,List.mem_range.2 hi,rfl⟩:D i∈(List.range len).map D)
   simp only [Rows.uptoBulk];omega
  obtain⟨f,hfx⟩:=choose_lt (α:=α) (n:=len) (p:=fun i y=>(∀j u,(L.cells y)[j]?=some u→W.cell? ((a.add (i*L.n)).add j)=some u)∧Q y) (fun i hil=>by
   obtain⟨cs',h1,h2⟩:=hi i (by omega)
   obtain⟨y,rfl,hq⟩:=hel _ _ _ h2 (hbulk i hil)
   obtain⟨_,hlen,hat⟩:=World.cells?_some h1
   refine⟨y,fun j u hj=>?_,hq⟩
   rw [hC] at hat hlen
   rw [hat j (by rw [←L.len y];exact (List.getElem?_eq_some_iff.1 hj).1)]
   exact hj)
  refine⟨some a,cap,(List.range len).map f,by simpa using hcs,⟨by simpa using hl,hm,(fun h=>by cases h),fun h0=>?_⟩,fun y hy=>?_,?_⟩
  ·simp at h0
   have hspot:a.spot=Option.none:=by
    have hy:=(hfx 0 h0).1
    have hn:0 < (L.cells (f 0)).length:=by rw [L.len];exact L.pos
    have:=hy 0 _ (List.getElem?_eq_getElem hn)
    simp only [Nat.zero_mul,Addr.add,if_true] at this
    unfold World.cell? at this
    cases hs:a.spot with
    | none=>rfl
    | some q =>
     split at this
     ·rw [hs] at this;simp at this
     ·cases this
   obtain⟨b,o,s⟩:=a
   simp only at hspot
   subst hspot
   refine⟨b,o,rfl,cells_of_rows _ (fun i hi j u hj=>?_)⟩
   simp at hi hj
   have:=(hfx i hi).1 j u hj
   rw [Addr.add_lit,Addr.add_lit] at this
   exact this
  ·obtain⟨i,hi,rfl⟩:=List.mem_map.1 hy
   exact (hfx i (List.mem_range.1 hi)).2
  ·have:=upto_len ((List.range len).map D)
   simp only [Rows.uptoBulk,List.length_map,List.length_range] at this ⊢
   omega
theorem list2 {α:Type}{l:List α} (h:l.length=2):∃a b,l=[a,b]:=by
 match l,h with
 | [a,b],_=>exact⟨a,b,rfl⟩
theorem list5 {α:Type}{l:List α} (h:l.length=5):∃a b c d e,l=[a,b,c,d,e]:=by
 match l,h with
 | [a,b,c,d,e],_=>exact⟨a,b,c,d,e,rfl⟩
end
instance:Inhabited E5:=⟨⟨0,noB,(none,0,0),noB,(none,0,0)⟩⟩
instance:Inhabited At:=⟨⟨noB,noB⟩⟩
instance:Inhabited Ac:=⟨⟨0,0,false,0,0,noB,noB,.mk 0 noB [] noB []⟩⟩
instance:Inhabited E12:=⟨⟨default,default⟩⟩
theorem rtl_of {w:World}:∀(es:List E5),(∀e∈es,∃t,RTr w t e)→∃ts,RTl w ts es
 | [],_=>⟨[],by simp only [RTl]⟩
 | e :: es,h=>by
  obtain⟨t,ht⟩:=h e (by simp)
  obtain⟨ts,hts⟩:=rtl_of es fun x hx=>h x (by simp [hx])
  exact⟨t :: ts,by simp only [RTl];exact⟨e,es,rfl,ht,hts⟩⟩
section
variable {H:Type}{enc:TypeId × Value→H}{W:World}
theorem kStr:(Tryz.prog).cellsOf 9=1:=by kernel_rfl
theorem kInt:(Tryz.prog).cellsOf 3=1:=by kernel_rfl
theorem kBool:(Tryz.prog).cellsOf 4=1:=by kernel_rfl
theorem kHn:(Tryz.prog).cellsOf 48=1:=by kernel_rfl
theorem kAts:(Tryz.prog).cellsOf 51=1:=by kernel_rfl
theorem kTrs:(Tryz.prog).cellsOf 52=1:=by kernel_rfl
theorem kTr:(Tryz.prog).cellsOf 54=5:=by kernel_rfl
theorem kAt:(Tryz.prog).cellsOf 120=2:=by kernel_rfl
theorem at_cells (n:Nat) (cs:List Value) (x:DataW H × List MemPlace) (h:DataW.trod enc Tryz.prog W 0 (fun _=>true) true n 120 cs=some x):∃y:At,cs=LAt.cells y:=by
 obtain⟨hl,hp⟩:=trod_parts Tryz.underlying120 h
 obtain⟨a,b,rfl⟩:=list2 (hl.trans kAt)
 obtain⟨_,_,h0,-⟩:=hp 0 _ rfl
 obtain⟨_,_,h1,-⟩:=hp 1 _ rfl
 simp only [List.getElem_toArray,List.getElem_cons_zero,List.getElem_cons_succ,kStr,List.drop_zero,List.drop_succ_cons,List.take_succ_cons,List.take_zero] at h0 h1
 obtain⟨s,e0,-,-⟩:=DataW.trod_string Tryz.underlying9 h0
 obtain⟨t,e1,-,-⟩:=DataW.trod_string Tryz.underlying9 h1
 simp only [List.cons.injEq,and_true] at e0 e1
 subst e0 e1
 exact⟨⟨s,t⟩,rfl⟩
theorem ats_cells {n:Nat}{cs:List Value}{x:DataW H × List MemPlace} (h:DataW.trod enc Tryz.prog W 0 (fun _=>true) true n 51 cs=some x) (hx:Rows.uptoBulk x.1≤1048576):∃(v:Sv) (l:List At),cs=[.slice v.1 v.2.1 v.2.2]∧RR LAt W l v:=by
 obtain⟨A,c,l,e,hr,-,hlen⟩:=open_bk LAt (fun _=>True) h Tryz.underlying51 kAt fun n cs y hy _=>by
  obtain⟨z,hz⟩:=at_cells n cs y hy
  exact⟨z,hz,trivial⟩
 exact⟨(A,l.length,c),l,e,Nat.le_trans hlen hx,rfl,hr⟩
theorem tr_cells:∀(B:Nat),B≤1048576→∀(n:Nat) (cs:List Value) (x:DataW H × List MemPlace),DataW.trod enc Tryz.prog W 0 (fun _=>true) true n 54 cs=some x→Rows.uptoBulk x.1≤B →
  ∃(e:E5),cs=e.cells∧∃t,RTr W t e:=by
 intro B
 induction B using Nat.strongRecOn with
 | _ B ih =>
  intro hB n cs x h hx
  obtain⟨hl,hp⟩:=trod_parts Tryz.underlying54 h
  obtain⟨a,b,c,d,e,rfl⟩:=list5 (hl.trans kTr)
  obtain⟨_,_,h0,b0⟩:=hp 0 _ rfl
  obtain⟨_,_,h1,b1⟩:=hp 1 _ rfl
  obtain⟨_,_,h2,b2⟩:=hp 2 _ rfl
  obtain⟨_,_,h3,b3⟩:=hp 3 _ rfl
  obtain⟨_,y4,h4,b4⟩:=hp 4 _ rfl
  simp only [List.getElem_toArray,List.getElem_cons_zero,List.getElem_cons_succ,kInt,kStr,kAts,kTrs,List.drop_zero,List.drop_succ_cons,List.take_succ_cons,List.take_zero] at h0 h1 h2 h3 h4
  obtain⟨kd,e0,-,-⟩:=DataW.trod_int Tryz.underlying3 h0
  obtain⟨nm,e1,-,-⟩:=DataW.trod_string Tryz.underlying9 h1
  obtain⟨va,la,e2,ha⟩:=ats_cells h2 (by omega)
  obtain⟨tx,e3,-,-⟩:=DataW.trod_string Tryz.underlying9 h3
  obtain⟨A,c',es,e4,hr,hq,hlen⟩:=open_bk LE5 (fun e=>∃t,RTr W t e) h4 Tryz.underlying52 kTr fun n cs y hy hby=>ih (Rows.uptoBulk y.1) (by omega) (by omega) n cs y hy (Nat.le_refl _)
  simp only [List.cons.injEq,and_true] at e0 e1 e2 e3 e4
  subst e0 e1 e2 e3 e4
  obtain⟨ts,hts⟩:=rtl_of es hq
  refine⟨⟨kd,nm,va,tx,(A,es.length,c')⟩,rfl,.mk kd nm la tx ts,?_⟩
  simp only [RTr]
  exact⟨by trivial,by trivial,by trivial,ha,by rw [←hts.len];omega,es,rfl,hr,hts⟩
theorem hn_cells {n:Nat}{cs:List Value}{x:DataW H × List MemPlace} (h:DataW.trod enc Tryz.prog W 0 (fun _=>true) true n 48 cs=some x):∃k:Nat,k < 18446744073709551616∧cs=[.int .u64 (k:Nat)]:=by
 obtain⟨k,rfl,-,hw⟩:=DataW.trod_int Tryz.underlying48 h
 have hx:0≤k∧k≤18446744073709551615:=by simpa [Lit.wf,IntKind.min,IntKind.max,IntKind.signed,IntKind.bits] using hw
 exact⟨k.toNat,by omega,by rw [Int.toNat_of_nonneg hx.1]⟩
end
set_option maxRecDepth 100000
def ROp (w:World) (x:E11):Prop:=(x.o.node < 18446744073709551616∧x.o.at_ < 18446744073709551616)∧RTr w x.o.t x.e
theorem ROp.sub {w w1:World}{x:E11} (h:ROp w x) (hs:Sub w w1):ROp w1 x:=⟨h.1,RTr.sub hs _ _ h.2⟩
theorem list11 {α:Type}:∀{l:List α},l.length=11→∃a b c d e f g i j k m,l=[a,b,c,d,e,f,g,i,j,k,m]
 | [a,b,c,d,e,f,g,i,j,k,m],_=>⟨a,b,c,d,e,f,g,i,j,k,m,rfl⟩
instance:Inhabited O1:=⟨⟨0,0,0,0,noB,noB,.mk 0 noB [] noB []⟩⟩
instance:Inhabited E11:=⟨⟨default,default⟩⟩
section
variable {H:Type}{enc:TypeId × Value→H}{W:World}
theorem op_cells {n:Nat}{cs:List Value}{x:DataW H × List MemPlace} (h:DataW.trod enc Tryz.prog W 0 (fun _=>true) true n 64 cs=some x) (hx:Rows.uptoBulk x.1≤1048576):∃y:E11,cs=LOp.cells y∧ROp W y:=by
 obtain⟨hl,hp⟩:=trod_parts Tryz.underlying64 h
 have kOp:(Tryz.prog).cellsOf 64=11:=by kernel_rfl
 obtain⟨a,b,c,d,e,f,g,i,j,k,m,rfl⟩:=list11 (hl.trans kOp)
 obtain⟨_,_,h0,b0⟩:=hp 0 _ rfl
 obtain⟨_,_,h1,b1⟩:=hp 1 _ rfl
 obtain⟨_,_,h2,b2⟩:=hp 2 _ rfl
 obtain⟨_,_,h3,b3⟩:=hp 3 _ rfl
 obtain⟨_,_,h4,b4⟩:=hp 4 _ rfl
 obtain⟨_,_,h5,b5⟩:=hp 5 _ rfl
 obtain⟨_,_,h6,b6⟩:=hp 6 _ rfl
 simp only [List.getElem_toArray,List.getElem_cons_zero,List.getElem_cons_succ,kInt,kStr,kBool,kHn,kTr,List.drop_zero,List.drop_succ_cons,List.take_succ_cons,List.take_zero] at h0 h1 h2 h3 h4 h5 h6
 obtain⟨q0,e0,-,-⟩:=DataW.trod_int Tryz.underlying3 h0
 obtain⟨q1,l1,e1⟩:=hn_cells h1
 obtain⟨q2,l2,e2⟩:=hn_cells h2
 obtain⟨q3,e3,-,-⟩:=DataW.trod_int Tryz.underlying3 h3
 obtain⟨q4,e4,-,-⟩:=DataW.trod_string Tryz.underlying9 h4
 obtain⟨q5,e5,-,-⟩:=DataW.trod_string Tryz.underlying9 h5
 obtain⟨q6,e6,t,ht⟩:=tr_cells 1048576 (Nat.le_refl _) _ _ _ h6 (by omega)
 simp only [E5.cells,List.cons.injEq,and_true] at e0 e1 e2 e3 e4 e5 e6
 obtain⟨e6,e7,e8,e9,e10⟩:=e6
 subst e0 e1 e2 e3 e4 e5 e6 e7 e8 e9 e10
 exact⟨⟨⟨q0,q1,q2,q3,q4,q5,t⟩,q6⟩,rfl,⟨l1,l2⟩,ht⟩
theorem ops_open {n:Nat}{cs:List Value}{x:DataW H × List MemPlace} (h:DataW.trod enc Tryz.prog W 0 (fun _=>true) true n 22 cs=some x) (hx:Rows.uptoBulk x.1≤1048576) :
  ∃(A:Option Addr) (c:Nat) (xs:List E11),cs=[.slice A xs.length c]∧Rd LOp W A c xs∧(∀y∈xs,ROp W y)∧xs.length≤1048576:=by
 obtain⟨A,c,l,e,hr,hq,hlen⟩:=open_bk LOp (ROp W) h Tryz.underlying22 (by kernel_rfl) fun n cs y hy hb=>op_cells hy (by omega)
 exact⟨A,c,l,e,hr,hq,Nat.le_trans hlen hx⟩
end
end Go.Proofs.YtncbjdgcgclnnaaGreatDoor
namespace Go.Proofs.YtncbjdgcgclnnaaGreatDoor
open Go.RowKit Go.Vc
set_option linter.unusedVariables false
set_option linter.unusedSimpArgs false
set_option maxRecDepth 100000
section
variable {w:World}{R:Ending→World→Prop}
theorem chk_at {L:List O1} (hl:L.length≤4096) {k:Nat} (hk:k < L.length) (h:chkF (L.take k) (L.drop k)=checkF L):(badO (L.take k) L[k]=0→chkF (L.take (k+1)) (L.drop (k+1))=checkF L)∧(badO (L.take k) L[k]≠0→checkF L=(k,badO (L.take k) L[k])):=by
 rw [chk_step hk] at h
 constructor
 ·intro e;rw [if_neg (by rw [e];simp)] at h;exact h
 ·intro e;rw [if_pos e] at h;exact h.symm
theorem checkR_calls (xs:List E11) {A:Option Addr}{c:Nat} (hr:Rd LOp w A c xs) (hx:∀x∈xs,ROp w x) (hl:xs.length≤1048576) (hK:∀w',Below w.heap.size w w'→R (.returned (.tuple #[.int .i64 ((checkF (xs.map (·.o))).1:Nat),.int .i64 (checkF (xs.map (·.o))).2])) w') :
  Calls Tryz.prog 8 #[.slice A xs.length c] w R:=by
 refine ok8 A xs.length c ?_
 unfold F8
 generalize hL:xs.map (·.o)=L at *
 have hlen:L.length=xs.length:=by rw [←hL,List.length_map]
 refine brd (fun hgt=>?_) (fun hle=>?_)
 ·have H:=hK w (.refl _ _)
  unfold checkF at H
  rw [if_pos (by omega)] at H
  exact H
 have hle:L.length≤4096:=by omega
 refine⟨fun i w'=>∃k:Nat,i=k∧k≤xs.length∧Below w.heap.size w w'∧chkF (L.take k) (L.drop k)=checkF L,fun i _=>xs.length-i.toNat,⟨0,rfl,by omega,.refl _ _,by unfold checkF;rw [if_neg (by omega)];rfl⟩,?_⟩
 rintro _ w1 ⟨k,rfl,hk,hb1,hF⟩
 unfold F8_l4
 refine brd (fun hlt=>?_) (fun hge=>?_)
 ·have hk2:k < xs.length:=by omega
  obtain⟨f1,f2⟩:=chk_at hle (by omega) hF
  have hLk:L[k]'(by omega)=xs[k].o:=by subst hL;rw [List.getElem_map]
  rw [hLk] at f1 f2
  have bad:∀{v:Int}{w':World},badO (L.take k) xs[k].o=v→v≠0→Below w.heap.size w w'→R (.returned (.tuple #[.int .i64 (k:Nat),.int .i64 v])) w':=fun {v w'} e1 e2 hb=>by
   have H:=hK w' hb
   rw [f2 (by rw [e1];exact e2),e1] at H
   exact H
  have hrt:=(hx _ (List.getElem_mem hk2)).2
  have hr1:=hr.keep hb1
  refine hr1.idx rfl (by omega) (by omega) rfl fun b oo cc=>?_
  simp only [Int.toNat_natCast] at cc
  have k0:=cc 0 _ rfl
  have k1:=cc 1 _ rfl
  have k2:=cc 2 _ rfl
  have k3:=cc 3 _ rfl
  have k4:=cc 4 _ rfl
  have k5:=cc 5 _ rfl
  have k6:=cc 6 _ rfl
  have k7:=cc 7 _ rfl
  have k8:=cc 8 _ rfl
  have k9:=cc 9 _ rfl
  have k10:=cc 10 _ rfl
  simp only [Nat.add_zero] at k0
  simp only [Addr.add_mk,k0,k1,k2,k3,k4,k5,k6,k7,k8,k9,k10,lds]
  refine al11 fun go w2 hb2 bo hgo=>?_
  have B2:=btr hb1 hb1.size hb2
  simp only [Addr.add_mk,Nat.zero_add,bo.cell,lds]
  refine⟨fun w'=>w2=w'∧1≤xs[k].o.kind∧xs[k].o.kind≤8,?_,?_⟩
  rotate_left
  ·refine brd (fun h=>bad (by unfold badO;rw [if_pos (.inl h)]) (by decide) B2) fun h1=>?_
   exact brd (fun h=>bad (by unfold badO;rw [if_pos (.inr h)]) (by decide) B2) fun h2=>⟨rfl,by omega,by omega⟩
  rintro _ ⟨rfl,h1,h8⟩
  have hb0:∀x,(if xs[k].o.kind < 1∨8 < xs[k].o.kind then (170:Int) else x)=x:=fun x=>if_neg (by omega)
  unfold F8_j9
  refine⟨fun w'=>Below w2.heap.size w2 w'∧¬((xs[k].o.kind=1∨xs[k].o.kind=8)∧(lookF xs[k].o.t 1 0).2≠0),?_,?_⟩
  rotate_left
  ·have tree:(xs[k].o.kind=1∨xs[k].o.kind=8)→Calls Tryz.prog 33 #[.agg #[.int .i64 xs[k].e.kind,.string xs[k].e.nm,slV xs[k].e.ats,.string xs[k].e.text,slV xs[k].e.kids]] w2 (post R fun v w1_13=>∃(x40:Int),v=(.int .i64 x40)∧Br (x40 != (0:Int)) (R (.returned (.tuple #[(.int .i64 (k:Nat)),(.int .i64 x40)])) w1_13) (Below w2.heap.size w2 w1_13∧¬((xs[k].o.kind=1∨xs[k].o.kind=8)∧(lookF xs[k].o.t 1 0).2≠0))):=fun hk18 =>
    Check_calls xs[k].o.t (RTr.sub (sub_below B2) _ _ hrt) fun w3 hb3=>⟨_,rfl,brn (fun hne=>bad (by unfold badO;rw [hb0,if_pos ⟨hk18,hne⟩]) hne (btr B2 B2.size hb3)) fun he=>⟨hb3,fun q=>q.2 he⟩⟩
   simp only [Addr.add_mk,Nat.zero_add,bo.cell,lds]
   refine bre (fun h=>tree (.inl h)) fun hn1=>?_
   refine bre (fun h=>tree (.inr h)) fun hn8=>⟨.refl _ _,fun q=>?_⟩
   rcases q.1 with e | e
   ·exact hn1 e
   ·exact hn8 e
  rintro w3 ⟨hb3,htr⟩
  have B3:=btr B2 B2.size hb3
  unfold F8_j13
  have hbd:badO (L.take k) xs[k].o=if ((L.take k).any fun a=>cfB a xs[k].o)=true then 171 else 0:=by unfold badO;rw [hb0,if_neg htr]
  refine⟨fun q w'=>∃p:Nat,q=p∧p≤k∧Below w3.heap.size w3 w'∧((L.take p).any fun a=>cfB a xs[k].o)=false,fun q _=>k-q.toNat,⟨0,rfl,by omega,.refl _ _,rfl⟩,?_⟩
  rintro _ w4 ⟨p,rfl,hp,hb4,hno⟩
  have B4:=btr B3 B3.size hb4
  unfold F8_l14
  refine brd (fun hpk=>?_) (fun hpk=>?_)
  ·have hp2:p < k:=by omega
   have hdr:Below w4.heap.size w4 w4.drew:=(Below.refl _ _).drew
   have B5:=btr B4 B4.size hdr
   have bo5:=bo.keep (btr hb3 hb3.size (btr hb4 hb4.size hdr))
   have hLp:L[p]'(by omega)=xs[p].o:=by subst hL;rw [List.getElem_map]
   have htk:(L.take (p+1)).any (fun a=>cfB a xs[k].o)=cfB xs[p].o xs[k].o:=by
    rw [List.take_succ_eq_append_getElem (by omega),List.any_append,hno,hLp];simp
   refine⟨fun w'=>Below w4.drew.heap.size w4.drew w',.refl _ _,?_⟩
   refine (hr.keep B5).held (fun _ h=>h) rfl (by omega) (by omega) rfl fun b oo cc=>?_
   simp only [Int.toNat_natCast,Nat.add_zero] at cc
   have k0:=cc 0 _ rfl
   refine⟨_,k0,_,cc 1 _ rfl,_,cc 2 _ rfl,_,cc 3 _ rfl,_,cc 4 _ rfl,_,cc 5 _ rfl,_,cc 6 _ rfl,_,cc 7 _ rfl,_,_,_,cc 8 _ rfl,_,cc 9 _ rfl,_,_,_,cc 10 _ rfl,?_⟩
   simp only [Addr.add_mk,Nat.zero_add]
   have ho:∀(i:Nat) (u:Value),(opC xs[k])[i]?=some u→Held (fun w'=>Below w4.drew.heap.size w4.drew w') ⟨go,i,none⟩ u:=fun i u hu w' hw=>by rw [(bo5.keep hw).cell];exact hu
   refine⟨_,ho 0 _ rfl,_,ho 1 _ rfl,_,ho 2 _ rfl,_,ho 3 _ rfl,_,ho 4 _ rfl,_,ho 5 _ rfl,_,ho 6 _ rfl,_,ho 7 _ rfl,_,_,_,ho 8 _ rfl,_,ho 9 _ rfl,_,_,_,ho 10 _ rfl,?_⟩
   refine cfR_calls xs[p] xs[k] fun w6 hb6=>⟨_,rfl,?_⟩
   have B6:=btr B5 B5.size hb6
   refine br (fun hc=>?_) (fun hc=>?_)
   ·refine bad (v:=171) ?_ (by decide) B6
    rw [hbd,if_pos]
    rw [List.any_eq_true]
    exact⟨xs[p].o,by rw [←hLp,List.mem_iff_getElem];exact⟨p,by rw [List.length_take];omega,by rw [List.getElem_take]⟩,hc⟩
   ·exact⟨inR_i64 (by omega) (by omega),⟨p+1,by simp,by omega,btr hb4 hb4.size (btr hdr hdr.size hb6),by rw [htk];exact hc⟩,(by first | omega | (dsimp only;omega))⟩
  ·have hpe:p=k:=by omega
   subst hpe
   rw [hno,if_neg (by decide)] at hbd
   exact⟨inR_i64 (by omega) (by omega),⟨p+1,by simp,by omega,B4,f1 hbd⟩,(by first | omega | (dsimp only;omega))⟩
 ·have hk2:k=xs.length:=by omega
  have H:=hK w1 hb1
  rw [←hF,List.drop_of_length_le (by omega),chkF] at H
  exact H
end
set_option maxRecDepth 100000
structure MpE (q:IntKind) (es:Array MapEntry) (clock:Nat) (f:Int→Option Value):Prop where
 key:∀x∈es.toList,∃k,x.key=.int q k∧f k=some x.val
 has:∀k v,f k=some v→∃x∈es.toList,x.key=.int q k
 one:(es.toList.map (·.key)).Nodup
 born:∀x∈es.toList,x.born < clock
 age:(es.toList.map (·.born)).Nodup
def Mp (q:IntKind) (w:World) (b:Nat) (f:Int→Option Value):Prop:=∃es clock,w.heap[b]?=some (.map es clock)∧MpE q es clock f
theorem findNow_int {q:IntKind}{k:Int}:∀(l:List MapEntry) (i:Nat),(∀x∈l,∃a,x.key=.int q a) →
  (Instr.findNow (.int q) (.int q k) l i=some none∧∀x∈l,x.key≠.int q k)∨∃j x,l[j]?=some x∧x.key=.int q k∧Instr.findNow (.int q) (.int q k) l i=some (some (i+j,x.val))
 | [],i,_=>.inl ⟨rfl,fun x h=>by simp at h⟩
 | x :: l,i,h=>by
  obtain⟨a,ha⟩:=h x (by simp)
  by_cases hk:k=a
  ·subst hk
   refine .inr ⟨0,x,rfl,ha,?_⟩
   simp [Instr.findNow,ha,Instr.sameNow]
  ·have e:Instr.findNow (.int q) (.int q k) (x :: l) i=Instr.findNow (.int q) (.int q k) l (i+1):=by
    have hb:(k == a)=false:=by simpa using hk
    simp [Instr.findNow,ha,Instr.sameNow,hb]
   rcases findNow_int l (i+1) fun y hy=>h y (by simp [hy]) with ⟨h1,h2⟩ | ⟨j,y,h1,h2,h3⟩
   ·refine .inl ⟨by rw [e,h1],fun y hy=>?_⟩
    rcases List.mem_cons.1 hy with rfl | hy
    ·rw [ha];intro h;injection h with _ h;exact hk h.symm
    ·exact h2 y hy
   ·exact .inr ⟨j+1,y,by simpa using h1,h2,by rw [e,h3];congr 2;simp;omega⟩
section
variable {P:Program}{q:IntKind}{w:World}{b:Nat}{f:Int→Option Value}{t kt et:TypeId}
theorem Mp.find (h:Mp q w b f) (k:Int):∃es clock,w.heap[b]?=some (.map es clock)∧MpE q es clock f ∧
  ((f k=none∧Instr.findNow (.int q) (.int q k) es.toList 0=some none)∨∃j x,es.toList[j]?=some x∧x.key=.int q k∧f k=some x.val∧Instr.findNow (.int q) (.int q k) es.toList 0=some (some (j,x.val))):=by
 obtain⟨es,clock,hb,he⟩:=h
 refine⟨es,clock,hb,he,?_⟩
 rcases findNow_int (k:=k) es.toList 0 fun x hx=>(he.key x hx).imp fun _ h=>h.1 with ⟨h1,h2⟩ | ⟨j,x,h1,h2,h3⟩
 ·refine .inl ⟨?_,h1⟩
  cases hf:f k with
  | none=>rfl
  | some v =>
   obtain⟨x,hx,hk⟩:=he.has k v hf
   exact absurd hk (h2 x hx)
 ·refine .inr ⟨j,x,h1,h2,?_,by simpa using h3⟩
  obtain⟨a,ha,hv⟩:=he.key x (List.mem_of_getElem? h1)
  rw [h2] at ha;injection ha with _ ha;subst ha;exact hv
theorem Mp.look (h:Mp q w b f) (ht:P.underlying t=some (.map kt et)) (hk:P.underlying kt=some (.int q)) {z:Value} (hz:(zeroValue et).run P w=.ok z w) (k:Int) (c:Bool) {K:Value→World→Prop}
  (hK:K (if c then .tuple #[(f k).getD z,.bool (f k).isSome] else (f k).getD z) w):Raw P (Instr.lookup t (.map (some b)) (.int q k) c) w K:=by
 obtain⟨es,clock,hb,he,h2⟩:=h.find k
 have hc:(Instr.checkKey es.isEmpty 10000 kt (.int q k)).run P w=.ok () w:=MapKept.run_checkKey (k:=.int q k) hk (by simp [MapKept.IsKey]) _ 9999
 rcases h2 with ⟨h1,h2⟩ | ⟨j,x,h3,h4,h1,h2⟩
 ·rw [h1] at hK
  refine⟨_,w,?_,hK⟩
  simp [Instr.lookup,run_underlying ht,MapKept.run_getObj_map hb,hc,MapKept.run_findKey hk h2,hz,Result.andThen]
 ·rw [h1] at hK
  refine⟨_,w,?_,hK⟩
  simp [Instr.lookup,run_underlying ht,MapKept.run_getObj_map hb,hc,MapKept.run_findKey hk h2,Result.andThen]
def upd (f:Int→Option Value) (k:Int) (v:Option Value):Int→Option Value:=fun j=>if j=k then v else f j
theorem Mp.lt (h:Mp q w b f):b < w.heap.size:=by
 obtain⟨es,clock,hb,_⟩:=h;exact (Array.getElem?_eq_some_iff.1 hb).1
theorem MpE.push {es:Array MapEntry}{clock:Nat} (he:MpE q es clock f) {k:Int} (hk:f k=none) (v:Value):MpE q (es.push ⟨.int q k,v,clock⟩) (clock+1) (upd f k (some v)):=by
 have hne:∀x∈es.toList,∀a,x.key=.int q a→a≠k:=fun x hx a ha e=>by
  obtain⟨a',h1,h2⟩:=he.key x hx
  rw [ha] at h1;injection h1 with _ h1;subst h1;subst e;rw [hk] at h2;cases h2
 refine⟨fun x hx=>?_,fun j u hu=>?_,?_,fun x hx=>?_,?_⟩
 ·rw [Array.toList_push] at hx
  rcases List.mem_append.1 hx with hx | hx
  ·obtain⟨a,h1,h2⟩:=he.key x hx
   exact⟨a,h1,by unfold upd;rw [if_neg (hne x hx a h1)];exact h2⟩
  ·rw [List.mem_singleton] at hx;subst hx
   exact⟨k,rfl,by unfold upd;rw [if_pos rfl]⟩
 ·unfold upd at hu
  by_cases e:j=k
  ·subst e;exact⟨⟨.int q j,v,clock⟩,by simp,rfl⟩
  ·rw [if_neg e] at hu
   obtain⟨x,hx,h1⟩:=he.has j u hu
   exact⟨x,by simp [Array.mem_toList_iff.1 hx],h1⟩
 ·rw [Array.toList_push,List.map_append,List.nodup_append]
  refine⟨he.one,by simp,fun x hx y hy e=>?_⟩
  rw [List.map_singleton,List.mem_singleton] at hy
  obtain⟨z,hz,rfl⟩:=List.mem_map.1 hx
  obtain⟨a,h1,-⟩:=he.key z hz
  rw [h1,hy] at e;injection e with _ e
  exact hne z hz a h1 e
 ·rw [Array.toList_push] at hx
  rcases List.mem_append.1 hx with hx | hx
  ·have:=he.born x hx;omega
  ·rw [List.mem_singleton] at hx;subst hx;exact Nat.lt_succ_self _
 ·rw [Array.toList_push,List.map_append,List.nodup_append]
  refine⟨he.age,by simp,fun x hx y hy e=>?_⟩
  rw [List.map_singleton,List.mem_singleton] at hy
  obtain⟨z,hz,rfl⟩:=List.mem_map.1 hx
  have:=he.born z hz
  simp only at hy e
  omega
theorem modify_list (es:Array MapEntry) (j:Nat) (g:MapEntry→MapEntry):(es.modify j g).toList=es.toList.modify j g:=Array.toList_modify
theorem map_modify_same {α β:Type} (p:α→β) (g:α→α):∀(l:List α) (j:Nat),(∀x,l[j]?=some x→p (g x)=p x)→(l.modify j g).map p=l.map p
 | [],j,_=>by cases j <;> rfl
 | x :: l,0,h=>by simp [List.modify,h x rfl]
 | x :: l,j+1,h=>by simpa using map_modify_same p g l j fun y hy=>h y (by simpa using hy)
theorem mem_modify {α:Type} (g:α→α):∀(l:List α) (j:Nat) (y:α),l[j]?=some y→∀x,x∈l.modify j g→x=g y∨∃i,i≠j∧l[i]?=some x
 | [],j,y,h,x,hx=>by simp at h
 | a :: l,0,y,h,x,hx=>by
  simp at h;subst h
  rw [List.modify_zero_cons] at hx
  rcases List.mem_cons.1 hx with rfl | hx
  ·exact .inl rfl
  ·obtain⟨i,hi⟩:=List.mem_iff_getElem?.1 hx
   exact .inr ⟨i+1,by omega,by simpa using hi⟩
 | a :: l,j+1,y,h,x,hx=>by
  rw [List.modify_succ_cons] at hx
  rcases List.mem_cons.1 hx with rfl | hx
  ·exact .inr ⟨0,by omega,rfl⟩
  ·rcases mem_modify g l j y (by simpa using h) x hx with h1 | ⟨i,h1,h2⟩
   ·exact .inl h1
   ·exact .inr ⟨i+1,by omega,by simpa using h2⟩
theorem MpE.put {es:Array MapEntry}{clock:Nat} (he:MpE q es clock f) {k:Int}{j:Nat}{y:MapEntry} (hj:es.toList[j]?=some y) (hy:y.key=.int q k) (v:Value) :
  MpE q (es.modify j fun e=>{ e with key:=.int q k,val:=v }) clock (upd f k (some v)):=by
 have hym:=List.mem_of_getElem? hj
 have hkeys:(es.modify j fun e=>{ e with key:=.int q k,val:=v }).toList.map (·.key)=es.toList.map (·.key):=by
  rw [modify_list];exact map_modify_same _ _ _ _ fun x hx=>by rw [hj] at hx;cases hx;exact hy.symm
 have hborn:(es.modify j fun e=>{ e with key:=.int q k,val:=v }).toList.map (·.born)=es.toList.map (·.born):=by
  rw [modify_list];exact map_modify_same _ _ _ _ fun x hx=>rfl
 refine⟨fun x hx=>?_,fun i u hu=>?_,by rw [hkeys];exact he.one,fun x hx=>?_,by rw [hborn];exact he.age⟩
 ·rw [modify_list] at hx
  rcases mem_modify _ _ _ y hj x hx with rfl | ⟨i,hi,hx2⟩
  ·exact⟨k,rfl,by unfold upd;rw [if_pos rfl]⟩
  ·obtain⟨a,h1,h2⟩:=he.key x (List.mem_of_getElem? hx2)
   refine⟨a,h1,?_⟩
   have hne:a≠k:=fun e=>by
    subst e
    obtain⟨l1,l2⟩:=List.getElem?_eq_some_iff.1 hx2
    obtain⟨m1,m2⟩:=List.getElem?_eq_some_iff.1 hj
    have hpw:=List.pairwise_iff_getElem.1 he.one
    rcases Nat.lt_or_gt_of_ne hi with h3 | h3
    ·have:=hpw i j (by simpa using l1) (by simpa using m1) h3
     simp only [List.getElem_map,l2,m2] at this
     exact this (by rw [h1,hy])
    ·have:=hpw j i (by simpa using m1) (by simpa using l1) h3
     simp only [List.getElem_map,l2,m2] at this
     exact this (by rw [h1,hy])
   unfold upd;rw [if_neg hne];exact h2
 ·have hex:∃x∈es.toList,x.key=.int q i:=by
   unfold upd at hu
   by_cases e:i=k
   ·subst e;exact⟨y,hym,hy⟩
   ·rw [if_neg e] at hu;exact he.has i u hu
  obtain⟨x,hx,h1⟩:=hex
  have:Value.int q i∈(es.modify j fun e=>{ e with key:=.int q k,val:=v }).toList.map (·.key):=by
   rw [hkeys];exact List.mem_map.2 ⟨x,hx,h1⟩
  obtain⟨x',hx',h2⟩:=List.mem_map.1 this
  exact⟨x',hx',h2⟩
 ·have:x.born∈es.toList.map (·.born):=by rw [←hborn];exact List.mem_map.2 ⟨x,hx,rfl⟩
  obtain⟨z,hz,h1⟩:=List.mem_map.1 this
  rw [←h1];exact he.born z hz
theorem set_fm (w:World) (b:Nat) (o:Obj):Fm (·=b) w { w with heap:=w.heap.setIfInBounds b o } :=
 ⟨rfl,rfl,rfl,by simp,fun i hi hne=>by
  show (w.heap.setIfInBounds b o)[i]?=_
  rw [Array.getElem?_setIfInBounds_ne (fun e=>hne e.symm)]⟩
theorem Mp.update (h:Mp q w b f) (ht:P.underlying t=some (.map kt et)) (hk:P.underlying kt=some (.int q)) (k:Int) (v:Value) {K:World→Prop}
  (hK:∀w',Mp q w' b (upd f k (some v))→Fm (·=b) w w'→K w'):Raw P (Instr.mapUpdate t (.map (some b)) (.int q k) v) w fun _ w'=>K w':=by
 obtain⟨es,clock,hb,he,h2⟩:=h.find k
 have hlt:=(Array.getElem?_eq_some_iff.1 hb).1
 have hc:(Instr.checkKey false 10000 kt (.int q k)).run P w=.ok () w:=MapKept.run_checkKey (k:=.int q k) hk (by simp [MapKept.IsKey]) _ 9999
 rcases h2 with ⟨h1,h2⟩ | ⟨j,x,h3,h4,h1,h2⟩
 ·refine⟨(),{ w with heap:=w.heap.setIfInBounds b (.map (es.push ⟨.int q k,v,clock⟩) (clock+1)) },?_,hK _ ⟨_,_,?_,he.push h1 v⟩ (set_fm _ _ _)⟩
  ·simp [Instr.mapUpdate,run_underlying ht,MapKept.run_getObj_map hb,hc,MapKept.run_findKey hk h2,MapKept.run_setObj_map _ hb,Result.andThen]
  ·simp [hlt]
 ·refine⟨(),{ w with heap:=w.heap.setIfInBounds b (.map (es.modify j fun e=>{ e with key:=.int q k,val:=v }) clock) },?_,hK _ ⟨_,_,?_,he.put h3 h4 v⟩ (set_fm _ _ _)⟩
  ·have hj:(es[j]?).map (·.key)=some (.int q k):=by
    rw [←Array.getElem?_toList,h3,Option.map_some,h4]
   have hst:(Instr.keyThatStays (.int q k) (.int q k)).run P w=.ok (.int q k) w:=MapKept.run_keyThatStays (d:=.int q) (by simp [MapKept.IsKey])
   simp only [Instr.mapUpdate,Sem.run_bind,run_underlying ht,MapKept.run_getObj_map hb,hc,MapKept.run_findKey hk h2,MapKept.run_setObj_map _ hb,Result.andThen,hj,hst,Option.getD_some]
  ·simp [hlt]
theorem Mp.made (w:World) (q:IntKind):Mp q (w.alloc (.map #[] 0)) w.heap.size fun _=>none :=
 ⟨#[],0,heap_alloc_new _ _,⟨fun x hx=>by simp at hx,fun k v h=>by simp at h,by simp,fun x hx=>by simp at hx,by simp⟩⟩
theorem Mp.fm {M:Nat→Prop}{w1:World} (h:Mp q w b f) (hf:Fm M w w1) (hm:¬M b):Mp q w1 b f:=by
 obtain⟨es,clock,hb,he⟩:=h
 exact⟨es,clock,by rw [hf.block b (Array.getElem?_eq_some_iff.1 hb).1 hm];exact hb,he⟩
end
set_option maxRecDepth 100000
theorem opMap:Tryz.prog.underlying 68=some (.map 48 22):=by kernel_rfl
theorem opKey:Tryz.prog.underlying 48=some (.int .u64):=by kernel_rfl
theorem opZero (w:World):(zeroValue 22).run Tryz.prog w=.ok (.slice none 0 0) w:=by kernel_rfl
theorem Apart.sym {v u:Value} (h:Apart v u):Apart u v:=by
 rcases h with h | h
 ·cases hu:rowOf u with
  | none=>exact .inl hu
  | some k=>exact .inr (by rw [h,hu];simp)
 ·exact .inr fun e=>h e.symm
theorem Apart.nilR {v:Value}{n c:Nat}:Apart v (.slice none n c):=by
 cases h:rowOf v with
 | none=>exact .inl h
 | some k=>exact .inr (by rw [h];intro hc;cases c <;> cases hc)
theorem mp_new (q:IntKind) {w:World}{r:Nat} (h:w.heap[r]?=some (.map #[] 0)):Mp q w r fun _=>none:=⟨#[],0,h,⟨fun x hx=>by simp at hx,fun k v h=>by simp at h,by simp,fun x hx=>by simp at hx,by simp⟩⟩
theorem almM {w:World}{K:Nat→World→Prop} (h:∀r w1,Below w.heap.size w w1→w.heap.size≤r→r < w1.heap.size→w1.heap[r]?=some (.map #[] 0)→K r w1):AlM w K :=
 h _ _ ((Below.refl _ _).alloc (Nat.le_refl _) _) (Nat.le_refl _) (by simp) (heap_alloc_new _ _)
def mpAh (pre:List E11) (av:Nat→Sv) (k:Int):Option Value:=if 0≤k∧ahE pre k.toNat≠[] then some (slV (av k.toNat)) else none
structure Ah (w0 w:World) (m:Nat) (pre:List E11) (av:Nat→Sv):Prop where
 fr:Below w0.heap.size w0 w
 ml:w0.heap.size≤m
 mp:Mp .u64 w m (mpAh pre av)
 ho:∀n,Own LOp w w0.heap.size 64 (slV (av n)) (ahE pre n)
 hm:∀n,rowOf (slV (av n))≠some m
 ha:∀n k,n≠k→Apart (slV (av n)) (slV (av k))
section
variable {w0 w w1:World}{m:Nat}{pre:List E11}{av:Nat→Sv}{x:E11}
theorem Ah.keep (h:Ah w0 w m pre av) (hb:Below w.heap.size w w1):Ah w0 w1 m pre av :=
 ⟨btr h.fr h.fr.size hb,h.ml,h.mp.fm (M:=fun _=>False) (.below hb) (fun h=>h),fun n=>(h.ho n).keep hb,h.hm,h.ha⟩
theorem Ah.start (hm:w.heap[m]?=some (.map #[] 0)) (hb:Below w0.heap.size w0 w) (hl:w0.heap.size≤m):Ah w0 w m [] fun _=>(none,0,0):=by
 refine⟨hb,hl,?_,fun n=>Own.nil _ _ _ _,fun n e=>(by cases e),fun n k _=>.inl rfl⟩
 have:mpAh [] (fun _=>((none,0,0):Sv))=fun _=>none:=by
  funext k
  unfold mpAh
  rw [if_neg (fun q=>q.2 rfl)]
 rw [this];exact mp_new .u64 hm
theorem Ah.look (h:Ah w0 w m pre av) (n:Nat) {K:Value→World→Prop} (hK:∀v,Own LOp w w0.heap.size 64 (slV v) (ahE pre n)→rowOf (slV v)≠some m→(∀x,rowOf (slV v)=some x→rowOf (slV (av n))=some x)→(∀k,k≠n→Apart (slV (av k)) (slV v))→K (slV v) w) :
  Raw Tryz.prog (Instr.lookup 68 (.map (some m)) (.int .u64 (n:Nat)) false) w K:=by
 refine h.mp.look opMap opKey (opZero w) (n:Nat) false ?_
 rw [if_neg (by decide)]
 unfold mpAh
 by_cases e:ahE pre n=[]
 ·rw [if_neg (fun q=>q.2 (by rw [Int.toNat_natCast];exact e))]
  exact hK (none,0,0) (by rw [e];exact Own.nil _ _ _ _) (fun q=>(by cases q)) (fun x q=>by cases q) fun k _=>Apart.nilR
 ·rw [if_pos ⟨by omega,by rw [Int.toNat_natCast];exact e⟩,Int.toNat_natCast]
  exact hK (av n) (h.ho n) (h.hm n) (fun x q=>q) fun k hk=>h.ha k n hk
theorem Ah.put (h:Ah w0 w m pre av) (hx:(sgB x.o.kind || atK x.o.kind)=true) {v v1:Sv} (hv:Own LOp w w0.heap.size 64 (slV v) (ahE pre x.o.node)) (hvm:rowOf (slV v)≠some m) (hva:∀k,k≠x.o.node→Apart (slV (av k)) (slV v))
  {w2:World} (g:Grew w0.heap.size w w2 (slV v) (slV v1)) (h1:Own LOp w2 w0.heap.size 64 (slV v1) (ahE pre x.o.node++[x])) {K:World→Prop}
  (hK:∀w' av',Ah w0 w' m (pre++[x]) av'→w.heap.size≤w'.heap.size→K w') :
  Raw Tryz.prog (Instr.mapUpdate 68 (.map (some m)) (.int .u64 (x.o.node:Nat)) (slV v1)) w2 fun _ w'=>K w':=by
 have FG:Fm (fun b=>rowOf (slV v)=some b) w w2:=Fm.grown g.grown fun b hb=>hb
 have hml:=h.mp.lt
 refine (h.mp.fm FG hvm).update opMap opKey (x.o.node:Nat) (slV v1) fun w' hm hf=>?_
 have FF:Fm (fun b=>b=m∨rowOf (slV v)=some b) w w':=(FG.mono fun b _ e=>.inr e).trans (hf.mono fun b _ e=>.inl e)
 have hmem:∀y,rowOf (slV v1)=some y→rowOf (slV v)=some y∨w.heap.size≤y:=fun y hy=>by
  rcases g.row with e | e | ⟨q,e,e2⟩
  ·rw [e] at hy;exact .inl hy
  ·rw [e] at hy;cases hy
  ·rw [e] at hy;cases hy;exact .inr e2
 have hm1:rowOf (slV v1)≠some m:=fun e=>by
  rcases hmem m e with q | q
  ·exact hvm q
  ·omega
 have hap:∀n,ahE (pre++[x]) n=if n=x.o.node then ahE pre n++[x] else ahE pre n:=fun n=>by
  rw [ahE_app,hx,Bool.and_true]
  by_cases e:x.o.node=n
  ·rw [if_pos (by simpa using e),if_pos e.symm]
  ·rw [if_neg (by simpa using e),if_neg (fun q=>e q.symm),List.append_nil]
 have hsub:Below w0.heap.size w w':=g.below.trans (hf.toBelow (Nat.le_trans h.fr.size g.lt) fun b hb e=>by have e:b=m:=e;have:=h.ml;omega)
 refine hK w' (fun n=>if n=x.o.node then v1 else av n) ⟨h.fr.trans hsub,h.ml,?_,fun n=>?_,fun n=>?_,fun n k hnk=>?_⟩ FF.size
 ·have:mpAh (pre++[x]) (fun n=>if n=x.o.node then v1 else av n)=upd (mpAh pre av) (x.o.node:Nat) (some (slV v1)):=by
   funext k
   unfold mpAh upd
   dsimp only
   by_cases e:k=(x.o.node:Int)
   ·subst e
    rw [if_pos rfl,Int.toNat_natCast,hap,if_pos rfl,if_pos ⟨by omega,by simp⟩,if_pos rfl]
   ·rw [if_neg e]
    by_cases h0:0≤k
    ·have e2:k.toNat≠x.o.node:=by omega
     rw [hap,if_neg e2,if_neg e2]
    ·rw [if_neg (fun q=>h0 q.1),if_neg (fun q=>h0 q.1)]
  rw [this];exact hm
 ·rw [hap]
  by_cases e:n=x.o.node
  ·subst e
   simp only [if_pos rfl]
   exact own_fm h1 hf fun b hb e=>hm1 (by rw [←show b=m from e];simpa using hb)
  ·simp only [if_neg e]
   refine own_fm (h.ho n) FF fun y hy q=>?_
   rcases q with q | q
   ·subst q;exact h.hm n hy
   ·rcases hva n e with q2 | q2
    ·rw [q2] at hy;cases hy
    ·exact q2 (hy.trans q.symm)
 ·by_cases e:n=x.o.node
  ·simp only [if_pos e];exact hm1
  ·simp only [if_neg e];exact h.hm n
 ·have key:∀c,c≠x.o.node→Apart (slV (av c)) (slV v1):=fun c hc=>by
   rcases g.row with q | q | ⟨z,q,q2⟩
   ·rcases hva c hc with p | p
    ·exact .inl p
    ·exact .inr (by rw [q];exact p)
   ·cases hr:rowOf (slV (av c)) with
    | none=>exact .inl hr
    | some y=>exact .inr (by rw [hr,q];simp)
   ·cases hr:rowOf (slV (av c)) with
    | none=>exact .inl hr
    | some y =>
     refine .inr ?_
     rw [hr,q]
     intro p
     have p:y=z:=by simpa using p
     have:=((h.ho c).lt y hr).2
     omega
  by_cases ea:n=x.o.node
  ·have eb:k≠x.o.node:=fun e=>hnk (ea.trans e.symm)
   simp only [if_pos ea,if_neg eb]
   exact (key k eb).sym
  ·by_cases eb:k=x.o.node
   ·simp only [if_neg ea,if_pos eb];exact key n ea
   ·simp only [if_neg ea,if_neg eb];exact h.ha n k hnk
theorem Ah.skip (h:Ah w0 w m pre av) (hx:(sgB x.o.kind || atK x.o.kind)=false):Ah w0 w m (pre++[x]) av:=by
 have hap:∀n,ahE (pre++[x]) n=ahE pre n:=fun n=>by
  rw [ahE_app,hx,Bool.and_false,if_neg (by decide),List.append_nil]
 refine⟨h.fr,h.ml,?_,fun n=>by rw [hap];exact h.ho n,h.hm,h.ha⟩
 have:mpAh (pre++[x]) av=mpAh pre av:=by
  funext k
  unfold mpAh
  rw [hap]
 rw [this];exact h.mp
end
set_option maxRecDepth 100000
section
variable {w:World}{R:Ending→World→Prop}
theorem badO_cf {pre:List O1}{o:O1} (h1:1≤o.kind) (h8:o.kind≤8) (ht:¬((o.kind=1∨o.kind=8)∧(lookF o.t 1 0).2≠0)):badO pre o=if (pre.any fun a=>cfB a o)=true then 171 else 0:=by
 unfold badO
 rw [if_neg (by omega),if_neg ht]
theorem put_op {w0 w2 w5 : World} {m go : Nat} {pre : List E11} {av : Nat → Sv} {x : E11} (h : Ah w0 w2 m pre av) (h5 : Below w2.heap.size w2 w5) (bo : Blk w5 go (opC x) 64) (hgo : w2.heap.size ≤ go) (hpl : pre.length ≤ 4096) (hx : (sgB x.o.kind || atK x.o.kind) = true) {J : World → Prop}
    (hJ : ∀ w' av', Ah w0 w' m (pre ++ [x]) av' → J w') :
    ∃ S : World → Prop, S w5.drew ∧ ∃ (x69 : Int), Held S ⟨go, 1, none⟩ (.int .u64 x69) ∧ ∃ (x72 : Int), Held S ⟨go, 1, none⟩ (.int .u64 x72) ∧ ∃ (x74_0 : Int), Held S ⟨go, 0, none⟩ (.int .i64 x74_0) ∧ ∃ (x74_1 : Int), Held S ⟨go, 1, none⟩ (.int .u64 x74_1) ∧ ∃ (x74_2 : Int), Held S ⟨go, 2, none⟩ (.int .u64 x74_2) ∧ ∃ (x74_3 : Int), Held S ⟨go, 3, none⟩ (.int .i64 x74_3) ∧ ∃ (x74_4 : ByteArray), Held S ⟨go, 4, none⟩ (.string x74_4) ∧ ∃ (x74_5 : ByteArray), Held S ⟨go, 5, none⟩ (.string x74_5) ∧ ∃ (x74_6 : Int), Held S ⟨go, 6, none⟩ (.int .i64 x74_6) ∧ ∃ (x74_7 : ByteArray), Held S ⟨go, 7, none⟩ (.string x74_7) ∧ ∃ (x74_8 : Option Addr) (x74_8N : Nat) (x74_8C : Nat), Held S ⟨go, 8, none⟩ (.slice x74_8 x74_8N x74_8C) ∧ ∃ (x74_9 : ByteArray), Held S ⟨go, 9, none⟩ (.string x74_9) ∧ ∃ (x74_10 : Option Addr) (x74_10N : Nat) (x74_10C : Nat), Held S ⟨go, 10, none⟩ (.slice x74_10 x74_10N x74_10C) ∧ (Raw Tryz.prog (Instr.lookup 68 (.map (some m)) (.int .u64 x72) false) w5.drew fun v3 w1_17 =>
 ∃ (x73 : Option Addr) (x73N : Nat) (x73C : Nat), v3 = (.slice x73 x73N x73C) ∧
 S w1_17 ∧ Al w1_17 #[(.int .i64 x74_0), (.int .u64 x74_1), (.int .u64 x74_2), (.int .i64 x74_3), (.string x74_4), (.string x74_5), (.int .i64 x74_6), (.string x74_7), (.slice x74_8 x74_8N x74_8C), (.string x74_9), (.slice x74_10 x74_10N x74_10C)] 64 fun g75 w1_18 =>
 S w1_18 ∧ Raw Tryz.prog (Builtin.append_ #[22, 22] 22 #[(.slice x73 x73N x73C), (.slice (some g75) 1 1)]) w1_18 fun v4 w1_19 =>
 ∃ (x76 : Option Addr) (x76N : Nat) (x76C : Nat), v4 = (.slice x76 x76N x76C) ∧
 S w1_19 ∧ Raw Tryz.prog (Instr.mapUpdate 68 (.map (some m)) (.int .u64 x69) (.slice x76 x76N x76C)) w1_19 fun _ w1_20 =>
 J w1_20)
 ∧ (Al w5.drew #[(.int .i64 x74_0), (.int .u64 x74_1), (.int .u64 x74_2), (.int .i64 x74_3), (.string x74_4), (.string x74_5), (.int .i64 x74_6), (.string x74_7), (.slice x74_8 x74_8N x74_8C), (.string x74_9), (.slice x74_10 x74_10N x74_10C)] 64 fun g75 w1_17 =>
 S w1_17 ∧ Raw Tryz.prog (Instr.lookup 68 (.map (some m)) (.int .u64 x72) false) w1_17 fun v3 w1_18 =>
 ∃ (x73 : Option Addr) (x73N : Nat) (x73C : Nat), v3 = (.slice x73 x73N x73C) ∧
 S w1_18 ∧ Raw Tryz.prog (Builtin.append_ #[22, 22] 22 #[(.slice x73 x73N x73C), (.slice (some g75) 1 1)]) w1_18 fun v4 w1_19 =>
 ∃ (x76 : Option Addr) (x76N : Nat) (x76C : Nat), v4 = (.slice x76 x76N x76C) ∧
 S w1_19 ∧ Raw Tryz.prog (Instr.mapUpdate 68 (.map (some m)) (.int .u64 x69) (.slice x76 x76N x76C)) w1_19 fun _ w1_20 =>
 J w1_20) := by
  have hdr : Below w5.heap.size w5 w5.drew := (Below.refl _ _).drew
  have hs5 := h5.size
  have hs0 := h.fr.size
  have D5 := btr h5 hs5 hdr
  have hE : (ahE pre x.o.node).length ≤ 4096 := Nat.le_trans (ahE_len _ _) hpl
  refine ⟨fun w' => Blk w' go (opC x) 64, bo.keep hdr, ?_⟩
  have ho : ∀ (i : Nat) (u : Value), (opC x)[i]? = some u → Held (fun w' => Blk w' go (opC x) 64) ⟨go, i, none⟩ u := fun i u hu w' hw => by rw [hw.cell]; exact hu
  refine ⟨_, ho 1 _ rfl, _, ho 1 _ rfl, _, ho 0 _ rfl, _, ho 1 _ rfl, _, ho 2 _ rfl, _, ho 3 _ rfl, _, ho 4 _ rfl, _, ho 5 _ rfl, _, ho 6 _ rfl, _, ho 7 _ rfl, _, _, _, ho 8 _ rfl, _, ho 9 _ rfl, _, _, _, ho 10 _ rfl, ?_, ?_⟩
  · have hA := h.keep D5
    refine hA.look x.o.node fun v hv hvm hvr hva => ⟨_, _, _, rfl, bo.keep hdr, ?_⟩
    have hgv : rowOf (slV v) ≠ some go := fun e => by have := ((h.ho x.o.node).lt go (hvr go e)).2; omega
    refine ap1S (L := LOp) (x := x) (S := fun w' => Blk w' go (opC x) 64) (base := w0.heap.size) (.agg #[.int .i64 0, .int .u64 0, .int .u64 0, .int .i64 0, .string (ByteArray.mk #[]), .string (ByteArray.mk #[]), .int .i64 0, .string (ByteArray.mk #[]), .slice none 0 0, .string (ByteArray.mk #[]), .slice none 0 0]) 152 rfl (by kernel_rfl) (by kernel_rfl) (by kernel_rfl) hv (Nat.le_trans hs0 D5.size) (by omega) (by unfold maxLen; omega)
      (fun w1 hb => (bo.keep hdr).keep hb) fun A' c' w6 o6 g6 => ⟨A', _, c', rfl, ?_, ?_⟩
    · exact (Fm.grown g6.grown fun b hb => hb : Fm (fun b => rowOf (slV v) = some b) _ _).blk (bo.keep hdr) hgv
    · exact hA.put (v1 := (A', _, c')) hx hv hvm hva g6 o6 fun w7 av7 h7 _ => hJ w7 av7 h7
  · refine al fun ga w6 hb6 b6 hga => ⟨(bo.keep hdr).keep hb6, ?_⟩
    have D6 := btr D5 D5.size hb6
    have hA := h.keep D6
    refine hA.look x.o.node fun v hv hvm hvr hva => ⟨_, _, _, rfl, (bo.keep hdr).keep hb6, ?_⟩
    have hgv : rowOf (slV v) ≠ some go := fun e => by have := ((h.ho x.o.node).lt go (hvr go e)).2; omega
    have hrl : Rd LOp w6 (some ⟨ga, 0, none⟩) 1 [x] := rd_row (xs := [x]) b6 rfl (by simp [maxLen])
    refine ap (L := LOp) (ys := [x]) (base := w0.heap.size) (.agg #[.int .i64 0, .int .u64 0, .int .u64 0, .int .i64 0, .string (ByteArray.mk #[]), .string (ByteArray.mk #[]), .int .i64 0, .string (ByteArray.mk #[]), .slice none 0 0, .string (ByteArray.mk #[]), .slice none 0 0]) 152 rfl (by kernel_rfl) (by kernel_rfl) (by kernel_rfl) hv hrl (Nat.le_trans hs0 D6.size) (by simp only [List.length_singleton]; omega) (by simp only [List.length_singleton]; unfold maxLen; omega) fun A' c' w7 o7 g7 => ⟨A', _, c', rfl, ?_, ?_⟩
    · exact (Fm.grown g7.grown fun b hb => hb : Fm (fun b => rowOf (slV v) = some b) _ _).blk ((bo.keep hdr).keep hb6) hgv
    · exact hA.put (v1 := (A', _, c')) hx hv hvm hva g7 o7 fun w8 av8 h8 _ => hJ w8 av8 h8
theorem checkP_calls (xs:List E11) {A:Option Addr}{c:Nat} (hr:Rd LOp w A c xs) (hx:∀x∈xs,ROp w x) (hT:Tabs w) (hl:xs.length≤1048576) (hK:∀w',Below w.heap.size w w'→R (.returned (.tuple #[.int .i64 ((checkF (xs.map (·.o))).1:Nat),.int .i64 (checkF (xs.map (·.o))).2])) w') :
  Calls Tryz.prog 7 #[.slice A xs.length c] w R:=by
 refine ok7 A xs.length c ?_
 unfold F7
 generalize hL:xs.map (·.o)=L at *
 have hlen:L.length=xs.length:=by rw [←hL,List.length_map]
 refine brd (fun hgt=>?_) (fun hle=>?_)
 ·have H:=hK w (.refl _ _)
  unfold checkF at H
  rw [if_pos (by omega)] at H
  exact H
 have hle:L.length≤4096:=by omega
 refine almM fun m w1 hb1 hge1 hlt1 hm1=>?_
 refine⟨fun i w'=>∃(k:Nat) (av:Nat→Sv),i=k∧k≤xs.length∧Ah w w' m (xs.take k) av∧chkF (L.take k) (L.drop k)=checkF L,fun i _=>xs.length-i.toNat,⟨0,_,rfl,by omega,Ah.start hm1 hb1 hge1,by unfold checkF;rw [if_neg (by omega)];rfl⟩,?_⟩
 rintro _ w1 ⟨k,av,rfl,hk,hA1,hF⟩
 have hb1:=hA1.fr
 unfold F7_l5
 refine brd (fun hlt=>?_) (fun hge=>?_)
 ·have hk2:k < xs.length:=by omega
  obtain⟨f1,f2⟩:=chk_at hle (by omega) hF
  have hLk:L[k]'(by omega)=xs[k].o:=by subst hL;rw [List.getElem_map]
  have hLt:L.take k=(xs.take k).map (·.o):=by subst hL;rw [List.map_take]
  rw [hLk] at f1 f2
  have bad:∀{v:Int}{w':World},badO (L.take k) xs[k].o=v→v≠0→Below w.heap.size w w'→R (.returned (.tuple #[.int .i64 (k:Nat),.int .i64 v])) w':=fun {v w'} e1 e2 hb=>by
   have H:=hK w' hb
   rw [f2 (by rw [e1];exact e2),e1] at H
   exact H
  have hrt:=(hx _ (List.getElem_mem hk2)).2
  have hr1:=hr.keep hb1
  have htk:xs.take (k+1)=xs.take k++[xs[k]]:=List.take_succ_eq_append_getElem hk2
  refine⟨fun w'=>badO (L.take k) xs[k].o=0∧∃av',Ah w w' m (xs.take (k+1)) av',?_,?_⟩
  ·rintro w' ⟨e,av',h'⟩
   exact⟨inR_i64 (by omega) (by omega),⟨k+1,av',by simp,by omega,h',f1 e⟩,(by first | omega | (dsimp only;omega))⟩
  refine hr1.idx rfl (by omega) (by omega) rfl fun b oo cc=>?_
  simp only [Int.toNat_natCast] at cc
  have k0:=cc 0 _ rfl
  have k1:=cc 1 _ rfl
  have k2:=cc 2 _ rfl
  have k3:=cc 3 _ rfl
  have k4:=cc 4 _ rfl
  have k5:=cc 5 _ rfl
  have k6:=cc 6 _ rfl
  have k7:=cc 7 _ rfl
  have k8:=cc 8 _ rfl
  have k9:=cc 9 _ rfl
  have k10:=cc 10 _ rfl
  simp only [Nat.add_zero] at k0
  simp only [Addr.add_mk,k0,k1,k2,k3,k4,k5,k6,k7,k8,k9,k10,lds]
  refine al11 fun go w2 hb2 bo hgo=>?_
  have B2:=btr hb1 hb1.size hb2
  simp only [Addr.add_mk,Nat.zero_add,bo.cell,lds]
  refine⟨fun w'=>w2=w'∧1≤xs[k].o.kind∧xs[k].o.kind≤8,?_,?_⟩
  rotate_left
  ·refine brd (fun h=>bad (by unfold badO;rw [if_pos (.inl h)]) (by decide) B2) fun h1=>?_
   exact brd (fun h=>bad (by unfold badO;rw [if_pos (.inr h)]) (by decide) B2) fun h2=>⟨rfl,by omega,by omega⟩
  rintro _ ⟨rfl,h1,h8⟩
  have hb0:∀x,(if xs[k].o.kind < 1∨8 < xs[k].o.kind then (170:Int) else x)=x:=fun x=>if_neg (by omega)
  unfold F7_j9
  refine⟨fun w'=>Below w2.heap.size w2 w'∧¬((xs[k].o.kind=1∨xs[k].o.kind=8)∧(lookF xs[k].o.t 1 0).2≠0),?_,?_⟩
  rotate_left
  ·have tree:(xs[k].o.kind=1∨xs[k].o.kind=8)→Calls Tryz.prog 29 #[.agg #[.int .i64 xs[k].e.kind,.string xs[k].e.nm,slV xs[k].e.ats,.string xs[k].e.text,slV xs[k].e.kids]] w2 (post R fun v w1_13=>∃(x40:Int),v=(.int .i64 x40)∧Br (x40 != (0:Int)) (R (.returned (.tuple #[(.int .i64 (k:Nat)),(.int .i64 x40)])) w1_13) (Below w2.heap.size w2 w1_13∧¬((xs[k].o.kind=1∨xs[k].o.kind=8)∧(lookF xs[k].o.t 1 0).2≠0))):=fun hk18 =>
    checkT_calls (x:=xs[k].o.t) (RTr.sub (sub_below B2) _ _ hrt) (hT.sub (sub_below B2)) fun w3 hb3=>⟨_,rfl,brn (fun hne=>bad (by unfold badO;rw [hb0,if_pos ⟨hk18,hne⟩]) hne (btr B2 B2.size hb3)) fun he=>⟨hb3,fun q=>q.2 he⟩⟩
   simp only [Addr.add_mk,Nat.zero_add,bo.cell,lds]
   refine bre (fun h=>tree (.inl h)) fun hn1=>?_
   refine bre (fun h=>tree (.inr h)) fun hn8=>⟨.refl _ _,fun q=>?_⟩
   rcases q.1 with e | e
   ·exact hn1 e
   ·exact hn8 e
  rintro w3 ⟨hb3,htr⟩
  have B3:=btr B2 B2.size hb3
  have C3:=btr hb2 hb2.size hb3
  have bo3:=bo.keep hb3
  have hA3:=hA1.keep C3
  have hbd:=badO_cf (pre:=L.take k) h1 h8 htr
  rw [hLt,any_ah] at hbd
  unfold F7_j13
  simp only [Addr.add_mk,Nat.zero_add,bo3.cell,lds]
  refine hA3.look xs[k].o.node fun v hv hvm hvr hva=>⟨_,_,_,rfl,?_⟩
  obtain⟨z1,z2⟩:=hv.rd
  have hEl:=ahE_len (xs.take k) xs[k].o.node
  rw [List.length_take] at hEl
  refine⟨fun q w'=>∃p:Nat,q=p∧p≤(ahE (xs.take k) xs[k].o.node).length∧Below w3.heap.size w3 w'∧(((ahE (xs.take k) xs[k].o.node).take p).any fun a=>cfB a.o xs[k].o)=false,fun q _=>(ahE (xs.take k) xs[k].o.node).length-q.toNat,⟨0,rfl,by omega,.refl _ _,rfl⟩,?_⟩
  rintro _ w4 ⟨p,rfl,hp,hb4,hno⟩
  have B4:=btr B3 B3.size hb4
  have C4:=btr C3 C3.size hb4
  have bo4:=bo3.keep hb4
  unfold F7_l14
  refine brd (fun hpk=>?_) (fun hpk=>?_)
  ·have hp2:p < (ahE (xs.take k) xs[k].o.node).length:=by omega
   have hst:((ahE (xs.take k) xs[k].o.node).take (p+1)).any (fun a=>cfB a.o xs[k].o)=cfB (ahE (xs.take k) xs[k].o.node)[p].o xs[k].o:=by
    rw [List.take_succ_eq_append_getElem hp2,List.any_append,hno];simp
   refine (z2.keep hb4).idx z1 (by omega) (by omega) rfl fun b5 oo5 cc5=>?_
   simp only [Int.toNat_natCast] at cc5
   generalize hy:(ahE (xs.take k) xs[k].o.node)[p]=y at *
   have l0:=cc5 0 _ rfl
   have l1:=cc5 1 _ rfl
   have l2:=cc5 2 _ rfl
   have l3:=cc5 3 _ rfl
   have l4:=cc5 4 _ rfl
   have l5:=cc5 5 _ rfl
   have l6:=cc5 6 _ rfl
   have l7:=cc5 7 _ rfl
   have l8:=cc5 8 _ rfl
   have l9:=cc5 9 _ rfl
   have l10:=cc5 10 _ rfl
   simp only [Nat.add_zero] at l0
   simp only [Addr.add_mk,l0,l1,l2,l3,l4,l5,l6,l7,l8,l9,l10,lds]
   refine al11 fun g5 w5 hb5 b5 hg5=>?_
   have bo5:=bo4.keep hb5
   simp only [Addr.add_mk,Nat.zero_add,b5.cell,bo5.cell,lds]
   refine cfP_calls y xs[k] fun w6 hb6=>⟨_,rfl,?_⟩
   have C6:=btr hb4 hb4.size (btr hb5 hb5.size hb6)
   refine br (fun hc=>?_) (fun hc=>?_)
   ·refine bad (v:=171) ?_ (by decide) (btr B3 B3.size C6)
    rw [hLt,hbd,if_pos]
    rw [List.any_eq_true]
    exact⟨y,by rw [←hy];exact List.getElem_mem hp2,hc⟩
   ·exact⟨inR_i64 (by omega) (by omega),⟨p+1,by simp,by omega,C6,by rw [hst];exact hc⟩,(by first | omega | (dsimp only;omega))⟩
  ·have hpe:p=(ahE (xs.take k) xs[k].o.node).length:=by omega
   subst hpe
   rw [List.take_length] at hno
   rw [hno,if_neg (by decide),←hLt] at hbd
   have hpl:(xs.take k).length≤4096:=by rw [List.length_take];omega
   simp only [Addr.add_mk,Nat.zero_add,bo4.cell,lds]
   refine sg_calls _ ⟨_,rfl,?_⟩
   refine br (fun hs=>?_) (fun hs=>?_)
   ·exact put_op (x:=xs[k]) hA1 C4 bo4 hgo hpl (by rw [hs];rfl) fun w' av' h'=>⟨hbd,av',by rw [htk];exact h'⟩
   ·simp only [Addr.add_mk,Nat.zero_add,bo4.cell,lds]
    refine atk_calls _ ⟨_,rfl,?_⟩
    refine br (fun ha=>?_) (fun ha=>?_)
    ·exact put_op (x:=xs[k]) hA1 C4 bo4 hgo hpl (by rw [ha,Bool.or_true]) fun w' av' h'=>⟨hbd,av',by rw [htk];exact h'⟩
    ·exact⟨hbd,av,by rw [htk];exact (hA1.keep C4).skip (by rw [hs,ha];rfl)⟩
 ·have hk2:k=xs.length:=by omega
  have H:=hK w1 hb1
  rw [←hF,List.drop_of_length_le (by omega),chkF] at H
  exact H
end
end Go.Proofs.YtncbjdgcgclnnaaGreatDoor
set_option linter.unusedVariables false
set_option maxRecDepth 100000
namespace Go.Proofs.YtncbjdgcgclnnaaGreatDoor
open Go.Vc
def F6_l3 (l:Option Addr) (lN:Nat) (L3:Option Addr→Nat→Nat→Int→World→Prop) (r:Option Addr) (rN:Nat) (rC:Nat) (i:Int) (hc:World) (R:Ending→World→Prop):Prop :=
 Br (decide (i < ((lN:Nat):Int)))
 (IdxA l lN i 11 fun jc =>
 LdI .i64 (hc.cell? jc) fun da =>
 LdI .u64 (hc.cell? (jc.add 1)) fun ya =>
 LdI .u64 (hc.cell? (jc.add 2)) fun qa =>
 LdI .i64 (hc.cell? (jc.add 3)) fun gb =>
 LdStr (hc.cell? (jc.add 4)) fun mb =>
 LdStr (hc.cell? (jc.add 5)) fun na =>
 LdI .i64 (hc.cell? (jc.add 6)) fun ga =>
 LdStr (hc.cell? (jc.add 7)) fun ra =>
 LdSl (hc.cell? (jc.add 8)) fun fa u k =>
 LdStr (hc.cell? (jc.add 9)) fun ka =>
 LdSl (hc.cell? (jc.add 10)) fun j b a =>
 Al hc #[(.int .i64 0),(.int .u64 0),(.int .u64 0),(.int .i64 0),(.string (ByteArray.mk #[])),(.string (ByteArray.mk #[])),(.int .i64 0),(.string (ByteArray.mk #[])),(.slice none 0 0),(.string (ByteArray.mk #[])),(.slice none 0 0)] 64 fun op fc =>
 St fc op (.int .i64 da) fun gc =>
 St gc (op.add 1) (.int .u64 ya) fun ac =>
 St ac (op.add 2) (.int .u64 qa) fun vb =>
 St vb (op.add 3) (.int .i64 gb) fun cc =>
 St cc (op.add 4) (.string mb) fun yb =>
 St yb (op.add 5) (.string na) fun zb =>
 St zb (op.add 6) (.int .i64 ga) fun ec =>
 St ec (op.add 7) (.string ra) fun za =>
 St za (op.add 8) (.slice fa u k) fun ta =>
 St ta (op.add 9) (.string ka) fun ua =>
 St ua (op.add 10) (.slice j b a) fun db =>
 LdI .i64 (db.cell? (op.add 6)) fun fb =>
 LdStr (db.cell? ((op.add 6).add 1)) fun sa =>
 LdSl (db.cell? ((op.add 6).add 2)) fun aa s e =>
 LdStr (db.cell? ((op.add 6).add 3)) fun pa =>
 LdSl (db.cell? ((op.add 6).add 4)) fun tb h n =>
 Calls Tryz.prog 28 #[(.agg #[(.int .i64 fb),(.string sa),(.slice aa s e),(.string pa),(.slice tb h n)])] db (post R fun v ha =>
 ∃(sb:Int) (ba:ByteArray) (ub:Option Addr) (f:Nat) (y:Nat) (z:ByteArray) (ib:Option Addr) (m:Nat) (p:Nat),v=(.agg #[(.int .i64 sb),(.string ba),(.slice ub f y),(.string z),(.slice ib m p)]) ∧
 St ha (op.add 6) (.int .i64 sb) fun ja =>
 St ja ((op.add 6).add 1) (.string ba) fun qb =>
 St qb ((op.add 6).add 2) (.slice ub f y) fun va =>
 St va ((op.add 6).add 3) (.string z) fun nb =>
 St nb ((op.add 6).add 4) (.slice ib m p) fun kb =>
 LdI .i64 (kb.cell? op) fun ca =>
 LdI .u64 (kb.cell? (op.add 1)) fun ab =>
 LdI .u64 (kb.cell? (op.add 2)) fun ia =>
 LdI .i64 (kb.cell? (op.add 3)) fun hb =>
 LdStr (kb.cell? (op.add 4)) fun eb =>
 LdStr (kb.cell? (op.add 5)) fun rb =>
 LdI .i64 (kb.cell? (op.add 6)) fun ea =>
 LdStr (kb.cell? (op.add 7)) fun bb =>
 LdSl (kb.cell? (op.add 8)) fun pb t q =>
 LdStr (kb.cell? (op.add 9)) fun ma =>
 LdSl (kb.cell? (op.add 10)) fun g c d =>
 Al kb #[(.int .i64 ca),(.int .u64 ab),(.int .u64 ia),(.int .i64 hb),(.string eb),(.string rb),(.int .i64 ea),(.string bb),(.slice pb t q),(.string ma),(.slice g c d)] 64 fun g23 cb =>
 Raw Tryz.prog (Builtin.append_ #[22,22] 22 #[(.slice r rN rC),(.slice (some g23) 1 1)]) cb fun v2 jb =>
 ∃(ic:Option Addr) (dc:Nat) (bc:Nat),v2=(.slice ic dc bc) ∧
 InR .i64 (i+(1:Int))∧L3 ic dc bc (i+(1:Int)) jb))
 (R (.returned (.slice r rN rC)) hc)
def F6 (l:Option Addr) (lN:Nat) (lC:Nat) (b:World) (R:Ending→World→Prop):Prop :=
 Al b #[] 64 fun g6 w1 =>
 ∃(I:Option Addr→Nat→Nat→Int→World→Prop) (m:Option Addr→Nat→Nat→Int→World→Nat),I (some g6) 0 0 (0:Int) w1 ∧
 ∀(r:Option Addr) (rN:Nat) (rC:Nat) (i:Int) (a:World),I r rN rC i a→F6_l3 l lN (fun r' rN' rC' i' w2=>I r' rN' rC' i' w2∧m r' rN' rC' i' w2 < m r rN rC i a) r rN rC i a R
theorem ok6 (l:Option Addr) (lN:Nat) (lC:Nat) {w:World}{R:Ending→World→Prop} (h:F6 l lN lC w R):Calls Tryz.prog 6 #[(.slice l lN lC)] w R :=
 vc_calls (pl:=⟨26,⟨[]⟩,[],[(3,⟨[(3,(.s .slice)),(4,(.s (.int .i64)))],[(3,25)]⟩)]⟩) Tryz.func6 (by kernel_rfl) (by kernel_rfl) (by kernel_rfl) (Eq.mp (by kernel_rfl) h)
def F3 (l:Option Addr) (lN:Nat) (lC:Nat) (w_:World) (R:Ending→World→Prop):Prop :=
 Calls Tryz.prog 6 #[(.slice l lN lC)] w_ (post R fun v w1 =>
 ∃(ba:Option Addr) (n:Nat) (t:Nat),v=(.slice ba n t) ∧
 Calls Tryz.prog 7 #[(.slice ba n t)] w1 (post R fun v2 u =>
 ∃(f:Int) (j:Int),v2=(.tuple #[(.int .i64 f),(.int .i64 j)]) ∧
 Calls Tryz.prog 8 #[(.slice l lN lC)] u (post R fun v3 y =>
 ∃(h:Int) (e:Int),v3=(.tuple #[(.int .i64 h),(.int .i64 e)]) ∧
 Calls Tryz.prog 9 #[(.slice ba n t)] y (post R fun v4 r =>
 ∃(g:Option Addr) (b:Nat) (c:Nat) (i:Int),v4=(.tuple #[(.slice g b c),(.int .i64 i)]) ∧
 Calls Tryz.prog 10 #[(.slice l lN lC)] r (post R fun v5 p =>
 ∃(m:Option Addr) (a:Nat) (d:Nat) (k:Int),v5=(.tuple #[(.slice m a d),(.int .i64 k)]) ∧
 Br (f == h)
 (Br (j == e)
 (Calls Tryz.prog 11 #[(.slice g b c),(.slice m a d)] p (post R fun v6 s =>
 ∃(aa:Bool),v6=(.bool aa) ∧
 Br aa
 (Br (i == k)
 (Calls Tryz.prog 12 #[] s (post R fun v7 q =>
 ∃(z:Bool),v7=(.bool z) ∧
 R (.returned (.bool z)) q))
 (R (.returned (.bool false)) s))
 (R (.returned (.bool false)) s)))
 (R (.returned (.bool false)) p))
 (R (.returned (.bool false)) p))))))
theorem ok3 (l:Option Addr) (lN:Nat) (lC:Nat) {w:World}{R:Ending→World→Prop} (h:F3 l lN lC w R):Calls Tryz.prog 3 #[(.slice l lN lC)] w R :=
 vc_calls (pl:=⟨55,⟨[]⟩,[],[]⟩) Tryz.func3 (by kernel_rfl) (by kernel_rfl) (by kernel_rfl) (Eq.mp (by kernel_rfl) h)
def F12  (j:World) (R:Ending→World→Prop):Prop :=
 Al j #[(.slice none 0 0),(.slice none 0 0),(.int .i64 0),(.int .i64 0),(.int .i64 0),(.map none),(.pointer none),(.int .u64 0),(.int .u64 0),(.map none)] 82 fun g6 w1 =>
 Al w1 #[(.int .i64 1),(.int .u64 0),(.int .u64 0),(.int .i64 2),(.string (ByteArray.mk #[])),(.string (ByteArray.mk #[])),(.int .i64 1),(.string (ByteArray.mk #[97])),(.slice none 0 0),(.string (ByteArray.mk #[])),(.slice none 0 0)] 64 fun g11 f =>
 Calls Tryz.prog 17 #[(.pointer (some g6)),(.slice (some g11) 1 1)] f (post R fun v g =>
 ∃(e:Option Addr) (a:Nat) (b:Nat) (c:Int) (d:Int),v=(.tuple #[(.slice e a b),(.int .i64 c),(.int .i64 d)]) ∧
 Br (d == (0:Int))
 (Br (((a:Nat):Int) == (1:Int))
 (IdxA e a (0:Int) 1 fun h =>
 LdI .u64 (g.cell? h) fun i =>
 R (.returned (.bool (i == (4294967297:Int)))) g)
 (R (.returned (.bool false)) g))
 (R (.returned (.bool false)) g))
theorem ok12  {w:World}{R:Ending→World→Prop} (h:F12  w R):Calls Tryz.prog 12 #[] w R :=
 vc_calls (pl:=⟨29,⟨[]⟩,[],[]⟩) Tryz.func12 (by kernel_rfl) (by kernel_rfl) (by kernel_rfl) (Eq.mp (by kernel_rfl) h)
def F11_l4 (a:Option Addr) (aN:Nat) (b:Option Addr) (bN:Nat) (L4:Int→World→Prop) (i:Int) (c:World) (R:Ending→World→Prop):Prop :=
 Br (decide (i < ((aN:Nat):Int)))
 (Dr c fun w1 =>
 IdxA a aN i 1 fun e =>
 LdI .i64 (w1.cell? e) fun f =>
 IdxA b bN i 1 fun d =>
 LdI .i64 (w1.cell? d) fun g =>
 Br (f != g)
 (R (.returned (.bool false)) w1)
 (InR .i64 (i+(1:Int))∧L4 (i+(1:Int)) w1))
 (R (.returned (.bool true)) c)
def F11 (a:Option Addr) (aN:Nat) (aC:Nat) (b:Option Addr) (bN:Nat) (bC:Nat) (c:World) (R:Ending→World→Prop):Prop :=
 Br (((aN:Nat):Int) != ((bN:Nat):Int))
 (R (.returned (.bool false)) c)
 (∃(I:Int→World→Prop) (m:Int→World→Nat),I (0:Int) c ∧
 ∀(i:Int) (w1:World),I i w1→F11_l4 a aN b bN (fun i' w2=>I i' w2∧m i' w2 < m i w1) i w1 R)
theorem ok11 (a:Option Addr) (aN:Nat) (aC:Nat) (b:Option Addr) (bN:Nat) (bC:Nat) {w:World}{R:Ending→World→Prop} (h:F11 a aN aC b bN bC w R):Calls Tryz.prog 11 #[(.slice a aN aC),(.slice b bN bC)] w R :=
 vc_calls (pl:=⟨26,⟨[]⟩,[],[(4,⟨[(5,(.s (.int .i64)))],[(4,26)]⟩)]⟩) Tryz.func11 (by kernel_rfl) (by kernel_rfl) (by kernel_rfl) (Eq.mp (by kernel_rfl) h)
end Go.Proofs.YtncbjdgcgclnnaaGreatDoor
namespace Go.Proofs.YtncbjdgcgclnnaaGreatDoor
open Go.RowKit Go.Vc
set_option linter.unusedVariables false
set_option linter.unusedSimpArgs false
set_option maxRecDepth 100000
section
variable {w:World}{R:Ending→World→Prop}
def PlanK (R:Ending→World→Prop) (w0:World) (L:List O1) (w:World):Prop :=
 if (checkF L).2≠0 then R (.returned (.tuple #[.slice none 0 0,.int .i64 (checkF L).2])) w else ∀v:Sv,Own LI w w0.heap.size 3 (slV v) (planF L 5)→R (.returned (.tuple #[slV v,.int .i64 0])) w
theorem check_few {L:List O1} (h:(checkF L).2=0):L.length≤4096:=by
 unfold checkF at h
 by_cases e:4096 < L.length
 ·rw [if_pos e] at h;cases h
 ·omega
theorem planR_calls (xs:List E11) {A:Option Addr}{c:Nat} (hr:Rd LOp w A c xs) (hx:∀x∈xs,ROp w x) (hl:xs.length≤1048576) (hK:∀w',Below w.heap.size w w'→PlanK R w (xs.map (·.o)) w') :
  Calls Tryz.prog 10 #[.slice A xs.length c] w R:=by
 refine ok10 A xs.length c ?_
 unfold F10
 refine checkR_calls xs hr hx hl fun w1 hb1=>⟨_,_,rfl,?_⟩
 refine brn (fun hne=>?_) (fun he=>?_)
 ·have H:=hK w1 hb1
  unfold PlanK at H
  rw [if_pos hne] at H
  exact H
 have hfew:=check_few he
 rw [List.length_map] at hfew
 refine al fun g17 w2 hb2 b2 hge2=>?_
 have B2:=btr hb1 hb1.size hb2
 have hs1:=hb1.size
 have o0:Own LI w2 w.heap.size 3 (.slice (some ⟨g17,0,none⟩) 0 0) []:=Own.bare _ _ _ _ _
 generalize hL:xs.map (·.o)=L at *
 have hlen:L.length=xs.length:=by rw [←hL,List.length_map]
 refine⟨fun A' n' c' p w'=>∃q:Nat,p=q∧q≤5∧Below w.heap.size w w'∧Own LI w' w.heap.size 3 (.slice A' n' c') (planF L q),fun _ _ _ p _=>5-p.toNat,⟨0,rfl,by omega,B2,o0⟩,?_⟩
 rintro A1 n1 c1 _ w3 ⟨q,rfl,hq,hb3,o3⟩
 unfold F10_l6
 have hpl:(planF L q).length≤20480:=Nat.le_trans (plan_len L q) (Nat.mul_le_mul hq (by omega:L.length≤4096))
 refine brd (fun hlt=>?_) (fun hge=>?_)
 ·refine⟨fun A' n' c' i w'=>∃k:Nat,i=k∧k≤xs.length∧Below w.heap.size w w'∧Own LI w' w.heap.size 3 (.slice A' n' c') (planF L q++phsF L (q:Nat) k),fun _ _ _ i _=>xs.length-i.toNat,⟨0,rfl,by omega,hb3,by rw [phs_zero,List.append_nil];exact o3⟩,?_⟩
  rintro A2 n2 c2 _ w4 ⟨k,rfl,hk,hb4,o4⟩
  unfold F10_l9
  refine brd (fun hlt2=>?_) (fun hge2=>?_)
  ·have hk2:k < xs.length:=by omega
   have hst:=phs_step (p:=((q:Nat):Int)) (show k < L.length by omega)
   have hLk:L[k]'(by omega)=xs[k].o:=by subst hL;rw [List.getElem_map]
   rw [hLk] at hst
   refine⟨fun A' n' c' w'=>Below w.heap.size w w'∧Own LI w' w.heap.size 3 (.slice A' n' c') (planF L q++phsF L (q:Nat) (k+1)),?_,?_⟩
   ·rintro A' n' c' w' ⟨q1,q2⟩
    exact⟨inR_i64 (by omega) (by omega),⟨k+1,by simp,by omega,q1,q2⟩,(by first | omega | (dsimp only;omega))⟩
   refine (hr.keep hb4).idx rfl (by omega) (by omega) rfl fun b oo cc=>?_
   simp only [Int.toNat_natCast] at cc
   have k0:=cc 0 _ rfl
   simp only [Nat.add_zero] at k0
   simp only [k0,lds]
   refine phR_calls _ ⟨_,rfl,?_⟩
   have hphl:=phs_len L ((q:Nat):Int) k
   refine bre (fun he2=>?_) (fun hne2=>?_)
   ·rw [if_pos he2] at hst
    refine ap1 (L:=LI) (x:=(k:Int)) (base:=w.heap.size) (.int .i64 0) 8 rfl (by kernel_rfl) (by kernel_rfl) (by kernel_rfl) o4 hb4.size (by rw [List.length_append];omega) (by rw [List.length_append];unfold maxLen;omega) fun A' c' w6 o6 g6=>⟨A',_,c',rfl,hb4.trans g6.below,?_⟩
    rw [hst,←List.append_assoc];exact o6
   ·rw [if_neg hne2,List.append_nil] at hst
    exact⟨hb4,by rw [hst];exact o4⟩
  ·have hk2:k=xs.length:=by omega
   refine⟨inR_i64 (by omega) (by omega),⟨q+1,by simp,by omega,hb4,?_⟩,(by first | omega | (dsimp only;omega))⟩
   rw [plan_step,hlen,←hk2];exact o4
 ·have hq5:q=5:=by omega
  subst hq5
  have H:=hK w3 hb3
  unfold PlanK at H
  rw [if_neg (by rw [he];simp)] at H
  exact H (A1,n1,c1) o3
theorem planP_calls (xs:List E11) {A:Option Addr}{c:Nat} (hr:Rd LOp w A c xs) (hx:∀x∈xs,ROp w x) (hT:Tabs w) (hl:xs.length≤1048576) (hK:∀w',Below w.heap.size w w'→PlanK R w (xs.map (·.o)) w') :
  Calls Tryz.prog 9 #[.slice A xs.length c] w R:=by
 refine ok9 A xs.length c ?_
 unfold F9
 refine checkP_calls xs hr hx hT hl fun w1 hb1=>⟨_,_,rfl,?_⟩
 refine brn (fun hne=>?_) (fun he=>?_)
 ·have H:=hK w1 hb1
  unfold PlanK at H
  rw [if_pos hne] at H
  exact H
 have hfew:=check_few he
 rw [List.length_map] at hfew
 refine⟨by omega,by omega,by omega,?_⟩
 refine al fun g17 w2 hb2 b2 hge2=>?_
 have B2:=btr hb1 hb1.size hb2
 have hs1:=hb1.size
 have e0:((xs.length:Nat):Int).toNat=xs.length:=Int.toNat_natCast _
 rw [e0] at *
 have o0:Own LI w2 w.heap.size 3 (.slice (some ⟨g17,0,none⟩) 0 xs.length) []:=Own.made b2 (by omega) (by simp [zrow,LI]) (by simp [maxLen];omega)
 generalize hL:xs.map (·.o)=L at *
 have hlen:L.length=xs.length:=by rw [←hL,List.length_map]
 refine⟨fun A' n' c' p w'=>∃q:Nat,p=q∧q≤5∧Below w.heap.size w w'∧Own LI w' w.heap.size 3 (.slice A' n' c') (planF L q),fun _ _ _ p _=>5-p.toNat,⟨0,rfl,by omega,B2,o0⟩,?_⟩
 rintro A1 n1 c1 _ w3 ⟨q,rfl,hq,hb3,o3⟩
 unfold F9_l6
 have hpl:(planF L q).length≤20480:=Nat.le_trans (plan_len L q) (Nat.mul_le_mul hq (by omega:L.length≤4096))
 refine brd (fun hlt=>?_) (fun hge=>?_)
 ·refine⟨fun A' n' c' i w'=>∃k:Nat,i=k∧k≤xs.length∧Below w.heap.size w w'∧Own LI w' w.heap.size 3 (.slice A' n' c') (planF L q++phsF L (q:Nat) k),fun _ _ _ i _=>xs.length-i.toNat,⟨0,rfl,by omega,hb3,by rw [phs_zero,List.append_nil];exact o3⟩,?_⟩
  rintro A2 n2 c2 _ w4 ⟨k,rfl,hk,hb4,o4⟩
  unfold F9_l9
  refine brd (fun hlt2=>?_) (fun hge2=>?_)
  ·have hk2:k < xs.length:=by omega
   have hst:=phs_step (p:=((q:Nat):Int)) (show k < L.length by omega)
   have hLk:L[k]'(by omega)=xs[k].o:=by subst hL;rw [List.getElem_map]
   rw [hLk] at hst
   refine⟨fun A' n' c' w'=>Below w.heap.size w w'∧Own LI w' w.heap.size 3 (.slice A' n' c') (planF L q++phsF L (q:Nat) (k+1)),?_,?_⟩
   ·rintro A' n' c' w' ⟨q1,q2⟩
    exact⟨inR_i64 (by omega) (by omega),⟨k+1,by simp,by omega,q1,q2⟩,(by first | omega | (dsimp only;omega))⟩
   have hr4:=hr.keep hb4
   refine hr4.idx rfl (by omega) (by omega) rfl fun b oo cc=>?_
   simp only [Int.toNat_natCast] at cc
   have k0:=cc 0 _ rfl
   have k1:=cc 1 _ rfl
   have k2:=cc 2 _ rfl
   have k3:=cc 3 _ rfl
   have k4:=cc 4 _ rfl
   have k5:=cc 5 _ rfl
   have k6:=cc 6 _ rfl
   have k7:=cc 7 _ rfl
   have k8:=cc 8 _ rfl
   have k9:=cc 9 _ rfl
   have k10:=cc 10 _ rfl
   simp only [Nat.add_zero] at k0
   simp only [Addr.add_mk,k0,k1,k2,k3,k4,k5,k6,k7,k8,k9,k10,lds]
   refine al11 fun go w5 hb5 bo hgo=>?_
   simp only [bo.cell,lds]
   have B5:=btr hb4 hb4.size hb5
   have o5:=o4.keep hb5
   refine phP_calls _ ⟨_,rfl,?_⟩
   have hphl:=phs_len L ((q:Nat):Int) k
   refine bre (fun he2=>?_) (fun hne2=>?_)
   ·rw [if_pos he2] at hst
    refine ap1 (L:=LI) (x:=(k:Int)) (base:=w.heap.size) (.int .i64 0) 8 rfl (by kernel_rfl) (by kernel_rfl) (by kernel_rfl) o5 B5.size (by rw [List.length_append];omega) (by rw [List.length_append];unfold maxLen;omega) fun A' c' w6 o6 g6=>⟨A',_,c',rfl,B5.trans g6.below,?_⟩
    rw [hst,←List.append_assoc];exact o6
   ·rw [if_neg hne2,List.append_nil] at hst
    exact⟨B5,by rw [hst];exact o5⟩
  ·have hk2:k=xs.length:=by omega
   refine⟨inR_i64 (by omega) (by omega),⟨q+1,by simp,by omega,hb4,?_⟩,(by first | omega | (dsimp only;omega))⟩
   rw [plan_step,hlen,←hk2];exact o4
 ·have hq5:q=5:=by omega
  subst hq5
  have H:=hK w3 hb3
  unfold PlanK at H
  rw [if_neg (by rw [he];simp)] at H
  exact H (A1,n1,c1) o3
theorem numbers_calls {l:List Int}{v u:Sv} (hl:l.length≤1048576) (zv:v.2.1=l.length) (rv:Rd LI w v.1 v.2.2 l) (zu:u.2.1=l.length) (ru:Rd LI w u.1 u.2.2 l) (hK:∀w',Below w.heap.size w w'→R (.returned (.bool true)) w') :
  Calls Tryz.prog 11 #[.slice v.1 v.2.1 v.2.2,.slice u.1 u.2.1 u.2.2] w R:=by
 refine ok11 v.1 v.2.1 v.2.2 u.1 u.2.1 u.2.2 ?_
 unfold F11
 refine brn (fun h=>absurd (by rw [zv,zu]) h) fun _=>?_
 refine⟨fun i w'=>∃k:Nat,i=k∧k≤l.length∧Below w.heap.size w w',fun i _=>l.length-i.toNat,⟨0,rfl,by omega,.refl _ _⟩,?_⟩
 rintro _ w1 ⟨k,rfl,hk,hb1⟩
 unfold F11_l4
 refine brd (fun hlt=>?_) (fun hge=>hK w1 hb1)
 have hk2:k < l.length:=by omega
 refine dr fun w2 hb2 _=>?_
 have B2:=btr hb1 hb1.size hb2
 refine (rv.keep B2).idx zv (by omega) (by omega) rfl fun b o cc=>?_
 have c0:=cc 0 _ rfl
 simp only [Int.toNat_natCast,Nat.add_zero] at c0
 simp only [c0,lds]
 refine (ru.keep B2).idx zu (by omega) (by omega) rfl fun b2 o2 cc2=>?_
 have d0:=cc2 0 _ rfl
 simp only [Int.toNat_natCast,Nat.add_zero] at d0
 simp only [d0,lds]
 exact brn (fun hne=>absurd rfl hne) fun _=>⟨inR_i64 (by omega) (by omega),⟨k+1,by simp,by omega,B2⟩,(by first | omega | (dsimp only;omega))⟩
end
set_option maxRecDepth 100000
section
variable {w:World}{R:Ending→World→Prop}
theorem copiedO_calls (xs:List E11) {A:Option Addr}{c:Nat} (hr:Rd LOp w A c xs) (hx:∀x∈xs,ROp w x) (hl:xs.length≤1048576)
  (hK:∀w' v ys,Below w.heap.size w w'→Own LOp w' w.heap.size 64 (slV v) ys→ys.map (·.o)=xs.map (·.o)→(∀y∈ys,ROp w' y)→R (.returned (slV v)) w') :
  Calls Tryz.prog 6 #[.slice A xs.length c] w R:=by
 refine ok6 A xs.length c ?_
 unfold F6
 refine al fun g6 w1 hb1 b1 hge1=>?_
 have hs1:=hb1.size
 refine⟨fun l lN lC i w'=>∃(k:Nat) (ys:List E11),i=k∧k≤xs.length∧Below w.heap.size w w'∧w1.heap.size≤w'.heap.size∧ys.map (·.o)=(xs.take k).map (·.o)∧Own LOp w' w1.heap.size 64 (.slice l lN lC) ys ∧
   OTl w' ((xs.take k).map (·.o.t)) (ys.map (·.e)) w1.heap.size w'.heap.size (rowOf (.slice l lN lC)),fun _ _ _ i _=>xs.length-i.toNat,⟨0,[],rfl,by omega,hb1,Nat.le_refl _,rfl,Own.bare _ _ _ _ _,by simp [OTl]⟩,?_⟩
 rintro l lN lC _ w2 ⟨k,ys,rfl,hk,B2,hs2,hmo,ol,hot⟩
 unfold F6_l3
 have hlr:∀b,rowOf (.slice l lN lC)=some b→w1.heap.size≤b∧b < w2.heap.size:=fun b hb=>ol.lt b hb
 have hyl:ys.length=k:=by
  have:=congrArg List.length hmo
  rw [List.length_map,List.length_map,List.length_take] at this;omega
 refine brd (fun hlt=>?_) (fun hge=>?_)
 ·have hk2:k < xs.length:=by omega
  have hrt:=(hx _ (List.getElem_mem hk2)).2
  have hr1:=hr.keep B2
  refine hr1.idx rfl (by omega) (by omega) rfl fun b oo cc=>?_
  simp only [Int.toNat_natCast] at cc
  have k0:=cc 0 _ rfl
  have k1:=cc 1 _ rfl
  have k2:=cc 2 _ rfl
  have k3:=cc 3 _ rfl
  have k4:=cc 4 _ rfl
  have k5:=cc 5 _ rfl
  have k6:=cc 6 _ rfl
  have k7:=cc 7 _ rfl
  have k8:=cc 8 _ rfl
  have k9:=cc 9 _ rfl
  have k10:=cc 10 _ rfl
  simp only [Nat.add_zero] at k0
  simp only [Addr.add_mk,k0,k1,k2,k3,k4,k5,k6,k7,k8,k9,k10,lds]
  refine al11 fun go w3 hb3 bo hgo=>?_
  have hs3:=hb3.size
  have B3:=btr B2 B2.size hb3
  simp only [Addr.add_mk,Nat.zero_add,bo.cell,lds]
  refine copied_calls xs[k].o.t (e:=xs[k].e) (RTr.sub (sub_below B3) _ _ hrt) fun w4 e4 hb4 hot4=>⟨_,_,_,_,_,_,_,_,_,rfl,?_⟩
  have hs4:=hb4.size
  have bo4:=bo.keep hb4
  have hgol:=bo.lt
  refine st_blk bo4 (by simp) fun u1 q1 f1=>st_blk q1 (by simp) fun u2 q2 f2=>st_blk q2 (by simp) fun u3 q3 f3=>st_blk q3 (by simp) fun u4 q4 f4=>st_blk q4 (by simp) fun w5 bo5 f5=>?_
  simp only [List.setIfInBounds_toArray,List.set_cons_zero,List.set_cons_succ] at bo5
  have F5:Fm (·=go) w4 w5:=(((f1.trans f2).trans f3).trans f4).trans f5
  have hs5:=F5.size
  simp only [Addr.add_mk,Nat.zero_add,bo5.cell,lds]
  have D4:Below w2.heap.size w2 w4:=btr hb3 hb3.size hb4
  have D5:Below w2.heap.size w2 w5:=D4.trans (F5.toBelow (by omega) fun b hb e=>by have e:b=go:=e;omega)
  have hot5:OTr w5 xs[k].o.t e4 w3.heap.size w4.heap.size:=OTr.fm F5 _ _ _ _ (fun b h1 h2 e=>by have e:b=go:=e;omega) hot4
  refine al fun g6 w6 hb6 b6 hge6=>?_
  have hs6:=hb6.size
  have D6:=btr D5 D5.size hb6
  have r6:Rd LOp w6 (some ⟨g6,0,none⟩) 1 [(⟨xs[k].o,e4⟩:E11)]:=rd_row (xs:=[(⟨xs[k].o,e4⟩:E11)]) b6 rfl (by simp [maxLen])
  refine ap (L:=LOp) (ys:=[(⟨xs[k].o,e4⟩:E11)]) (base:=w1.heap.size) (v:=.slice l lN lC) (.agg #[.int .i64 0,.int .u64 0,.int .u64 0,.int .i64 0,.string (ByteArray.mk #[]),.string (ByteArray.mk #[]),.int .i64 0,.string (ByteArray.mk #[]),.slice none 0 0,.string (ByteArray.mk #[]),.slice none 0 0]) 152 rfl (by kernel_rfl) (by kernel_rfl) (by kernel_rfl) (ol.keep D6) r6 (by omega) (by simp only [List.length_singleton];omega) (by simp only [List.length_singleton];unfold maxLen;omega) fun A' c' w7 o7 g7=>⟨A',_,c',rfl,?_⟩
  have F7:Fm (fun b=>rowOf (.slice l lN lC)=some b) w6 w7:=Fm.grown g7.grown fun x hx=>hx
  have hs7:=F7.size
  have hrow:∀b,rowOf (.slice A' (ys.length+[(⟨xs[k].o,e4⟩:E11)].length) c')=some b→rowOf (.slice l lN lC)=some b∨w6.heap.size≤b:=fun b hb=>by
   rcases g7.row with e | e | ⟨g,e,hge⟩
   ·left;rw [←e];exact hb
   ·rw [e] at hb;cases hb
   ·right;rw [e] at hb;cases hb;exact hge
  refine⟨inR_i64 (by omega) (by omega),⟨k+1,ys++[⟨xs[k].o,e4⟩],by simp,by omega,(B2.trans (D6.mono B2.size)).trans (F7.toBelow (by omega) fun b hb e=>by have:=(hlr b e).1;omega),by omega,?_,o7,?_⟩,(by first | omega | (dsimp only;omega))⟩
  ·rw [List.take_succ_eq_append_getElem hk2,List.map_append,List.map_append,hmo];rfl
  rw [List.take_succ_eq_append_getElem hk2,List.map_append,List.map_append]
  refine OTl.snoc (a:=w3.heap.size) (b:=w4.heap.size) ?_ (by omega) (by omega) (fun r hr h9=>?_) (hi:=w2.heap.size) ?_ (by omega) (by omega)
  ·exact OTr.fm ((Fm.below (M:=fun b=>rowOf (.slice l lN lC)=some b) hb6).trans F7) _ _ _ _ (fun b h1 h2 e=>by have:=(hlr b e).2;omega) hot5
  ·rcases hrow r hr with e | e
   ·have:=(hlr r e).2;omega
   ·omega
  ·refine OTl.other (OTl.fm ((Fm.below (M:=fun b=>rowOf (.slice l lN lC)=some b) D6).trans F7) _ _ _ _ _ (fun b _ _ h1 h2=>h1 h2) hot) fun r hr=>?_
   rcases hrow r hr with e | e
   ·exact .inl e
   ·right;omega
 ·have hk2:k=xs.length:=by omega
  subst hk2
  rw [List.take_length] at hmo hot
  refine hK w2 (l,lN,lC) ys B2 (ol.rebase fun b hb=>by have:=(ol.lt b hb).1;omega) hmo fun y hy=>?_
  obtain⟨j,hj,rfl⟩:=List.mem_iff_getElem.1 hy
  have hjx:j < xs.length:=by omega
  have ho:ys[j].o=xs[j].o:=by
   have h1:(ys.map (·.o))[j]?=(xs.map (·.o))[j]?:=by rw [hmo]
   rw [List.getElem?_map,List.getElem?_map,List.getElem?_eq_getElem hj,List.getElem?_eq_getElem hjx] at h1
   simpa using h1
  refine⟨by rw [ho];exact (hx _ (List.getElem_mem hjx)).1,?_⟩
  have h2:=(OTl.rtl (ok:=fun _=>true) _ _ _ _ _ (fun _ _ _=>rfl) hot).get j (by rw [List.length_map];exact hjx) (by rw [List.length_map];exact hj)
  rw [List.getElem_map,List.getElem_map,←ho] at h2
  exact RTr.sub sub_of_only _ _ h2
end
set_option maxRecDepth 100000
section
variable {w w1 w2 w0:World}{o o1 o2:Nat→Nat}{θ:Th}{S:PS}{M:Nat→Prop}{bs:List Nat}{R:Ending→World→Prop}{loose:List Nat}
theorem slvF {v:Sv}{A:Option Addr}{n c:Nat} (h:slV v=.slice A n c):v=(A,n,c):=by
 obtain⟨a1,a2,a3⟩:=v
 unfold slV at h
 simp only [Value.slice.injEq] at h
 obtain⟨rfl,rfl,rfl⟩:=h
 rfl
theorem handles_calls (h:PM w o θ S) {l:List Nat}{v:Sv} (hv:v.2.1=l.length) (hr:Rd LPt w v.1 v.2.2 (l.map (pb S.bs))) (hl:l.length≤1048576) (hll:∀x∈l,∃t,slA S.D.sl x=some t)
  (hK:∀v' w',Below w.heap.size w w'→Own LHn w' w.heap.size 48 (slV v') l→R (.returned (slV v')) w'):Calls Tryz.prog 62 #[.slice v.1 v.2.1 v.2.2] w R:=by
 refine ok62 v.1 v.2.1 v.2.2 ?_
 unfold F62
 rw [hv]
 refine⟨by omega,by omega,by omega,?_⟩
 refine al fun g8 w1 hb1 b1 hge1=>?_
 have o1:Own LHn w1 w.heap.size 48 (.slice (some ⟨g8,0,none⟩) 0 l.length) []:=Own.made b1 hge1 (by simp [zrow,LHn]) (by simp [maxLen];omega)
 refine⟨fun A n c j w'=>∃k:Nat,j=k∧k≤l.length∧Below w.heap.size w w'∧Own LHn w' w.heap.size 48 (.slice A n c) (l.take k),fun _ _ _ j _=>l.length-j.toNat,⟨0,rfl,by omega,hb1,by simpa using o1⟩,?_⟩
 rintro A n c j w2 ⟨k,rfl,hk,hb2,ho⟩
 unfold F62_l3
 refine brd (fun hlt=>?_) (fun hge=>?_)
 ·have hk2:k < l.length:=by omega
  refine (hr.keep hb2).pt (by rw [List.length_map]) rfl (k:=k) (by rw [List.length_map];exact hk2) fun bb oo cc=>?_
  rw [List.getElem_map] at cc
  simp only [cc,lds]
  obtain⟨t,ht⟩:=hll l[k] (List.getElem_mem hk2)
  refine hnd_calls (h.below hb2) ht fun w3 hb3=>⟨_,rfl,?_⟩
  have B3:=btr hb2 hb2.size hb3
  refine ap1 (L:=LHn) (x:=l[k]) (xs:=l.take k) (.int .u64 0) 8 rfl (by kernel_rfl) (by kernel_rfl) (by kernel_rfl) (ho.keep hb3) B3.size (by rw [List.length_take];omega) (by rw [List.length_take];simp [maxLen];omega) fun A' c' w4 o4 g4=>⟨A',_,c',rfl,inR_i64 (by omega) (by omega),⟨k+1,by simp,by omega,B3.trans g4.below,?_⟩,(by first | omega | (dsimp only;omega))⟩
  rw [List.take_succ_eq_append_getElem hk2];exact o4
 ·have hk2:k=l.length:=by omega
  subst hk2
  rw [List.take_length] at ho
  exact hK (A,n,c) w2 hb2 ho
theorem Kids_calls (h:PM w o θ S) (hA:WfA (slA S.D.sl) S.D.roots loose) (hf:S.D.sl.length≤4096) {x:Nat}{s:Sl} (hx:slA S.D.sl x=some s)
  (hK:∀v' w',Below w.heap.size w w'→Own LHn w' w.heap.size 48 (slV v') s.kids→R (.returned (.tuple #[slV v',.int .i64 0])) w'):Calls Tryz.prog 89 #[.pointer (some ⟨θ.g,0,none⟩),.int .u64 (x:Nat)] w R:=by
 refine ok89 (some ⟨θ.g,0,none⟩) x ?_
 unfold F89
 obtain⟨i,i1,i2,i3,i4⟩:=h.of hx
 have hgen:=(h.rng s (List.mem_of_getElem? i3)).gen
 have hxl:x < 18446744073709551616:=by
  obtain⟨k,k1,k2,k3,k4⟩:=slA_iff.1 hx
  have:=(List.getElem?_eq_some_iff.1 k2).1
  unfold hnd at k4;omega
 refine atL_calls h hxl fun w1 hb1=>⟨_,rfl,?_⟩
 have e:ptrL S x=some ⟨pb S.bs x,0,none⟩:=by unfold ptrL;rw [hx];rfl
 rw [e]
 simp only [Option.isNone_some,Br_f,NonNil_some,Addr.add_mk,Nat.zero_add]
 have h1:=h.below hb1
 obtain⟨v,cv,ov,rv⟩:=h1.cKids i2 i3
 obtain⟨A,c,hvf,hrd⟩:=ov.form
 have e1:=slvF hvf
 have cv':w1.cell? ⟨pb S.bs x,8,none⟩=some (.slice v.1 v.2.1 v.2.2):=cv
 simp only [cv',lds]
 refine handles_calls h1 (v:=v) (l:=s.kids) (by rw [e1];simp) (by rw [e1];exact hrd) (Nat.le_trans (live_few (fun y hy=>by obtain⟨_,t,ht,_⟩:=(hA.kid x s hx).2 y hy;exact⟨t,ht⟩) (hA.kid x s hx).1) (by omega)) (fun y hy=>by obtain⟨_,t,ht,_⟩:=(hA.kid x s hx).2 y hy;exact⟨t,ht⟩) fun v' w2 hb2 ho=>⟨_,_,_,rfl,?_⟩
 exact hK v' w2 (btr hb1 hb1.size hb2) (ho.rebase fun k hk=>Nat.le_trans hb1.size (ho.lt k hk).1)
theorem Roots_calls (h:PM w o θ S) (hA:WfA (slA S.D.sl) S.D.roots loose)
  (hK:∀v' w',Below w.heap.size w w'→Own LHn w' w.heap.size 48 (slV v') S.D.roots→R (.returned (slV v')) w'):Calls Tryz.prog 59 #[.pointer (some ⟨θ.g,0,none⟩)] w R:=by
 refine ok59 (some ⟨θ.g,0,none⟩) ?_
 unfold F59
 obtain⟨nv,rv,hd⟩:=h.doc
 obtain⟨A,c,hvf,hrd⟩:=hd.r1.form
 have e1:=slvF hvf
 have cv':w.cell? ⟨θ.g,1,none⟩=some (.slice rv.1 rv.2.1 rv.2.2):=by rw [hd.blk.cell];rfl
 simp only [NonNil_some,Addr.add_mk,Nat.zero_add,cv',lds]
 exact handles_calls h (v:=rv) (l:=S.D.roots) (by rw [e1];simp) (by rw [e1];exact hrd) h.rts.2 (fun y hy=>by obtain⟨_,t,ht,_⟩:=hA.root.2 y hy;exact⟨t,ht⟩) fun v' w2 hb2 ho=>⟨_,_,_,rfl,hK v' w2 hb2 ho⟩
theorem hx_lt (h:PM w o θ S) {x:Nat}{s:Sl} (hx:slA S.D.sl x=some s):x < 18446744073709551616:=by
 obtain⟨i,i1,i2,i3,i4⟩:=h.of hx
 have hgen:=(h.rng s (List.mem_of_getElem? i3)).gen
 have hf:=h.few
 obtain⟨k,k1,k2,k3,k4⟩:=slA_iff.1 hx
 have:=(List.getElem?_eq_some_iff.1 k2).1
 unfold hnd at k4;omega
theorem Parent_calls (h:PM w o θ S) (hA:WfA (slA S.D.sl) S.D.roots loose) {x:Nat}{s:Sl} (hx:slA S.D.sl x=some s)
  (hK:∀w',Below w.heap.size w w'→R (.returned (.tuple #[.int .u64 (s.parent:Nat),.int .i64 0])) w'):Calls Tryz.prog 90 #[.pointer (some ⟨θ.g,0,none⟩),.int .u64 (x:Nat)] w R:=by
 refine ok90 (some ⟨θ.g,0,none⟩) x ?_
 unfold F90
 obtain⟨i,i1,i2,i3,i4⟩:=h.of hx
 refine atL_calls h (hx_lt h hx) fun w1 hb1=>⟨_,rfl,?_⟩
 have e:ptrL S x=some ⟨pb S.bs x,0,none⟩:=by unfold ptrL;rw [hx];rfl
 rw [e]
 have h1:=h.below hb1
 simp only [Option.isNone_some,Br_f,NonNil_some,Addr.add_mk,Nat.zero_add,h1.cPar i2 i3,lds]
 rcases hA.par x s hx with hp | ⟨t,ht,_⟩
 ·have e2:ptrH S.bs s.parent=none:=by unfold ptrH;rw [if_pos hp]
  rw [e2]
  refine hndN_calls ⟨_,rfl,?_⟩
  have:=hK w1 hb1
  rw [hp] at this;exact this
 ·have p0:s.parent≠0:=fun e=>by rw [e,slA_zero] at ht;cases ht
  have e2:ptrH S.bs s.parent=some ⟨pb S.bs s.parent,0,none⟩:=by unfold ptrH;rw [if_neg p0]
  rw [e2]
  exact hnd_calls h1 ht fun w2 hb2=>⟨_,rfl,hK w2 (btr hb1 hb1.size hb2)⟩
end
set_option maxRecDepth 100000
structure CNode (w0 w:World) (o:Nat→Nat) (S:PS) (bs:List Nat) (dn:Bool) (j b:Nat) (s:Sl) (a kv:Sv):Prop where
 blk:Blk w b (nodeC j s a (ptrH (bif dn then bs else S.bs) s.parent) kv) 117
 at1:Own LAt w 0 120 (slV a) s.attrs
 at2:∀x,rowOf (slV a)=some x→o x=10+4*j
 kd1:dn=true→Own LPt w 0 115 (slV kv) (s.kids.map (pb bs))
 kd2:dn=true→∀x,rowOf (slV kv)=some x→o x=9+4*j
 kd3:dn=false→kv.2.1=s.kids.length∧Rd LPt w0 kv.1 kv.2.2 (s.kids.map (pb S.bs))
structure CDoc (w0 w:World) (o:Nat→Nat) (S:PS) (gb gc:Nat) (bs:List Nat) (nv:Sv) (k:Nat):Prop where
 bel:Below w0.heap.size w0 w
 box:Blk w gb #[.pointer (some ⟨gc,0,none⟩)] 60
 doc:Blk w gc (docC nv (none,0,0) S.lv S.wn S.lo []) 75
 nv1:Own LPt w 0 115 (slV nv) bs
 nv2:∀x,rowOf (slV nv)=some x→o x=2
 col:o gc=1
 bc:o gb=0
 lt:∀b,o b≠0→w0.heap.size≤b∧b < w.heap.size
 gbl:w0.heap.size≤gb
 len:bs.length≤S.D.sl.length
 nc:∀(j b:Nat),bs[j]?=some b→o b=8+4*j
 nd:∀(j b:Nat) (s:Sl),bs[j]?=some b→S.D.sl[j]?=some s→∃a kv,CNode w0 w o S bs (decide (j < k)) j b s a kv
theorem inR_u32 {z:Int} (h0:0≤z) (h1:z≤4294967295):InR .u32 z:=⟨by simpa [IntKind.min,IntKind.signed] using h0,by simpa [IntKind.max,IntKind.signed,IntKind.bits] using h1⟩
section
variable {w w0 w1:World}{o o0 o1:Nat→Nat}{θ:Th}{S:PS}{bs:List Nat}{nv:Sv}{gb gc k:Nat}{M:Nat→Prop}{R:Ending→World→Prop}
theorem CNode.keep {dn:Bool}{j b:Nat}{s:Sl}{a kv:Sv} (h:CNode w0 w o S bs dn j b s a kv) (hb:o b=8+4*j) (hf:Fm M w w1) (hm:∀x,(o x=8+4*j∨o x=9+4*j∨o x=10+4*j)→¬M x) (ho:∀x,o x≠0→o1 x=o x):CNode w0 w1 o1 S bs dn j b s a kv :=
 ⟨hf.blk h.blk (hm b (.inl hb)),own_fm h.at1 hf fun x hx=>hm x (.inr (.inr (h.at2 x hx))),fun x hx=>by have:=h.at2 x hx;rw [ho x (by omega)];exact this,
  fun hd=>own_fm (h.kd1 hd) hf fun x hx=>hm x (.inr (.inl (h.kd2 hd x hx))),fun hd x hx=>by have:=h.kd2 hd x hx;rw [ho x (by omega)];exact this,h.kd3⟩
theorem CDoc.keep (h:CDoc w0 w o S gb gc bs nv k) (hf:Fm M w w1) (hm:∀b,b < w.heap.size→M b→o b=0∧b≠gb∧w0.heap.size≤b):CDoc w0 w1 o S gb gc bs nv k:=by
 have hM:∀x,o x≠0→¬M x:=fun x hx hmx=>hx (hm x (h.lt x hx).2 hmx).1
 refine⟨h.bel.trans (hf.toBelow h.bel.size fun b hb hmb=>?_),hf.blk h.box fun e=>(hm gb h.box.lt e).2.1 rfl,hf.blk h.doc (hM gc (by rw [h.col];decide)),own_fm h.nv1 hf fun x hx=>hM x (by rw [h.nv2 x hx];decide),h.nv2,h.col,h.bc,
  fun b hb=>⟨(h.lt b hb).1,Nat.lt_of_lt_of_le (h.lt b hb).2 hf.size⟩,h.gbl,h.len,h.nc,fun j b s hb hs=>?_⟩
 ·have:=(hm b (Nat.lt_of_lt_of_le hb h.bel.size) hmb).2.2;omega
 ·obtain⟨a,kv,hn⟩:=h.nd j b s hb hs
  exact⟨a,kv,hn.keep (h.nc j b hb) hf (fun x hx=>hM x (by omega)) fun _ _=>rfl⟩
theorem CDoc.below (h:CDoc w0 w o S gb gc bs nv k) (hb:Below w.heap.size w w1):CDoc w0 w1 o S gb gc bs nv k :=
 h.keep (M:=fun _=>False) (.below hb) fun _ _ h=>h.elim
theorem rdO {α:Type}{L:Lay α}{B:Nat}{e:TypeId}{v:Sv}{xs:List α} (h:Own L w B e (slV v) xs):v.2.1=xs.length∧Rd L w v.1 v.2.2 xs:=by
 obtain⟨A,c,hv,hr⟩:=h.form
 rw [slvF hv];exact⟨rfl,hr⟩
theorem turn_calls (hP:PM w0 o0 θ S) (h:CDoc w0 w o S gb gc bs nv k) (hlen:bs.length=S.D.sl.length) {l:List Nat}{v:Sv} (hv:v.2.1=l.length) (hr:Rd LPt w0 v.1 v.2.2 (l.map (pb S.bs))) (hl:l.length≤1048576) (hin:∀x∈l,inN S.D.sl.length x)
  (hK:∀r w',Below w.heap.size w w'→Own LPt w' w.heap.size 115 (slV r) (l.map (pb bs))→R (.returned (slV r)) w'):Calls Tryz.prog 98 #[slV v,.pointer (some ⟨gb,0,none⟩)] w R:=by
 refine ok98 v.1 v.2.1 v.2.2 ⟨gb,0,none⟩ ?_
 unfold F98
 have hfew:=hP.few
 refine⟨fun A n c x w'=>∃m:Nat,x=m∧m≤l.length∧Below w.heap.size w w'∧Own LPt w' w.heap.size 115 (.slice A n c) ((l.take m).map (pb bs)),fun _ _ _ x _=>l.length-x.toNat,⟨0,rfl,by omega,.refl _ _,by simpa using Own.nil _ _ _ _⟩,?_⟩
 rintro A n c _ w1 ⟨m,rfl,hm,hb1,ho⟩
 unfold F98_l3
 have B1:=btr h.bel h.bel.size hb1
 have h1:=h.below hb1
 refine brd (fun hlt=>?_) (fun hge=>?_)
 ·have hm2:m < l.length:=by omega
  refine (hr.keep B1).pt (by rw [List.length_map,hv]) rfl (k:=m) (by rw [List.length_map];exact hm2) fun b o c0=>?_
  rw [List.getElem_map] at c0
  simp only [c0,lds]
  have hdr:Below w1.heap.size w1 w1.drew:=(Below.refl _ _).drew
  obtain⟨p1,s,p2⟩:=pb_get hP.len (hin _ (List.getElem_mem hm2))
  have pin:=hin _ (List.getElem_mem hm2)
  obtain⟨x,hx⟩:∃x,l[m]=x:=⟨_,rfl⟩
  rw [hx] at c0 p1 p2 pin ⊢
  unfold inN at pin
  obtain⟨n1,n2⟩:=rdO h1.nv1
  refine⟨fun w'=>Below w1.heap.size w1 w',hdr,?_⟩
  refine⟨_,fun w' hw=>by rw [(h1.box.keep hw).cell];rfl,?_⟩
  refine⟨_,_,_,fun w' hw=>by rw [(h1.doc.keep hw).cell];rfl,?_⟩
  refine⟨_,fun w' hw=>(hP.below (btr B1 B1.size hw)).cIdx p1 p2,?_⟩
  refine⟨inR_u32 (by omega) (by omega),?_⟩
  refine n2.held (fun _ h=>h) n1 (by omega) (by omega) rfl fun b2 o2 cc=>?_
  have cc:=cc 0 _ rfl
  have e1:(((x % 4294967296-1+1:Nat):Int)-1).toNat=x % 4294967296-1:=by omega
  have e2:bs[(((x % 4294967296-1+1:Nat):Int)-1).toNat]'(by omega)=pb bs x:=by
   unfold pb
   rw [List.getD_eq_getElem?_getD,List.getElem?_eq_getElem (by omega)]
   simp only [e1,Option.getD_some]
  simp only [e2,Nat.add_zero] at cc
  refine⟨_,cc,?_⟩
  refine ap1 (L:=LPt) (x:=pb bs x) (xs:=(l.take m).map (pb bs)) (.pointer none) 8 rfl (by kernel_rfl) (by kernel_rfl) (by kernel_rfl) (ho.keep hdr) (by simpa using hb1.size) (by rw [List.length_map,List.length_take];omega) (by rw [List.length_map,List.length_take];simp [maxLen];omega) fun A' c' w4 o4 g4=>⟨A',_,c',rfl,inR_i64 (by omega) (by omega),⟨m+1,by simp,by omega,(btr hb1 hb1.size hdr).trans g4.below,?_⟩,(by first | omega | (dsimp only;omega))⟩
  rw [List.take_succ_eq_append_getElem hm2,List.map_append,hx];exact o4
 ·have hm2:m=l.length:=by omega
  subst hm2
  rw [List.take_length] at ho
  exact hK (A,n,c) w1 hb1 ho
theorem CDoc.push (h:CDoc w0 w o S gb gc bs nv 0) {gm:Nat}{s:Sl} (hs:S.D.sl[bs.length]?=some s) {a kv nv':Sv} (hf:Fm (fun b=>rowOf (slV nv)=some b∨b=gc) w w1) (hgm:w.heap.size≤gm)
  (bm:Blk w1 gm (nodeC bs.length s a (ptrH S.bs s.parent) kv) 117) (ha:Own LAt w1 0 120 (slV a) s.attrs) (har:∀x,rowOf (slV a)=some x→w.heap.size≤x∧x≠gm)
  (hk:kv.2.1=s.kids.length∧Rd LPt w0 kv.1 kv.2.2 (s.kids.map (pb S.bs))) (hd:Blk w1 gc (docC nv' (none,0,0) S.lv S.wn S.lo []) 75) (hn:Own LPt w1 0 115 (slV nv') (bs++[gm]))
  (hnr:∀x,rowOf (slV nv')=some x→rowOf (slV nv)=some x∨(w.heap.size≤x∧x≠gm∧rowOf (slV a)≠some x)):∃o',CDoc w0 w1 o' S gb gc (bs++[gm]) nv' 0:=by
 have hnew:∀x,w.heap.size≤x→o x=0:=fun x hx=>Classical.byContradiction fun e=>by have:=(h.lt x e).2;omega
 have hcol:=h.col
 have hbc:=h.bc
 have hgb:=h.box.lt
 have hgc:=h.doc.lt
 have hws:=h.bel.size
 have hss:=hf.size
 let o2:Nat→Nat:=fun x=>if x=gm then 8+4*bs.length else if rowOf (slV a)=some x then 10+4*bs.length else if rowOf (slV nv')=some x then 2 else o x
 have hold:∀x,o x≠0→o2 x=o x:=fun x hx=>by
  have hxl:=(h.lt x hx).2
  show (if x=gm then _ else _)=_
  rw [if_neg (by omega),if_neg (fun e=>by have:=(har x e).1;omega)]
  split
  ·rename_i e
   rcases hnr x e with e2 | e2
   ·exact (h.nv2 x e2).symm
   ·omega
  ·rfl
 have hM:∀x,o x≠0→o x≠2→o x≠1→¬(rowOf (slV nv)=some x∨x=gc):=fun x h0 h2 h1 e=>by
  rcases e with e | e
  ·exact h2 (h.nv2 x e)
  ·subst e;exact h1 h.col
 refine⟨o2,h.bel.trans (hf.toBelow h.bel.size fun b hb e=>?_),hf.blk h.box fun e=>?_,hd,hn,fun x hx=>?_,?_,?_,fun b hb=>?_,h.gbl,?_,fun j b hb=>?_,fun j b t hb ht=>?_⟩
 ·rcases e with e | e
  ·have:=(h.lt b (by rw [h.nv2 b e];decide)).1;omega
  ·have:=(h.lt gc (by rw [h.col];decide)).1;omega
 ·rcases e with e | e
  ·rw [h.nv2 gb e] at hbc;cases hbc
  ·rw [e,hcol] at hbc;cases hbc
 ·show (if x=gm then _ else _)=_
  rcases hnr x hx with e | ⟨e1,e2,e3⟩
  ·have:=(h.lt x (by rw [h.nv2 x e];decide)).2
   rw [if_neg (by omega),if_neg (fun e=>by have:=(har x e).1;omega),if_pos hx]
  ·rw [if_neg e2,if_neg e3,if_pos hx]
 ·rw [hold gc (by rw [hcol];decide)];exact hcol
 ·show (if gb=gm then _ else _)=_
  rw [if_neg (by omega),if_neg (fun e=>by have:=(har gb e).1;omega),if_neg (fun e=>?_)]
  ·exact hbc
  ·rcases hnr gb e with e2 | e2
   ·rw [h.nv2 gb e2] at hbc;cases hbc
   ·omega
 ·by_cases h0:o b=0
  ·have hb2:(if b=gm then 8+4*bs.length else if rowOf (slV a)=some b then 10+4*bs.length else if rowOf (slV nv')=some b then 2 else o b)≠0:=hb
   by_cases e1:b=gm
   ·subst e1;exact⟨by omega,bm.lt⟩
   rw [if_neg e1] at hb2
   by_cases e2:rowOf (slV a)=some b
   ·exact⟨by have:=(har b e2).1;omega,(ha.lt b e2).2⟩
   rw [if_neg e2] at hb2
   by_cases e3:rowOf (slV nv')=some b
   ·rcases hnr b e3 with e4 | e4
    ·rw [h.nv2 b e4] at h0;cases h0
    ·exact⟨by omega,(hn.lt b e3).2⟩
   rw [if_neg e3] at hb2
   exact absurd h0 hb2
  ·have:=h.lt b h0;exact⟨this.1,by omega⟩
 ·have:=(List.getElem?_eq_some_iff.1 hs).1
  rw [List.length_append];simp only [List.length_singleton];omega
 ·rw [List.getElem?_append] at hb
  split at hb
  ·have:=h.nc j b hb
   rw [hold b (by omega)];exact this
  ·rename_i hj
   have hj2:j=bs.length:=by
    have:=(List.getElem?_eq_some_iff.1 hb).1
    simp only [List.length_singleton] at this;omega
   subst hj2
   rw [Nat.sub_self,List.getElem?_cons_zero] at hb
   cases hb
   show (if gm=gm then _ else _)=_
   rw [if_pos rfl]
 ·rw [List.getElem?_append] at hb
  split at hb
  ·obtain⟨a2,kv2,hN⟩:=h.nd j b t hb ht
   have hc:=h.nc j b hb
   have e0:decide (j < 0)=false:=decide_eq_false (by omega)
   rw [e0] at hN ⊢
   have hN2:=hN.keep (o1:=o2) hc hf (fun x hx=>hM x (by omega) (by omega) (by omega)) hold
   exact⟨a2,kv2,hN2.blk,hN2.at1,hN2.at2,(fun e=>by cases e),(fun e=>by cases e),hN2.kd3⟩
  ·rename_i hj
   have hj2:j=bs.length:=by
    have:=(List.getElem?_eq_some_iff.1 hb).1
    simp only [List.length_singleton] at this;omega
   subst hj2
   rw [Nat.sub_self,List.getElem?_cons_zero] at hb
   cases hb
   rw [hs] at ht;cases ht
   have e0:decide (bs.length < 0)=false:=decide_eq_false (by omega)
   rw [e0]
   refine⟨a,kv,bm,ha,fun x hx=>?_,(fun e=>by cases e),(fun e=>by cases e),fun _=>hk⟩
   show (if x=gm then _ else _)=_
   rw [if_neg (har x hx).2,if_pos hx]
theorem CDoc.step (h:CDoc w0 w o S gb gc bs nv k) {b:Nat}{s:Sl}{a kv:Sv} (hb:bs[k]?=some b) (hs:S.D.sl[k]?=some s) (hf:Fm (·=b) w w1) (bm:Blk w1 b (nodeC k s a (ptrH bs s.parent) kv) 117)
  (ha:Own LAt w 0 120 (slV a) s.attrs) (ha2:∀x,rowOf (slV a)=some x→o x=10+4*k) (hkv:Own LPt w1 0 115 (slV kv) (s.kids.map (pb bs))) (hr:∀x,rowOf (slV kv)=some x→o x=0∧w0.heap.size≤x∧x≠gb) :
  ∃o',CDoc w0 w1 o' S gb gc bs nv (k+1):=by
 have hcol:=h.col
 have hbc:=h.bc
 have hbb:=h.nc k b hb
 have hws:=h.bel.size
 have hbl:=h.lt b (by omega)
 have hold:∀x,o x≠0→cl o (rowOf (slV kv)) (9+4*k) x=o x:=fun x hx=>cl_old hx
 refine⟨cl o (rowOf (slV kv)) (9+4*k),h.bel.trans (hf.toBelow h.bel.size fun x hx e=>?_),hf.blk h.box fun e=>?_,hf.blk h.doc fun e=>?_,own_fm h.nv1 hf fun x hx e=>?_,fun x hx=>?_,?_,?_,fun x hx=>?_,h.gbl,h.len,fun j c hc=>?_,fun j c t hc ht=>?_⟩
 ·have e:x=b:=e
  omega
 ·have e:gb=b:=e
  rw [e,hbb] at hbc;omega
 ·have e:gc=b:=e
  rw [e,hbb] at hcol;omega
 ·have e:x=b:=e
  have:=h.nv2 x hx
  rw [e,hbb] at this;omega
 ·rw [hold x (by rw [h.nv2 x hx];decide)];exact h.nv2 x hx
 ·rw [hold gc (by rw [hcol];decide)];exact hcol
 ·unfold cl;rw [if_neg (fun e=>(hr gb e.1).2.2 rfl)];exact hbc
 ·by_cases e:o x=0
  ·unfold cl at hx
   by_cases e2:rowOf (slV kv)=some x∧o x=0
   ·exact⟨(hr x e2.1).2.1,(hkv.lt x e2.1).2⟩
   ·rw [if_neg e2] at hx;exact absurd e hx
  ·have:=h.lt x e;have:=hf.size;exact⟨(h.lt x e).1,by omega⟩
 ·have:=h.nc j c hc
  rw [hold c (by omega)];exact this
 ·by_cases ej:j=k
  ·subst ej
   rw [hb] at hc;cases hc
   rw [hs] at ht;cases ht
   rw [decide_eq_true (by omega)]
   refine⟨a,kv,bm,own_fm ha hf fun x hx e=>?_,fun x hx=>?_,fun _=>hkv,fun _ x hx=>?_,(fun e=>by cases e)⟩
   ·have e:x=b:=e
    have:=ha2 x hx
    rw [e,hbb] at this;omega
   ·rw [hold x (by rw [ha2 x hx];omega)];exact ha2 x hx
   ·exact cl_row hx (.inl (hr x hx).1)
  ·obtain⟨a2,kv2,hN⟩:=h.nd j c t hc ht
   have e1:decide (j < k+1)=decide (j < k):=decide_eq_decide.2 (by omega)
   rw [e1]
   have hcc:=h.nc j c hc
   exact⟨a2,kv2,hN.keep hcc hf (fun x hx e=>by
    have e:x=b:=e
    rw [e,hbb] at hx;omega) hold⟩
theorem CDoc.pm (hP:PM w0 o0 θ S) (h:CDoc w0 w o S gb gc bs nv S.D.sl.length) (hlen:bs.length=S.D.sl.length) {rv:Sv} (hf:Fm (·=gc) w w1) (hd:Blk w1 gc (docC nv rv S.lv S.wn S.lo []) 75)
  (hrv:Own LPt w1 0 115 (slV rv) (S.D.roots.map (pb bs))) (hr:∀x,rowOf (slV rv)=some x→o x=0∧w0.heap.size≤x) :
  ∃o',PM w1 o' ⟨gc,75,[]⟩ ⟨S.D,bs,S.lv,S.wn,S.lo⟩∧∀b,o' b≠0→w0.heap.size≤b:=by
 have hcol:=h.col
 have hold:∀x,o x≠0→cl o (rowOf (slV rv)) 3 x=o x:=fun x hx=>cl_old hx
 have hss:=hf.size
 refine⟨cl o (rowOf (slV rv)) 3,⟨?_,fun x hx=>?_,hlen,hP.few,fun j c hc=>?_,⟨nv,rv,hd,own_fm h.nv1 hf fun x hx e=>?_,fun x hx=>?_,hrv,fun x hx=>cl_row hx (.inl (hr x hx).1)⟩,fun j c t hc ht=>?_,hP.rng,hP.rts,hP.cnt⟩,fun x hx=>?_⟩
 ·show cl o _ 3 gc=1
  rw [hold gc (by rw [hcol];decide)];exact hcol
 ·by_cases e:o x=0
  ·unfold cl at hx
   by_cases e2:rowOf (slV rv)=some x∧o x=0
   ·exact (hrv.lt x e2.1).2
   ·rw [if_neg e2] at hx;exact absurd e hx
  ·have:=(h.lt x e).2;omega
 ·have:=h.nc j c hc
  rw [hold c (by omega)];exact this
 ·have e:x=gc:=e
  have:=h.nv2 x hx
  rw [e,hcol] at this;omega
 ·rw [hold x (by rw [h.nv2 x hx];decide)];exact h.nv2 x hx
 ·have hj:=(List.getElem?_eq_some_iff.1 ht).1
  obtain⟨a,kv,hN⟩:=h.nd j c t hc ht
  rw [decide_eq_true hj] at hN
  have hcc:=h.nc j c hc
  have hN2:=hN.keep (o1:=cl o (rowOf (slV rv)) 3) hcc hf (fun x hx e=>by
   have e:x=gc:=e
   rw [e,hcol] at hx;omega) hold
  exact⟨a,kv,hN2.blk,hN2.at1,hN2.at2,hN2.kd1 rfl,hN2.kd2 rfl⟩
 ·by_cases e:o x=0
  ·unfold cl at hx
   by_cases e2:rowOf (slV rv)=some x∧o x=0
   ·exact (hr x e2.1).2
   ·rw [if_neg e2] at hx;exact absurd e hx
  ·exact (h.lt x e).1
theorem rr_own {B:Nat}{e:TypeId}{α:Type}{L:Lay α}{v:Sv}{l:List α} (h:Own L w B e (slV v) l) (hl:l.length≤1048576):RR L w l v:=by
 obtain⟨h1,h2⟩:=rdO h
 exact⟨hl,h1,h2⟩
theorem clone1 (hP:PM w0 o0 θ S) (hC:CDoc w0 w o S gb gc [] (none,0,0) 0) {v:Sv} (hv:Own LPt w0 0 115 (slV v) S.bs)
  (hK:∀w' o' bs nv,bs.length=S.D.sl.length→CDoc w0 w' o' S gb gc bs nv 0→F58_l3 (some ⟨θ.g,0,none⟩) ⟨gb,0,none⟩ v.1 v.2.1 (fun _ _=>False) (S.bs.length:Nat) w' R) :
  ∃(I:Int→World→Prop) (m:Int→World→Nat),I (0:Int) w ∧
   ∀(x29:Int) (w1:World),I x29 w1→F58_l3 (some ⟨θ.g,0,none⟩) ⟨gb,0,none⟩ v.1 v.2.1 (fun x29' w2=>I x29' w2∧m x29' w2 < m x29 w1) x29 w1 R:=by
 obtain⟨n1,n2⟩:=rdO hv
 have hlen:=hP.len
 have hfew:=hP.few
 refine⟨fun x w'=>∃(m:Nat) (o':Nat→Nat) (bs:List Nat) (nv:Sv),x=m∧m≤S.bs.length∧bs.length=m∧CDoc w0 w' o' S gb gc bs nv 0,fun x _=>S.bs.length-x.toNat,⟨0,o,[],_,rfl,by omega,rfl,hC⟩,?_⟩
 rintro _ w1 ⟨m,o1,bs,nv,rfl,hm,hbm,h1⟩
 by_cases hml:m < S.bs.length
 ·unfold F58_l3
  refine brd (fun hlt=>?_) (fun hge=>absurd (by omega) hge)
  have B1:=h1.bel
  refine (n2.keep B1).pt n1 rfl (k:=m) hml fun b oo c0=>?_
  simp only [c0,lds]
  obtain⟨s,hs⟩:∃s,S.D.sl[m]?=some s:=⟨_,List.getElem?_eq_getElem (by omega)⟩
  have hgb:S.bs[m]?=some S.bs[m]:=List.getElem?_eq_getElem hml
  generalize S.bs[m]=b0 at *
  obtain⟨a,kv,hN⟩:=hP.nodes m b0 s hgb hs
  have hr:=hP.rng s (List.mem_of_getElem? hs)
  have bN:=hN.blk.keep B1
  have bN':=bN
  unfold nodeC at bN'
  simp only [NonNil_some,Addr.add_mk,Nat.zero_add,bN'.cell,lds]
  refine al fun gm w2 hb2 b2 hge2=>?_
  refine st_blk b2 (by simp) fun u1 q1 f1=>st_blk q1 (by simp) fun u2 q2 f2=>st_blk q2 (by simp) fun u3 q3 f3=>st_blk q3 (by simp) fun u4 q4 f4=>st_blk q4 (by simp) fun u5 q5 f5=>st_blk q5 (by simp) fun u6 q6 f6=>st_blk q6 (by simp) fun u7 q7 f7=>st_blk q7 (by simp) fun u8 q8 f8=>st_blk q8 (by simp) fun w3 b3 f9=>?_
  simp only [List.setIfInBounds_toArray,List.set_cons_zero,List.set_cons_succ] at b3
  have F3:Fm (·=gm) w2 w3:=((((((((f1.trans f2).trans f3).trans f4).trans f5).trans f6).trans f7).trans f8).trans f9)
  clear q1 q2 q3 q4 q5 q6 q7 q8 f1 f2 f3 f4 f5 f6 f7 f8 f9
  have D3:Below w1.heap.size w1 w3:=hb2.trans (F3.toBelow hb2.size fun b hb e=>by have e:b=gm:=e;omega)
  have bN3:=bN'.keep D3
  simp only [NonNil_some,Addr.add_mk,Nat.zero_add,bN3.cell,lds]
  have ra:=(rr_own hN.at1 hr.atf).keep (btr B1 B1.size D3)
  refine cloneOwn_calls s.attrs a ra fun a' w4 hb4 oa=>⟨_,_,_,rfl,?_⟩
  have D4:=btr D3 D3.size hb4
  refine st_blk (b3.keep hb4) (by simp) fun w5 b5 f5=>?_
  simp only [List.setIfInBounds_toArray,List.set_cons_zero,List.set_cons_succ] at b5
  have hs1:=D3.size
  have hs4:=hb4.size
  have D5:Below w1.heap.size w1 w5:=D4.trans (f5.toBelow D4.size fun b hb e=>by have e:b=gm:=e;omega)
  have h5:=h1.below D5
  have hs5:=f5.size
  have hgm:gm < w3.heap.size:=b3.lt
  have oa5:Own LAt w5 0 120 (slV a') s.attrs:=(own_fm oa f5 fun x hx e=>by have e:x=gm:=e;have:=(oa.lt x hx).1;omega).rebase fun _ _=>Nat.zero_le _
  have har:∀x,rowOf (slV a')=some x→w3.heap.size≤x∧x < w5.heap.size:=fun x hx=>⟨(oa.lt x hx).1,(oa5.lt x hx).2⟩
  have hdr:Below w5.heap.size w5 w5.drew:=(Below.refl _ _).drew
  have h5d:=h5.below hdr
  have hgcol:=h5.col
  have hbcol:=h5.bc
  obtain⟨l1,l2⟩:=rdO h5.nv1
  refine⟨fun w'=>Blk w' gb #[.pointer (some ⟨gc,0,none⟩)] 60∧Blk w' gc (docC nv (none,0,0) S.lv S.wn S.lo []) 75,⟨h5d.box,h5d.doc⟩,?_⟩
  refine⟨_,fun w' hw=>by rw [hw.1.cell];rfl,_,fun w' hw=>by rw [hw.1.cell];rfl,?_⟩
  refine⟨_,_,_,fun w' hw=>by rw [hw.2.cell];rfl,?_⟩
  refine ap1S (L:=LPt) (x:=gm) (xs:=bs) (base:=0) (.pointer none) 8 rfl (by kernel_rfl) (by kernel_rfl) (by kernel_rfl) h5d.nv1 (Nat.zero_le _) (by omega) (by simp [maxLen];omega) (fun w' hb=>⟨h5d.box.keep hb,h5d.doc.keep hb⟩) fun A' c' w6 o6 g6=>⟨A',_,c',rfl,?_⟩
  have FG:Fm (fun b=>rowOf (slV nv)=some b) w5.drew w6:=Fm.grown g6.grown fun b hb=>hb
  have bb6:=FG.blk h5d.box fun e=>by rw [h5.nv2 gb e] at hbcol;cases hbcol
  have bc6:=FG.blk h5d.doc fun e=>by rw [h5.nv2 gc e] at hgcol;cases hgcol
  refine⟨⟨bb6,bc6⟩,?_⟩
  simp only [NonNil_some]
  refine st_blk bc6 (by simp [docC]) fun w7 b7 f7=>⟨inR_i64 (by omega) (by omega),?_⟩
  rw [show Value.slice A' (bs.length+1) c'=slV (A',bs.length+1,c') from rfl,doc_set0] at b7
  have FF:Fm (fun b=>rowOf (slV nv)=some b∨b=gc) w5.drew w7:=(FG.mono fun b _ e=>.inl e).trans (f7.mono fun b _ e=>.inr e)
  have hgcl:=h5.doc.lt
  have FF1:Fm (fun b=>rowOf (slV nv)=some b∨b=gc) w1 w7:=(Fm.below (btr D5 D5.size hdr)).trans FF
  have hgcw:=(h1.lt gc (by rw [h1.col];decide)).2
  have hnvl:∀x,rowOf (slV nv)=some x→x < w1.heap.size:=fun x hx=>(h1.lt x (by rw [h1.nv2 x hx];decide)).2
  have hdl:w5.drew.heap.size=w5.heap.size:=rfl
  have bm7:Blk w7 gm (nodeC bs.length s a' (ptrH S.bs s.parent) kv) 117:=by
   refine FF.blk (show Blk w5.drew gm _ _ from ?_) fun e=>?_
   ·have:=b5.keep hdr
    rw [hbm];exact this
   ·rcases e with e | e
    ·have:=hnvl gm e;omega
    ·omega
  obtain⟨o',hC'⟩:=h1.push (s:=s) (a:=a') (kv:=kv) (nv':=(A',bs.length+1,c')) (gm:=gm) (w1:=w7) (by rw [hbm];exact hs) FF1 hge2 bm7
   (own_fm oa5 ((Fm.below hdr).trans FF) fun x hx e=>by
    rcases e with e | e
    ·have:=hnvl x e;have:=(har x hx).1;omega
    ·have:=(har x hx).1;omega)
   (fun x hx=>⟨by have:=(har x hx).1;omega,by have:=(har x hx).1;omega⟩) ⟨by have:=(rdO hN.kd1).1;rwa [List.length_map] at this,(rdO hN.kd1).2⟩ b7
   (own_fm o6 f7 fun x hx e=>by
    have e:x=gc:=e
    have hx:rowOf (Value.slice A' (bs.length+1) c')=some x:=hx
    rcases g6.row with e2 | e2 | ⟨g,e2,e3⟩
    ·have hx2:rowOf (slV nv)=some x:=by
      have:rowOf (slV (A',bs.length+1,c'))=rowOf (slV nv):=e2
      rw [←this];exact hx
     rw [e,] at hx2
     rw [h5.nv2 gc hx2] at hgcol;cases hgcol
    ·have:rowOf (slV (A',bs.length+1,c'))=none:=e2
     rw [e2] at hx;cases hx
    ·have:rowOf (Value.slice A' (bs.length+1) c')=some g:=e2
     rw [this] at hx;cases hx;omega)
   (fun x hx=>by
    have hx:rowOf (Value.slice A' (bs.length+1) c')=some x:=hx
    rcases g6.row with e2 | e2 | ⟨g,e2,e3⟩
    ·rw [e2] at hx;exact .inl hx
    ·rw [e2] at hx;cases hx
    ·rw [e2] at hx;cases hx
     exact .inr ⟨by omega,by omega,fun e=>by have:=(har x e).2;omega⟩)
  exact⟨⟨m+1,o',bs++[gm],_,by simp,by omega,by simp;omega,hC'⟩,(by first | omega | (dsimp only;omega))⟩
 ·have hm2:m=S.bs.length:=by omega
  subst hm2
  have:=hK w1 o1 bs nv (by omega) h1
  unfold F58_l3 at this ⊢
  refine brd (fun hlt=>absurd hlt (by omega)) (fun hge=>?_)
  rw [decide_eq_false (by omega),Br_f] at this
  exact this
theorem clone2 (hP:PM w0 o0 θ S) (hC:CDoc w0 w o S gb gc bs nv 0) (hlen:bs.length=S.D.sl.length) {v:Sv} (hv:Own LPt w0 0 115 (slV v) S.bs)
  (hK:∀o' w',Below w0.heap.size w0 w'→PM w' o' ⟨gc,75,[]⟩ ⟨S.D,bs,S.lv,S.wn,S.lo⟩→(∀b,o' b≠0→w0.heap.size≤b)→R (.returned (.pointer (some ⟨gc,0,none⟩))) w') :
  ∃(I:Int→World→Prop) (m:Int→World→Nat),I (0:Int) w ∧
   ∀(x58:Int) (w1:World),I x58 w1→F58_l11 (some ⟨θ.g,0,none⟩) ⟨gb,0,none⟩ v.1 v.2.1 (fun x58' w2=>I x58' w2∧m x58' w2 < m x58 w1) x58 w1 R:=by
 obtain⟨n1,n2⟩:=rdO hv
 have hl0:=hP.len
 have hfew:=hP.few
 refine⟨fun x w'=>∃(m:Nat) (o':Nat→Nat),x=m∧m≤S.bs.length∧CDoc w0 w' o' S gb gc bs nv m,fun x _=>S.bs.length-x.toNat,⟨0,o,rfl,by omega,hC⟩,?_⟩
 rintro _ w1 ⟨m,o1,rfl,hm,h1⟩
 have B1:=h1.bel
 have hdr:Below w1.heap.size w1 w1.drew:=(Below.refl _ _).drew
 have B1d:=btr B1 B1.size hdr
 have h1d:=h1.below hdr
 obtain⟨l1,l2⟩:=rdO h1.nv1
 have hcol:=h1.col
 have hbc:=h1.bc
 unfold F58_l11
 refine brd (fun hlt=>?_) (fun hge=>?_)
 ·have hml:m < S.bs.length:=by omega
  refine⟨fun w'=>∃o',CDoc w0 w' o' S gb gc bs nv (m+1),?_,?_⟩
  ·rintro w' ⟨o',h'⟩
   exact⟨inR_i64 (by omega) (by omega),⟨m+1,o',by simp,by omega,h'⟩,(by first | omega | (dsimp only;omega))⟩
  refine (n2.keep B1).pt n1 rfl (k:=m) hml fun b oo c0=>?_
  simp only [c0,lds]
  obtain⟨s,hs⟩:∃s,S.D.sl[m]?=some s:=⟨_,List.getElem?_eq_getElem (by omega)⟩
  have hgb:S.bs[m]?=some S.bs[m]:=List.getElem?_eq_getElem hml
  obtain⟨bn,hbn⟩:∃bn,bs[m]?=some bn:=⟨_,List.getElem?_eq_getElem (by omega)⟩
  obtain⟨hbl,hbn'⟩:=List.getElem?_eq_some_iff.1 hbn
  generalize S.bs[m]=b0 at *
  obtain⟨a0,kv0,hN⟩:=hP.nodes m b0 s hgb hs
  have hr:=hP.rng s (List.mem_of_getElem? hs)
  obtain⟨a,kv,hQ⟩:=h1.nd m bn s hbn hs
  rw [decide_eq_false (by omega)] at hQ
  have hbnc:=h1.nc m bn hbn
  refine⟨fun w'=>Below w1.heap.size w1 w',hdr,?_⟩
  refine⟨_,fun w' hw=>by rw [(h1.box.keep hw).cell];rfl,?_⟩
  refine⟨_,_,_,fun w' hw=>by rw [(h1.doc.keep hw).cell];rfl,?_⟩
  refine l2.held (fun _ h=>h) l1 (by omega) (by omega) rfl fun b2 o2 cc=>?_
  have cc:=cc 0 _ rfl
  simp only [Int.toNat_natCast,hbn',Nat.add_zero] at cc
  refine⟨_,cc,?_⟩
  simp only [NonNil_some,Addr.add_mk,Nat.zero_add]
  refine⟨_,_,_,fun w' hw=>by rw [((hN.blk.keep B1).keep hw).cell];rfl,?_⟩
  obtain⟨q1,q2⟩:=rdO hN.kd1
  rw [List.length_map] at q1
  refine⟨by kernel_rfl,turn_calls hP h1d hlen q1 q2 hr.few hr.kids fun r w2 hb2 or2=>⟨_,_,_,rfl,?_⟩⟩
  have D2:=btr hdr hdr.size hb2
  refine⟨D2,?_⟩
  have h2:=h1.below D2
  have hws:=D2.size
  have hrr:∀x,rowOf (slV r)=some x→w1.heap.size≤x∧x < w2.heap.size:=fun x hx=>⟨(or2.lt x hx).1,(or2.lt x hx).2⟩
  have hbnl:=h1.lt bn (by omega)
  have b2:=hQ.blk.keep D2
  refine st_blk b2 (by simp [nodeC]) fun w3 b3 f3=>?_
  have e8:(nodeC m s a (ptrH (bif false then bs else S.bs) s.parent) kv).setIfInBounds 8 (.slice r.1 r.2.1 r.2.2)=nodeC m s a (ptrH S.bs s.parent) r:=by simp [nodeC]
  rw [e8] at b3
  have hgbl:=h1.gbl
  have hws0:=B1.size
  have hwb:=h1.box.lt
  have fin:∀w':World,Fm (·=bn) w2 w'→Blk w' bn (nodeC m s a (ptrH bs s.parent) r) 117→∃o',CDoc w0 w' o' S gb gc bs nv (m+1):=fun w' f b =>
   h2.step hbn hs f b (hQ.at1.keep D2) hQ.at2 (own_fm (or2.rebase fun _ _=>Nat.zero_le _) f fun x hx e=>by have e:x=bn:=e;have:=(hrr x hx).1;omega)
    fun x hx=>⟨Classical.byContradiction fun e=>by have:=(h1.lt x e).2;have:=(hrr x hx).1;omega,by have:=(hrr x hx).1;omega,by have:=(hrr x hx).1;omega⟩
  have D3:Below w0.heap.size w0 w3:=(btr B1 B1.size D2).trans (f3.toBelow (btr B1 B1.size D2).size fun b hb e=>by have e:b=bn:=e;omega)
  have cp:w3.cell? ⟨b0,7,none⟩=some (.pointer (ptrH S.bs s.parent)):=by rw [(hN.blk.keep D3).cell];rfl
  simp only [cp,lds]
  by_cases hp0:s.parent=0
  ·have e1:ptrH S.bs s.parent=none:=by unfold ptrH;rw [if_pos hp0]
   rw [e1]
   simp only [Option.isNone_none,Bool.not_true,Br_f]
   refine fin w3 f3 ?_
   have e2:ptrH bs s.parent=none:=by unfold ptrH;rw [if_pos hp0]
   rw [e2,←e1];exact b3
  ·have hpin:=hr.par.resolve_left hp0
   have e1:ptrH S.bs s.parent=some ⟨pb S.bs s.parent,0,none⟩:=by unfold ptrH;rw [if_neg hp0]
   rw [e1]
   simp only [Option.isNone_some,Bool.not_false,Br_t]
   have hdr3:Below w3.heap.size w3 w3.drew:=(Below.refl _ _).drew
   have bx3:=f3.blk h2.box fun e=>by have e:gb=bn:=e;rw [e] at hbc;omega
   have bd3:=f3.blk h2.doc fun e=>by have e:gc=bn:=e;rw [e] at hcol;omega
   have ho3:=own_fm h2.nv1 f3 fun x hx e=>by
    have e:x=bn:=e
    have:=h2.nv2 x hx
    rw [e] at this;omega
   obtain⟨p1,s2,p2⟩:=pb_get hP.len hpin
   unfold inN at hpin
   obtain⟨j1,j2⟩:=rdO ho3
   refine⟨fun w'=>Below w3.heap.size w3 w',hdr3,?_⟩
   refine⟨_,fun w' hw=>by rw [(bx3.keep hw).cell];rfl,?_⟩
   simp only [NonNil_some,Addr.add_mk,Nat.zero_add]
   refine⟨_,_,_,fun w' hw=>by rw [(bd3.keep hw).cell];rfl,?_⟩
   refine j2.held (fun _ h=>h) j1 (by omega) (by omega) rfl fun b4 o4 cc4=>?_
   have cc4:=cc4 0 _ rfl
   simp only [Int.toNat_natCast,hbn',Nat.add_zero] at cc4
   refine⟨_,cc4,?_⟩
   refine⟨_,fun w' hw=>by rw [(bx3.keep hw).cell];rfl,?_⟩
   simp only [NonNil_some,Addr.add_mk,Nat.zero_add]
   refine⟨_,_,_,fun w' hw=>by rw [(bd3.keep hw).cell];rfl,?_⟩
   refine⟨_,fun w' hw=>by rw [((hN.blk.keep D3).keep hw).cell];show _=some (Value.pointer (ptrH S.bs s.parent));rfl,?_⟩
   rw [e1]
   simp only [NonNil_some,Addr.add_mk,Nat.zero_add]
   refine⟨_,fun w' hw=>(hP.below (btr D3 D3.size hw)).cIdx p1 p2,inR_u32 (by omega) (by omega),?_⟩
   refine j2.held (fun _ h=>h) j1 (by omega) (by omega) rfl fun b5 o5 cc5=>?_
   have cc5:=cc5 0 _ rfl
   have e3:(((s.parent % 4294967296-1+1:Nat):Int)-1).toNat=s.parent % 4294967296-1:=by omega
   have e4:bs[(((s.parent % 4294967296-1+1:Nat):Int)-1).toNat]'(by omega)=pb bs s.parent:=by
    unfold pb
    rw [List.getD_eq_getElem?_getD,List.getElem?_eq_getElem (by omega)]
    simp only [e3,Option.getD_some]
   simp only [e4,Nat.add_zero] at cc5
   refine⟨_,cc5,?_⟩
   refine st_blk (b3.keep hdr3) (by simp [nodeC]) fun w5 b5 f5=>?_
   have e7:(nodeC m s a (ptrH S.bs s.parent) r).setIfInBounds 7 (.pointer (some ⟨pb bs s.parent,0,none⟩))=nodeC m s a (ptrH bs s.parent) r:=by
    have:ptrH bs s.parent=some ⟨pb bs s.parent,0,none⟩:=by unfold ptrH;rw [if_neg hp0]
    rw [this];simp [nodeC]
   rw [e7] at b5
   exact fin w5 ((f3.trans (Fm.below hdr3)).trans f5) b5
 ·have hm2:m=S.D.sl.length:=by omega
  subst hm2
  obtain⟨nv0,rv0,hd⟩:=hP.doc
  refine⟨fun w'=>Below w1.heap.size w1 w',hdr,?_⟩
  refine⟨_,fun w' hw=>by rw [(h1.box.keep hw).cell];rfl,?_⟩
  simp only [NonNil_some,Addr.add_mk,Nat.zero_add]
  refine⟨_,_,_,fun w' hw=>by rw [((hd.blk.keep B1).keep hw).cell];rfl,?_⟩
  obtain⟨q1,q2⟩:=rdO hd.r1
  rw [List.length_map] at q1
  refine⟨by kernel_rfl,turn_calls hP h1d hlen q1 q2 hP.rts.2 hP.rts.1 fun r w2 hb2 or2=>⟨_,_,_,rfl,?_⟩⟩
  have D2:=btr hdr hdr.size hb2
  refine⟨D2,?_⟩
  have h2:=h1.below D2
  have hws:=D2.size
  refine st_blk h2.doc (by simp [docC]) fun w3 b3 f3=>?_
  rw [show Value.slice r.1 r.2.1 r.2.2=slV r from rfl,show (none,0,0)=((none,0,0):Sv) from rfl,doc_set1] at b3
  have bx3:=f3.blk h2.box fun e=>by have e:gb=gc:=e;rw [e,hcol] at hbc;cases hbc
  have cb:w3.cell? ⟨gb,0,none⟩=some (.pointer (some ⟨gc,0,none⟩)):=by rw [bx3.cell];rfl
  simp only [cb,lds]
  have hgcl:=(h1.lt gc (by rw [hcol];decide))
  have hrr:∀x,rowOf (slV r)=some x→w1.heap.size≤x∧x < w2.heap.size:=fun x hx=>⟨(or2.lt x hx).1,(or2.lt x hx).2⟩
  have hws0:=B1.size
  obtain⟨o',hPM,ho'⟩:=h2.pm hP hlen f3 b3 (own_fm (or2.rebase fun _ _=>Nat.zero_le _) f3 fun x hx e=>by have e:x=gc:=e;have:=(hrr x hx).1;omega)
   fun x hx=>⟨Classical.byContradiction fun e=>by have:=(h1.lt x e).2;have:=(hrr x hx).1;omega,by have:=(hrr x hx).1;omega⟩
  exact hK o' w3 ((btr B1 B1.size D2).trans (f3.toBelow (btr B1 B1.size D2).size fun b hb e=>by have e:b=gc:=e;omega)) hPM ho'
theorem Clone_calls (hP:PM w o0 θ S) (hK:∀gc bs o' w',Below w.heap.size w w'→PM w' o' ⟨gc,75,[]⟩ ⟨S.D,bs,S.lv,S.wn,S.lo⟩→(∀b,o' b≠0→w.heap.size≤b)→R (.returned (.pointer (some ⟨gc,0,none⟩))) w') :
  Calls Tryz.prog 58 #[.pointer (some ⟨θ.g,0,none⟩)] w R:=by
 refine ok58 (some ⟨θ.g,0,none⟩) ?_
 unfold F58
 obtain⟨nv0,rv0,hd⟩:=hP.doc
 have hdr:Below w.heap.size w w.drew:=(Below.refl _ _).drew
 have start:∀(w':World) (gb gc:Nat),Below w.heap.size w w'→w.heap.size≤gb→w.heap.size≤gc→gb≠gc→Blk w' gb #[.pointer (some ⟨gc,0,none⟩)] 60→Blk w' gc (docC (none,0,0) (none,0,0) S.lv S.wn S.lo []) 75 →
   CDoc w w' (fun b=>if b=gc then 1 else 0) S gb gc [] (none,0,0) 0:=fun w' gb gc hb h1 h2 h3 b1 b2 =>
  ⟨hb,b1,b2,Own.nil _ _ _ _,fun x hx=>(by cases hx),if_pos rfl,if_neg h3,fun b hb=>(by
   by_cases e:b=gc
   ·subst e;exact⟨h2,b2.lt⟩
   ·rw [if_neg e] at hb;exact absurd rfl hb),h1,by simp,fun j b hb=>(by simp at hb),fun j b s hb=>(by simp at hb)⟩
 refine⟨fun c w'=>∃gb gc,c=⟨gb,0,none⟩∧CDoc w w' (fun b=>if b=gc then 1 else 0) S gb gc [] (none,0,0) 0,?_,?_⟩
 ·rintro _ w1 ⟨gb,gc,rfl,h1⟩
  unfold F58_j2
  have c0:w1.cell? ⟨θ.g,0,none⟩=some (.slice nv0.1 nv0.2.1 nv0.2.2):=by rw [(hd.blk.keep h1.bel).cell];rfl
  simp only [NonNil_some,c0,lds]
  refine clone1 hP h1 hd.n1 fun w2 o2 bs nv hl h2=>?_
  unfold F58_l3
  obtain⟨n1,n2⟩:=rdO hd.n1
  refine brd (fun hlt=>absurd hlt (by omega)) fun _=>?_
  have c2:w2.cell? ⟨θ.g,0,none⟩=some (.slice nv0.1 nv0.2.1 nv0.2.2):=by rw [(hd.blk.keep h2.bel).cell];rfl
  simp only [NonNil_some,c2,lds]
  exact clone2 hP h2 hl hd.n1 fun o' w' hb hPM ho=>hK gc bs o' w' hb hPM ho
 ·refine⟨fun w'=>Below w.heap.size w w',hdr,?_⟩
  simp only [NonNil_some,Addr.add_mk,Nat.zero_add]
  refine⟨_,fun w' hw=>by rw [(hd.blk.keep hw).cell];rfl,_,fun w' hw=>by rw [(hd.blk.keep hw).cell];rfl,_,fun w' hw=>by rw [(hd.blk.keep hw).cell];rfl,?_,?_⟩
  ·refine al fun gc w1 hb1 b1 hge1=>al fun gb w2 hb2 b2 hge2=>?_
   refine st_blk b2 (by simp) fun w3 b3 f3=>?_
   simp only [List.setIfInBounds_toArray,List.set_cons_zero,List.set_cons_succ] at b3
   have D2:=btr (btr hdr hdr.size hb1) (btr hdr hdr.size hb1).size hb2
   have hl1:=b1.lt
   have hs1:=hb1.size
   have hds:w.drew.heap.size=w.heap.size:=rfl
   exact⟨gb,gc,rfl,start w3 gb gc (D2.trans (f3.toBelow D2.size fun b hb e=>by have e:b=gb:=e;omega)) (by omega) (by omega) (by omega) b3 (f3.blk (b1.keep hb2) fun e=>by have e:gc=gb:=e;omega)⟩
  ·refine al fun gb w1 hb1 b1 hge1=>⟨btr hdr hdr.size hb1,?_⟩
   refine al fun gc w2 hb2 b2 hge2=>?_
   refine st_blk (b1.keep hb2) (by simp) fun w3 b3 f3=>?_
   simp only [List.setIfInBounds_toArray,List.set_cons_zero,List.set_cons_succ] at b3
   have D2:=btr (btr hdr hdr.size hb1) (btr hdr hdr.size hb1).size hb2
   have hl1:=b1.lt
   have hs1:=hb1.size
   have hds:w.drew.heap.size=w.heap.size:=rfl
   exact⟨gb,gc,rfl,start w3 gb gc (D2.trans (f3.toBelow D2.size fun b hb e=>by have e:b=gb:=e;omega)) (by omega) (by omega) (by omega) b3 (f3.blk b2 fun e=>by have e:gc=gb:=e;omega)⟩
end
set_option maxRecDepth 100000
section
variable {P:Program}{q:IntKind}{w:World}{b:Nat}{f:Int→Option Value}{t kt et:TypeId}
theorem Mp.len (h:Mp q w b f) (ht:P.underlying t=some (.map kt et)) {l:List Int} (hn:l.Nodup) (hl:∀k,k∈l↔∃v,f k=some v) {ty:TypeId}{K:Value→World→Prop} (hK:K (.int .i64 (l.length:Nat)) w) :
  Raw P (Builtin.len_ #[t] ty #[.map (some b)]) w K:=by
 obtain⟨es,clock,hb,he⟩:=h
 have hsz:es.size=l.length:=by
  letI:DecidableEq Value:=fun a b=>Classical.propDecidable (a=b)
  have h1:(es.toList.map (·.key)).length≤(l.map (fun k=>Value.int q k)).length:=by
   refine nodup_sub he.one fun x hx=>?_
   obtain⟨e,he',rfl⟩:=List.mem_map.1 hx
   obtain⟨k,k1,k2⟩:=he.key e he'
   rw [k1]
   exact List.mem_map.2 ⟨k,(hl k).2 ⟨_,k2⟩,rfl⟩
  have h2:(l.map (fun k=>Value.int q k)).length≤(es.toList.map (·.key)).length:=by
   refine nodup_sub ?_ fun x hx=>?_
   ·refine List.pairwise_map.2 (hn.imp fun {a c} hac e=>hac ?_)
    injection e
   ·obtain⟨k,hk,rfl⟩:=List.mem_map.1 hx
    obtain⟨v,hv⟩:=(hl k).1 hk
    obtain⟨x,h3,h4⟩:=he.has k v hv
    exact List.mem_map.2 ⟨x,h3,h4⟩
  simp at h1 h2;omega
 refine⟨_,w,?_,hK⟩
 simp [Builtin.len_,run_underlying ht,MapKept.run_getObj_map hb,hsz,goInt]
end
end Go.Proofs.YtncbjdgcgclnnaaGreatDoor
