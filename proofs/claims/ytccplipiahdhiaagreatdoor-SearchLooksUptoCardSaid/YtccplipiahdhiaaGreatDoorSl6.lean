/- Search: SearchLooks, the card. -/
import Derived.Deep.Slices
import Derived.SizedLaws
import Derived.DataReads
import Derived.WideShapes
import Derived.Test.YtccplipiahdhiaaGreatDoorRows
import Derived.Lib.SmallJoins
import Derived.Test.YtccplipiahdhiaaGreatDoorCards
import Derived.Test.YtccplipiahdhiaaGreatDoorTie
import Derived.WalkKit
import Derived.RowKit3
import Derived.ProofKit
import Derived.OpenShut
import Derived.ShutString
import Derived.ChangeOld
import Derived.Below
import Derived.Carry
import Derived.LaidMore
import Derived.PinnedBridge
import Derived.Lib.LaidIn
import Derived.Lib.LaidU8T
import Derived.SevenTiedAt
import Derived.Stop.Joined
import Derived.Deep.DeepHandedRow
import Derived.JoinedCond
import Derived.Deep.CondSized
import Derived.Test.YtccplipiahdhiaaGreatDoorSl5
namespace Go.Proofs.YtccplipiahdhiaaGreatDoor
open Go.RowKit Go.Vc
set_option linter.unusedVariables false
set_option linter.unusedSimpArgs false
set_option maxRecDepth 100000
def NodeO (R:Ending→World→Prop) (i:Nat) (s:Sl) (k:Nat) (w:World):Prop:=match goodS s with
 | false=>∀p,R (.returned (.tuple #[.pointer p,.bool false])) w
 | true=>∀g a,k≤g→Blk w g (nodeC i (normS s) a none (none,0,0)) 202→Own LAt w k 205 (slV a) (normS s).attrs→(∀x,rowOf (slV a)=some x→x≠g)→R (.returned (.tuple #[.pointer (some ⟨g,0,none⟩),.bool true])) w
theorem nodeO_calls {w:World}{s:Sl}{e:S8} (he:RSl w s e) (hso:SlOk s) {i:Nat} (hi:i < 1048576) (hT:Tabs w) {R:Ending→World→Prop} (h:∀w',Below w.heap.size w w'→NodeO R i s w.heap.size w') :
  Calls Tryz.prog 113 #[.agg #[.int .u32 (e.gen:Nat),.bool e.live,.int .i64 e.kind,.string e.nm,.slice e.ats.1 e.ats.2.1 e.ats.2.2,.string e.text,.int .u64 (e.parent:Nat),.slice e.kids.1 e.kids.2.1 e.kids.2.2,.int .i64 (i+1:Nat)]] w R:=by
 refine ok113 (e.gen:Nat) e.live e.kind e.nm e.ats.1 e.ats.2.1 e.ats.2.2 e.text (e.parent:Nat) e.kids.1 e.kids.2.1 e.kids.2.2 (i+1:Nat) ?_
 unfold F113
 refine al fun gs w1 hb1 b1 hge1=>?_
 simp only [Addr.add_mk,Nat.zero_add,b1.cell,lds]
 refine⟨⟨by simp [IntKind.min,IntKind.signed];omega,by simp [IntKind.max,IntKind.signed,IntKind.bits];omega⟩,?_⟩
 refine al fun gn w2 hb2 bn hge2=>?_
 have b12:=b1.keep hb2
 have B2:=btr hb1 hb1.size hb2
 have hs1:=hb1.size
 have hs2:=hb2.size
 simp only [Addr.add_mk,Nat.zero_add,b12.cell,lds]
 rw [he.gen,he.live]
 rw [he.gen,he.live] at bn
 refine bre (fun h0=>?_) (fun h0=>?_)
 ·have H:=h w2 B2
  unfold NodeO at H
  rw [show goodS s=false by unfold goodS;rw [decide_eq_false (by omega),Bool.false_and]] at H
  exact H none
 rw [brnot]
 refine br (fun hl=>?_) (fun hl=>?_)
 ·have hgood:∀b,slotB s=b→goodS s=b:=fun b e=>by unfold goodS;rw [decide_eq_true (by omega),hl,e];cases b <;> rfl
  refine al fun g5 w3 hb3 b5 hge3=>?_
  refine st_blk b5 (by simp) fun u1 q1 f1=>st_blk q1 (by simp) fun u2 q2 f2=>st_blk q2 (by simp) fun u3 q3 f3=>st_blk q3 (by simp) fun u4 q4 f4=>st_blk q4 (by simp) fun w4 b4 f5=>?_
  simp only [List.setIfInBounds_toArray,List.set_cons_zero,List.set_cons_succ] at b4
  have F4:Fm (·=g5) w3 w4:=(((f1.trans f2).trans f3).trans f4).trans f5
  have D4:Below w2.heap.size w2 w4:=hb3.trans (F4.toBelow hb3.size fun b hb e=>by have e:b=g5:=e;omega)
  have B4:=btr B2 B2.size D4
  refine⟨fun w'=>Below w4.heap.size w4 w'∧slotB s=true,?_,?_⟩
  ·rintro w5 ⟨hb5,hsb⟩
   unfold F113_j9
   have D5:=btr D4 D4.size hb5
   have B5:=btr B2 B2.size D5
   have bs5:=b12.keep D5
   have bn5:=bn.keep D5
   simp only [Addr.add_mk,Nat.zero_add,bs5.cell,lds]
   refine st_blk bn5 (by simp) fun w6 bn6 f6=>?_
   simp only [List.setIfInBounds_toArray,List.set_cons_zero,List.set_cons_succ] at bn6
   have f6:Fm (·=gn) w5 w6:=f6
   have hgn:=bn.lt
   have hgs:gs < w2.heap.size:=b12.lt
   have E6:Below w1.heap.size w1 w6:=(hb2.trans (D5.mono hs2)).trans (f6.toBelow (by have:=D5.size;omega) fun b hb e=>by have e:b=gn:=e;omega)
   have B6:=btr hb1 hs1 E6
   have bs6:=b1.keep E6
   refine⟨fun w'=>Below w.heap.size w w'∧∃a,Blk w' gn (nodeC i (normS s) a none (none,0,0)) 202∧Own LAt w' w.heap.size 205 (slV a) (normS s).attrs∧∀x,rowOf (slV a)=some x→x≠gn,?_,?_⟩
   ·rintro w7 ⟨hw,a,h1,h2,h3⟩
    unfold F113_j13
    have H:=h w7 hw
    unfold NodeO at H
    rw [hgood _ hsb] at H
    exact H gn a (by omega) h1 h2 h3
   ·simp only [Addr.add_mk,Nat.zero_add,bn6.cell,lds]
    rw [he.kind]
    rw [he.kind] at bn6
    refine bre (fun hk=>?_) (fun hk=>?_)
    ·simp only [Addr.add_mk,Nat.zero_add,bs6.cell,lds]
     refine st_blk bn6 (by simp) fun w7 bn7 f7=>?_
     simp only [List.setIfInBounds_toArray,List.set_cons_zero,List.set_cons_succ] at bn7
     have f7:Fm (·=gn) w6 w7:=f7
     refine⟨B6.trans (f7.toBelow B6.size fun b hb e=>by have e:b=gn:=e;omega),(none,0,0),?_,?_,fun x hx=>(by cases hx)⟩
     ·have e:normS s={ s with nm:=noB,attrs:=[],kids:=[] }:=by unfold normS;rw [if_pos hl,if_pos hk]
      rw [e,←he.text];exact bn7
     ·have e:(normS s).attrs=[]:=by unfold normS;rw [if_pos hl,if_pos hk]
      rw [e];exact Own.nil _ _ _ _
    ·have hd:Below w6.heap.size w6 w6.drew:=(Below.refl _ _).drew
     refine⟨fun w'=>Below w6.heap.size w6 w',hd,?_⟩
     refine⟨_,fun w2 h2=>by rw [(bs6.keep h2).cell];rfl,?_⟩
     refine⟨_,_,_,fun w2 h2=>by rw [(bs6.keep h2).cell];rfl,?_⟩
     refine cloneOwn_calls s.attrs e.ats (he.ats.keep (btr B6 B6.size hd)) fun a w7 hb7 ha=>⟨_,_,_,rfl,?_⟩
     have E7:=btr hd hd.size hb7
     have hs6:=f6.size
     have hs5:=D5.size
     refine⟨E7,st_blk (bn6.keep E7) (by simp) fun w8 bn8 f8=>st_blk bn8 (by simp) fun w9 bn9 f9=>?_⟩
     simp only [List.setIfInBounds_toArray,List.set_cons_zero,List.set_cons_succ] at bn9
     have f:Fm (·=gn) w7 w9:=Fm.trans f8 f9
     refine⟨(btr B6 B6.size E7).trans (f.toBelow (btr B6 B6.size E7).size fun b hb e=>by have e:b=gn:=e;omega),a,?_,?_,fun x hx=>by have:=(ha.lt x hx).1;have hdz:=hd.size;have:=B6.size;omega⟩
     ·have e:normS s={ s with text:=noB }:=by unfold normS;rw [if_pos hl,if_neg hk]
      rw [e,←he.nm];exact bn9
     ·have e:(normS s).attrs=s.attrs:=by unfold normS;rw [if_pos hl,if_neg hk]
      rw [e]
      exact (own_fm ha f fun x hx e=>by have e:x=gn:=e;have:=(ha.lt x hx).1;have hdz:=hd.size;omega).rebase fun x hx=>by have:=(ha.lt x hx).1;have hdz:=hd.size;have:=B6.size;omega
  ·simp only [Addr.add_mk,Nat.zero_add,b4.cell,lds]
   rw [he.kind,he.nm,he.text]
   refine own1_calls s.kind s.nm s.attrs e.ats s.text (none,0,0) (hT.keep B4) (he.ats.keep B4) fun w5 hb5=>⟨_,rfl,?_⟩
   have B5:=btr B4 B4.size hb5
   have bs5:=b12.keep (btr D4 D4.size hb5)
   have hbad:slotB s=false→R (.returned (.tuple #[.pointer none,.bool false])) w5:=fun e=>by
    have H:=h w5 B5
    unfold NodeO at H
    rw [hgood _ e] at H
    exact H none
   refine brn (fun hne=>hbad (by unfold slotB;rw [decide_eq_false hne,Bool.false_and])) (fun h0=>?_)
   simp only [Addr.add_mk,Nat.zero_add,bs5.cell,lds]
   rw [he.kind]
   refine bre (fun hk=>?_) (fun hk=>?_)
   ·refine brd (fun hp=>hbad ?_) (fun hp=>⟨hb5,?_⟩)
    ·rw [he.kids.2.1] at hp
     unfold slotB;rw [decide_eq_false (show ¬s.kind=1 by omega),decide_eq_false (show ¬s.kids.length=0 by omega)];simp
    ·rw [he.kids.2.1] at hp
     unfold slotB;rw [decide_eq_true h0,decide_eq_true (show s.kids.length=0 by omega)];simp
   ·have hk1:s.kind=1:=by
     unfold ownF at h0
     by_cases h1:s.kind=1
     ·exact h1
     ·rw [if_neg h1,if_neg hk] at h0;cases h0
    exact⟨hb5,by unfold slotB;rw [decide_eq_true h0,decide_eq_true hk1];rfl⟩
 ·have H:=h w2 B2
  unfold NodeO at H
  rw [show goodS s=true by unfold goodS;rw [decide_eq_true (by omega),hl];rfl] at H
  have e:normS s=⟨s.gen,false,0,noB,[],noB,0,[]⟩:=by unfold normS;rw [if_neg (by rw [hl];decide)]
  rw [e] at H
  rw [hl] at bn
  exact H gn (none,0,0) (by omega) bn (Own.nil _ _ _ _) fun x hx=>by cases hx
set_option maxRecDepth 100000
section
variable {w w1 w2:World}{o o1:Nat→Nat}{θ:Th}{S:PS}{M:Nat→Prop}{bs:List Nat}
theorem PM.push (h:PM w o θ S) {b:Nat} (hb0:w.heap.size≤b) {s0:Sl}{a0:Sv} (hp0:s0.parent=0) (hk0:s0.kids=[]) (hg0:s0.gen < 4294967296) (hf0:s0.attrs.length≤1048576) (hB:Blk w1 b (nodeC S.D.sl.length s0 a0 none (none,0,0)) 202) (hA:Own LAt w1 w.heap.size 205 (slV a0) s0.attrs) (hAb:∀x,rowOf (slV a0)=some x→x≠b) {v v':Sv} (hc:∀x,rowOf (slV v)=some x→o x=2) (hf:Fm (fun x=>rowOf (slV v)=some x) w w1)
  (hO:Own LPt w1 0 152 (slV v') (S.bs++[b])) (hr:rowOf (slV v')=rowOf (slV v)∨rowOf (slV v')=none∨∃g,rowOf (slV v')=some g∧w.heap.size≤g∧g≠b∧rowOf (slV a0)≠some g) (hl:S.D.sl.length < 4096) {K:World→Prop}
  (hK:∀w2 o2,PM w2 o2 θ { S with D:={ S.D with sl:=S.D.sl++[s0] },bs:=S.bs++[b] }→EvC (fun c=>c=1∨c=2) w o w2 o2→K w2):St w1 ⟨θ.g,0,none⟩ (slV v') K:=by
 have ob0:o b=0:=Classical.byContradiction fun h0=>by have:=h.lt b h0;omega
 have hrc:∀x,rowOf (slV v')=some x→(o x=2∨(o x=0∧w.heap.size≤x))∧x≠b:=fun x hx=>by
  rcases hr with e | e | ⟨g,e,hge,hgb,hga⟩
  ·have:=hc x (by rw [←e];exact hx)
   exact⟨.inl this,fun e=>by rw [e,ob0] at this;omega⟩
  ·rw [e] at hx;cases hx
  ·rw [e] at hx;cases hx
   refine⟨.inr ⟨Classical.byContradiction fun h0=>?_,hge⟩,hgb⟩
   have:=h.lt _ h0;omega
 obtain⟨nv,rv,hd⟩:=h.doc
 have hg1:=h.col
 have hbl:=h.len
 have hb1:Blk w1 θ.g (docC nv rv S.lv S.wn S.lo θ.tl) θ.t:=hf.blk hd.blk fun e=>by have:=hc _ e;omega
 refine st_blk hb1 (Nat.lt_of_lt_of_le (by omega) doc_size) fun w2 b2 f2=>?_
 rw [doc_set0] at b2
 have hbg:b≠θ.g:=fun e=>by rw [e,hg1] at ob0;omega
 have F:Fm (fun x=>o x=1∨o x=2) w w2:=(hf.mono fun x _ e=>.inr (hc x e)).trans (f2.mono fun x _ e=>.inl (by have e:x=θ.g:=e;rw [e];exact hg1))
 have hlt2:∀x,rowOf (slV v')=some x→x < w2.heap.size:=fun x hx=>Nat.lt_of_lt_of_le (hO.lt x hx).2 f2.size
 have hbl2:b < w2.heap.size:=Nat.lt_of_lt_of_le hB.lt f2.size
 let o2:Nat→Nat:=fun x=>if x=b then 8+4*S.D.sl.length else if rowOf (slV a0)=some x then 10+4*S.D.sl.length else cl o (rowOf (slV v')) 2 x
 have hA0:∀x,rowOf (slV a0)=some x→w.heap.size≤x∧x < w2.heap.size∧o x=0:=fun x hx=>by
  have q:=hA.lt x hx
  exact⟨q.1,Nat.lt_of_lt_of_le q.2 f2.size,Classical.byContradiction fun e=>by have:=h.lt x e;omega⟩
 have hold:∀x,o x≠0→o2 x=o x:=fun x hx=>by
  show (if x=b then _ else if _ then _ else _)=_
  rw [if_neg (fun e=>hx (by rw [e];exact ob0)),if_neg (fun e=>hx (hA0 x e).2.2),cl_old hx]
 have hob:o2 b=8+4*S.D.sl.length:=by
  show (if b=b then _ else _)=_
  rw [if_pos rfl]
 have hva:∀x,rowOf (slV v')=some x→¬rowOf (slV a0)=some x:=fun x hx e=>by
  rcases hr with q | q | ⟨g,q,hge,hgb,hga⟩
  ·have:=hc x (by rw [←q];exact hx)
   rw [(hA0 x e).2.2] at this;omega
  ·rw [q] at hx;cases hx
  ·rw [q] at hx;cases hx;exact hga e
 have hrow2:∀x,rowOf (slV v')=some x→o2 x=2:=fun x hx=>by
  show (if x=b then _ else if _ then _ else _)=_
  obtain⟨e1,e2⟩:=hrc x hx
  rw [if_neg e2,if_neg (hva x hx)]
  exact cl_row hx (e1.elim .inr fun e=>.inl e.1)
 have hoa:∀x,rowOf (slV a0)=some x→o2 x=10+4*S.D.sl.length:=fun x hx=>by
  show (if x=b then _ else if _ then _ else _)=_
  rw [if_neg (hAb x hx),if_pos hx]
 have hnew:∀x,o x=0→o2 x≠0→w.heap.size≤x∧x < w2.heap.size∧(o2 x=2∨o2 x=8+4*S.D.sl.length∨o2 x=10+4*S.D.sl.length):=fun x h0 h2=>by
  by_cases e:x=b
  ·subst e;exact⟨hb0,hbl2,.inr (.inl hob)⟩
  by_cases ea:rowOf (slV a0)=some x
  ·exact⟨(hA0 x ea).1,(hA0 x ea).2.1,.inr (.inr (hoa x ea))⟩
  ·have e3:o2 x=cl o (rowOf (slV v')) 2 x:=by
    show (if x=b then _ else if _ then _ else _)=_
    rw [if_neg e,if_neg ea]
   by_cases e4:rowOf (slV v')=some x
   ·refine⟨?_,hlt2 x e4,.inl (hrow2 x e4)⟩
    rcases (hrc x e4).1 with e5 | e5
    ·rw [h0] at e5;omega
    ·exact e5.2
   ·rw [e3] at h2
    unfold cl at h2
    rw [if_neg (fun e=>e4 e.1)] at h2
    exact absurd h0 h2
 have Fn:∀x,o x≠0→o x≠1→o x≠2→¬(o x=1∨o x=2):=fun x _ h1 h2 h3=>h3.elim h1 h2
 have hkid:∀s∈S.D.sl,∀x∈s.kids,inN S.bs.length x:=fun s hs x hx=>by rw [hbl];exact (h.rng s hs).kids x hx
 have inN1:∀x,inN S.D.sl.length x→inN (S.D.sl++[s0]).length x:=fun x hx=>⟨hx.1,by have:=hx.2;simp;omega⟩
 refine hK w2 o2 ⟨by rw [hold _ (by omega)];exact hg1,fun x hx=>?_,by simp [hbl],by simp;omega,fun i b' hb'=>?_,⟨v',rv,?_⟩,fun i b' s hb' hs=>?_,fun s hs=>?_,⟨fun x hx=>inN1 x (h.rts.1 x hx),h.rts.2⟩,h.cnt⟩ ⟨F,hold,fun x hx h0=>?_,fun x hx=>?_⟩
 ·by_cases h0:o x=0
  ·exact (hnew x h0 hx).2.1
  ·exact Nat.lt_of_lt_of_le (h.lt x h0) F.size
 ·rcases Nat.lt_or_ge i S.bs.length with hi | hi
  ·have hb':S.bs[i]?=some b':=by rw [←hb'];exact (List.getElem?_append_left hi).symm
   have:=h.nc i b' hb'
   rw [hold _ (by omega)];exact this
  ·have hb':(S.bs++[b])[i]?=some b':=hb'
   rw [List.getElem?_append_right hi] at hb'
   have hi2:i-S.bs.length=0:=by
    have:=(List.getElem?_eq_some_iff.1 hb').1
    simp at this;omega
   rw [hi2] at hb'
   simp at hb'
   subst hb'
   rw [hob];omega
 ·refine⟨b2,own_fm hO f2 fun x hx e=>?_,hrow2,?_,fun x hx=>?_⟩
  ·have e:x=θ.g:=e
   rcases (hrc x hx).1 with e2 | ⟨e2,_⟩ <;> rw [e,hg1] at e2 <;> omega
  ·show Own LPt w2 0 _ (slV rv) (S.D.roots.map (pb (S.bs++[b])))
   rw [map_pb_app (fun x hx=>by rw [hbl];exact h.rts.1 x hx)]
   exact own_fm hd.r1 F fun x hx=>by have:=hd.r2 x hx;omega
  ·have:=hd.r2 x hx
   rw [hold _ (by omega)];exact this
 ·rcases Nat.lt_or_ge i S.bs.length with hi | hi
  ·have hb':S.bs[i]?=some b':=by rw [←hb'];exact (List.getElem?_append_left hi).symm
   have hs:S.D.sl[i]?=some s:=by rw [←hs];exact (List.getElem?_append_left (by omega)).symm
   obtain⟨a,kv,hn⟩:=h.nodes i b' s hb' hs
   have hn2:=hn.keep (o1:=o2) (h.nc i b' hb') F (fun x hx=>Fn x (by omega) (by omega) (by omega)) fun x hx=>hold x (by omega)
   have hsm:=List.mem_of_getElem? hs
   refine⟨a,kv,⟨?_,hn2.at1,hn2.at2,?_,hn2.kd2⟩⟩
   ·show Blk w2 b' (nodeC i s a (ptrH (S.bs++[b]) s.parent) kv) _
    rw [ptr_app (by rw [hbl];exact (h.rng s hsm).par)];exact hn2.blk
   ·show Own LPt w2 0 _ (slV kv) (s.kids.map (pb (S.bs++[b])))
    rw [map_pb_app (hkid s hsm)];exact hn2.kd1
  ·have hb':(S.bs++[b])[i]?=some b':=hb'
   have hs:(S.D.sl++[s0])[i]?=some s:=hs
   rw [List.getElem?_append_right hi] at hb'
   rw [List.getElem?_append_right (by omega)] at hs
   have hi2:i-S.bs.length=0:=by
    have:=(List.getElem?_eq_some_iff.1 hb').1
    simp at this;omega
   rw [hi2] at hb'
   rw [show i-S.D.sl.length=0 by omega] at hs
   simp at hb' hs
   subst hb' hs
   have e:i=S.D.sl.length:=by omega
   subst e
   refine⟨a0,(none,0,0),⟨?_,(own_fm hA f2 fun x hx e=>by
    have e:x=θ.g:=e
    have:=(hA0 x hx).2.2
    rw [e,hg1] at this;omega).rebase fun _ _=>Nat.zero_le _,hoa,by rw [hk0];exact Own.nil _ _ _ _,fun x hx=>(by cases hx)⟩⟩
   rw [hp0]
   exact f2.blk hB hbg
 ·rcases List.mem_append.1 hs with hs | hs
  ·have r:=h.rng s hs
   exact⟨r.gen,r.par.imp id (inN1 _),fun x hx=>inN1 x (r.kids x hx),r.few,r.atf⟩
  ·rw [List.mem_singleton] at hs
   subst hs
   exact⟨hg0,.inl hp0,by rw [hk0];simp,by rw [hk0];simp,hf0⟩
 ·refine Classical.byContradiction fun h2=>?_
  have:=(hnew x h0 h2).1
  omega
 ·by_cases h0:o x=0
  ·refine .inr ?_
   rcases (hnew x h0 hx).2.2 with e | e | e <;> rw [e]
   ·exact .inr (.inl rfl)
   ·exact (pc_nd _).1
   ·exact (pc_nd _).2.2
  ·exact .inl h0
end
set_option maxRecDepth 100000
theorem st_eq {w:World}{a:Addr}{v:Value}{K:World→Prop} (h:St w a v fun w2=>w2=w.setCell a v→K w2):St w a v K:=⟨h.1,h.2.1,h.2.2 rfl⟩
def bareS (s:Sl):Sl:={ s with parent:=0,kids:=[] }
structure Part (sl:List Sl) (sn:List Nat) (P:List Sl):Prop where
 len:P.length=sl.length
 bare:∀k,k∉sn→P[k]?=(sl[k]?).map bareS
 same:∀k,k∈sn→∃s t,sl[k]?=some s∧P[k]?=some t∧t={ s with kids:=t.kids }
def NilK (w:World) (bs:List Nat) (sn:List Nat):Prop:=∀i b,bs[i]?=some b→∃v:Sv,w.cell? ⟨b,8,none⟩=some (slV v)∧(v.1=none↔i∉sn)
theorem cell_of {w w1:World}{b i:Nat} (h:w1.heap[b]?=w.heap[b]?):w1.cell? ⟨b,i,none⟩=w.cell? ⟨b,i,none⟩:=by
 simp [World.cell?,h]
theorem NilK.keep {w w1:World}{bs sn:List Nat} (h:NilK w bs sn) (hb:∀(i b:Nat),bs[i]?=some b→w1.heap[b]?=w.heap[b]?):NilK w1 bs sn:=fun i b hi=>by
 obtain⟨v,h1,h2⟩:=h i b hi
 exact⟨v,by rw [cell_of (hb i b hi)];exact h1,h2⟩
theorem NilK.edit {w w1:World}{bs sn sn':List Nat}{k b:Nat} (h:NilK w bs sn) (hk:bs[k]?=some b) (hb:∀(i c:Nat),bs[i]?=some c→i≠k→w1.heap[c]?=w.heap[c]?) {v:Sv} (hc:w1.cell? ⟨b,8,none⟩=some (slV v)) (hs:∀i,i≠k→(i∈sn'↔i∈sn)) (hv:v.1=none↔k∉sn'):NilK w1 bs sn':=fun i c hi=>by
 by_cases e:i=k
 ·subst e
  rw [hk] at hi;cases hi
  exact⟨v,hc,hv⟩
 ·obtain⟨u,h1,h2⟩:=h i c hi
  exact⟨u,by rw [cell_of (hb i c hi e)];exact h1,by rw [hs i e];exact h2⟩
theorem part_get {sl P:List Sl}{sn:List Nat} (h:Part sl sn P) {k:Nat}{s:Sl} (hs:sl[k]?=some s):∃t,P[k]?=some t∧t.gen=s.gen∧t.live=s.live:=by
 by_cases e:k∈sn
 ·obtain⟨s',t,h1,h2,h3⟩:=h.same k e
  rw [hs] at h1;cases h1
  exact⟨t,h2,by rw [h3],by rw [h3]⟩
 ·exact⟨bareS s,by rw [h.bare k e,hs];rfl,rfl,rfl⟩
theorem part_at {sl P:List Sl}{sn:List Nat} (h:Part sl sn P) (x:Nat):atF P x=atF sl x:=by
 unfold atF
 by_cases h0:x % 4294967296=0
 ·rw [if_pos h0,if_pos h0]
 rw [if_neg h0,if_neg h0]
 cases hs:sl[x % 4294967296-1]? with
 | none =>
  have:P[x % 4294967296-1]?=none:=by
   rw [List.getElem?_eq_none_iff] at hs ⊢
   rw [h.len];exact hs
  rw [this]
 | some s =>
  obtain⟨t,h1,h2,h3⟩:=part_get h hs
  rw [h1]
  dsimp only
  rw [h2,h3]
structure HgR (sl:List Sl) (p:Nat) (l sn sn':List Nat) (S S':PS):Prop where
 sub:∀j∈sn,j∈sn'
 full:∀j,j∈sn'→j∉sn→S'.D.sl[j]?=sl[j]?
 rest:∀j,¬(j∈sn'∧j∉sn)→S'.D.sl[j]?=if p≠0∧p % 4294967296=j+1 then (S.D.sl[j]?).map (fun s=>{ s with kids:=l }) else S.D.sl[j]?
 roots:S'.D.roots=if p=0 then l else S.D.roots
 bs:S'.bs=S.bs
 cnt:S'.lv=S.lv∧S'.wn=S.wn∧S'.lo=S.lo
structure HS (w0 w:World) (o:Nat→Nat) (g gl:Nat) (vs vr:Sv) (sl:List Sl) (sn:List Nat) (S:PS):Prop where
 pm:PM w o ⟨g,98,[]⟩ S
 bel:Below w0.heap.size w0 w
 col:∀b,o b≠0→w0.heap.size≤b
 gl0:w0.heap.size≤gl
 glo:o gl=0
 blk:Blk w gl #[.pointer (some ⟨g,0,none⟩),slV vs,slV vr,.int .i64 (sn.length:Nat)] 214
 part:Part sl sn S.D.sl
 nil:NilK w S.bs sn
 good:Good sl.length sn
section
variable {w0 w w1:World}{o o1:Nat→Nat}{g gl:Nat}{vs vr:Sv}{sl:List Sl}{sn sn':List Nat}{S:PS}{R:Ending→World→Prop}
theorem HS.below (h:HS w0 w o g gl vs vr sl sn S) (hb:Below w.heap.size w w1):HS w0 w1 o g gl vs vr sl sn S :=
 ⟨h.pm.below hb,btr h.bel h.bel.size hb,h.col,h.gl0,h.glo,h.blk.keep hb,h.part,h.nil.keep fun i b hi=>hb.block b (h.pm.lt b (by rw [h.pm.nc i b hi];omega)),h.good⟩
theorem HgR.start {p:Nat} (h0:lstR S.D p=[]):HgR sl p [] sn sn S S:=by
 refine⟨fun j h=>h,fun j h1 h2=>absurd h1 h2,fun j _=>?_,?_,rfl,rfl,rfl,rfl⟩
 ·split
  ·rename_i e
   unfold lstR at h0
   rw [if_neg e.1,e.2,Nat.add_sub_cancel] at h0
   cases hj:S.D.sl[j]? with
   | none=>rfl
   | some s =>
    rw [hj] at h0
    have h0:s.kids=[]:=h0
    rw [Option.map_some]
    congr 1
    obtain⟨a1,a2,a3,a4,a5,a6,a7,a8⟩:=s
    dsimp only at h0
    rw [h0]
  ·rfl
 ·split
  ·rename_i e
   unfold lstR at h0
   rw [if_pos e] at h0;exact h0
  ·rfl
def hgS (S:PS) (k x p:Nat) (s:Sl) (l:List Nat):PS:={ (({ S with D:=setI S.D x [] }:PS).setS k s) with D:=setI (({ S with D:=setI S.D x [] }:PS).setS k s).D p l }
theorem hgS_get {S:PS}{k x p:Nat}{s:Sl}{l:List Nat} (hx:x % 4294967296=k+1) (hk:k < S.D.sl.length) (hp:p≠0→p % 4294967296≠k+1) (hp1:p≠0→1≤p % 4294967296) :
  (hgS S k x p s l).D.sl.length=S.D.sl.length∧(hgS S k x p s l).D.sl[k]?=some s∧(∀j,j≠k→(hgS S k x p s l).D.sl[j]?=if p≠0∧p % 4294967296=j+1 then (S.D.sl[j]?).map (fun s=>{ s with kids:=l }) else S.D.sl[j]?)∧(hgS S k x p s l).D.roots=if p=0 then l else S.D.roots:=by
 have hx0:x≠0:=by rintro rfl;simp at hx
 have e1:(setI S.D x []).sl=S.D.sl.modify k fun s=>{ s with kids:=[] }:=by unfold setI;rw [if_neg hx0,hx,Nat.add_sub_cancel]
 have e2:(setI S.D x []).roots=S.D.roots:=by unfold setI;rw [if_neg hx0]
 unfold hgS PS.setS
 dsimp only
 by_cases h0:p=0
 ·subst h0
  unfold setI at *
  rw [if_pos rfl]
  dsimp only
  rw [e1]
  refine⟨by simp,?_,fun j hj=>?_,by rw [if_pos rfl]⟩
  ·rw [List.getElem?_set_self (by simpa using hk)]
  ·rw [if_neg (fun q=>q.1 rfl),List.getElem?_set_ne (Ne.symm hj),List.getElem?_modify]
   simp [Ne.symm hj]
 ·have hp2:=hp h0
  have hp3:=hp1 h0
  have e3:∀D:Im,setI D p l={ D with sl:=D.sl.modify (p % 4294967296-1) fun s=>{ s with kids:=l } }:=fun D=>by unfold setI;rw [if_neg h0]
  rw [e3]
  dsimp only
  rw [e1,e2]
  refine⟨by simp,?_,fun j hj=>?_,by rw [if_neg h0]⟩
  ·rw [List.getElem?_modify,List.getElem?_set_self (by simpa using hk)]
   have:¬p % 4294967296-1=k:=by omega
   simp [this]
  ·rw [List.getElem?_modify,List.getElem?_set_ne (Ne.symm hj),List.getElem?_modify]
   by_cases e:p % 4294967296=j+1
   ·have:p % 4294967296-1=j:=by omega
    rw [if_pos ⟨h0,e⟩]
    simp [this,Ne.symm hj]
   ·have:¬p % 4294967296-1=j:=by omega
    rw [if_neg (fun q=>e q.2)]
    simp [this,Ne.symm hj]
end
set_option maxRecDepth 100000
section
variable {w0 w w1:World}{o o1:Nat→Nat}{g gl:Nat}{vs vr:Sv}{sl:List Sl}{sn sn1 sn2:List Nat}{S S1 S7:PS}{R:Ending→World→Prop}{p x k:Nat}{l:List Nat}{s:Sl}
theorem HgR.step (h1:HgR sl p l sn sn1 S S1) (hlen:S1.D.sl.length=sl.length) (hk:sl[k]?=some s) (hkn:k∉sn1) (hx:x % 4294967296=k+1) (hpk:p≠0→∃kp,kp∈sn∧p % 4294967296=kp+1)
  (h2:HgR sl x s.kids (k :: sn1) sn2 (hgS S1 k x p { s with kids:=[] } (l++[x])) S7):HgR sl p (l++[x]) sn sn2 S S7:=by
 have hx0:x≠0:=by rintro rfl;simp at hx
 have hkl:k < S1.D.sl.length:=by rw [hlen];exact (List.getElem?_eq_some_iff.1 hk).1
 have hps:∀j,p≠0∧p % 4294967296=j+1→j∈sn:=fun j q=>by
  obtain⟨kp,a,b⟩:=hpk q.1
  have:kp=j:=by omega
  rw [←this];exact a
 obtain⟨g1,g2,g3,g4⟩:=hgS_get (S:=S1) (s:={ s with kids:=[] }) (l:=l++[x]) hx hkl (fun q e=>hkn (h1.sub k (hps k ⟨q,e⟩))) (fun q=>by obtain⟨kp,_,b⟩:=hpk q;omega)
 have hk2:k∈sn2:=h2.sub k (by simp)
 have h12:∀j∈sn1,j∈sn2:=fun j hj=>h2.sub j (by simp [hj])
 have hxs:∀j,j≠k→¬(x≠0∧x % 4294967296=j+1):=fun j hj q=>by have:=q.2;omega
 refine⟨fun j hj=>h12 j (h1.sub j hj),fun j hj hjn=>?_,fun j hj=>?_,?_,h2.bs.trans h1.bs,h2.cnt.1.trans h1.cnt.1,h2.cnt.2.1.trans h1.cnt.2.1,h2.cnt.2.2.trans h1.cnt.2.2⟩
 ·by_cases e:j=k
  ·subst e
   rw [h2.rest j (fun q=>q.2 (by simp)),if_pos ⟨hx0,hx⟩,g2,hk]
   rfl
  ·by_cases e2:j∈sn1
   ·rw [h2.rest j (fun q=>q.2 (by simp [e2])),if_neg (hxs j e),g3 j e,if_neg (fun q=>hjn (hps j q))]
    exact h1.full j e2 hjn
   ·exact h2.full j hj (by simp [e,e2])
 ·have e:j≠k:=fun e=>hj ⟨by rw [e];exact hk2,fun q=>hkn (by rw [←e];exact h1.sub j q)⟩
  have e2:¬(j∈sn2∧j∉k :: sn1):=fun q=>hj ⟨q.1,fun q2=>q.2 (by simp [h1.sub j q2])⟩
  have e3:¬(j∈sn1∧j∉sn):=fun q=>hj ⟨h12 j q.1,q.2⟩
  rw [h2.rest j e2,if_neg (hxs j e),g3 j e,h1.rest j e3]
  split
  ·simp [Function.comp_def]
  ·rfl
 ·rw [h2.roots,if_neg hx0,g4,h1.roots]
  split <;> rfl
theorem part_hg (h1:HgR sl p l sn sn1 S S1) (hP:Part sl sn1 S1.D.sl) (hk:sl[k]?=some s) (hkn:k∉sn1) (hx:x % 4294967296=k+1) (hpk:p≠0→∃kp,kp∈sn∧p % 4294967296=kp+1) :
  Part sl (k :: sn1) (hgS S1 k x p { s with kids:=[] } (l++[x])).D.sl:=by
 have hkl:k < S1.D.sl.length:=by rw [hP.len];exact (List.getElem?_eq_some_iff.1 hk).1
 have hps:∀j,p≠0∧p % 4294967296=j+1→j∈sn:=fun j q=>by
  obtain⟨kp,a,b⟩:=hpk q.1
  have:kp=j:=by omega
  rw [←this];exact a
 obtain⟨g1,g2,g3,g4⟩:=hgS_get (S:=S1) (s:={ s with kids:=[] }) (l:=l++[x]) hx hkl (fun q e=>hkn (h1.sub k (hps k ⟨q,e⟩))) (fun q=>by obtain⟨kp,_,b⟩:=hpk q;omega)
 refine⟨by rw [g1];exact hP.len,fun j hj=>?_,fun j hj=>?_⟩
 ·have e:j≠k:=fun e=>hj (by simp [e])
  have e2:j∉sn1:=fun e=>hj (by simp [e])
  rw [g3 j e,if_neg (fun q=>e2 (h1.sub j (hps j q)))]
  exact hP.bare j e2
 ·by_cases e:j=k
  ·subst e;exact⟨s,_,hk,g2,rfl⟩
  ·obtain⟨s',t,a1,a2,a3⟩:=hP.same j ((List.mem_cons.1 hj).resolve_left e)
   rw [g3 j e]
   split
   ·exact⟨s',{ t with kids:=l++[x] },a1,by rw [a2];rfl,by rw [a3]⟩
   ·exact⟨s',t,a1,a2,a3⟩
theorem st_eq2 {w:World}{a:Addr}{v:Value}{K:World→Prop} (h:St w a v fun w2=>(∃u,w.cell? a=some u)→w2=w.setCell a v→K w2):St w a v K:=⟨h.1,h.2.1,h.2.2 h.1 rfl⟩
theorem cell_set {w:World}{b i:Nat}{c:Array Value}{t:TypeId} (h:Blk w b c t) (hi:i < c.size) (v:Value):(w.setCell ⟨b,i,none⟩ v).cell? ⟨b,i,none⟩=some v:=by
 rw [(h.set i v).cell];simp [hi]
theorem cell_set_ne {w:World}{b i j:Nat}{c:Array Value}{t:TypeId} (h:Blk w b c t) (hij:i≠j) (v:Value):(w.setCell ⟨b,i,none⟩ v).cell? ⟨b,j,none⟩=w.cell? ⟨b,j,none⟩:=by
 rw [(h.set i v).cell,h.cell,Array.getElem?_setIfInBounds_ne hij]
theorem cell_set2 {w:World}{b i:Nat}{u:Value} (h:w.cell? ⟨b,i,none⟩=some u) (v:Value):(w.setCell ⟨b,i,none⟩ v).cell? ⟨b,i,none⟩=some v:=by
 unfold World.cell? at h ⊢
 unfold World.setCell
 cases hh:w.heap[b]? with
 | none=>rw [hh] at h;cases h
 | some ob =>
  cases ob <;> simp_all [Array.getElem?_modify]
  obtain⟨hi,_⟩:=Array.getElem?_eq_some_iff.1 h
  simp [hi]
theorem col_ev {C:Nat→Prop}{wa wb:World}{oa ob:Nat→Nat} (e:EvC C wa oa wb ob) (hc:∀b,oa b≠0→w0.heap.size≤b) (hs:w0.heap.size≤wa.heap.size):∀b,ob b≠0→w0.heap.size≤b:=fun b hb=>by
 rcases Nat.lt_or_ge b w0.heap.size with hlt | hge
 ·have h0:oa b=0:=Classical.byContradiction fun q=>by have:=hc b q;omega
  exact absurd (e.old b (by omega) h0) hb
 ·exact hge
theorem bel_ev {C:Nat→Prop}{wa wb:World}{oa ob:Nat→Nat} (e:EvC C wa oa wb ob) (h0:¬C 0) (hc:∀b,oa b≠0→w0.heap.size≤b) (hb:Below w0.heap.size w0 wa):Below w0.heap.size w0 wb :=
 hb.trans (e.fm.toBelow hb.size fun b hlt hm=>by
  have hm:C (oa b):=hm
  have:oa b=0:=Classical.byContradiction fun q=>by have:=hc b q;omega
  rw [this] at hm;exact h0 hm)
def HangL (R:Ending→World→Prop) (w0:World) (g gl:Nat) (vs vr:Sv) (sl:List Sl) (S:PS) (p:Nat) (l sn:List Nat):Option (List Nat)→Prop
 | none=>∀w',Below w0.heap.size w0 w'→R (.returned (.bool false)) w'
 | some sn'=>∀w' o' S',HS w0 w' o' g gl vs vr sl sn' S'→HgR sl p l sn sn' S S'→R (.returned (.bool true)) w'
def AtP (sl:List Sl) (sn:List Nat) (p:Nat):Prop:=p=0∨∃kp,kp∈sn∧atF sl p=some kp
theorem AtP.idx (h:AtP sl sn p):p≠0→∃kp,kp∈sn∧p % 4294967296=kp+1:=fun h0=>by
 obtain⟨kp,a,b⟩:=h.resolve_left h0
 obtain⟨_,_,_,e⟩:=atF_some b
 exact⟨kp,a,e.symm⟩
theorem atF_inN {x k:Nat} (h:atF sl x=some k):inN sl.length x∧x % 4294967296=k+1∧x≠0:=by
 obtain⟨hk,_,_,e⟩:=atF_some h
 refine⟨⟨by omega,by omega⟩,e.symm,?_⟩
 rintro rfl;simp at e
theorem AtP.inN (h:AtP sl sn p):p=0∨inN sl.length p:=h.imp id fun⟨kp,_,b⟩=>(atF_inN b).1
theorem placeH_calls (h:HS w0 w o g gl vs vr sl sn S) (hp:AtP sl sn p) (hK:∀w',Below w.heap.size w w'→R (.returned (.int .u64 (p:Nat))) w'):Calls Tryz.prog 111 #[.pointer (ptrH S.bs p)] w R:=by
 by_cases h0:p=0
 ·subst h0
  refine ok111 none ?_
  unfold F111
  rw [Option.isNone_none,Br_t]
  exact hK w (.refl _ _)
 ·obtain⟨kp,a,b⟩:=hp.resolve_left h0
  have e:atF S.D.sl p=some kp:=by rw [part_at h.part];exact b
  obtain⟨hk,_⟩:=atF_some e
  unfold ptrH
  rw [if_neg h0]
  exact hnd_calls h.pm (slA_of e (List.getElem?_eq_getElem hk)) hK
theorem hang_node (h : HS w0 w o g gl vs vr sl sn1 S1) (h1 : HgR sl p l sn sn1 S S1) (hl : l.length < 1048576) (hlp : lstR S1.D p = l) (hp : AtP sl sn p) (hk : atF sl x = some k) (hs : sl[k]? = some s) (hkn : k ∉ sn1) (hpar : s.parent = p) (hli : ∀ y ∈ l, inN sl.length y) {L2 : Int → World → Prop} {m : Int} {deep : Int}
    (hsz : sn1.length < 1048576)
    (hK : ∀ w7 o7, HS w0 w7 o7 g gl vs vr sl (k :: sn1) (hgS S1 k x p { s with kids := [] } (l ++ [x])) → ∃ S : World → Prop, S w7.drew ∧ NonNil (some ⟨gl, 0, none⟩) fun p87 =>
 ∃ (x90 : Option Addr) (x90N : Nat) (x90C : Nat), Held S (p87.add 1) (.slice x90 x90N x90C) ∧ NonNil (some ⟨pb S1.bs x, 0, none⟩) fun p92 =>
 ∃ (x94 : Int), Held S p92 (.int .u32 x94) ∧ InR .u32 (x94 - (1 : Int)) ∧ IdxA x90 x90N (x94 - (1 : Int)) 8 fun q96 =>
 ∃ (x98 : Option Addr) (x98N : Nat) (x98C : Nat), Held S (q96.add 7) (.slice x98 x98N x98C) ∧ InR .i64 (deep + (1 : Int)) ∧ Calls Tryz.prog 114 #[(.pointer (some ⟨gl, 0, none⟩)), (.slice x98 x98N x98C), (.pointer (some ⟨pb S1.bs x, 0, none⟩)), (.int .i64 (deep + (1 : Int)))] w7.drew (post R fun v4 w1_11 =>
 ∃ (x102 : Bool), v4 = (.bool x102) ∧
 Br (!x102)
 (R (.returned (.bool false)) w1_11)
 (InR .i64 (m + (1 : Int)) ∧ L2 (m + (1 : Int)) w1_11))) :
    F114_j7 (some ⟨gl, 0, none⟩) (ptrH S1.bs p) deep L2 m (some ⟨pb S1.bs x, 0, none⟩) w R := by
  unfold F114_j7
  obtain ⟨hin, hx, hx0⟩ := atF_inN hk
  have hinS : inN S1.D.sl.length x := by rw [h.part.len]; exact hin
  have hpn : p = 0 ∨ inN S1.D.sl.length p := by rw [h.part.len]; exact hp.inN
  have hps : ∀ j, p ≠ 0 ∧ p % 4294967296 = j + 1 → j ∈ sn := fun j q => by
    obtain ⟨kp, a, b⟩ := hp.idx q.1
    have : kp = j := by omega
    rw [← this]; exact a
  refine al fun g57 w1 hb1 b57 hge57 => ?_
  have H1 := h.below hb1
  simp only [NonNil_some, Addr.add_mk, Nat.zero_add]
  obtain ⟨hbk, sx, hsx⟩ := pb_get h.pm.len hinS
  rw [hx, Nat.add_sub_cancel] at hbk hsx
  have hsx2 : sx = bareS s := by
    have := h.part.bare k hkn
    rw [hsx, hs] at this
    exact Option.some.inj this
  obtain ⟨v1, cv1, ov1, rv1, lv1⟩ := H1.pm.list (.inr hinS)
  have el : lad g S1.bs x = ⟨pb S1.bs x, 8, none⟩ := by unfold lad; rw [if_neg hx0]
  rw [← el]
  refine st_eq (H1.pm.setList (v := v1) (v' := (some ⟨g57, 0, none⟩, 0, 0)) (l := []) (.inr hinS) rv1 (Fm.refl _ _) (Own.bare _ _ _ _ _) (.inr (.inl rfl)) ⟨by simp, by simp⟩ fun w2 o2 h2 e2 q2 => ?_)
  have hcx0 : ¬ lcC x 0 := by unfold lcC; rw [if_neg hx0]; omega
  have hcp0 : ¬ lcC p 0 := by unfold lcC; split <;> omega
  have hgl1 := H1.blk.lt
  have b2 : Blk w2 gl _ 214 := e2.fm.blk H1.blk (by show ¬ lcC x (o gl); rw [h.glo]; exact hcx0)
  have og2 : o2 gl = 0 := e2.old gl hgl1 h.glo
  have hc2 := col_ev e2 H1.col H1.bel.size
  have B2 := bel_ev e2 hcx0 H1.col H1.bel
  obtain ⟨a1, kv1, hN1⟩ := H1.pm.nodes k _ _ hbk hsx
  have n2 : NilK w2 S1.bs (k :: sn1) := by
    refine H1.nil.edit hbk (fun j c hj hjk => e2.fm.block c (H1.pm.lt c (by rw [H1.pm.nc j c hj]; omega)) ?_) (v := (some ⟨g57, 0, none⟩, 0, 0)) ?_ (fun j hj => by simp [hj]) ?_
    · show ¬ lcC x (o c)
      rw [H1.pm.nc j c hj]
      unfold lcC
      rw [if_neg hx0, hx]; omega
    · rw [q2, el]
      exact cell_set hN1.blk (by simp [nodeC]) _
    · exact ⟨fun q => by simp at q, fun q => absurd (by simp) q⟩
  have hlen2 : (setI S1.D x []).sl.length = S1.D.sl.length := by unfold setI; rw [if_neg hx0]; simp
  have hs2 : (setI S1.D x []).sl[k]? = some { bareS s with kids := [] } := by
    unfold setI
    rw [if_neg hx0, hx, Nat.add_sub_cancel]
    dsimp only
    rw [List.getElem?_modify, hsx, hsx2]; simp
  have es : ({ ({ bareS s with kids := [] } : Sl) with parent := p } : Sl) = { s with kids := [] } := by subst hpar; rfl
  refine st_eq (h2.stPar (i := k) hbk hs2 (p := p) (by show p = 0 ∨ inN (setI S1.D x []).sl.length p; rw [hlen2]; exact hpn) fun w3 h3 e3 q3 => ?_)
  rw [es] at h3
  have hck0 : ¬ ((0 : Nat) = 8 + 4 * k ∨ (0 : Nat) = 9 + 4 * k ∨ (0 : Nat) = 10 + 4 * k) := by omega
  have hgl2 := b2.lt
  have b3 : Blk w3 gl _ 214 := e3.fm.blk b2 (by show ¬ (o2 gl = _ ∨ o2 gl = _ ∨ o2 gl = _); rw [og2]; omega)
  have B3 := bel_ev e3 hck0 hc2 B2
  have n3 : NilK w3 S1.bs (k :: sn1) := by
    obtain ⟨v, c1, c2⟩ := n2 k _ hbk
    obtain ⟨a2, kv2, hN2⟩ := h2.nodes k _ _ hbk hs2
    refine n2.edit hbk (fun j c hj hjk => e3.fm.block c (h2.lt c (by rw [h2.nc j c hj]; omega)) ?_) (v := v) ?_ (fun _ _ => Iff.rfl) c2
    · show ¬ (o2 c = _ ∨ o2 c = _ ∨ o2 c = _)
      rw [h2.nc j c hj]; omega
    · rw [q3, cell_set_ne hN2.blk (by omega) _]; exact c1
  simp only [b3.cell, lds]
  refine list_calls (θ := ⟨g, 98, []⟩) (S := S1) ⟨_, rfl, ?_⟩
  have hpn3 : p = 0 ∨ inN ((({ S1 with D := setI S1.D x [] } : PS).setS k { s with kids := [] }).D.sl).length p := by
    show p = 0 ∨ inN ((setI S1.D x []).sl.set k _).length p
    rw [List.length_set, hlen2]; exact hpn
  obtain ⟨v3, cv3, ov3, rv3, lv3⟩ := h3.list hpn3
  have hl3 : lstR (({ S1 with D := setI S1.D x [] } : PS).setS k { s with kids := [] }).D p = l := by
    rw [← hlp]
    unfold lstR PS.setS
    dsimp only
    by_cases h0 : p = 0
    · rw [if_pos h0, if_pos h0]
      unfold setI; rw [if_neg hx0]
    · rw [if_neg h0, if_neg h0]
      obtain ⟨kp, a, b⟩ := hp.idx h0
      have hne : k ≠ kp := fun e => hkn (by rw [e]; exact h1.sub kp a)
      rw [b, Nat.add_sub_cancel, List.getElem?_set_ne hne]
      unfold setI
      rw [if_neg hx0, hx, Nat.add_sub_cancel]
      dsimp only
      rw [List.getElem?_modify]
      simp [hne]
  rw [hl3] at ov3 lv3
  have cv3' : w3.cell? (lad g S1.bs p) = some (.slice v3.1 v3.2.1 v3.2.2) := cv3
  simp only [NonNil_some, cv3', lds]
  have ov3' : Own LPt w3 0 152 (.slice v3.1 v3.2.1 v3.2.2) (l.map (pb S1.bs)) := ov3
  refine ap1 (L := LPt) (x := pb S1.bs x) (base := 0) (.pointer none) 8 rfl (by kernel_rfl) (by kernel_rfl) (by kernel_rfl) ov3' (Nat.zero_le _) (by rw [List.length_map]; omega) (by rw [List.length_map]; unfold maxLen; omega) fun A' c' w5 o5 g5 => ⟨A', _, c', rfl, ?_⟩
  have hA' : A' ≠ none := fun e => by
    obtain ⟨_, _, q, _⟩ := o5.rd.2
    subst e
    have := o5.rd.2.1
    rw [q rfl] at this
    simp at this
  refine st_eq2 (h3.setList (v := v3) (v' := (A', _, c')) (l := l ++ [x]) hpn3 rv3 (Fm.grown g5.grown fun b hb => hb) (by rw [List.map_append]; exact o5) g5.row ⟨fun y hy => ?_, by simp; omega⟩ fun w6 o6 h6 e6 q5 q6 => ?_)
  · show inN ((setI S1.D x []).sl.set k _).length y
    rw [List.length_set, hlen2, h.part.len]
    rcases List.mem_append.1 hy with hy | hy
    · exact hli y hy
    · rw [List.mem_singleton.1 hy]; exact hin
  have og3 : o2 gl = 0 := og2
  have hgl3 := b3.lt
  have b6 : Blk w6 gl _ 214 := e6.fm.blk b3 (by show ¬ lcC p (o2 gl); rw [og3]; exact hcp0)
  have og6 : o6 gl = 0 := e6.old gl hgl3 og3
  have hc6 := col_ev e6 hc2 B3.size
  have B6 := bel_ev e6 hcp0 hc2 B3
  have n6 : NilK w6 S1.bs (k :: sn1) := by
    by_cases h0 : p = 0
    · refine n3.keep fun j c hj => e6.fm.block c (h3.lt c (by rw [h3.nc j c hj]; omega)) ?_
      show ¬ lcC p (o2 c)
      rw [h3.nc j c hj]
      unfold lcC
      rw [if_pos h0]; omega
    · obtain ⟨kp, a, b⟩ := hp.idx h0
      have hbp : S1.bs[kp]? = some (pb S1.bs p) := by
        have := (pb_get h.pm.len (hpn.resolve_left h0)).1
        rw [b, Nat.add_sub_cancel] at this
        exact this
      have ep : lad g S1.bs p = ⟨pb S1.bs p, 8, none⟩ := by unfold lad; rw [if_neg h0]
      refine n3.edit hbp (fun j c hj hjk => e6.fm.block c (h3.lt c (by rw [h3.nc j c hj]; omega)) ?_) (v := (A', (l.map (pb S1.bs)).length + 1, c')) ?_ (fun _ _ => Iff.rfl) ?_
      · show ¬ lcC p (o2 c)
        rw [h3.nc j c hj]
        unfold lcC
        rw [if_neg h0, b]; omega
      · obtain ⟨u, hu⟩ := q5
        rw [q6]
        have hu : w5.cell? (lad g S1.bs p) = some u := hu
        rw [ep] at hu
        show (w5.setCell (lad g S1.bs p) _).cell? ⟨pb S1.bs p, 8, none⟩ = _
        rw [ep]
        exact cell_set2 hu _
      · exact ⟨fun q => absurd q hA', fun q => absurd (by simp [h1.sub kp a]) q⟩
  simp only [b6.cell, lds]
  refine ⟨inR_i64 (by omega) (by omega), ?_⟩
  refine st_blk b6 (by simp) fun w7 b7 f7 => ?_
  simp only [List.setIfInBounds_toArray, List.set_cons_zero, List.set_cons_succ] at b7
  have f7 : Fm (· = gl) w6 w7 := f7
  have hgl0 := h.gl0
  have hpm7 := h6.keep (M := (· = gl)) f7 (fun b hb e => by
    have e : b = gl := e
    rw [e, og6] at hb; exact not_pc0 hb) (fun _ _ => rfl) (fun b hb => Nat.lt_of_lt_of_le (h6.lt b hb) f7.size)
  have H := hK w7 o6 ⟨hpm7, B6.trans (f7.toBelow B6.size fun b hb e => by have e : b = gl := e; omega), hc6, h.gl0, og6, by rw [List.length_cons]; exact b7, part_hg h1 h.part hs hkn hx hp.idx, n6.keep fun j c hj => f7.block c (h6.lt c (by rw [h6.nc j c hj]; omega)) (fun e => by
    have e : c = gl := e
    have := h6.nc j c hj
    rw [e, og6] at this; omega), ⟨List.nodup_cons.2 ⟨hkn, h.good.one⟩, fun j hj => by
      rcases List.mem_cons.1 hj with rfl | hj
      · exact (List.getElem?_eq_some_iff.1 hs).1
      · exact h.good.lt j hj⟩⟩
  simp only [NonNil_some, Addr.add_mk, Nat.zero_add] at H
  exact H
end
set_option maxRecDepth 100000
section
variable {w0 w w1:World}{o o1:Nat→Nat}{g gl:Nat}{vs vr:Sv}{sl:List Sl}{sn sn1 sn2:List Nat}{S S1 S7:PS}{R:Ending→World→Prop}{p x k:Nat}{l:List Nat}{s:Sl}{X:Im}
theorem inR_u32' {z:Int} (h0:0≤z) (h1:z≤4294967295):InR .u32 z:=⟨by simpa [IntKind.min,IntKind.signed] using h0,by simpa [IntKind.max,IntKind.signed,IntKind.bits] using h1⟩
theorem lst_hg (h:HS w0 w o g gl vs vr sl sn S) (h1:HgR sl p l sn sn1 S S1) (hp:AtP sl sn p):lstR S1.D p=l:=by
 unfold lstR
 by_cases h0:p=0
 ·rw [if_pos h0,h1.roots,if_pos h0]
 ·rw [if_neg h0]
  obtain⟨kp,a,b⟩:=hp.resolve_left h0
  obtain⟨hk,_,_,e⟩:=atF_some b
  have hk2:kp < S.D.sl.length:=by rw [h.part.len];exact hk
  rw [←e,Nat.add_sub_cancel,h1.rest kp (fun q=>q.2 a),if_pos ⟨h0,e.symm⟩,List.getElem?_eq_getElem hk2]
  rfl
theorem lst_in (h:HS w0 w o g gl vs vr sl sn S) (p:Nat):∀y∈lstR S.D p,inN sl.length y:=fun y hy=>by
 rw [←h.part.len]
 unfold lstR at hy
 by_cases h0:p=0
 ·rw [if_pos h0] at hy;exact h.pm.rts.1 y hy
 ·rw [if_neg h0] at hy
  cases e:S.D.sl[p % 4294967296-1]? with
  | none=>rw [e] at hy;simp at hy
  | some s=>rw [e] at hy;exact (h.pm.rng s (List.mem_of_getElem? e)).kids y hy
theorem hangP_calls (hX : RIm w0 X vs vr) (hsl : sl = X.sl.map normS) (hfew : X.sl.length ≤ 4096) (hN : ∀ (k : Nat) (s : Sl), X.sl[k]? = some s → s.live = true → (normS s).kids = s.kids ∧ (normS s).parent = s.parent) : ∀ (r : Nat) (l : List Nat) (v : Sv) (p : Nat) {w : World} {o : Nat → Nat} {sn : List Nat} {S : PS} {R : Ending → World → Prop}, r ≤ 64 →
    HS w0 w o g gl vs vr sl sn S → AtP sl sn p → lstR S.D p = [] → RR LHn w0 l v → (∀ x ∈ l, x < 18446744073709551616) → HangL R w0 g gl vs vr sl S p l sn (hangF sl r l p sn) →
    Calls Tryz.prog 114 #[.pointer (some ⟨gl, 0, none⟩), .slice v.1 v.2.1 v.2.2, .pointer (ptrH S.bs p), .int .i64 (65 - (r : Int))] w R := by
  have main : ∀ r : Nat, (∀ q, r = q + 1 → ∀ (l : List Nat) (v : Sv) (p : Nat) {w : World} {o : Nat → Nat} {sn : List Nat} {S : PS} {R : Ending → World → Prop}, q ≤ 64 →
    HS w0 w o g gl vs vr sl sn S → AtP sl sn p → lstR S.D p = [] → RR LHn w0 l v → (∀ x ∈ l, x < 18446744073709551616) → HangL R w0 g gl vs vr sl S p l sn (hangF sl q l p sn) →
    Calls Tryz.prog 114 #[.pointer (some ⟨gl, 0, none⟩), .slice v.1 v.2.1 v.2.2, .pointer (ptrH S.bs p), .int .i64 (65 - (q : Int))] w R) →
    ∀ (l : List Nat) (v : Sv) (p : Nat) {w : World} {o : Nat → Nat} {sn : List Nat} {S : PS} {R : Ending → World → Prop}, r ≤ 64 →
    HS w0 w o g gl vs vr sl sn S → AtP sl sn p → lstR S.D p = [] → RR LHn w0 l v → (∀ x ∈ l, x < 18446744073709551616) → HangL R w0 g gl vs vr sl S p l sn (hangF sl r l p sn) →
    Calls Tryz.prog 114 #[.pointer (some ⟨gl, 0, none⟩), .slice v.1 v.2.1 v.2.2, .pointer (ptrH S.bs p), .int .i64 (65 - (r : Int))] w R := by
    intro r ih l v p w o sn S R hr h hp hl0 hlv hlx H
    obtain ⟨z0, z1, z2⟩ := hlv
    obtain ⟨es, hn, hrd, hes⟩ := hX.row
    have hel := hes.len
    have hsll : sl.length = X.sl.length := by rw [hsl, List.length_map]
    refine ok114 (some ⟨gl, 0, none⟩) v.1 v.2.1 v.2.2 (ptrH S.bs p) (65 - (r : Int)) ?_
    unfold F114
    have bad : hangF sl r l p sn = none → ∀ w', Below w0.heap.size w0 w' → R (.returned (.bool false)) w' := fun e w' hb => by rw [e] at H; exact H w' hb
    refine ⟨fun i w' => ∃ (m : Nat) (o' : Nat → Nat) (sn1 : List Nat) (S1 : PS), i = m ∧ m ≤ l.length ∧ HS w0 w' o' g gl vs vr sl sn1 S1 ∧ HgR sl p (l.take m) sn sn1 S S1 ∧ hangF sl r (l.drop m) p sn1 = hangF sl r l p sn, fun i _ => l.length - i.toNat, ⟨0, o, sn, S, rfl, by omega, h, HgR.start hl0, rfl⟩, ?_⟩
    rintro _ w1 ⟨m, o1, sn1, S1, rfl, hm, H1, G1, hF⟩
    unfold F114_l2
    refine brd (fun hlt => ?_) (fun hge => ?_)
    · have hm2 : m < l.length := by omega
      have hxk := hlx _ (List.getElem_mem hm2)
      have hdrop : l.drop m = l[m] :: l.drop (m + 1) := List.drop_eq_getElem_cons hm2
      rw [hdrop] at hF
      have htk : l.take (m + 1) = l.take m ++ [l[m]] := List.take_succ_eq_append_getElem hm2
      refine (z2.keep H1.bel).hn z1 rfl (k := m) hm2 fun b oo c0 => ?_
      simp only [c0, lds]
      generalize l[m] = x at *
      simp only [NonNil_some, H1.blk.cell, lds]
      refine atL_calls H1.pm hxk fun w2 hb2 => ⟨_, rfl, ?_⟩
      have H2 := H1.below hb2
      have hdr : Below w2.heap.size w2 w2.drew := (Below.refl _ _).drew
      have H3 := H2.below hdr
      have B3 := H3.bel
      have hp1 : AtP sl sn1 p := hp.imp id fun ⟨kp, a, b⟩ => ⟨kp, G1.sub kp a, b⟩
      cases hk : atF sl x with
      | none =>
        have hpl : ptrL S1 x = none := by
          unfold ptrL slA
          rw [part_at H1.part, hk]; rfl
        rw [hpl]
        refine ⟨fun _ => False, fun _ h => h.elim, ?_⟩
        refine ⟨fun w' => Below w2.drew.heap.size w2.drew w', .refl _ _, ?_⟩
        rw [Option.isNone_none, Br_t]
        exact bad (by rw [← hF, hangF_no hk]) _ B3
      | some k =>
        obtain ⟨hkl, _⟩ := atF_some hk
        obtain ⟨hin, hx, hx0⟩ := atF_inN hk
        have hkS : k < S1.D.sl.length := by rw [H1.part.len]; exact hkl
        have hbk := (pb_get H1.pm.len (by rw [H1.part.len]; exact hin)).1
        rw [hx, Nat.add_sub_cancel] at hbk
        have hpl : ptrL S1 x = some ⟨pb S1.bs x, 0, none⟩ := by
          unfold ptrL
          rw [slA_of (by rw [part_at H1.part]; exact hk) (List.getElem?_eq_getElem hkS)]; rfl
        rw [hpl]
        have hkX : k < X.sl.length := by omega
        have hke : k < es.length := by omega
        have hsk : sl[k]? = some (normS X.sl[k]) := by rw [hsl, List.getElem?_map, List.getElem?_eq_getElem hkX]; rfl
        have hskl : sl[k] = normS X.sl[k] := by rw [List.getElem?_eq_getElem hkl] at hsk; exact Option.some.inj hsk
        have hlive : X.sl[k].live = true := by
          obtain ⟨_, q, _⟩ := atF_some hk
          rw [hskl, norm_live] at q; exact q
        obtain ⟨n1, n2⟩ := hN k _ (List.getElem?_eq_getElem hkX) hlive
        have hRS := hes.get k hkX hke
        refine ⟨fun w' => (∃ q, r = q + 1) ∧ k ∉ sn1 ∧ sl[k].parent = p ∧ HS w0 w' o1 g gl vs vr sl sn1 S1, ?_, ?_⟩
        · rintro w4 ⟨⟨q, rfl⟩, hkn, hpar, H4⟩
          have hstep := hangF_step (r := q) (l := l.drop (m + 1)) (sn := sn1) hk hkl (fun e => e.elim hkn fun e2 => e2 hpar)
          rw [hstep] at hF
          have hlp := lst_hg h G1 hp
          have hsn1 : sn1.length < 1048576 := by have := good_len H4.good; omega
          have hbs : S1.bs = S.bs := G1.bs
          rw [← hbs]
          refine hang_node H4 G1 (by rw [List.length_take]; omega) hlp hp hk (List.getElem?_eq_getElem hkl) hkn hpar (by rw [← hlp]; exact lst_in H4 p) hsn1 fun w7 o7 H7 => ?_
          have hdr7 : Below w7.heap.size w7 w7.drew := (Below.refl _ _).drew
          have H8 := H7.below hdr7
          refine ⟨fun w' => Below w7.drew.heap.size w7.drew w', .refl _ _, ?_⟩
          simp only [NonNil_some, Addr.add_mk, Nat.zero_add]
          obtain ⟨g1, g2, g3, g4⟩ := hgS_get (S := S1) (x := x) (k := k) (p := p) (s := { sl[k] with kids := [] }) (l := l.take m ++ [x]) hx hkS (fun q e => by
            obtain ⟨kp, a, b⟩ := hp.idx q
            exact hkn (G1.sub k (by have : kp = k := by omega
                                    rw [← this]; exact a))) (fun q => by obtain ⟨kp, _, b⟩ := hp.idx q; omega)
          have hci := H8.pm.cIdx (i := k) hbk g2
          refine ⟨_, _, _, fun w' hw => by rw [(H8.blk.keep hw).cell]; rfl, _, fun w' hw => kcell hw hci, inR_u32' (by omega) (by omega), ?_⟩
          have ei : (((k + 1 : Nat) : Int) - 1).toNat = k := by omega
          refine (hrd.keep H8.bel).held (fun _ h => h) hn (by omega) (by omega) rfl fun b oo cc => ?_
          simp only [ei] at cc
          refine ⟨_, _, _, cc 7 _ rfl, inR_i64 (by omega) (by omega), ?_⟩
          have ed : (65 - ((q + 1 : Nat) : Int)) + 1 = 65 - (q : Int) := by omega
          rw [ed]
          have hptr : (some ⟨pb S1.bs x, 0, none⟩ : Option Addr) = ptrH (hgS S1 k x p { sl[k] with kids := [] } (l.take m ++ [x])).bs x := by
            unfold ptrH; rw [if_neg hx0]; rfl
          rw [hptr]
          have hkids : X.sl[k].kids = sl[k].kids := by rw [hskl, n1]
          refine ih q rfl sl[k].kids es[k].kids x (by omega) H8 (.inr ⟨k, by simp, hk⟩) ?_ (by rw [← hkids]; exact hRS.kids) (by rw [← hkids]; exact (hX.ok _ (List.getElem_mem hkX)).kids) ?_
          · unfold lstR
            rw [if_neg hx0, hx, Nat.add_sub_cancel, g2]
          · cases hres : hangF sl q sl[k].kids x (k :: sn1) with
            | none =>
              intro w' hb'
              refine ⟨_, rfl, ?_⟩
              rw [Bool.not_false, Br_t]
              exact bad (by rw [← hF, hres]) _ hb'
            | some sn2 =>
              intro w' o' S' H' G'
              refine ⟨_, rfl, ?_⟩
              rw [Bool.not_true, Br_f]
              rw [hres] at hF
              exact ⟨inR_i64 (by omega) (by omega), ⟨m + 1, o', sn2, S', by simp, by omega, H', by rw [htk]; exact G1.step H4.part.len (List.getElem?_eq_getElem hkl) hkn hx hp.idx G', hF⟩, (by first | omega | (dsimp only; omega))⟩
        · refine ⟨fun w' => Below w2.drew.heap.size w2.drew w', .refl _ _, ?_⟩
          rw [Option.isNone_some, Br_f]
          refine brd (fun hd => bad ?_ _ B3) (fun hd => ?_)
          · obtain rfl : r = 0 := by omega
            rw [← hF, hangF_zero]
          obtain ⟨q, rfl⟩ : ∃ q, r = q + 1 := ⟨r - 1, by omega⟩
          simp only [NonNil_some, Addr.add_mk, Nat.zero_add]
          obtain ⟨vk, ck, cn⟩ := H3.nil k _ hbk
          refine ⟨vk.1, vk.2.1, vk.2.2, fun w' hw => kcell hw ck, ?_⟩
          have hbadk : ∀ {w' : World}, (k ∈ sn1 ∨ sl[k].parent ≠ p) → Below w0.heap.size w0 w' → R (.returned (.bool false)) w' := fun {w'} e hb => bad (by rw [← hF, hangF_bad hk hkl e]) w' hb
          rw [brnot]
          refine br (fun hnil => ?_) (fun hnn => ?_)
          · have hkn : k ∉ sn1 := cn.1 (by simpa using hnil)
            have hci := H3.pm.cIdx (i := k) hbk (List.getElem?_eq_getElem hkS)
            refine ⟨_, _, _, fun w' hw => by rw [(H3.blk.keep hw).cell]; rfl, _, fun w' hw => kcell hw hci, inR_u32' (by omega) (by omega), ?_⟩
            have ei : (((k + 1 : Nat) : Int) - 1).toNat = k := by omega
            refine (hrd.keep H3.bel).held (fun _ h => h) hn (by omega) (by omega) rfl fun b oo cc => ?_
            simp only [ei] at cc
            refine ⟨_, cc 6 _ rfl, ?_⟩
            have hbs : S1.bs = S.bs := G1.bs
            rw [← hbs]
            refine placeH_calls H3 hp1 fun w4 hb4 => ⟨_, rfl, hb4, ?_⟩
            have H4 := H3.below hb4
            have hpar : es[k].parent = sl[k].parent := by rw [hRS.parent, hskl, n2]
            rw [hpar]
            refine brn (fun hne => hbadk (.inr fun e => hne (by rw [e])) H4.bel) (fun he => ⟨⟨q, rfl⟩, hkn, by omega, H4⟩)
          · refine hbadk (.inl (Classical.byContradiction fun e => ?_)) B3
            rw [cn.2 e] at hnn; simp at hnn
    · have hm2 : m = l.length := by omega
      subst hm2
      rw [List.take_length] at G1
      rw [List.drop_length, hangF_nil] at hF
      rw [← hF] at H
      exact H w1 o1 S1 H1 G1
  intro r
  induction r with
  | zero => exact main 0 fun q e => by omega
  | succ r ih =>
    refine main (r + 1) fun q e => ?_
    obtain rfl : r = q := by omega
    exact ih
end
set_option maxRecDepth 100000
structure LdS (w0 w:World) (o:Nat→Nat) (gd:Nat) (X:Im) (k:Nat) (S:PS):Prop where
 pm:PM w o ⟨gd,98,[]⟩ S
 bel:Below w0.heap.size w0 w
 col:∀b,o b≠0→w0.heap.size≤b
 sl:S.D.sl=(X.sl.take k).map fun s=>bareS (normS s)
 rts:S.D.roots=[]
 lo:S.lo=0
 lv:S.lv=liveN S.D.sl
 wn:S.wn=wornN S.D.sl
 nil:NilK w S.bs []
section
variable {w0 w w1:World}{o o1:Nat→Nat}{gd g1:Nat}{X:Im}{vs vr:Sv}{k:Nat}{S:PS}{R:Ending→World→Prop}
theorem LdS.below (h:LdS w0 w o gd X k S) (hb:Below w.heap.size w w1):LdS w0 w1 o gd X k S :=
 ⟨h.pm.below hb,btr h.bel h.bel.size hb,h.col,h.sl,h.rts,h.lo,h.lv,h.wn,h.nil.keep fun i b hi=>hb.block b (h.pm.lt b (by rw [h.pm.nc i b hi];omega))⟩
theorem live_app (a:List Sl) (s:Sl):liveN (a++[s])=liveN a+(if s.live=true then 1 else 0):=by
 unfold liveN
 rw [List.filter_append,List.length_append,List.filter_cons]
 split <;> rfl
theorem worn_app (a:List Sl) (s:Sl):wornN (a++[s])=wornN a+(if (!s.live && decide (4294967295≤s.gen))=true then 1 else 0):=by
 unfold wornN
 rw [List.filter_append,List.length_append,List.filter_cons]
 split <;> rfl
theorem live_le (a:List Sl):liveN a≤a.length:=List.length_filter_le _ _
theorem worn_le (a:List Sl):wornN a≤a.length:=List.length_filter_le _ _
def LoadPK (R:Ending→World→Prop) (w0:World):Option Im→Prop
 | none=>∀w',Below w0.heap.size w0 w'→R (.returned (.tuple #[.pointer none,.int .i64 36])) w'
 | some D=>∀w' g o' S,Below w0.heap.size w0 w'→PM w' o' ⟨g,98,[]⟩ S→PI S→S.D=D→(∀b,o' b≠0→w0.heap.size≤b)→R (.returned (.tuple #[.pointer (some ⟨g,0,none⟩),.int .i64 0])) w'
theorem live_bare (l:List Sl):liveN (l.map bareS)=liveN l:=by unfold liveN;rw [List.filter_map,List.length_map];rfl
theorem worn_bare (l:List Sl):wornN (l.map bareS)=wornN l:=by unfold wornN;rw [List.filter_map,List.length_map];rfl
theorem hang_all {sl:List Sl}{roots sn:List Nat} (hh:hangF sl 64 roots 0 []=some sn) (hn:sn.length=liveN sl):∀(k:Nat) (s:Sl),sl[k]?=some s→s.live=true→k∈sn:=by
 have hu:=hung_out 64 roots 0 0 [] sn hh .zero
 obtain⟨hg,-⟩:=hangF_good _ _ _ _ _ hh ⟨List.nodup_nil,fun k hk=>by simp at hk⟩
 have hlive:∀k∈sn,∃s,sl[k]?=some s∧s.live=true:=fun k hk=>by
  obtain⟨s,h',a1,a2,_⟩:=hu.all k hk (by simp)
  obtain⟨hk2,b1,_⟩:=atF_some a2
  exact⟨_,List.getElem?_eq_getElem hk2,b1⟩
 intro k s h1 h2
 refine Classical.byContradiction fun e=>?_
 have:=live_idx (sl:=sl) (a:=k :: sn) (List.nodup_cons.2 ⟨e,hg.one⟩) fun j hj=>by
  rcases List.mem_cons.1 hj with rfl | hj
  ·exact⟨s,h1,h2⟩
  ·exact hlive j hj
 rw [List.length_cons] at this;omega
theorem load_hang (hX : RIm w0 X vs vr) (hg1 : Blk w0 g1 #[slV vs, slV vr] 25) (hfew : X.sl.length ≤ 4096) (hsb : slotsB X.sl = true) (h : LdS w0 w o gd X X.sl.length S) (H : LoadPK R w0 (loadF X)) {J : World → Prop}
    (hJ : ∀ w', (R (.returned (.tuple #[.pointer (some ⟨gd, 0, none⟩), .int .i64 0])) w' → J w')) :
    Al w #[.pointer (some ⟨gd, 0, none⟩), slV vs, slV vr, .int .i64 0] 214 fun g71 w1_3 =>
      ∃ S : World → Prop, S w1_3.drew ∧ ∃ (x74 : Option Addr) (x74N : Nat) (x74C : Nat), Held S ⟨g1, 1, none⟩ (.slice x74 x74N x74C) ∧ Calls Tryz.prog 114 #[(.pointer (some g71)), (.slice x74 x74N x74C), (.pointer none), (.int .i64 1)] w1_3.drew (post R fun v w1_5 =>
       ∃ (x75 : Bool), v = (.bool x75) ∧
       S w1_5 ∧ Br (!x75)
       (R (.returned (.tuple #[(.pointer none), (.int .i64 36)])) w1_5)
       (LdI .i64 (w1_5.cell? (g71.add 3)) fun x81 =>
       LdI .i64 (w1_5.cell? ⟨gd, 2, none⟩) fun x85 =>
       Br (x81 != x85)
       (R (.returned (.tuple #[(.pointer none), (.int .i64 36)])) w1_5)
       (J w1_5))) := by
  refine al fun gl w1 hb1 bl hgl => ?_
  have hdr : Below w1.heap.size w1 w1.drew := (Below.refl _ _).drew
  have h2 := (h.below hb1).below hdr
  have bl2 := bl.keep hdr
  have hlow := h.bel.size
  have ogl : o gl = 0 := Classical.byContradiction fun e => by have := h.pm.lt gl e; omega
  generalize hsl : X.sl.map normS = sl
  have hPsl : S.D.sl = sl.map bareS := by rw [h.sl, List.take_length, ← hsl, List.map_map]; rfl
  have hpart : Part sl [] S.D.sl := ⟨by rw [hPsl, List.length_map], fun j _ => by rw [hPsl, List.getElem?_map], fun j hj => by simp at hj⟩
  have hs : HS w0 w1.drew o gd gl vs vr sl [] S := ⟨h2.pm, h2.bel, h2.col, by omega, ogl, bl2, hpart, h2.nil, ⟨List.nodup_nil, fun k hk => by simp at hk⟩⟩
  have hN : ∀ (k : Nat) (s : Sl), X.sl[k]? = some s → s.live = true → (normS s).kids = s.kids ∧ (normS s).parent = s.parent := fun k s hk hl => by
    have hg := hsb
    unfold slotsB at hg
    have := List.all_eq_true.1 hg s (List.mem_of_getElem? hk)
    rw [hl] at this
    simp only [Bool.not_true, Bool.false_or, Bool.and_eq_true] at this
    have h3 := this.2
    unfold slotB at h3
    rw [Bool.and_eq_true, Bool.or_eq_true, decide_eq_true_eq, decide_eq_true_eq, decide_eq_true_eq] at h3
    unfold normS
    rw [if_pos hl]
    by_cases hk2 : s.kind = 2
    · rw [if_pos hk2]
      rcases h3.2 with e | e
      · omega
      · exact ⟨(List.eq_nil_of_length_eq_zero e).symm, rfl⟩
    · rw [if_neg hk2]; exact ⟨rfl, rfl⟩
  refine ⟨fun w' => Below w0.heap.size w0 w', h2.bel, vr.1, vr.2.1, vr.2.2, fun w' hw => by rw [(hg1.keep hw).cell]; rfl, ?_⟩
  have hrt := hX.roots
  have e64 : (1 : Int) = 65 - ((64 : Nat) : Int) := by decide
  have hloadF : loadF X = match hangF sl 64 X.roots 0 [] with
    | some sn => if sn.length = liveN sl then some ⟨sl, X.roots⟩ else none
    | none => none := by
    unfold loadF
    rw [if_neg (by omega), if_pos hsb, hsl]
    all_goals rfl
  rw [hloadF] at H
  rw [e64]
  refine hangP_calls (X := X) hX hsl.symm hfew hN 64 X.roots vr 0 (by omega) hs (.inl rfl) (by unfold lstR; rw [if_pos rfl]; exact h.rts) hrt hX.rok ?_
  cases hres : hangF sl 64 X.roots 0 [] with
  | none =>
    rw [hres] at H
    intro w' hb'
    refine ⟨_, rfl, hb', ?_⟩
    rw [Bool.not_false, Br_t]
    exact H w' hb'
  | some sn =>
    rw [hres] at H
    intro w' o' S' H' G'
    refine ⟨_, rfl, H'.bel, ?_⟩
    rw [Bool.not_true, Br_f]
    have cl := H'.pm.cells.2.1
    have elv : S'.lv = liveN sl := by rw [G'.cnt.1, h.lv, hPsl, live_bare]
    rw [elv] at cl
    simp only [Addr.add_mk, Nat.zero_add, H'.blk.cell, List.getElem?_toArray, List.getElem?_cons_zero, List.getElem?_cons_succ, cl, lds]
    have H : LoadPK R w0 (if sn.length = liveN sl then some ⟨sl, X.roots⟩ else none) := H
    refine brn (fun hne => ?_) (fun he => ?_)
    · rw [if_neg (by omega)] at H
      exact H w' H'.bel
    · have hn : sn.length = liveN sl := by omega
      rw [if_pos hn] at H
      have hall := hang_all hres hn
      have hD : S'.D = ⟨sl, X.roots⟩ := by
        have e1 : S'.D.sl = sl := by
          refine List.ext_getElem? fun j => ?_
          by_cases hj : j ∈ sn
          · exact G'.full j hj (by simp)
          · rw [G'.rest j (fun q => hj q.1), if_neg (fun q => q.1 rfl), hPsl, List.getElem?_map]
            cases hs' : sl[j]? with
            | none => rfl
            | some s =>
              rw [Option.map_some]
              have hd : s.live = false := by
                cases hl : s.live with
                | false => rfl
                | true => exact absurd (hall j s hs' hl) hj
              rw [← hsl, List.getElem?_map] at hs'
              cases hx : X.sl[j]? with
              | none => rw [hx] at hs'; cases hs'
              | some t =>
                rw [hx] at hs'
                have hs' : normS t = s := Option.some.inj hs'
                rw [← hs', norm_live] at hd
                rw [← hs']
                unfold normS
                rw [if_neg (by rw [hd]; decide)]
                rfl
        have e2 : S'.D.roots = X.roots := by rw [G'.roots, if_pos rfl]
        rw [← e1, ← e2]
      refine hJ w' (H w' gd o' S' H'.bel H'.pm ⟨?_, ?_, ?_, fun i s hi => ?_⟩ hD H'.col)
      · rw [elv, hD]
      · rw [G'.cnt.2.1, h.wn, hPsl, worn_bare, hD]
      · rw [G'.cnt.2.2, h.lo]; exact Nat.zero_le _
      · rw [G'.cnt.2.2, h.lo] at hi; omega
end
set_option maxRecDepth 100000
section
variable {w0 w w1:World}{o o1:Nat→Nat}{gd g1:Nat}{X:Im}{vs vr:Sv}{k:Nat}{S:PS}{R:Ending→World→Prop}
theorem LdS.len (h:LdS w0 w o gd X k S) (hk:k≤X.sl.length):S.D.sl.length=k∧S.bs.length=k:=by
 have:S.D.sl.length=k:=by rw [h.sl,List.length_map,List.length_take];omega
 exact⟨this,by rw [h.pm.len];exact this⟩
theorem nil_own {g:Nat}{c:Array Value}{t:TypeId}{i:Nat}{s:Sl}{a:Sv} (h:Blk w g (nodeC i s a none (none,0,0)) t):w.cell? ⟨g,8,none⟩=some (slV (none,0,0)):=by rw [h.cell];rfl
theorem loadP_calls (hX:RIm w X vs vr) (hT:Tabs w) (H:LoadPK R w (loadF X)):Calls Tryz.prog 68 #[.agg #[.slice vs.1 vs.2.1 vs.2.2,.slice vr.1 vr.2.1 vr.2.2]] w R:=by
 refine ok68 vs.1 vs.2.1 vs.2.2 vr.1 vr.2.1 vr.2.2 ?_
 unfold F68
 refine al fun g1 w0 hb0 b1 hge1=>?_
 have hs0:=hb0.size
 have hX0:=hX.keep hb0
 have hT0:Tabs w0:=hT.keep hb0
 have hb1:Blk w0 g1 #[slV vs,slV vr] 25:=b1
 have bad:loadF X=none→∀w',Below w0.heap.size w0 w'→R (.returned (.tuple #[.pointer none,.int .i64 36])) w':=fun e w' hb=>by
  rw [e] at H;exact H w' (btr hb0 hs0 hb)
 have H0:LoadPK R w0 (loadF X):=by
  cases e:loadF X with
  | none=>rw [e] at H;exact fun w' hb=>H w' (btr hb0 hs0 hb)
  | some D=>rw [e] at H;exact fun w' g o' S hb hp hi hd hc=>H w' g o' S (btr hb0 hs0 hb) hp hi hd fun b hb2=>Nat.le_trans hs0 (hc b hb2)
 refine al fun gd w1 hbd bd hged=>?_
 have b11:=hb1.keep hbd
 obtain⟨es,hn,hrd,hes⟩:=hX0.row
 have hel:=hes.len
 simp only [Addr.add_mk,Nat.zero_add,b11.cell,slV,lds]
 refine brd (fun hgt=>bad (by unfold loadF;rw [if_pos (by omega)]) _ hbd) (fun hle=>?_)
 have hfew:X.sl.length≤4096:=by omega
 have hL0:LdS w0 w1 (fun b=>if b=gd then 1 else 0) gd X 0 S0:=by
  refine⟨pm_zero bd,hbd,fun b hb=>?_,rfl,rfl,rfl,rfl,rfl,fun i b hi=>by cases hi⟩
  have hb:(if b=gd then 1 else 0)≠0:=hb
  by_cases e:b=gd
  ·rw [e];exact hged
  ·rw [if_neg e] at hb;exact absurd rfl hb
 refine⟨fun i w'=>∃(k:Nat) (o':Nat→Nat) (S':PS),i=k∧k≤X.sl.length∧LdS w0 w' o' gd X k S'∧slotsB (X.sl.take k)=true,fun i _=>X.sl.length-i.toNat,⟨0,_,_,rfl,by omega,hL0,rfl⟩,?_⟩
 rintro _ w5 ⟨k,o5,S5,rfl,hk,h5,hok⟩
 unfold F68_l5
 obtain⟨hl5,hbl5⟩:=h5.len hk
 refine brd (fun hlt=>?_) (fun hge=>?_)
 ·have hk2:k < X.sl.length:=by omega
  have hke:k < es.length:=by omega
  have hone:∀{b:Bool},goodS X.sl[k]=b→slotsB (X.sl.take (k+1))=b:=fun {b} e=>by
   unfold goodS at e
   unfold slotsB at hok ⊢
   rw [List.take_succ_eq_append_getElem hk2,List.all_append,hok,Bool.true_and,List.all_cons,List.all_nil,Bool.and_true];exact e
  have hbad:∀w',Below w0.heap.size w0 w'→goodS X.sl[k]=false→R (.returned (.tuple #[.pointer none,.int .i64 36])) w':=fun w' hw hf=>bad (by
   unfold loadF
   have hfull:¬slotsB X.sl=true:=fun e=>by
    have hf:=hone hf
    unfold slotsB at e hf
    rw [←List.take_append_drop (k+1) X.sl,List.all_append,hf] at e
    cases e
   rw [if_neg (by omega),if_neg hfull]) w' hw
  refine⟨fun w'=>∃(o':Nat→Nat) (S':PS),LdS w0 w' o' gd X (k+1) S'∧slotsB (X.sl.take (k+1))=true,?_,?_⟩
  ·rintro w' ⟨o',S',q1,q2⟩
   unfold F68_j15
   exact⟨inR_i64 (by omega) (by omega),⟨k+1,o',S',by simp,by omega,q1,q2⟩,(by first | omega | (dsimp only;omega))⟩
  refine (hrd.keep h5.bel).s8 hn rfl (k:=k) hke fun b o c0 c1 c2 c3 c4 c5 c6 c7=>?_
  simp only [Addr.add_mk,c0,c1,c2,c3,c4,c5,c6,c7,lds]
  have hsl0:=hes.get k hk2 hke
  refine al fun gs w6 hb6 bs hges=>?_
  simp only [Addr.add_mk,Nat.zero_add]
  refine st_blk bs (by simp) fun u1 q1 f1=>st_blk q1 (by simp) fun u2 q2 f2=>st_blk q2 (by simp) fun u3 q3 f3=>st_blk q3 (by simp) fun u4 q4 f4=>st_blk q4 (by simp) fun u5 q5 f5=>st_blk q5 (by simp) fun u6 q6 f6=>st_blk q6 (by simp) fun u7 q7 f7=>st_blk q7 (by simp) fun w7 bs7 f8=>?_
  simp only [List.setIfInBounds_toArray,List.set_cons_zero,List.set_cons_succ] at bs7
  have F7:Fm (·=gs) w6 w7:=((((((f1.trans f2).trans f3).trans f4).trans f5).trans f6).trans f7).trans f8
  have D7:Below w5.heap.size w5 w7:=hb6.trans (F7.toBelow hb6.size fun b hb e=>by have e:b=gs:=e;omega)
  simp only [Addr.add_mk,Nat.zero_add,bs7.cell,lds]
  have h7:=h5.below D7
  have ek:((k:Nat):Int)+1=((k+1:Nat):Int):=by omega
  rw [ek]
  refine⟨inR_i64 (by omega) (by omega),?_⟩
  refine nodeO_calls (hsl0.sub (sub_below h7.bel)) (hX.ok _ (List.getElem_mem hk2)) (i:=k) (by omega) (hT0.keep h7.bel) fun w8 hb8=>?_
  have h8:=h7.below hb8
  unfold NodeO
  cases hg:goodS X.sl[k] with
  | false =>
   intro p
   refine⟨_,_,rfl,?_⟩
   rw [Bool.not_false,Br_t]
   exact hbad w8 h8.bel hg
  | true =>
   intro gn a hgn bn oa hna
   refine⟨_,_,rfl,?_⟩
   rw [Bool.not_true,Br_f]
   obtain⟨⟨v,cv,ov,rv⟩,_⟩:=h8.pm.cells
   have cv:w8.cell? ⟨gd,0,none⟩=some (.slice v.1 v.2.1 v.2.2):=cv
   simp only [cv,lds]
   have ov':Own LPt w8 0 152 (.slice v.1 v.2.1 v.2.2) S5.bs:=ov
   refine ap1 (L:=LPt) (x:=gn) (base:=0) (.pointer none) 8 rfl (by kernel_rfl) (by kernel_rfl) (by kernel_rfl) ov' (Nat.zero_le _) (by omega) (by unfold maxLen;omega) fun A' c' w9 o9 g9=>⟨A',_,c',rfl,?_⟩
   have FG:Fm (fun b=>rowOf (slV v)=some b) w8 w9:=Fm.grown g9.grown fun b hb=>hb
   have hgnl:=bn.lt
   have hrl:∀x,rowOf (slV v)=some x→x < w7.heap.size:=fun x hx=>h7.pm.lt x (by rw [rv x hx];decide)
   have bn9:Blk w9 gn (nodeC k (normS X.sl[k]) a none (none,0,0)) 202:=FG.blk bn fun e=>by have:=hrl gn e;omega
   have bn9':Blk w9 gn (nodeC S5.D.sl.length (bareS (normS X.sl[k])) a none (none,0,0)) 202:=by rw [hl5];exact bn9
   have oa9:Own LAt w9 w7.heap.size 205 (slV a) (bareS (normS X.sl[k])).attrs:=own_fm oa FG fun x hx e=>by have:=hrl x e;have:=(oa.lt x hx).1;omega
   have hgb:(bareS (normS X.sl[k])).gen=X.sl[k].gen:=norm_gen _
   have hlb:(bareS (normS X.sl[k])).live=X.sl[k].live:=norm_live _
   have hat:(normS X.sl[k]).attrs.length≤1048576:=by
    have:=hsl0.ats.1
    unfold normS
    split
    ·split
     ·simp
     ·exact this
    ·simp
   have hgen:=(hX.ok _ (List.getElem_mem hk2)).gen
   refine st_eq (h7.pm.push (b:=gn) (s0:=bareS (normS X.sl[k])) (a0:=a) (v:=v) (v':=(A',_,c')) hgn rfl rfl (by rw [hgb];exact hgen) hat bn9' oa9 hna rv ((Fm.below hb8).trans FG) o9 ?_ (by omega) fun w10 o10 h10 e10 q10=>?_)
   ·rcases g9.row with q | q | ⟨g,q,q2⟩
    ·exact .inl q
    ·exact .inr (.inl q)
    ·refine .inr (.inr ⟨g,q,Nat.le_trans hb8.size q2,by omega,fun e=>by have:=(oa.lt g e).2;omega⟩)
   have c120:¬((0:Nat)=1∨(0:Nat)=2):=by omega
   have hc10:=col_ev e10 h7.col h7.bel.size
   have B10:=bel_ev e10 c120 h7.col h7.bel
   have hgd1:=h7.pm.col
   have hgdl:gd < w7.heap.size:=h7.pm.lt gd (by rw [show o5 gd=1 from hgd1];decide)
   have bn10:Blk w10 gn (nodeC k (normS X.sl[k]) a none (none,0,0)) 202:=by
    rw [q10]
    exact bn9.other (a:=⟨gd,0,none⟩) (by show gd≠gn;omega) _
   have n10:NilK w10 (S5.bs++[gn]) []:=fun i b hi=>by
    rcases Nat.lt_or_ge i S5.bs.length with hlt' | hge'
    ·rw [List.getElem?_append_left hlt'] at hi
     obtain⟨u,u1,u2⟩:=h7.nil i b hi
     refine⟨u,?_,u2⟩
     rw [cell_of (e10.fm.block b (h7.pm.lt b (by rw [h7.pm.nc i b hi];omega)) ?_)]
     ·exact u1
     ·show ¬(o5 b=1∨o5 b=2)
      rw [h7.pm.nc i b hi];omega
    ·rw [List.getElem?_append_right hge'] at hi
     have:b=gn:=by
      cases hj:i-S5.bs.length with
      | zero=>rw [hj] at hi;simpa using hi.symm
      | succ j=>rw [hj] at hi;simp at hi
     subst this
     exact⟨(none,0,0),nil_own (c:=#[]) bn10,⟨fun _=>by simp,fun _=>rfl⟩⟩
   have hbk:(S5.bs++[gn])[k]?=some gn:=by rw [List.getElem?_append_right (by omega),hbl5,Nat.sub_self];rfl
   have hsk:(S5.D.sl++[bareS (normS X.sl[k])])[k]?=some (bareS (normS X.sl[k])):=by rw [List.getElem?_append_right (by omega),hl5,Nat.sub_self];rfl
   have cL:=h10.cLive (i:=k) hbk hsk
   have cG:=h10.cGen (i:=k) hbk hsk
   obtain⟨_,cl,cw,_⟩:=h10.cells
   have hsl2:S5.D.sl++[bareS (normS X.sl[k])]=(X.sl.take (k+1)).map fun s=>bareS (normS s):=by rw [h7.sl,List.take_succ_eq_append_getElem hk2,List.map_append];rfl
   have hlv:=live_le S5.D.sl
   have hwn:=worn_le S5.D.sl
   have la:=live_app S5.D.sl (bareS (normS X.sl[k]))
   have wa:=worn_app S5.D.sl (bareS (normS X.sl[k]))
   rw [hlb] at la
   rw [hlb,hgb] at wa
   rw [hlb] at cL
   rw [hgb] at cG
   have fin:∀{w11:World}{lv wn:Nat},PM w11 o10 ⟨gd,98,[]⟩ { S5 with D:={ S5.D with sl:=S5.D.sl++[bareS (normS X.sl[k])] },bs:=S5.bs++[gn],lv:=lv,wn:=wn }→EvC (fun c=>c=1∨c=2∨c=3) w10 o10 w11 o10 →
     lv=liveN (S5.D.sl++[bareS (normS X.sl[k])])→wn=wornN (S5.D.sl++[bareS (normS X.sl[k])])→∃(o':Nat→Nat) (S':PS),LdS w0 w11 o' gd X (k+1) S'∧slotsB (X.sl.take (k+1))=true:=fun {w11 lv wn} p1 p2 p3 p4 =>
    ⟨o10,_,⟨p1,bel_ev p2 (by omega) hc10 B10,hc10,hsl2,h7.rts,h7.lo,p3,p4,n10.keep fun i b hi=>p2.fm.block b (h10.lt b (by rw [h10.nc i b hi];omega)) (by
     show ¬(o10 b=1∨o10 b=2∨o10 b=3)
     rw [h10.nc i b hi];omega)⟩,hone hg⟩
   simp only [NonNil_some,Addr.add_mk,Nat.zero_add,cL,lds]
   have cl:w10.cell? ⟨gd,2,none⟩=some (.int .i64 (S5.lv:Nat)):=cl
   have cw:w10.cell? ⟨gd,3,none⟩=some (.int .i64 (S5.wn:Nat)):=cw
   have elv:=h7.lv
   have ewn:=h7.wn
   refine br (fun hlv2=>?_) (fun hdd=>?_)
   ·rw [hlv2] at la wa
    simp only [cl,lds]
    refine⟨inR_i64 (by omega) (by omega),?_⟩
    have e1:((S5.lv:Nat):Int)+1=((S5.lv+1:Nat):Int):=by omega
    rw [e1]
    refine h10.stLive (S5.lv+1) (by omega) fun w11 h11 e11=>?_
    exact fin (lv:=S5.lv+1) (wn:=S5.wn) h11 e11 (by rw [la,elv];rfl) (by rw [wa,ewn];rfl)
   ·rw [hdd] at la wa
    simp only [cG,lds]
    refine bre (fun hge2=>?_) (fun hlt2=>?_)
    ·simp only [cw,lds]
     refine⟨inR_i64 (by omega) (by omega),?_⟩
     have e1:((S5.wn:Nat):Int)+1=((S5.wn+1:Nat):Int):=by omega
     rw [e1]
     refine h10.stWorn (S5.wn+1) (by omega) fun w11 h11 e11=>?_
     refine fin (lv:=S5.lv) (wn:=S5.wn+1) h11 e11 (by rw [la,elv];rfl) ?_
     rw [wa,ewn,decide_eq_true (by omega)];rfl
    ·refine fin (lv:=S5.lv) (wn:=S5.wn) h10 EvC.refl (by rw [la,elv];rfl) ?_
     rw [wa,ewn,decide_eq_false (by omega)];rfl
 ·have hk2:k=X.sl.length:=by omega
  subst hk2
  rw [List.take_length] at hok
  have b15:=hb1.keep h5.bel
  simp only [Addr.add_mk,Nat.zero_add,b15.cell,slV,lds]
  have:=load_hang (R:=R) hX0 hb1 hfew hok h5 H0 (J:=fun w'=>R (.returned (.tuple #[.pointer (some ⟨gd,0,none⟩),.int .i64 0])) w') fun w' h=>h
  unfold slV at this
  unfold Al at this ⊢
  exact⟨fun w'=>R (.returned (.tuple #[.pointer (some ⟨gd,0,none⟩),.int .i64 0])) w',fun w' h=>h,this⟩
end
set_option maxRecDepth 100000
section
variable {w w1 w0:World}{o o1:Nat→Nat}{g:Nat}{ty:TypeId}{S:PS}{M:Nat→Prop}{R:Ending→World→Prop}{θ:Th}{X:Im}{vs vr:Sv}
theorem PM.moved (h:PM w o θ S) {g':Nat}{t':TypeId}{tl:List Value} (hf:Fm M w w1) (hm:∀b,o b≠0→¬M b) (hB:∀nv rv,Blk w θ.g (docC nv rv S.lv S.wn S.lo θ.tl) θ.t→Blk w1 g' (docC nv rv S.lv S.wn S.lo tl) t')
  (ho:∀b,o b≠0→b≠θ.g→o1 b=o b) (hg:o1 g'=1) (hl:∀b,o1 b≠0→b < w1.heap.size):PM w1 o1 ⟨g',t',tl⟩ S:=by
 have hgc:=h.col
 have hn:∀b c,o b=c→c≠0→¬M b:=fun b c hb hc=>hm b (by omega)
 have hne:∀b c,o b=c→c≠0→c≠1→o1 b=c:=fun b c hb hc hc1=>by
  rw [ho b (by omega) (fun e=>by rw [e,hgc] at hb;omega)];exact hb
 obtain⟨nv,rv,hd⟩:=h.doc
 refine⟨hg,hl,h.len,h.few,fun i b hb=>hne b _ (h.nc i b hb) (by omega) (by omega),⟨nv,rv,⟨hB nv rv hd.blk,own_fm hd.n1 hf fun x hx=>hn x 2 (hd.n2 x hx) (by decide),fun x hx=>hne x 2 (hd.n2 x hx) (by decide) (by decide),own_fm hd.r1 hf fun x hx=>hn x 3 (hd.r2 x hx) (by decide),fun x hx=>hne x 3 (hd.r2 x hx) (by decide) (by decide)⟩⟩,fun i b s hb hs=>?_,h.rng,h.rts,h.cnt⟩
 obtain⟨a,kv,hnd⟩:=h.nodes i b s hb hs
 refine⟨a,kv,hnd.keep (h.nc i b hb) hf (fun x hx=>?_) (fun x hx=>?_)⟩
 ·rcases hx with e | e | e
  ·exact hn x _ e (by omega)
  ·exact hn x _ e (by omega)
  ·exact hn x _ e (by omega)
 ·rcases hx with e | e
  ·rw [hne x _ e (by omega) (by omega)];exact e.symm
  ·rw [hne x _ e (by omega) (by omega)];exact e.symm
def LoadLK (R:Ending→World→Prop) (w0:World):Option Im→Prop
 | none=>∀w',Below w0.heap.size w0 w'→R (.returned (.tuple #[.pointer none,.int .i64 36])) w'
 | some D=>∀w' g o',Below w0.heap.size w0 w'→LD 1 g 105 w' o' D→(∀b,o' b≠0→w0.heap.size≤b)→R (.returned (.tuple #[.pointer (some ⟨g,0,none⟩),.int .i64 0])) w'
theorem loadL_calls (hX:RIm w X vs vr) (hT:Tabs w) (H:LoadLK R w (loadF X)):Calls Tryz.prog 37 #[.agg #[.slice vs.1 vs.2.1 vs.2.2,.slice vr.1 vr.2.1 vr.2.2]] w R:=by
 refine ok37 vs.1 vs.2.1 vs.2.2 vr.1 vr.2.1 vr.2.2 ?_
 unfold F37
 refine al fun g1 w1 hb1 b1 hge1=>?_
 have b1:Blk w1 g1 #[slV vs,slV vr] 25:=b1
 have hs1:=hb1.size
 simp only [Addr.add_mk,Nat.zero_add,b1.cell,slV,lds]
 refine loadP_calls (hX.keep hb1) (hT.keep hb1) ?_
 cases e:loadF X with
 | none =>
  rw [e] at H
  intro w' hb
  refine⟨none,36,rfl,?_⟩
  rw [show ((36:Int) != 0)=true from rfl,Br_t]
  exact H w' (btr hb1 hs1 hb)
 | some D =>
  rw [e] at H
  intro w2 g o2 S hb2 hp hi hd hc
  subst hd
  have hwf:Wf S.D:=load_wf hX.ok e
  have hA:=hwf.a
  refine⟨some ⟨g,0,none⟩,0,rfl,?_⟩
  rw [show ((0:Int) != 0)=false from rfl,Br_f]
  have B2:Below w.heap.size w w2:=btr hb1 hs1 hb2
  obtain⟨nv,rv,hd⟩:=hp.doc
  have hB2:Blk w2 g (docC nv rv S.lv S.wn S.lo []) 98:=hd.blk
  have k0:w2.cell? ⟨g,0,none⟩=some (.slice nv.1 nv.2.1 nv.2.2):=by rw [hB2.cell];rfl
  have k1:w2.cell? ⟨g,1,none⟩=some (.slice rv.1 rv.2.1 rv.2.2):=by rw [hB2.cell];rfl
  have k2:w2.cell? ⟨g,2,none⟩=some (.int .i64 (S.lv:Nat)):=by rw [hB2.cell];rfl
  have k3:w2.cell? ⟨g,3,none⟩=some (.int .i64 (S.wn:Nat)):=by rw [hB2.cell];rfl
  have k4:w2.cell? ⟨g,4,none⟩=some (.int .i64 (S.lo:Nat)):=by rw [hB2.cell];rfl
  simp only [NonNil_some,Addr.add_mk,Nat.zero_add,k0,k1,k2,k3,k4,lds]
  unfold AlM
  have hb3:Below w2.heap.size w2 (w2.alloc (.map #[] 0)):=(Below.refl _ _).alloc (Nat.le_refl _) _
  have mp3:Mp .u64 (w2.alloc (.map #[] 0)) w2.heap.size fun _=>none:=Mp.made w2 .u64
  generalize hw3:(w2.alloc (.map #[] 0))=w3 at *
  have h3s:=mp3.lt
  refine al fun g4 w4 hb4 b4 hge4=>?_
  have hgc:=hp.col
  have hlt2:=hp.lt
  have hgc:o2 g=1:=hgc
  have hgl:g < w2.heap.size:=hlt2 g (by omega)
  have B24:Below w2.heap.size w2 w4:=btr hb3 hb3.size hb4
  have hs3:=hb3.size
  have hs4:=hb4.size
  have hgw:w1.heap.size≤g:=hc g (by omega)
  generalize ho4:(fun b=>if b=g4 then 1 else if b=w2.heap.size then 6 else if b=g then 0 else o2 b)=o4
  have q1:o4 g4=1:=by rw [←ho4];exact if_pos rfl
  have q2:o4 w2.heap.size=6:=by rw [←ho4];dsimp only;rw [if_neg (by omega),if_pos rfl]
  have q3:∀b,o2 b≠0→b≠g→o4 b=o2 b:=fun b hb hbg=>by
   have:=hlt2 b hb
   rw [←ho4];dsimp only;rw [if_neg (by omega),if_neg (by omega),if_neg hbg]
  have q4:∀b,o4 b≠0→b < w4.heap.size:=fun b hb=>by
   rw [←ho4] at hb;dsimp only at hb
   by_cases e1:b=g4
   ·rw [e1];exact b4.lt
   ·rw [if_neg e1] at hb
    by_cases e2:b=w2.heap.size
    ·omega
    ·rw [if_neg e2] at hb
     by_cases e3:b=g
     ·omega
     ·rw [if_neg e3] at hb
      have:=hlt2 b hb;omega
  have q5:∀b,o4 b≠0→w.heap.size≤b:=fun b hb=>by
   rw [←ho4] at hb;dsimp only at hb
   by_cases e1:b=g4
   ·omega
   ·rw [if_neg e1] at hb
    by_cases e2:b=w2.heap.size
    ·have:=hb2.size;omega
    ·rw [if_neg e2] at hb
     by_cases e3:b=g
     ·omega
     ·rw [if_neg e3] at hb
      have:=hc b hb;omega
  have hp4:PM w4 o4 ⟨g4,105,tlL none none 0 0 (some w2.heap.size)⟩ S:=by
   refine hp.moved (M:=fun _=>False) (.below B24) (fun _ _ h=>h) (fun nv' rv' hB'=>?_) q3 q1 q4
   obtain⟨z1,-⟩:=blk_inj hB' hB2
   have e1:docC nv' rv' S.lv S.wn S.lo (tlL none none 0 0 (some w2.heap.size))=docC nv rv S.lv S.wn S.lo (tlL none none 0 0 (some w2.heap.size)):=by
    unfold docC at z1 ⊢
    simp only [Array.mk.injEq,List.cons.injEq,and_true,true_and,List.toArray_inj] at z1 ⊢
    exact⟨z1.1,z1.2⟩
   rw [e1]
   exact b4
  have hE0:EndR w4 o4 (some w2.heap.size) fun _=>none:=by
   refine⟨q2,?_⟩
   have e0:mpE (fun _=>none)=fun _=>none:=by funext k;unfold mpE;split <;> rfl
   rw [e0]
   exact mp3.fm (M:=fun _=>False) (.below hb4) fun h=>h
  have hx4:LX w4 o4 g4 105 S [0] 0 fun _=>none:=.inr ⟨⟨_,hp4,hE0⟩,rfl,rfl,fun _=>rfl⟩
  have B4:Below w.heap.size w w4:=btr B2 B2.size B24
  refine Roots_calls (θ:=⟨g4,105,_⟩) hp4 hA fun v w5 hb5 ov=>⟨_,_,_,rfl,?_⟩
  have hx5:=hx4.below hb5
  have ovc:∀b,rowOf (slV v)=some b→o4 b=0:=fun b hb=>Classical.byContradiction fun e=>by
   have:=q4 b e
   have:=(ov.lt b hb).1;omega
  have hkl:∀y∈S.D.roots,(∃t,slA S.D.sl y=some t)∧Ch (slA S.D.sl) y 1:=fun y hy=>by
   obtain⟨_,u,u1,u2⟩:=hA.root.2 y hy
   exact⟨⟨u,u1⟩,.succ (hA.ne0 u1) u1 (by rw [u2];exact .zero)⟩
  have hnd:=rootsAll_nodup hA
  have hfew:=rootsAll_few hwf.s hA
  have hk4:S.D.roots.length≤4096:=Nat.le_trans (live_few (fun y hy=>(hkl y hy).1) hA.root.1) hwf.s.few
  have hwl:∀(E':Nat→Option (Nat × Nat)) (l:List Nat),(∀y∈l,y∈S.D.roots)→(l.flatMap (wrd (slA S.D.sl) E' 65)).length=2*(l.flatMap (allA (slA S.D.sl) 65)).length:=fun E' l hl=>flat_len2 fun y hy=>by
   obtain⟨⟨t,t1⟩,t2⟩:=hkl y (hl y hy)
   exact wrd_len hA 65 y 1 t1 t2 (by omega)
  have hv1:v.2.1=S.D.roots.length:=by
   obtain⟨A,cc,hvf,_⟩:=ov.form
   rw [slvF hvf]
  refine⟨fun last j w'=>∃(k:Nat) (o':Nat→Nat) (E':Nat→Option (Nat × Nat)) (la:Nat),last=(la:Nat)∧j=k∧k≤S.D.roots.length ∧
    LX w' o' g4 105 S (0 :: (S.D.roots.take k).flatMap (wrd (slA S.D.sl) E' 65)) (2*((S.D.roots.take k).flatMap (allA (slA S.D.sl) 65)).length) E' ∧
    EvL w5 o4 w' o'∧(∀y,y∉(S.D.roots.take k).flatMap (allA (slA S.D.sl) 65)→E' y=none)∧(∀y∈(S.D.roots.take k).flatMap (allA (slA S.D.sl) 65),E' y≠none) ∧
    Own LHn w' w4.heap.size 65 (slV v) S.D.roots∧(∀b,rowOf (slV v)=some b→o' b=0) ∧
    (0 :: (S.D.roots.take k).flatMap (wrd (slA S.D.sl) E' 65))[((S.D.roots.take k).flatMap (wrd (slA S.D.sl) E' 65)).length]?=some la,fun _ j _=>S.D.roots.length-j.toNat,
   ⟨0,o4,fun _=>none,0,rfl,rfl,Nat.zero_le _,hx5,EvL.refl,fun _ _=>rfl,fun y hy=>by simp at hy,ov,ovc,rfl⟩,?_⟩
  rintro last j w6 ⟨k,o6,E6,la,rfl,rfl,hk,h6,ev6,z1,z2,ov6,ovc6,hla⟩
  unfold F37_l7
  have hm6:=hwl E6 (S.D.roots.take k) fun y hy=>List.mem_of_mem_take hy
  refine brd (fun hlt=>?_) (fun hge=>?_)
  ·have hk2:k < S.D.roots.length:=by omega
   obtain⟨A,cc,hvf,hrd⟩:=ov6.form
   have e1:v.1=A:=by rw [slvF hvf]
   rw [←e1] at hrd
   refine hrd.hn hv1 rfl hk2 fun bb oo cx=>?_
   simp only [cx,lds]
   have hkm:S.D.roots[k]∈S.D.roots:=List.getElem_mem hk2
   obtain⟨⟨t,t1⟩,t2⟩:=hkl S.D.roots[k] hkm
   have hst:∀f:Nat→List Nat,(S.D.roots.take (k+1)).flatMap f=(S.D.roots.take k).flatMap f++f S.D.roots[k]:=fun f=>by
    rw [List.take_succ_eq_append_getElem hk2,List.flatMap_append];simp
   have hall:S.D.roots.flatMap (allA (slA S.D.sl) 65)=(S.D.roots.take (k+1)).flatMap (allA (slA S.D.sl) 65)++(S.D.roots.drop (k+1)).flatMap (allA (slA S.D.sl) 65):=by rw [←List.flatMap_append,List.take_append_drop]
   have hle:((S.D.roots.take (k+1)).flatMap (allA (slA S.D.sl) 65)).length≤4096:=by
    rw [hall,List.length_append] at hfew;omega
   have hdis:∀y∈(S.D.roots.take k).flatMap (allA (slA S.D.sl) 65),y∉allA (slA S.D.sl) 65 S.D.roots[k]:=fun y hy hy2=>by
    rw [hall,hst] at hnd
    have:=(List.nodup_append.1 hnd).1
    exact (List.nodup_append.1 this).2.2 y hy y hy2 rfl
   rw [hst,List.length_append] at hle
   refine tag_calls hA 65 S.D.roots[k] 1 t1 t2 (by omega) h6 hla (by rw [List.length_cons,hm6];omega) (by omega) fun w7 o7 E7 h7 ev7 y1 y2=>⟨_,rfl,inR_i64 (by omega) (by omega),⟨k+1,o7,E7,_,rfl,by simp,by omega,?_,ev6.trans ev7,?_,?_,own_fm ov6 ev7.fm fun b hb e=>by have:=ovc6 b hb;omega,fun b hb=>ev7.old b (ov6.lt b hb).2 (ovc6 b hb),?_⟩,(by first | omega | (dsimp only;omega))⟩
   ·have hcg:(S.D.roots.take k).flatMap (wrd (slA S.D.sl) E6 65)=(S.D.roots.take k).flatMap (wrd (slA S.D.sl) E7 65):=flat_congr fun y hy=>wrd_congr 65 y fun z hz=>(y1 z (hdis z (List.mem_flatMap.2 ⟨y,hy,hz⟩))).symm
    rw [hst,hst,←hcg]
    have e1:(0 :: (S.D.roots.take k).flatMap (wrd (slA S.D.sl) E6 65)).length=((S.D.roots.take k).flatMap (wrd (slA S.D.sl) E6 65)).length+1:=List.length_cons
    rw [List.take_of_length_le (by omega),List.drop_of_length_le (by omega),List.append_nil] at h7
    have e3:2*((S.D.roots.take k).flatMap (allA (slA S.D.sl) 65)).length+2*(allA (slA S.D.sl) 65 S.D.roots[k]).length=2*((S.D.roots.take k).flatMap (allA (slA S.D.sl) 65)++allA (slA S.D.sl) 65 S.D.roots[k]).length:=by rw [List.length_append];omega
    rw [e3] at h7
    exact h7.x
   ·intro y hy
    rw [hst,List.mem_append,not_or] at hy
    rw [y1 y hy.2];exact z1 y hy.1
   ·intro y hy
    rw [hst,List.mem_append] at hy
    rcases hy with hy | hy
    ·rw [y1 y (hdis y hy)];exact z2 y hy
    ·exact y2 y hy
   ·rw [hst,wrd_some (r:=64) (E:=E7) t1]
    generalize (S.D.roots.take k).flatMap (wrd (slA S.D.sl) E7 65)=ws
    generalize t.kids.flatMap (wrd (slA S.D.sl) E7 64)=xs
    have e1:0 :: (ws++((eN E7 S.D.roots[k]).1 :: xs++[(eN E7 S.D.roots[k]).2]))=(0 :: (ws++(eN E7 S.D.roots[k]).1 :: xs))++[(eN E7 S.D.roots[k]).2]:=by simp
    rw [e1,List.getElem?_append_right (by simp only [List.length_append,List.length_cons,List.length_nil];omega)]
    simp only [List.length_append,List.length_cons,List.length_nil]
    rw [show ws.length+(xs.length+1+(0+1))-(ws.length+(xs.length+1)+1)=0 by omega]
    rfl
  ·have hk2:k=S.D.roots.length:=by omega
   subst hk2
   rw [List.take_length] at h6 z1 z2
   have hs0:=B4.size
   have h54:=hb5.size
   have B5:Below w.heap.size w w5:=btr B4 hs0 hb5
   have B6:Below w.heap.size w w6:=B5.trans (ev6.fm.toBelow (by omega) fun b hb e=>by
    have:=q5 b (by omega);omega)
   refine H w6 g4 o6 B6 ⟨S,_,_,E6,rfl,⟨h6,hi,rfl,fun y hy=>?_,fun y s hs=>?_,by omega⟩⟩ fun b hb=>?_
   ·exact (mem_all_roots hA).1 (Classical.byContradiction fun e=>hy (z1 y e))
   ·exact z2 y ((mem_all_roots hA).2 ⟨s,hs⟩)
   ·refine Classical.byContradiction fun hlt'=>hb ?_
    exact ev6.old b (by omega) (Classical.byContradiction fun e=>hlt' (q5 b e))
end
set_option maxRecDepth 100000
section
variable {w w1:World}{R:Ending→World→Prop}
end
set_option maxRecDepth 100000
structure E12 where
 a:Ac
 e:E5
structure Both (p:Value) (P:Nat→World→(Nat→Nat)→Im→Prop) (w0:World) (g k:Nat) (w:World) (o:Nat→Nat) (D:Im) (vs vr:Sv):Prop where
 p:P k w o D
 wf:Wf D
 r:RM (okc o) w g D vs vr
 og:o g=0
 old:Below w0.heap.size w0 w
 col:∀b,b < w0.heap.size→o b=0
 gne:w0.heap.size≤g
section
variable {p:Value}{P:Nat→World→(Nat→Nat)→Im→Prop}{k:Nat}{w w0 w1:World}{o:Nat→Nat}{g:Nat}{D:Im}{vs vr:Sv}{R:Ending→World→Prop}
end
set_option maxRecDepth 100000
section
variable {w w1:World}{R:Ending→World→Prop}
theorem handlesL {l:List Nat}{v u:Sv} (hl:RdV LHn w l v) (hm:RdV LHn w l u) (hK:∀w',Below w.heap.size w w'→R (.returned (.bool true)) w'):Calls Tryz.prog 30 #[.slice v.1 v.2.1 v.2.2,.slice u.1 u.2.1 u.2.2] w R:=by
 obtain⟨z1,z0,z2⟩:=hl
 obtain⟨y1,y0,y2⟩:=hm
 refine ok30 v.1 v.2.1 v.2.2 u.1 u.2.1 u.2.2 ?_
 unfold F30
 refine brn (fun hne=>absurd (by rw [z1,y1]) hne) (fun he=>?_)
 refine⟨fun i w'=>∃k:Nat,i=k∧k≤l.length∧Below w.heap.size w w',fun i _=>l.length-i.toNat,⟨0,rfl,by omega,.refl _ _⟩,?_⟩
 rintro i w1 ⟨k,rfl,hk,hb1⟩
 unfold F30_l4
 refine brd (fun hlt=>?_) (fun hge=>hK w1 hb1)
 have hk2:k < l.length:=by omega
 refine dr fun w2 hb2 _=>?_
 have B2:=btr hb1 hb1.size hb2
 refine (z2.keep B2).hn z1 rfl (k:=k) hk2 fun b o c0=>?_
 simp only [c0,lds]
 refine (y2.keep B2).hn y1 rfl (k:=k) hk2 fun b2 o2 c2=>?_
 simp only [c2,lds]
 exact brn (fun hne=>absurd rfl hne) fun _=>⟨inR_i64 (by omega) (by omega),⟨k+1,by simp,by omega,B2⟩,(by first | omega | (dsimp only;omega))⟩
end
set_option maxRecDepth 100000
section
variable {W w w1:World}{o:Nat→Nat}{g gd k:Nat}{D:Im}{vs vr:Sv}{R:Ending→World→Prop}{M:Nat→Prop}{x:Im}
theorem RDr.rw (h:RDr w g D vs vr) (hf:D.sl.length≤4096):∃es,RW [] w g D vs vr es:=by
 obtain⟨es,e1,e2,e3⟩:=h.im.row
 have hl:=e3.len
 refine⟨es,h.c0,h.c1,e1,e2,hl,hf,fun i s e hs he=>?_,h.im.roots,h.im.ok,h.im.rok⟩
 obtain⟨hi,hs⟩:=List.getElem?_eq_some_iff.1 hs
 obtain⟨hi',he⟩:=List.getElem?_eq_some_iff.1 he
 have:=e3.get i hi hi'
 rw [hs,he] at this
 exact⟨⟨this.gen,this.live,this.kind,this.nm,this.text,this.parent,this.ats⟩,fun _=>this.kids⟩
theorem tabs_wc (hT:Tabs W) (hb:Below W.heap.size W w) (hc:∀b,o b≠0→W.heap.size≤b):Tabs (wc o w):=hT.sub fun b c t fr h=>by
 have hlt:=(Array.getElem?_eq_some_iff.1 h).1
 refine cells_only (ok:=fun b=>Nat.beq (o b) 0) ?_ (by rw [hb.block b hlt];exact h)
 have:o b=0:=Classical.byContradiction fun e=>by have:=hc b e;omega
 rw [this];rfl
theorem begins_tail (hL:LD k g 105 w o D) (hk:k < 1099511627776) (hw:Wf D) (hT:Tabs W) (hB:Below W.heap.size W w) (hc:∀b,o b≠0→W.heap.size≤b)
  (hr:∀(M:Nat→Prop) w',Fm M w w'→(∀b,b < w.heap.size→M b→o b≠0)→∃vs vr es,RW [] w' gd D vs vr es)
  (hK:∀gx w' vs vr es,Below W.heap.size W w'→Ix w' gx D→RW [] w' gd D vs vr es→R (.returned (.tuple #[.pointer (some ⟨gx,0,none⟩),.pointer (some ⟨gd,0,none⟩),.bool true])) w'):F9_j7 (some ⟨g,0,none⟩) (some ⟨gd,0,none⟩) w R:=by
 unfold F9_j7
 have hlt:∀b,o b≠0→b < w.heap.size:=by
  obtain⟨S,nms,gv,E,_,h⟩:=hL
  exact h.x.lt
 refine New_callsF hL hw fun gx w1 hb1 hix=>⟨_,_,rfl,?_⟩
 refine⟨fun w'=>w1=w',?_,brn (fun h=>absurd rfl h) fun _=>by rw [Option.isNone_some,Br_f]⟩
 rintro _ rfl
 unfold F9_j10
 have B1:=btr hB hB.size hb1
 have hL1:LD k g 105 w1 o D:=by
  obtain⟨S,nms,gv,E,e,h⟩:=hL
  exact⟨S,nms,gv,E,e,⟨h.x.below hb1,h.pi,h.word,h.def1,h.def2,h.gv_⟩⟩
 refine insertL_calls (a:=0) (e:=eX (ByteArray.mk #[108,97,116,101,114,32,120,32,121])) hL1 hk hw (tabs_wc hT B1 hc) (exX_rd _) (by decide) fun w2 o2 hL2 ev=>⟨_,_,rfl,?_⟩
 have hf:Fm (fun b=>o b≠0) w1 w2:=ev.fm
 have B2:Below W.heap.size W w2:=B1.trans (hf.toBelow B1.size fun b hb e=>by have:=hc b e;omega)
 obtain⟨vs,vr,es,hR⟩:=hr (fun b=>o b≠0) w2 ((Fm.below hb1).trans hf) fun b _ h=>h
 exact hK gx w2 vs vr es B2 (hix _ w2 hf fun b _ h=>hlt b h) hR
theorem begins_calls (hX : RIm W x vs vr) (hT : Tabs W) (hK : ∀ gx gd w' D vs vr es, Wf D → Below W.heap.size W w' → Ix w' gx D → RW [] w' gd D vs vr es → R (.returned (.tuple #[.pointer (some ⟨gx, 0, none⟩), .pointer (some ⟨gd, 0, none⟩), .bool true])) w') :
    Calls Tryz.prog 9 #[.agg #[.slice vs.1 vs.2.1 vs.2.2, .slice vr.1 vr.2.1 vr.2.2]] W R := by
  refine ok9 vs.1 vs.2.1 vs.2.2 vr.1 vr.2.1 vr.2.2 ?_
  unfold F9
  refine al fun g1 w1 hb1 b1 hge1 => ?_
  have b1 : Blk w1 g1 #[slV vs, slV vr] 25 := b1
  simp only [Addr.add_mk, Nat.zero_add, b1.cell, slV, lds]
  refine copiedImage_calls x vs vr (hX.keep hb1) fun vs2 vr2 w2 hb2 hX2 => ⟨_, _, _, _, _, _, rfl, ?_⟩
  have B2 := btr hb1 hb1.size hb2
  have hX2' : RIm w2 x vs2 vr2 := hX2.sub sub_of_only
  have hs2 := B2.size
  have fin : ∀ (x14 : Option Addr) (e14 : Int) (w3 : World) (o : Nat → Nat), Below w2.heap.size w2 w3 → (loadF x = none → x14 = none ∧ e14 = 36) → (∀ D, loadF x = some D → ∃ g, x14 = some ⟨g, 0, none⟩ ∧ e14 = 0 ∧ LD 1 g 105 w3 o D ∧ ∀ b, o b ≠ 0 → w2.heap.size ≤ b) →
      LdSl (w3.cell? ⟨g1, 0, none⟩) fun x18_0 x18_0N x18_0C => LdSl (w3.cell? ⟨g1, 0 + 1, none⟩) fun x18_1 x18_1N x18_1C =>
      Calls Tryz.prog 39 #[(.agg #[(.slice x18_0 x18_0N x18_0C), (.slice x18_1 x18_1N x18_1C)])] w3 (post R fun v3 w1_4 =>
       ∃ (x19_0 : Option Addr) (x19_1 : Int), v3 = (.tuple #[(.pointer x19_0), (.int .i64 x19_1)]) ∧
       ∃ J5 : World → Prop, (∀  (w1_5 : World), J5 w1_5 → F9_j5 x14 x19_0 w1_5 R) ∧
       (Br (e14 != x19_1)
       (R (.returned (.tuple #[(.pointer none), (.pointer none), (.bool false)])) w1_4)
       (Br (!((x14).isNone == (x19_0).isNone))
       (R (.returned (.tuple #[(.pointer none), (.pointer none), (.bool false)])) w1_4)
       (J5 w1_4)))) := by
    intro x14 e14 w3 o hb3 h0 h1
    have b3 := (b1.keep hb2).keep hb3
    simp only [Addr.add_mk, Nat.zero_add, b3.cell, slV, lds]
    have B3 := btr B2 B2.size hb3
    have hs3 := hb3.size
    have hsub : Sub W (wOnly (fun b => decide (b < W.heap.size)) w3) := fun b c t fr h => by
      have hlt := (Array.getElem?_eq_some_iff.1 h).1
      exact cells_only (ok := fun b => decide (b < W.heap.size)) (decide_eq_true hlt) (by rw [B3.block b hlt]; exact h)
    refine loadR_calls x vs vr (fun b => decide (b < W.heap.size)) (hX.sub hsub) fun w4 hb4 => ?_
    have B4 := btr B3 B3.size hb4
    cases hl : loadF x with
    | none =>
      obtain ⟨rfl, rfl⟩ := h0 hl
      refine ⟨none, 36, rfl, fun w' => w4 = w', ?_, ?_⟩
      rotate_left
      · rw [show ((36 : Int) != 36) = false from rfl, Br_f, show (!((none : Option Addr).isNone == (none : Option Addr).isNone)) = false from rfl, Br_f]
      rintro _ rfl
      unfold F9_j5
      refine ⟨fun p d w' => ∃ gp gd, p = some ⟨gp, 0, none⟩ ∧ d = some ⟨gd, 0, none⟩ ∧ Blk w' gp #[.slice none 0 0, .slice none 0 0, .int .i64 0, .int .i64 0, .int .i64 0, .map none, .pointer none, .int .u64 0, .int .u64 0, .map none] 105 ∧ Blk w' gd #[.slice none 0 0, .slice none 0 0] 107 ∧ gp ≠ gd ∧ W.heap.size ≤ gp ∧ Below W.heap.size W w', ?_, ?_⟩
      · rintro _ _ w5 ⟨gp, gd, rfl, rfl, bp, bd, hne, hgp, hb5⟩
        refine begins_tail (ld_zero bp) (by decide) nil_wf hT hb5 (fun b hb => ?_) (fun M w6 hf hm => ?_) fun gx w6 vs' vr' es q1 q2 q3 => hK gx gd w6 _ vs' vr' es nil_wf q1 q2 q3
        · by_cases e : b = gp
          · rw [e]; exact hgp
          · rw [if_neg e] at hb; exact absurd rfl hb
        · have hd6 := hf.blk bd fun e => by have := hm gd bd.lt e; rw [if_neg (fun e => hne e.symm)] at this; exact this rfl
          obtain ⟨es, h⟩ := (rm_zero (ok := fun _ => true) hd6).re
          exact ⟨_, _, es, h⟩
      · simp only [Option.isNone_none, Br_t]
        refine al fun gp w5 hb5 b5 hge5 => al fun gd w6 hb6 b6 hge6 => ?_
        have hl5 := b5.lt
        exact ⟨gp, gd, rfl, rfl, b5.keep hb6, b6, by omega, by have := B4.size; omega, btr B4 B4.size (btr hb5 hb5.size hb6)⟩
    | some D =>
      obtain ⟨g, rfl, rfl, hL, hc⟩ := h1 D hl
      have hw : Wf D := load_wf hX.ok hl
      intro gd vs' vr' hgd hD
      refine ⟨some ⟨gd, 0, none⟩, 0, rfl, fun w' => w4 = w', ?_, ?_⟩
      rotate_left
      · rw [show ((0 : Int) != 0) = false from rfl, Br_f, Option.isNone_some, Option.isNone_some, show (!(false == false)) = false from rfl, Br_f]
      rintro _ rfl
      unfold F9_j5
      refine ⟨fun p d w' => p = some ⟨g, 0, none⟩ ∧ d = some ⟨gd, 0, none⟩ ∧ w4 = w', ?_, ?_⟩
      rotate_left
      · rw [Option.isNone_some, Br_f]; exact ⟨rfl, rfl, rfl⟩
      rintro _ _ _ ⟨rfl, rfl, rfl⟩
      have hlt : ∀ b, o b ≠ 0 → b < w3.heap.size := by
        obtain ⟨S, nms, gv, E, _, h⟩ := hL
        exact h.x.lt
      have hL4 : LD 1 g 105 w4 o D := by
        obtain ⟨S, nms, gv, E, e, h⟩ := hL
        exact ⟨S, nms, gv, E, e, ⟨h.x.below hb4, h.pi, h.word, h.def1, h.def2, h.gv_⟩⟩
      refine begins_tail hL4 (by decide) hw hT B4 (fun b hb => by have := hc b hb; omega) (fun M w6 hf hm => ?_) fun gx w6 vs' vr' es q1 q2 q3 => hK gx gd w6 _ vs' vr' es hw q1 q2 q3
      have hs : Sub (newOr (fun b => decide (b < W.heap.size)) w3.heap.size w4) (newOr (fun b => decide (b < W.heap.size)) w3.heap.size w6) := sub_only (fun b _ h => h) fun b hb h => hf.block b hb fun e => by
        have h1 := hm b hb e
        have h2 := hc b h1
        have h3 := hlt b h1
        rcases (newOr_iff (ok := fun b => decide (b < W.heap.size))).1 h with h4 | h4
        · rw [decide_eq_true_eq] at h4; omega
        · omega
      obtain ⟨es, h⟩ := ((hD.sub hs).sub sub_of_only).rw hw.s.few
      exact ⟨_, _, es, h⟩
  refine loadL_calls hX2' (hT.keep B2) ?_
  cases hl : loadF x with
  | none => exact fun w3 hb3 => ⟨_, _, rfl, fin none 36 w3 (fun _ => 0) hb3 (fun _ => ⟨rfl, rfl⟩) fun D h => by rw [hl] at h; cases h⟩
  | some D => exact fun w3 g o hb3 hL hc => ⟨_, _, rfl, fin _ 0 w3 o hb3 (fun h => by rw [hl] at h; cases h) fun D' h => by rw [hl] at h; cases h; exact ⟨g, rfl, rfl, hL, hc⟩⟩
end
set_option maxRecDepth 100000
section
variable {w:World}{R:Ending→World→Prop}{B:Nat}{va vb:Sv}
theorem Fm.row {v:Sv}{w1 w2 w3:World} (h:Fm (fun b=>rowOf (slV v)=some b) w1 w2) (k:Fm (fun b=>rowOf (slV v)=some b) w2 w3):Fm (fun b=>rowOf (slV v)=some b) w1 w3:=h.trans k
theorem nodesL_calls {l:List Nat} (ha:Own LHn w B 65 (slV va) l) (hb:RdV LHn w l vb) (hl:l.length≤67108864) (hB:B≤w.heap.size) (hK:∀w',Fm (fun b=>rowOf (slV va)=some b) w w'→R (.returned (.bool true)) w') :
  Calls Tryz.prog 14 #[.slice va.1 va.2.1 va.2.2,.slice vb.1 vb.2.1 vb.2.2] w R:=by
 refine ok14 va.1 va.2.1 va.2.2 vb.1 vb.2.1 vb.2.2 ?_
 unfold F14
 obtain⟨a1,a2⟩:=rdO ha
 refine handlesL (v:=va) (u:=vb) (rdV_own ha (by omega)) hb fun w1 hb1=>⟨_,rfl,?_⟩
 refine⟨fun i w'=>∃(k:Nat) (l':List Nat),i=k∧k≤l.length∧l'.length=l.length∧Own LHn w' B 65 (slV va) l'∧Fm (fun b=>rowOf (slV va)=some b) w w',fun i _=>l.length-i.toNat,⟨0,l,rfl,by omega,rfl,ha.keep hb1,.below hb1⟩,?_⟩
 rintro _ w2 ⟨k,l',rfl,hk,hl',o2,f2⟩
 unfold F14_l3
 refine brd (fun hlt=>?_) (fun hge=>hK w2 f2)
 have hk2:k < l'.length:=by omega
 have o20:Own LHn w2 B 65 (slV va) (l'.set k l'[k]):=by rw [List.set_getElem_self];exact o2
 refine o2.elA (v:=va) rfl hk2 rfl fun b hb=>?_
 refine o20.stc2 (j:=0) (a':=4711) hk2 (by decide) rfl hb fun w3 o3 f3=>?_
 exact⟨inR_i64 (by omega) (by omega),⟨k+1,_,by simp,by omega,by simpa using hl',o3,f2.row f3⟩,(by first | omega | (dsimp only;omega))⟩
end
set_option maxRecDepth 100000
def lk3 (D:Im) (ws:List ByteArray) (m:Nat) (i:Nat):List Nat :=
 if i=0 then ((SP D ws).take m).map (·.1) else if i=1 then (((SP D ws).take m).filter fun p=>!innP (SP D ws) p).map (·.1) else (((SP D ws).take m).filter fun p=>hasQ D ws (outP (SP D ws) p) p.2.1 p.2.2).map (·.1)
section
variable {w w1:World}{R:Ending→World→Prop}{gf B m:Nat}{fs:Nat→Sv}{ls ls':Nat→List Nat}{D:Im}{ws:List ByteArray}{g:Nat}{vs vr vw:Sv}{es:List S8}
theorem Fnd3.congr (h:Fnd3 w gf B fs ls) (e:∀i,i < 3→ls i=ls' i):Fnd3 w gf B fs ls':=⟨h.blk,fun i hi=>by rw [←e i hi];exact h.own i hi,h.ap,h.lt⟩
theorem lk3_len (m i:Nat):(lk3 D ws m i).length≤(SP D ws).length:=by
 have h:((SP D ws).take m).length≤(SP D ws).length:=by rw [List.length_take];omega
 unfold lk3
 split
 ·rw [List.length_map];exact h
 ·split
  ·rw [List.length_map];exact Nat.le_trans (List.length_filter_le _ _) h
  ·rw [List.length_map];exact Nat.le_trans (List.length_filter_le _ _) h
theorem lk3_step (hm:m < (SP D ws).length):lk3 D ws (m+1) 0=lk3 D ws m 0++[(SP D ws)[m].1] ∧
  lk3 D ws (m+1) 1=lk3 D ws m 1++(if innP (SP D ws) (SP D ws)[m]=true then [] else [(SP D ws)[m].1]) ∧
  lk3 D ws (m+1) 2=lk3 D ws m 2++(if hasQ D ws (outP (SP D ws) (SP D ws)[m]) (SP D ws)[m].2.1 (SP D ws)[m].2.2=true then [(SP D ws)[m].1] else []):=by
 have htk:(SP D ws).take (m+1)=(SP D ws).take m++[(SP D ws)[m]]:=List.take_succ_eq_append_getElem hm
 refine⟨?_,?_,?_⟩
 ·unfold lk3
  rw [if_pos rfl,if_pos rfl,htk,List.map_append];rfl
 ·unfold lk3
  rw [if_neg (by decide),if_pos rfl,if_neg (by decide),if_pos rfl,htk,List.filter_append,List.map_append]
  congr 1
  rw [List.filter_cons,List.filter_nil]
  cases innP (SP D ws) (SP D ws)[m] <;> rfl
 ·unfold lk3
  rw [if_neg (by decide),if_neg (by decide),if_neg (by decide),if_neg (by decide),htk,List.filter_append,List.map_append]
  congr 1
  rw [List.filter_cons,List.filter_nil]
  cases hasQ D ws (outP (SP D ws) (SP D ws)[m]) (SP D ws)[m].2.1 (SP D ws)[m].2.2 <;> rfl
theorem sp_len (D:Im) (ws:List ByteArray):(SP D ws).length≤(allD' D).length:=Nat.le_trans (List.length_filter_le _ _) (pl_len _)
theorem lookR_calls (h:RW [] w g D vs vr es) (hw:Wf D) (hv:RdV LS w ws vw)
  (h1:canS ws=true→∀va vb vc w',Below w.heap.size w w'→RdV LHn w' (AllS D ws) va→RdV LHn w' (SmallS D ws) vb→RdV LHn w' (BestS D ws) vc→R (.returned (.tuple #[.agg #[slV va,slV vb,slV vc],.int .i64 0])) w')
  (h0:canS ws=false→∀w',Below w.heap.size w w'→R (.returned (.tuple #[.agg #[.slice none 0 0,.slice none 0 0,.slice none 0 0],.int .i64 1])) w') :
  Calls Tryz.prog 10 #[.pointer (some ⟨g,0,none⟩),.slice vw.1 vw.2.1 vw.2.2] w R:=by
 refine ok10 (some ⟨g,0,none⟩) vw.1 vw.2.1 vw.2.2 ?_
 unfold F10
 have hA:=hw.a
 refine al fun g4 w1 hb1 b1 hge1=>?_
 refine canR_calls ws vw (hv.keep hb1) fun w2 hb2=>⟨_,rfl,?_⟩
 have B2:=btr hb1 hb1.size hb2
 have hs1:=hb1.size
 have hs2:=hb2.size
 have hg4:=b1.lt
 rw [brnot]
 refine br (fun hc=>?_) (fun hc=>?_)
 rotate_left
 ·refine st_blk (b1.keep hb2) (by simp) fun u1 q1 f1=>st_blk q1 (by simp) fun u2 q2 f2=>st_blk q2 (by simp) fun w3 b3 f3=>?_
  simp only [List.setIfInBounds_toArray,List.set_cons_zero,List.set_cons_succ] at b3
  have F3:Fm (·=g4) w2 w3:=(f1.trans f2).trans f3
  simp only [Addr.add_mk,Nat.zero_add,b3.cell,lds]
  exact h0 hc w3 (B2.trans (F3.toBelow B2.size fun b hb e=>by have e:b=g4:=e;omega))
 obtain⟨wl0,wl16⟩:=can_len hc
 have hN:(allD' D).length≤4096:=rootsAll_few hw.s hA
 have hst:=st_few hw
 refine All26_calls (h.keep B2) hw fun vl w3 hb3 ol=>⟨_,_,_,rfl,?_⟩
 have B3:=btr B2 B2.size hb3
 refine placesR_calls (h.keep B3) hw (rdV_own ol (by omega)) (hv.keep B3) wl16 fun vp vt rows w4 hb4 op ot=>⟨_,_,_,_,_,_,rfl,?_⟩
 have B4:=btr B3 B3.size hb4
 have hpl:=pl_len (D:=D) (allD' D).length
 have hrdt:RdV LSv w4 rows vt:=rdV_own ot.2.1 (by have:=ot.1;omega)
 have hrws:Rws w4 D ws rows:=⟨ot.1,fun j x hx=>by
  obtain⟨u,p1,p2,_⟩:=ot.2.2 j x (List.getElem?_eq_some_iff.1 hx).1 hx
  exact⟨u,p1,rdV_own p2 (by unfold rowW;rw [List.length_map];omega)⟩⟩
 have rp:RdV LP3 w4 (plF D (allD' D).length) vp:=rdV_own op (by omega)
 refine len_calls (h.keep B4).rdr ⟨_,rfl,?_⟩
 have hnl:(allD' D).length≤liveN D.sl:=live_all hA
 have hn4:liveN D.sl≤4096:=Nat.le_trans (live_le _) h.few
 generalize liveN D.sl=n at hnl hn4 ⊢
 refine⟨by omega,by omega,by omega,?_⟩
 refine al fun g33 w5 hb5 b5 hge5=>?_
 rw [Int.toNat_natCast] at b5
 have o33:Own LBo w5 w4.heap.size 4 (slV (some ⟨g33,0,none⟩,n,n)) (flg n fun _=>false):=by
  have:=Own.lit' (L:=LBo) (xs:=List.replicate n false) (base:=w4.heap.size) b5 hge5 (zrowB _) (by rw [List.length_replicate];unfold maxLen;omega)
  rw [List.length_replicate,flg_rep] at this
  exact this
 have r33:RdV LBo w5 (flg n fun _=>false) (some ⟨g33,0,none⟩,n,n):=rdV_own o33 (by simp [flg];omega)
 have B5:=btr B4 B4.size hb5
 have hs4:=B4.size
 have hs5:=hb5.size
 have hplok:∀q∈plF D (allD' D).length,q.2.1≤q.2.2∧q.2.2≤(allD' D).length:=fun q hq=>pl_ok hA hq
 refine⟨fun A c k i w'=>∃m:Nat,i=m∧m≤(plF D (allD' D).length).length∧Below w5.heap.size w5 w'∧Own LP3 w' w5.heap.size 119 (.slice A c k) (someP D ws ((plF D (allD' D).length).take m)),fun _ _ _ i _=>(plF D (allD' D).length).length-i.toNat,
  ⟨0,rfl,by omega,.refl _ _,Own.nil _ _ _ _⟩,?_⟩
 rintro A sn sc _ w6 ⟨m,rfl,hm,hb6,oS⟩
 have B6:=btr B5 B5.size hb6
 have C6:=btr hb5 hb5.size hb6
 unfold F10_l8
 have hvp:=rp.1
 refine brd (fun hlt=>?_) (fun hge=>?_)
 ·have hm2:m < (plF D (allD' D).length).length:=by omega
  have htk:(plF D (allD' D).length).take (m+1)=(plF D (allD' D).length).take m++[(plF D (allD' D).length)[m]]:=List.take_succ_eq_append_getElem hm2
  have hstep:someP D ws ((plF D (allD' D).length).take (m+1))=someP D ws ((plF D (allD' D).length).take m)++(if hasQ D ws (fun _=>false) (plF D (allD' D).length)[m].2.1 (plF D (allD' D).length)[m].2.2=true then [(plF D (allD' D).length)[m]] else []):=by
   unfold someP
   rw [htk,List.filter_append,List.filter_cons,List.filter_nil]
  have hsl:(someP D ws ((plF D (allD' D).length).take m)).length≤4096:=Nat.le_trans (List.length_filter_le _ _) (by rw [List.length_take];omega)
  refine⟨fun A' n' c' w'=>Below w5.heap.size w5 w'∧Own LP3 w' w5.heap.size 119 (.slice A' n' c') (someP D ws ((plF D (allD' D).length).take (m+1))),?_,?_⟩
  ·rintro A' n' c' w' ⟨q1,q2⟩
   exact⟨inR_i64 (by omega) (by omega),⟨m+1,by simp,by omega,q1,q2⟩,(by first | omega | (dsimp only;omega))⟩
  obtain⟨k1,k2⟩:=hplok _ (List.getElem_mem hm2)
  rw [hstep]
  refine (rp.keep C6).2.2.p3 hvp rfl hm2 fun b2 a2 c0 c1 c2=>?_
  simp only [Addr.add_mk,c0,c1,c2,lds]
  rw [Int.toNat_natCast]
  refine hasR_calls (p:=(plF D (allD' D).length)[m]) (vo:=(some ⟨g33,0,none⟩,n,n)) (out:=fun _=>false) (hrdt.keep C6) (hrws.keep C6) (r33.keep hb6) (fun j hj=>flg_get (by omega)) k1 k2 hN fun w7 hb7=>⟨_,rfl,?_⟩
  have D7:=btr hb6 hb6.size hb7
  refine br (fun ht=>?_) (fun hf=>?_)
  ·rw [if_pos ht]
   refine (rp.keep (btr C6 C6.size hb7)).2.2.p3 hvp rfl hm2 fun b3 a3 d0 d1 d2=>?_
   simp only [Addr.add_mk,d0,d1,d2,lds]
   exact ap1 (L:=LP3) (x:=(plF D (allD' D).length)[m]) (base:=w5.heap.size) (.agg #[.int .u64 0,.int .i64 0,.int .i64 0]) 24 rfl (by kernel_rfl) (by kernel_rfl) (by kernel_rfl) (oS.keep hb7) D7.size (by omega) (by unfold maxLen;omega) fun A3 c3 w8 o8 g8=>⟨A3,_,c3,rfl,D7.trans g8.below,o8⟩
  ·rw [if_neg (by rw [hf];decide),List.append_nil]
   exact⟨D7,oS.keep hb7⟩
 ·obtain rfl:m=(plF D (allD' D).length).length:=by omega
  rw [List.take_length] at oS
  have oS:Own LP3 w6 w5.heap.size 119 (.slice A sn sc) (SP D ws):=oS
  have hSl:(SP D ws).length≤4096:=Nat.le_trans (sp_len D ws) hN
  have rS:RdV LP3 w6 (SP D ws) (A,sn,sc):=rdV_own (v:=(A,sn,sc)) oS (by omega)
  have hup:(SP D ws).Pairwise fun a b=>a.2.1 < b.2.1:=(pl_up (Nat.le_refl _)).filter _
  have hSok:∀q∈SP D ws,q.2.1≤q.2.2∧q.2.2≤(allD' D).length:=fun q hq=>hplok q (List.mem_filter.1 hq).1
  refine al fun gf w7 hb7 b7 hge7=>?_
  have hgf:=b7.lt
  have hs6:=B6.size
  have h7:Fnd3 w7 gf w7.heap.size (fun _=>(none,0,0)) (lk3 D ws 0):=by
   refine⟨b7,fun i hi=>?_,fun i j _ _ _=>.inl rfl,hgf⟩
   have:lk3 D ws 0 i=[]:=by unfold lk3;split <;> (try split) <;> rfl
   rw [this];exact Own.nil _ _ _ _
  refine⟨fun i w'=>∃(m:Nat) (fs:Nat→Sv),i=m∧m≤(SP D ws).length∧Below w6.heap.size w6 w'∧w7.heap.size≤w'.heap.size∧Fnd3 w' gf w7.heap.size fs (lk3 D ws m),fun i _=>(SP D ws).length-i.toNat,⟨0,_,rfl,by omega,hb7,Nat.le_refl _,h7⟩,?_⟩
  rintro _ w8 ⟨m,fs,rfl,hm,hb8,hsz8,h8⟩
  unfold F10_l14
  have hvS:=rS.1
  refine brd (fun hlt=>?_) (fun hge=>?_)
  ·have hm2:m < (SP D ws).length:=by have:sn=(SP D ws).length:=hvS;omega
   obtain⟨st0,st1,st2⟩:=lk3_step hm2
   have hl0:=lk3_len (D:=D) (ws:=ws) m 0
   have hl1:=lk3_len (D:=D) (ws:=ws) m 1
   have hl2:=lk3_len (D:=D) (ws:=ws) m 2
   refine⟨fun w'=>∃fs':Nat→Sv,Below w6.heap.size w6 w'∧w7.heap.size≤w'.heap.size∧Fnd3 w' gf w7.heap.size fs' (lk3 D ws (m+1)),?_,?_⟩
   ·rintro w' ⟨fs',q1,q2,q3⟩
    exact⟨inR_i64 (by omega) (by omega),⟨m+1,fs',by simp,by omega,q1,q2,q3⟩,(by first | omega | (dsimp only;omega))⟩
   have frm:∀{fs:Nat→Sv}{ls:Nat→List Nat}{u u':World}{i:Nat},i < 3→Fnd3 u gf w7.heap.size fs ls→Below w6.heap.size w6 u→Fm (fun b=>b=gf∨rowOf (slV (fs i))=some b) u u'→Below w6.heap.size w6 u':=fun hi hu hb hf=>hb.trans (hf.toBelow hb.size fun b hb2 e=>by
    rcases e with e | e
    ·omega
    ·have:=((hu.own _ hi).lt b e).1;omega)
   refine h8.push (rS.keep hb8) hm2 hsz8 (i:=0) (by decide) (by omega) fun v9 w9 h9 f9=>?_
   have B9:=frm (by decide) h8 hb8 f9
   have hs9:=f9.size
   refine⟨by omega,by omega,by omega,?_⟩
   refine al fun g71 w10 hb10 b10 hge10=>?_
   rw [Int.toNat_natCast] at b10
   have o71:Own LBo w10 w9.heap.size 4 (slV (some ⟨g71,0,none⟩,n,n)) (flg n fun _=>false):=by
    have:=Own.lit' (L:=LBo) (xs:=List.replicate n false) (base:=w9.heap.size) b10 hge10 (zrowB _) (by rw [List.length_replicate];unfold maxLen;omega)
    rw [List.length_replicate,flg_rep] at this
    exact this
   have hrow71:∀b,rowOf (slV (some ⟨g71,0,none⟩,n,n))=some b→b=g71:=fun b hb=>by
    unfold slV at hb
    dsimp only at hb
    cases n with
    | zero=>cases hb
    | succ n=>exact (Option.some.inj hb).symm
   have hrl9:∀i,i < 3→∀b,rowOf (slV ((fun j=>if j=0 then v9 else fs j) i))=some b→b < w9.heap.size:=fun i hi b hb=>((h9.own i hi).lt b hb).2
   have h10:=h9.keep hb10
   have B10:=btr B9 B9.size hb10
   refine⟨fun inner w'=>inner=innP (SP D ws) (SP D ws)[m]∧Fm (fun b=>b=g71) w10 w'∧Own LBo w' w9.heap.size 4 (slV (some ⟨g71,0,none⟩,n,n)) (flg n (outP (SP D ws) (SP D ws)[m])),?_,inR_i64 (by omega) (by omega),mark_walk hup (fun q hq=>⟨(hSok q hq).1,by have:=(hSok q hq).2;omega⟩) hn4 hm2 hSl hb10 (rS.keep B9) hge10 hb10.size o71 fun w' q1 q2=>⟨rfl,q1,q2⟩⟩
   rintro _ w11 ⟨rfl,f11,o11⟩
   unfold F10_j27
   have hs10:=hb10.size
   have hgf9:gf < w9.heap.size:=by omega
   have h11:=h10.fm f11 fun b e=>⟨by omega,fun i hi e2=>by have:=hrl9 i hi b e2;omega⟩
   have B11:Below w6.heap.size w6 w11:=B10.trans (f11.toBelow B10.size fun b hb e=>by have:=B9.size;omega)
   have hs11:=f11.size
   refine⟨fun w'=>∃fs':Nat→Sv,Below w6.heap.size w6 w'∧w7.heap.size≤w'.heap.size∧Fnd3 w' gf w7.heap.size fs' (fun i=>if i=2 then lk3 D ws m 2 else lk3 D ws (m+1) i)∧Own LBo w' w9.heap.size 4 (slV (some ⟨g71,0,none⟩,n,n)) (flg n (outP (SP D ws) (SP D ws)[m])),?_,?_⟩
   ·rintro w12 ⟨fs2,B12,hs12,h12,o12⟩
    unfold F10_j29
    have rS12:=rS.keep B12
    obtain⟨k1,k2⟩:=hSok _ (List.getElem_mem hm2)
    refine rS12.2.2.p3 hvS rfl hm2 fun b2 a2 c0 c1 c2=>?_
    simp only [Addr.add_mk,c0,c1,c2,lds]
    have B12':=btr C6 C6.size B12
    refine hasR_calls (p:=(SP D ws)[m]) (vo:=(some ⟨g71,0,none⟩,n,n)) (out:=outP (SP D ws) (SP D ws)[m]) (hrdt.keep B12') (hrws.keep B12') (rdV_own (v:=(some ⟨g71,0,none⟩,n,n)) o12 (by simp [flg];omega)) (fun j hj=>flg_get (by omega)) k1 k2 hN fun w13 hb13=>⟨_,rfl,?_⟩
    have B13:=btr B12 B12.size hb13
    have h13:=h12.keep hb13
    have hs13:=hb13.size
    refine br (fun ht=>?_) (fun hf=>?_)
    ·rw [if_pos ht] at st2
     try simp only [Addr.add_mk,Nat.zero_add]
     refine h13.push (rS.keep B13) hm2 (by omega) (i:=2) (by decide) (by simp only [if_true];omega) fun v14 w14 h14 f14=>?_
     refine⟨_,frm (by decide) h13 B13 f14,by have:=f14.size;omega,h14.congr fun i hi=>?_⟩
     by_cases e:i=2
     ·subst e;simp only [if_true];exact st2.symm
     ·simp only [if_neg e]
    ·rw [if_neg (by rw [hf];decide),List.append_nil] at st2
     refine⟨_,B13,by omega,h13.congr fun i hi=>?_⟩
     by_cases e:i=2
     ·subst e;simp only [if_true];exact st2.symm
     ·simp only [if_neg e]
   ·rw [brnot]
    refine br (fun ht=>?_) (fun hf=>?_)
    ·rw [if_pos ht,List.append_nil] at st1
     refine⟨_,B11,by omega,h11.congr fun i hi=>?_,o11⟩
     rcases (show i=0∨i=1∨i=2 by omega) with rfl | rfl | rfl
     ·exact st0.symm
     ·exact st1.symm
     ·rfl
    ·rw [if_neg (by rw [hf];decide)] at st1
     try simp only [Addr.add_mk,Nat.zero_add]
     refine h11.push (rS.keep B11) hm2 (by omega) (i:=1) (by decide) (by simp only [if_neg (show ¬(1:Nat)=0 by decide)];omega) fun v12 w12 h12 f12=>?_
     refine⟨_,frm (by decide) h11 B11 f12,by have:=f12.size;omega,h12.congr fun i hi=>?_,own_fm o11 f12 fun b hb e=>?_⟩
     ·rcases (show i=0∨i=1∨i=2 by omega) with rfl | rfl | rfl
      ·exact st0.symm
      ·exact st1.symm
      ·rfl
     ·have:=hrow71 b hb
      rcases e with e | e
      ·omega
      ·have:=hrl9 1 (by decide) b e;omega
  ·obtain rfl:m=(SP D ws).length:=by have:sn=(SP D ws).length:=hvS;omega
   have e0:=h8.cell (i:=0) (by decide)
   have e1:=h8.cell (i:=1) (by decide)
   have e2:=h8.cell (i:=2) (by decide)
   unfold slV at e0 e1 e2
   simp only [Addr.add_mk,Nat.zero_add,e0,e1,e2,lds]
   have B8:=btr B6 B6.size hb8
   have b18:Blk w8 g4 #[.slice none 0 0,.slice none 0 0,.slice none 0 0] 32:=by
    have:=(b1.keep hb2).keep (btr hb3 hb3.size (btr hb4 hb4.size (btr hb5 hb5.size (btr hb6 hb6.size hb8))))
    exact this
   refine st_blk b18 (by simp) fun u1 q1 f1=>st_blk q1 (by simp) fun u2 q2 f2=>st_blk q2 (by simp) fun w9 b9 f3=>?_
   simp only [List.setIfInBounds_toArray,List.set_cons_zero,List.set_cons_succ] at b9
   have F9:Fm (·=g4) w8 w9:=(f1.trans f2).trans f3
   simp only [Addr.add_mk,Nat.zero_add,b9.cell,lds]
   have B9:Below w.heap.size w w9:=B8.trans (F9.toBelow B8.size fun b hb e=>by have e:b=g4:=e;omega)
   have hb21:=hb2.size
   have hb32:=B3.size
   have hrd:∀i,i < 3→RdV LHn w9 (lk3 D ws (SP D ws).length i) (fs i):=fun i hi=>rdV_own (own_fm (h8.own i hi) F9 fun b hb e=>by
    have e:b=g4:=e
    have:=((h8.own i hi).lt b hb).1
    have:=hb7.size
    have:=hb6.size
    have:=hb5.size
    have:=hb4.size
    have:=hb3.size
    omega) (by have:=lk3_len (D:=D) (ws:=ws) (SP D ws).length i;omega)
   have r0:=hrd 0 (by decide)
   have r1:=hrd 1 (by decide)
   have r2:=hrd 2 (by decide)
   unfold lk3 at r0 r1 r2
   rw [if_pos rfl,List.take_length,lk_all hA] at r0
   rw [if_neg (by decide),if_pos rfl,List.take_length,lk_small hA] at r1
   rw [if_neg (by decide),if_neg (by decide),List.take_length,lk_best hA] at r2
   exact h1 hc (fs 0) (fs 1) (fs 2) w9 B9 r0 r1 r2
end
set_option maxRecDepth 100000
def erB (b:Bool):Int:=if b=true then 0 else 1
section
variable {W w:World}{R:Ending→World→Prop}{o:Nat→Nat}{gx gd mt mh:Nat}{D:Im}{S:PS}{nv:Sv}{tv:Nat→Sv}{hv:ByteArray→Sv}{vl vs vr vw:Sv}{ws:List ByteArray}{x:Im}
theorem words_copy {t:TypeId} (hv:RdV LS w ws vw) (hl:ws.length≤1048576) {K:Option Addr→Nat→Nat→World→Prop} (hK:∀A n c w',Below w.heap.size w w'→RdV LS w' ws (A,n,c)→K A n c w') :
  Al w #[] 9 fun g w1=>Raw Tryz.prog (Builtin.append_ #[26,26] 26 #[.slice (some g) 0 0,.slice vw.1 vw.2.1 vw.2.2]) w1 fun v w2=>∃(x:Option Addr) (n c:Nat),v=.slice x n c∧K x n c w2:=by
 refine al fun g w1 hb1 b1 hge1=>?_
 have o1:Own LS w1 w.heap.size 9 (.slice (some ⟨g,0,none⟩) 0 0) []:=.inr (.inl ⟨⟨_,rfl⟩,rfl⟩)
 have hv1:=hv.keep hb1
 have hs1:=hb1.size
 refine ap (L:=LS) (base:=w.heap.size) (ys:=ws) (.string (ByteArray.mk #[])) 16 hv.1 (by kernel_rfl) (by kernel_rfl) (by kernel_rfl) o1 hv1.2.2 hs1 (by rw [List.length_nil];omega) (by unfold maxLen;rw [List.length_nil];omega) fun A c w2 o2 g2=>⟨A,_,c,rfl,?_⟩
 rw [List.nil_append] at o2
 exact hK A _ c w2 (hb1.trans g2.below) (rdV_own (v:=(A,_,c)) o2 (by omega))
theorem own_thru {α:Type}{L:Lay α}{w1 w2 w3:World}{B:Nat}{e:TypeId}{v:Sv}{l:List α}{M:Nat→Prop} (h:Own L w1 B e (slV v) l) (hb:Below w1.heap.size w1 w2) (hf:Fm M w2 w3) (hM:∀b,M b→b < B∨w1.heap.size≤b):Own L w3 B e (slV v) l :=
 own_fm (h.keep hb) hf fun b hb e=>by have:=hM b e;have:=h.lt b hb;omega
theorem beq_no {a:Int}:(a != a)=false:=by simp
end
set_option maxRecDepth 100000
def ifL (ws:List ByteArray) (l:List Nat):List Nat:=if canS ws=true then l else []
section
variable {W w:World}{R:Ending→World→Prop}{o:Nat→Nat}{g gx gd mt mh:Nat}{D:Im}{S:PS}{nv:Sv}{tv:Nat→Sv}{hv:ByteArray→Sv}{vl vs vr vw:Sv}{ws:List ByteArray}{x:Im}{es:List S8}
theorem fnd_few (hw:Wf D) (q:Nat→Nat→Bool):(ifL ws (fndF D ws q)).length≤4096:=by
 unfold ifL fndF
 split
 ·exact Nat.le_trans (List.length_filter_le _ _) (rootsAll_few hw.s hw.a)
 ·simp
theorem All_any (hx:IxR w gx gd mt mh D o S nv tv hv) (hT:Tabs w) (hv:RdV LS w ws vw) (hK:∀v w',Below w.heap.size w w'→Own LHn w' w.heap.size 65 (slV v) (ifL ws (AllS D ws))→R (.returned (.tuple #[slV v,.int .i64 (erB (canS ws))])) w') :
  Calls Tryz.prog 11 #[.pointer (some ⟨gx,0,none⟩),.slice vw.1 vw.2.1 vw.2.2] w R:=by
 unfold ifL erB at hK
 refine All_calls hx hT hv (fun ho v w' hb h=>?_) fun ho w' hb=>?_
 ·rw [ho] at hK;exact hK v w' hb h
 ·rw [ho] at hK;exact hK (none,0,0) w' hb (Own.nil _ _ _ _)
theorem Smallest_any (hx:IxR w gx gd mt mh D o S nv tv hv) (hT:Tabs w) (hv:RdV LS w ws vw) (hK:∀v w',Below w.heap.size w w'→Own LHn w' w.heap.size 65 (slV v) (ifL ws (SmallS D ws))→R (.returned (.tuple #[slV v,.int .i64 (erB (canS ws))])) w') :
  Calls Tryz.prog 12 #[.pointer (some ⟨gx,0,none⟩),.slice vw.1 vw.2.1 vw.2.2] w R:=by
 unfold ifL erB at hK
 refine Smallest_calls hx hT hv (fun ho v w' hb h=>?_) fun ho w' hb=>?_
 ·rw [ho] at hK;exact hK v w' hb h
 ·rw [ho] at hK;exact hK (none,0,0) w' hb (Own.nil _ _ _ _)
theorem Best_any (hx:IxR w gx gd mt mh D o S nv tv hv) (hT:Tabs w) (hv:RdV LS w ws vw) (hK:∀v w',Below w.heap.size w w'→Own LHn w' w.heap.size 65 (slV v) (ifL ws (BestS D ws))→R (.returned (.tuple #[slV v,.int .i64 (erB (canS ws))])) w') :
  Calls Tryz.prog 13 #[.pointer (some ⟨gx,0,none⟩),.slice vw.1 vw.2.1 vw.2.2] w R:=by
 unfold ifL erB at hK
 refine Best_calls hx hT hv (fun ho v w' hb h=>?_) fun ho w' hb=>?_
 ·rw [ho] at hK;exact hK v w' hb h
 ·rw [ho] at hK;exact hK (none,0,0) w' hb (Own.nil _ _ _ _)
theorem lookR_any (h:RW [] w g D vs vr es) (hw:Wf D) (hv:RdV LS w ws vw)
  (hK:∀va vb vc w',Below w.heap.size w w'→RdV LHn w' (ifL ws (AllS D ws)) va→RdV LHn w' (ifL ws (SmallS D ws)) vb→RdV LHn w' (ifL ws (BestS D ws)) vc→R (.returned (.tuple #[.agg #[slV va,slV vb,slV vc],.int .i64 (erB (canS ws))])) w') :
  Calls Tryz.prog 10 #[.pointer (some ⟨g,0,none⟩),.slice vw.1 vw.2.1 vw.2.2] w R:=by
 unfold ifL erB at hK
 have nl:∀w',RdV LHn w' [] (none,0,0):=fun w'=>⟨rfl,by simp,Rd.nil _ _⟩
 refine lookR_calls h hw hv (fun ho va vb vc w' hb r0 r1 r2=>?_) fun ho w' hb=>?_
 ·rw [ho] at hK;exact hK va vb vc w' hb r0 r1 r2
 ·rw [ho] at hK;exact hK (none,0,0) (none,0,0) (none,0,0) w' hb (nl w') (nl w') (nl w')
theorem looksS_calls (hT:Tabs W) (hX:RIm W x vs vr) (hv:RdV LS W ws vw) (hvl:ws.length≤1048576) (hK:∀w',Below W.heap.size W w'→R (.returned (.bool true)) w') :
  Calls Tryz.prog 3 #[.agg #[.slice vs.1 vs.2.1 vs.2.2,.slice vr.1 vr.2.1 vr.2.2],.slice vw.1 vw.2.1 vw.2.2] W R:=by
 refine ok3 vs.1 vs.2.1 vs.2.2 vr.1 vr.2.1 vr.2.2 vw.1 vw.2.1 vw.2.2 ?_
 unfold F3
 refine al fun g1 w1 hb1 b1 hge1=>?_
 have b1:Blk w1 g1 #[slV vs,slV vr] 25:=b1
 simp only [Addr.add_mk,Nat.zero_add,b1.cell,slV,lds]
 refine begins_calls (hX.keep hb1) (hT.keep hb1) fun gx gd w2 D vs' vr' es hw hb2 hix hR=>⟨_,_,_,rfl,?_⟩
 have B2:=btr hb1 hb1.size hb2
 rw [show (!true)=false from rfl,Br_f]
 refine lookR_any hR hw (hv.keep B2) fun va vb vc w3 hb3 ra rb rc=>⟨_,_,_,_,_,_,_,_,_,_,rfl,?_⟩
 have B3:=btr B2 B2.size hb3
 refine al fun gw w4 hb4 b4 hge4=>?_
 refine st_blk b4 (by simp) fun u1 q1 f1=>st_blk q1 (by simp) fun u2 q2 f2=>st_blk q2 (by simp) fun w5 b5 f3=>?_
 simp only [List.setIfInBounds_toArray,List.set_cons_zero,List.set_cons_succ] at b5
 have F5:Fm (·=gw) w4 w5:=(f1.trans f2).trans f3
 have hs4:=hb4.size
 have C5:Below w3.heap.size w3 w5:=hb4.trans (F5.toBelow hs4 fun b hb e=>by have e:b=gw:=e;omega)
 have B5:=btr B3 B3.size C5
 have hix5:=hix.keep (btr hb3 hb3.size C5)
 have ra5:=ra.keep C5
 have rb5:=rb.keep C5
 have rc5:=rc.keep C5
 have b5:Blk w5 gw #[slV va,slV vb,slV vc] 32:=b5
 refine⟨fun i w'=>∃k:Nat,i=k∧k≤2∧Below w5.heap.size w5 w',fun i _=>2-i.toNat,⟨0,rfl,by omega,.refl _ _⟩,?_⟩
 rintro _ w6 ⟨k,rfl,hk,hb6⟩
 have B6:=btr B5 B5.size hb6
 have hT6:=hT.keep B6
 have hv6:=hv.keep B6
 obtain⟨gd',mt,mh,o',S,nv,tv,hv',hx6⟩:=hix5.keep hb6
 unfold F3_l6
 refine brd (fun hlt=>?_) (fun hge=>hK w6 B6)
 refine⟨fun w'=>Below w6.heap.size w6 w',?_,?_⟩
 ·intro w' hb
  exact⟨inR_i64 (by omega) (by omega),⟨k+1,by simp,by omega,btr hb6 hb6.size hb⟩,(by first | omega | (dsimp only;omega))⟩
 refine words_copy (t:=26) hv6 hvl fun A7 n7 c7 w7 hb7 rq7=>?_
 refine All_any (vw:=(A7,n7,c7)) (hx6.keep hb7) (hT6.keep hb7) rq7 fun ua w8 hb8 oa=>⟨_,_,_,_,rfl,?_⟩
 have C8:=btr hb7 hb7.size hb8
 refine words_copy (t:=26) (hv6.keep C8) hvl fun A9 n9 c9 w9 hb9 rq9=>?_
 have C9:=btr C8 C8.size hb9
 refine Smallest_any (vw:=(A9,n9,c9)) (hx6.keep C9) (hT6.keep C9) rq9 fun ub w10 hb10 ob=>⟨_,_,_,_,rfl,?_⟩
 have C10:=btr C9 C9.size hb10
 refine words_copy (t:=26) (hv6.keep C10) hvl fun A11 n11 c11 w11 hb11 rq11=>?_
 have C11:=btr C10 C10.size hb11
 refine Best_any (vw:=(A11,n11,c11)) (hx6.keep C11) (hT6.keep C11) rq11 fun uc w12 hb12 oc=>⟨_,_,_,_,rfl,?_⟩
 have C12:=btr C11 C11.size hb12
 rw [beq_no,Br_f,Br_f,Br_f]
 have s7:=hb7.size;have s8:=hb8.size;have s9:=hb9.size;have s10:=hb10.size;have s11:=hb11.size;have s12:=hb12.size
 have k6:=hb6.size
 have D10:=btr hb11 s11 hb12
 have D8:=btr hb9 s9 (btr hb10 s10 D10)
 have E12:=btr hb6 k6 C12
 have ra_:=fun b h=>oa.lt b h
 have rb_:=fun b h=>ob.lt b h
 have rc_:=fun b h=>oc.lt b h
 have cw:∀{w'},Below w6.heap.size w6 w'→Blk w' gw #[slV va,slV vb,slV vc] 32:=fun hb=>b5.keep (btr hb6 k6 hb)
 have e12:=cw C12
 simp only [Addr.add_mk,Nat.zero_add,e12.cell,slV,lds]
 have few0:=fnd_few (ws:=ws) hw fun _ _=>true
 have few1:=fnd_few (ws:=ws) hw (qS (slA D.sl) ws)
 have few2:=fnd_few (ws:=ws) hw (qB (slA D.sl) ws)
 refine nodesL_calls (oa.keep D8) (ra5.keep E12) (by unfold AllS;omega) (by omega) fun w13 f13=>⟨_,rfl,?_⟩
 rw [show (!true)=false from rfl,Br_f]
 have C13:Below w6.heap.size w6 w13:=C12.trans (f13.toBelow (by omega) fun b hb h=>by have:=ra_ b h;omega)
 have e13:=cw C13
 simp only [Addr.add_mk,Nat.zero_add,e13.cell,slV,lds]
 refine nodesL_calls (own_thru ob D10 f13 fun b h=>by have:=ra_ b h;omega) (rb5.keep (btr hb6 k6 C13)) (by unfold SmallS;omega) (by have:=f13.size;omega) fun w14 f14=>⟨_,rfl,?_⟩
 rw [show (!true)=false from rfl,Br_f]
 have G14:Fm (fun b=>rowOf (slV ua)=some b∨rowOf (slV ub)=some b) w12 w14:=(f13.mono fun b _ h=>.inl h).trans (f14.mono fun b _ h=>.inr h)
 have m14:∀b,(rowOf (slV ua)=some b∨rowOf (slV ub)=some b)→w6.heap.size≤b∧b < w10.heap.size:=fun b h=>by
  rcases h with h | h
  ·have:=ra_ b h;omega
  ·have:=rb_ b h;omega
 have C14:Below w6.heap.size w6 w14:=C12.trans (G14.toBelow (by omega) fun b hb h=>by have:=m14 b h;omega)
 have e14:=cw C14
 simp only [Addr.add_mk,Nat.zero_add,e14.cell,slV,lds]
 refine nodesL_calls (own_thru oc (.refl _ _) G14 fun b h=>by have:=m14 b h;omega) (rc5.keep (btr hb6 k6 C14)) (by unfold BestS;omega) (by have:=G14.size;omega) fun w15 f15=>⟨_,rfl,?_⟩
 rw [show (!true)=false from rfl,Br_f]
 exact C14.trans (f15.toBelow (by have:=G14.size;omega) fun b hb h=>by have:=rc_ b h;omega)
end
end Go.Proofs.YtccplipiahdhiaaGreatDoor
namespace Go.Proofs.YtccplipiahdhiaaGreatDoor
open Go.RowKit Go.Deep Go.WideShapes Go.ChangeShapes
section
variable {H:Type}{enc:TypeId × Value→H}{P:Program}{W:World}{α:Type}
theorem cells_of_rows {L:Lay α}{w:World}{b o:Nat}:∀(xs:List α),(∀i (h:i < xs.length),∀j u,(L.cells xs[i])[j]?=some u→w.cell? ⟨b,o+i*L.n+j,none⟩=some u) →
  ∀j u,(L.all xs)[j]?=some u→w.cell? ⟨b,o+j,none⟩=some u:=by
 intro xs h j u hj
 have hlt:j < xs.length*L.n:=by rw [←L.all_length];exact (List.getElem?_eq_some_iff.1 hj).1
 have hi:j / L.n < xs.length:=(Nat.div_lt_iff_lt_mul L.pos).2 hlt
 have hr:j % L.n < L.n:=Nat.mod_lt _ L.pos
 have hd:j / L.n*L.n+j % L.n=j:=by rw [Nat.mul_comm];exact Nat.div_add_mod j L.n
 have:=h (j / L.n) hi (j % L.n) u (by rw [←L.all_at xs _ hi _ hr,hd];exact hj)
 rwa [Nat.add_assoc,hd] at this
end
end Go.Proofs.YtccplipiahdhiaaGreatDoor
namespace Go.Proofs.YtccplipiahdhiaaGreatDoor
open Go.RowKit Go.Deep Go.WideShapes Go.ChangeShapes Go.Vc
set_option linter.unusedSimpArgs false
set_option linter.unusedVariables false
set_option maxRecDepth 100000
theorem upto_one {H:Type} (d:DataW H):1≤Rows.uptoBulk d:=by
 cases d with
 | lit l=>cases l <;> simp only [Rows.uptoBulk] <;> omega
 | _=>simp only [Rows.uptoBulk];omega
theorem upto_len {H:Type}:∀(l:List (DataW H)),l.length≤Rows.uptoBulkAll l
 | []=>by simp
 | d :: l=>by
  have:=upto_len l
  have:=upto_one d
  simp only [Rows.uptoBulkAll,List.length_cons];omega
theorem upto_part {H:Type}{d:DataW H}:∀{l:List (DataW H)},d∈l→Rows.uptoBulk d≤Rows.uptoBulkAll l
 | e :: l,h=>by
  simp only [Rows.uptoBulkAll]
  rcases List.mem_cons.1 h with rfl | h
  ·omega
  ·have:=upto_part h;omega
theorem upto_small {H:Type}{d:DataW H}{l:List (DataW H)} (hk:Rows.uptoSmall H l=true) (h:d∈l):Rows.uptoBulk d≤1048576 :=
 Nat.le_trans (upto_part h) (of_decide_eq_true hk)
section
variable {H:Type}{enc:TypeId × Value→H}{P:Program}{W:World}{α:Type}
theorem trod_parts {t:TypeId}{fs:Array Field}{fuel:Nat}{cs:List Value}{x:DataW H × List MemPlace} (ht:P.underlying t=some (.struct fs)) (h:DataW.trod enc P W 0 (fun _=>true) true fuel t cs=some x) :
  cs.length=P.cellsOf t∧∀(i:Nat) (f:Field),fs[i]?=some f→∃n y,DataW.trod enc P W 0 (fun _=>true) true n f.type ((cs.drop f.offset).take (P.cellsOf f.type))=some y∧Rows.uptoBulk y.1 < Rows.uptoBulk x.1:=by
 obtain⟨xs,n,_,rfl,hl,hlen,hf⟩:=DataW.trod_struct ht h
 refine⟨hl,fun i f hi=>?_⟩
 have hlt:i < xs.length:=by rw [hlen];exact (Array.getElem?_eq_some_iff.1 hi).1
 refine⟨n,xs[i],?_,?_⟩
 ·rw [hf i f hi,List.getElem?_eq_getElem hlt]
 ·have:=upto_part (List.mem_map.2 ⟨xs[i],List.getElem_mem hlt,rfl⟩:xs[i].1∈xs.map (·.1))
  simp only [Rows.uptoBulk];omega
theorem open_bk [Inhabited α] (L:Lay α) (Q:α→Prop) {t e:TypeId}{fuel:Nat}{cs:List Value}{x:DataW H × List MemPlace} (h:DataW.trod enc P W 0 (fun _=>true) true fuel t cs=some x) (ht:P.underlying t=some (.slice e)) (hC:P.cellsOf e=L.n)
  (hel:∀(n:Nat) (cs:List Value) (y:DataW H × List MemPlace),DataW.trod enc P W 0 (fun _=>true) true n e cs=some y→Rows.uptoBulk y.1 < Rows.uptoBulk x.1→∃z:α,cs=L.cells z∧Q z) :
  ∃A c xs,cs=[.slice A xs.length c]∧Rd L W A c xs∧(∀y∈xs,Q y)∧xs.length≤Rows.uptoBulk x.1:=by
 rcases open_slice ht h with ⟨hcs,_⟩ | ⟨a,len,cap,m,n,D,Pl,hcs,_,hl,hm,hmm,hx,hi⟩
 ·exact⟨none,0,[],hcs,Rd.nil _ _,by simp,by simp⟩
 ·have hlm:len≤m:=by rw [hmm];simp;exact hl
  have hx1:=(Prod.mk.inj hx).1
  rw [hx1] at hel ⊢
  have hbulk:∀i,i < len→Rows.uptoBulk (D i) < Rows.uptoBulk (.slice ((List.range len).map D) ((List.range (m-len)).map fun j=>D (len+j))):=fun i hi=>by
   have:=upto_part (List.mem_map.2 ⟨i,List.mem_range.2 hi,rfl⟩:D i∈(List.range len).map D)
   simp only [Rows.uptoBulk];omega
  obtain⟨f,hfx⟩:=choose_lt (α:=α) (n:=len) (p:=fun i y=>(∀j u,(L.cells y)[j]?=some u→W.cell? ((a.add (i*L.n)).add j)=some u)∧Q y) (fun i hil=>by
   obtain⟨cs',h1,h2⟩:=hi i (by omega)
   obtain⟨y,rfl,hq⟩:=hel _ _ _ h2 (hbulk i hil)
   obtain⟨_,hlen,hat⟩:=World.cells?_some h1
   refine⟨y,fun j u hj=>?_,hq⟩
   rw [hC] at hat hlen
   rw [hat j (by rw [←L.len y];exact (List.getElem?_eq_some_iff.1 hj).1)]
   exact hj)
  refine⟨some a,cap,(List.range len).map f,by simpa using hcs,⟨by simpa using hl,hm,(fun h=>by cases h),fun h0=>?_⟩,fun y hy=>?_,?_⟩
  ·simp at h0
   have hspot:a.spot=Option.none:=by
    have hy:=(hfx 0 h0).1
    have hn:0 < (L.cells (f 0)).length:=by rw [L.len];exact L.pos
    have:=hy 0 _ (List.getElem?_eq_getElem hn)
    simp only [Nat.zero_mul,Addr.add,if_true] at this
    unfold World.cell? at this
    cases hs:a.spot with
    | none=>rfl
    | some q =>
     split at this
     ·rw [hs] at this;simp at this
     ·cases this
   obtain⟨b,o,s⟩:=a
   simp only at hspot
   subst hspot
   refine⟨b,o,rfl,cells_of_rows _ (fun i hi j u hj=>?_)⟩
   simp at hi hj
   have:=(hfx i hi).1 j u hj
   rw [Addr.add_lit,Addr.add_lit] at this
   exact this
  ·obtain⟨i,hi,rfl⟩:=List.mem_map.1 hy
   exact (hfx i (List.mem_range.1 hi)).2
  ·have:=upto_len ((List.range len).map D)
   simp only [Rows.uptoBulk,List.length_map,List.length_range] at this ⊢
   omega
theorem list2 {α:Type}{l:List α} (h:l.length=2):∃a b,l=[a,b]:=by
 match l,h with
 | [a,b],_=>exact⟨a,b,rfl⟩
end
instance:Inhabited E5:=⟨⟨0,noB,(none,0,0),noB,(none,0,0)⟩⟩
instance:Inhabited At:=⟨⟨noB,noB⟩⟩
instance:Inhabited Ac:=⟨⟨0,0,false,0,0,noB,noB,.mk 0 noB [] noB []⟩⟩
instance:Inhabited E12:=⟨⟨default,default⟩⟩
section
variable {H:Type}{enc:TypeId × Value→H}{W:World}
theorem kStr:(Tryz.prog).cellsOf 9=1:=by kernel_rfl
theorem kInt:(Tryz.prog).cellsOf 3=1:=by kernel_rfl
theorem kBool:(Tryz.prog).cellsOf 4=1:=by kernel_rfl
theorem kHn:(Tryz.prog).cellsOf 65=1:=by kernel_rfl
theorem kAts:(Tryz.prog).cellsOf 81=1:=by kernel_rfl
theorem kAt:(Tryz.prog).cellsOf 205=2:=by kernel_rfl
theorem at_cells (n:Nat) (cs:List Value) (x:DataW H × List MemPlace) (h:DataW.trod enc Tryz.prog W 0 (fun _=>true) true n 205 cs=some x):∃y:At,cs=LAt.cells y:=by
 obtain⟨hl,hp⟩:=trod_parts Tryz.underlying205 h
 obtain⟨a,b,rfl⟩:=list2 (hl.trans kAt)
 obtain⟨_,_,h0,-⟩:=hp 0 _ rfl
 obtain⟨_,_,h1,-⟩:=hp 1 _ rfl
 simp only [List.getElem_toArray,List.getElem_cons_zero,List.getElem_cons_succ,kStr,List.drop_zero,List.drop_succ_cons,List.take_succ_cons,List.take_zero] at h0 h1
 obtain⟨s,e0,-,-⟩:=DataW.trod_string Tryz.underlying9 h0
 obtain⟨t,e1,-,-⟩:=DataW.trod_string Tryz.underlying9 h1
 simp only [List.cons.injEq,and_true] at e0 e1
 subst e0 e1
 exact⟨⟨s,t⟩,rfl⟩
theorem ats_cells {n:Nat}{cs:List Value}{x:DataW H × List MemPlace} (h:DataW.trod enc Tryz.prog W 0 (fun _=>true) true n 81 cs=some x) (hx:Rows.uptoBulk x.1≤1048576):∃(v:Sv) (l:List At),cs=[.slice v.1 v.2.1 v.2.2]∧RR LAt W l v:=by
 obtain⟨A,c,l,e,hr,-,hlen⟩:=open_bk LAt (fun _=>True) h Tryz.underlying81 kAt fun n cs y hy _=>by
  obtain⟨z,hz⟩:=at_cells n cs y hy
  exact⟨z,hz,trivial⟩
 exact⟨(A,l.length,c),l,e,Nat.le_trans hlen hx,rfl,hr⟩
theorem hn_cells {n:Nat}{cs:List Value}{x:DataW H × List MemPlace} (h:DataW.trod enc Tryz.prog W 0 (fun _=>true) true n 65 cs=some x):∃k:Nat,k < 18446744073709551616∧cs=[.int .u64 (k:Nat)]:=by
 obtain⟨k,rfl,-,hw⟩:=DataW.trod_int Tryz.underlying65 h
 have hx:0≤k∧k≤18446744073709551615:=by simpa [Lit.wf,IntKind.min,IntKind.max,IntKind.signed,IntKind.bits] using hw
 exact⟨k.toNat,by omega,by rw [Int.toNat_of_nonneg hx.1]⟩
end
set_option maxRecDepth 100000
section
variable {H:Type}{enc:TypeId × Value→H}{W:World}
theorem strs_open {n:Nat}{cs:List Value}{x:DataW H × List MemPlace} (h:DataW.trod enc Tryz.prog W 0 (fun _=>true) true n 26 cs=some x) (hx:Rows.uptoBulk x.1≤1048576) :
  ∃(v:Sv) (l:List ByteArray),cs=[slV v]∧RdV LS W l v∧l.length≤1048576:=by
 obtain⟨A,c,l,e,hr,hq,hlen⟩:=open_bk LS (fun _=>True) h Tryz.underlying26 kStr fun n cs y hy hb=>by
  obtain⟨s,rfl,-,-⟩:=DataW.trod_string Tryz.underlying9 hy
  exact⟨s,rfl,trivial⟩
 exact⟨(A,l.length,c),l,e,⟨rfl,by omega,hr⟩,Nat.le_trans hlen hx⟩
end
set_option maxRecDepth 100000
instance:Inhabited S8:=⟨⟨0,false,0,noB,(none,0,0),noB,0,(none,0,0)⟩⟩
theorem list8 {α:Type}{l:List α} (h:l.length=8):∃a b c d e f g i,l=[a,b,c,d,e,f,g,i]:=by
 match l,h with
 | [a,b,c,d,e,f,g,i],_=>exact⟨a,b,c,d,e,f,g,i,rfl⟩
theorem z2_of {w:World}:∀(es:List S8),(∀e∈es,∃s,RSl w s e∧SlOk s)→∃l:List Sl,Z2 (RSl w) l es∧∀s∈l,SlOk s
 | [],_=>⟨[],rfl,by simp⟩
 | e :: es,h=>by
  obtain⟨s,h1,h2⟩:=h e (by simp)
  obtain⟨l,h3,h4⟩:=z2_of es fun x hx=>h x (by simp [hx])
  exact⟨s :: l,⟨e,es,rfl,h1,h3⟩,fun x hx=>by
   rcases List.mem_cons.1 hx with rfl | hx
   ·exact h2
   ·exact h4 x hx⟩
section
variable {H:Type}{enc:TypeId × Value→H}{W:World}
theorem kU32:(Tryz.prog).cellsOf 160=1:=by kernel_rfl
theorem kHns:(Tryz.prog).cellsOf 23=1:=by kernel_rfl
theorem kSls:(Tryz.prog).cellsOf 22=1:=by kernel_rfl
theorem kSl:(Tryz.prog).cellsOf 162=8:=by kernel_rfl
theorem kIm:(Tryz.prog).cellsOf 25=2:=by kernel_rfl
theorem hns_cells {n:Nat}{cs:List Value}{x:DataW H × List MemPlace} (h:DataW.trod enc Tryz.prog W 0 (fun _=>true) true n 23 cs=some x) (hx:Rows.uptoBulk x.1≤1048576):∃(v:Sv) (l:List Nat),cs=[.slice v.1 v.2.1 v.2.2]∧RR LHn W l v∧∀k∈l,k < 18446744073709551616:=by
 obtain⟨A,c,l,e,hr,hq,hlen⟩:=open_bk LHn (fun k=>k < 18446744073709551616) h Tryz.underlying23 kHn fun n cs y hy _=>by
  obtain⟨k,hk,rfl⟩:=hn_cells hy
  exact⟨k,rfl,hk⟩
 exact⟨(A,l.length,c),l,e,⟨Nat.le_trans hlen hx,rfl,hr⟩,hq⟩
theorem sl_cells {n:Nat}{cs:List Value}{x:DataW H × List MemPlace} (h:DataW.trod enc Tryz.prog W 0 (fun _=>true) true n 162 cs=some x) (hx:Rows.uptoBulk x.1≤1048576):∃e:S8,cs=LS8.cells e∧∃s,RSl W s e∧SlOk s:=by
 obtain⟨hl,hp⟩:=trod_parts Tryz.underlying162 h
 obtain⟨a,b,c,d,e,f,g,i,rfl⟩:=list8 (hl.trans kSl)
 obtain⟨_,_,h0,b0⟩:=hp 0 _ rfl
 obtain⟨_,_,h1,b1⟩:=hp 1 _ rfl
 obtain⟨_,_,h2,b2⟩:=hp 2 _ rfl
 obtain⟨_,_,h3,b3⟩:=hp 3 _ rfl
 obtain⟨_,_,h4,b4⟩:=hp 4 _ rfl
 obtain⟨_,_,h5,b5⟩:=hp 5 _ rfl
 obtain⟨_,_,h6,b6⟩:=hp 6 _ rfl
 obtain⟨_,_,h7,b7⟩:=hp 7 _ rfl
 simp only [List.getElem_toArray,List.getElem_cons_zero,List.getElem_cons_succ,kInt,kStr,kBool,kHn,kU32,kAts,kHns,List.drop_zero,List.drop_succ_cons,List.take_succ_cons,List.take_zero] at h0 h1 h2 h3 h4 h5 h6 h7
 obtain⟨q0,e0,-,hw⟩:=DataW.trod_int Tryz.underlying160 h0
 have hw:0≤q0∧q0≤4294967295:=by simpa [Lit.wf,IntKind.min,IntKind.max,IntKind.signed,IntKind.bits] using hw
 obtain⟨q1,e1,-⟩:=DataW.trod_bool Tryz.underlying4 h1
 obtain⟨q2,e2,-,-⟩:=DataW.trod_int Tryz.underlying3 h2
 obtain⟨q3,e3,-,-⟩:=DataW.trod_string Tryz.underlying9 h3
 obtain⟨q4,l4,e4,r4⟩:=ats_cells h4 (by omega)
 obtain⟨q5,e5,-,-⟩:=DataW.trod_string Tryz.underlying9 h5
 obtain⟨q6,l6,e6⟩:=hn_cells h6
 obtain⟨q7,l7,e7,r7,k7⟩:=hns_cells h7 (by omega)
 simp only [List.cons.injEq,and_true] at e0 e1 e2 e3 e4 e5 e6 e7
 subst e0 e1 e2 e3 e4 e5 e6 e7
 obtain⟨n0,rfl⟩:∃n0:Nat,q0=n0:=⟨q0.toNat,by omega⟩
 exact⟨⟨n0,q1,q2,q3,q4,q5,q6,q7⟩,rfl,⟨n0,q1,q2,q3,l4,q5,q6,l7⟩,⟨rfl,rfl,rfl,rfl,rfl,rfl,r4,r7⟩,⟨by show n0 < _;omega,l6,k7⟩⟩
theorem im_open {n:Nat}{cs:List Value}{x:DataW H × List MemPlace} (h:DataW.trod enc Tryz.prog W 0 (fun _=>true) true n 25 cs=some x) (hx:Rows.uptoBulk x.1≤1048576):∃(X:Im) (vs vr:Sv),cs=[.slice vs.1 vs.2.1 vs.2.2,.slice vr.1 vr.2.1 vr.2.2]∧RIm W X vs vr:=by
 obtain⟨hl,hp⟩:=trod_parts Tryz.underlying25 h
 obtain⟨a,b,rfl⟩:=list2 (hl.trans kIm)
 obtain⟨_,_,h0,b0⟩:=hp 0 _ rfl
 obtain⟨_,_,h1,b1⟩:=hp 1 _ rfl
 simp only [List.getElem_toArray,List.getElem_cons_zero,List.getElem_cons_succ,kSls,kHns,List.drop_zero,List.drop_succ_cons,List.take_succ_cons,List.take_zero] at h0 h1
 obtain⟨A,c,es,e0,hr,hq,hlen⟩:=open_bk LS8 (fun e=>∃s,RSl W s e∧SlOk s) h0 Tryz.underlying22 kSl fun n cs y hy hb=>sl_cells hy (by omega)
 obtain⟨vr,l,e1,r1,k1⟩:=hns_cells h1 (by omega)
 obtain⟨sl,z1,z2⟩:=z2_of es hq
 simp only [List.cons.injEq,and_true] at e0 e1
 subst e0 e1
 have:=z1.len
 exact⟨⟨sl,l⟩,(A,es.length,c),vr,rfl,⟨by show sl.length≤_;omega,⟨es,rfl,hr,z1⟩,r1,z2,k1⟩⟩
end
end Go.Proofs.YtccplipiahdhiaaGreatDoor
/- Search: SearchLooks, the card. -/
namespace Go.Proofs.YtccplipiahdhiaaGreatDoor.searchLooks
open Go.ChangeShapes Go.WideShapes Go.ChangeAt Go.RowKit Go.Joins Go.Lib Go.Vc
open Go.ChangeMaps (open_string shut_string)
set_option maxRecDepth 100000
set_option linter.unusedVariables false
set_option linter.unusedSimpArgs false
theorem own : ownKnob Tryz.prog.godebug = none := by kernel_rfl
theorem laidOut : laidOutB Tryz.prog = true := by kernel_rfl
/-- A world in which the tables are laid. -/
noncomputable def laidWorld (os : Os) : World :=
  let w0 := World.holding Tryz.prog os ⟨#[], #[], []⟩
  let put (h : Array Obj) (g : Nat) (cs : Array Value) : Array Obj := h.modify g fun
    | .cells _ t frozen => .cells cs t frozen
    | o => o
  let h1 := put w0.heap 1 (Lib.firstTab.map fun z => Value.int .u8 z).toArray
  let h2 := put h1 2 ((List.range 16).flatMap fun i => [Value.int .u8 (Lib.accLo i), Value.int .u8 (Lib.accHi i)]).toArray
  { w0 with heap := h2 }
theorem laid_met (os : Os) : laidMet Tryz.prog Rows.searchLooksUptoRow.laid ((laidWorld os).forCall (fun _ _ => 0) ⟨#[], #[.agg #[.slice none 0 0, .slice none 0 0], .slice none 0 0], []⟩).memory :=
  (LaidIn.of_run (l := Rows.searchLooksUptoRow.laid) [2, 1] 8 (by kernel_rfl) (by kernel_rfl) (by kernel_rfl) (by kernel_rfl)).met
theorem u8Types : U8Types Tryz.prog decRen := { decLays with }
theorem tabs_of {W : World} (h : laidMet Tryz.prog Rows.searchLooksUptoRow.laid W) : Tabs W :=
  utf8Tabs_of_readsT (ρ := decRen) u8Types ⟨by kernel_rfl, by kernel_rfl, by kernel_rfl, by kernel_rfl, by kernel_rfl, by kernel_rfl, by kernel_rfl⟩
    (by rw [← Pinned.utf8First_eq]; exact Lib.laidMet.reads h (.tail _ (.head _))) (Lib.laidMet.reads h (.head _))
theorem reads (os : Os) {H : Type} (enc : TypeId × Value → H) : ∃ places, DataW.whole enc Tryz.prog ((laidWorld os).forCall (fun _ _ => 0) ⟨#[], #[.agg #[.slice none 0 0, .slice none 0 0], .slice none 0 0], []⟩).memory Tryz.f3.params.toList Rows.searchLooksSpec.vars false (#[.agg #[.slice none 0 0, .slice none 0 0], .slice none 0 0] : Array Value).toList 8 = some ([.agg [.nil, .nil], .nil], [], places) :=
  ⟨[], by kernel_rfl⟩
theorem lifted (os : Os) (started : os.Started) (H : Type) (enc : TypeId × Value → H) (F : Stop.Interp) :
    ReturnsInHanded {} Tryz.checked os 3 .any ((Rows.OpenSpec.upto Rows.searchLooksSpec).preRow enc Tryz.prog Tryz.f3 Rows.searchLooksUptoRow.domain false Rows.searchLooksUptoRow.laid) (((Rows.OpenSpec.upto Rows.searchLooksSpec).at F).post enc Tryz.prog Tryz.f3 false true false false) := by
  obtain ⟨places, hx⟩ := reads os enc
  refine returnsInHanded_of_row (C := Tryz.checked) (s := Rows.OpenSpec.upto Rows.searchLooksSpec) own started (by kernel_rfl) Tryz.func3
    (witness_row_at (enc := enc) (C := Tryz.checked) false (laidWorld os) #[.agg #[.slice none 0 0, .slice none 0 0], .slice none 0 0] rfl (by kernel_rfl) (by kernel_rfl) (by kernel_rfl)
      (OpenSpec.preRow_of_cond 8 hx (by kernel_rfl) (fun k hk => by cases hk; kernel_rfl) (by kernel_rfl) (laid_met os))) ?_
  intro W base args ds gs before hval0 hW _ hcond hsz0 hL _ _
  rw [MakeChecks.laidMetH_plain _ _ _ (by kernel_rfl)] at hL
  have hT : Tabs W := tabs_of hL
  have hk : Rows.uptoSmall H (ds ++ gs) = true := hcond _ rfl
  have hval : ∀ (j : Nat) t v, Tryz.f3.params[j]? = some t → args[j]? = some v → Value.okWide Tryz.prog W .any base t v := hval0
  have hWw : DataW.Whole enc Tryz.prog Tryz.f3.params.toList Rows.searchLooksSpec.vars false W args.toList ds gs before := hW
  clear hW
  have hW := hWw
  obtain ⟨p, q, hA0, hV, rfl, hfz, hnd⟩ := hW
  have hW' := hWw
  have hA : DataW.TrodAll enc Tryz.prog W 0 (fun _ => true) true Tryz.f3.params.toList args.toList ds p := hA0
  rw [Tryz.params3] at hA hval
  obtain ⟨v0, vs0, d0, ds0, p0, q0, hargs, rfl, rfl, h0, r0⟩ := trodAll_cons hA
  obtain ⟨v1, vs1, d1, ds1, p1, q1, rfl, rfl, rfl, h1, r1⟩ := trodAll_cons r0
  obtain ⟨rfl, rfl, rfl⟩ := trodAll_nil r1
  obtain rfl : args = #[v0, v1] := by cases args; simp_all
  obtain ⟨rfl, rfl⟩ := trodVars_none hV
  have k0 := h0
  have lt0 : ∀ x ∈ p0, x.block < W.heap.size := by obtain ⟨m, hm⟩ := k0; exact DataW.trod_lt m _ _ _ hm
  have k1 := h1
  have lt1 : ∀ x ∈ p1, x.block < W.heap.size := by obtain ⟨m, hm⟩ := k1; exact DataW.trod_lt m _ _ _ hm
  clear hA0 hval0
  obtain ⟨cs0, rfl, -⟩ := okWide_struct Tryz.underlying25 (hval 0 25 _ rfl rfl)
  obtain ⟨lb, lm, ld, rfl⟩ := okWide_slice Tryz.underlying26 (hval 1 26 _ rfl rfl)
  obtain ⟨fl, hfl⟩ := h0
  obtain ⟨X, vs, vr, hle, hX⟩ := im_open hfl (upto_small hk (by simp))
  obtain ⟨fm, hfm⟩ := h1
  obtain ⟨vw, ws, hlf, hW2, hwl⟩ := strs_open hfm (upto_small hk (by simp))
  unfold slV at hlf
  simp [Value.cells] at hlf
  obtain ⟨rfl, rfl, rfl⟩ := hlf
  obtain rfl : cs0 = #[.slice vs.1 vs.2.1 vs.2.2, .slice vr.1 vr.2.1 vr.2.2] := by
    apply Array.ext'
    simpa [Value.cells] using hle
  refine (looksS_calls (R := fun e W' => e = .returned (.bool true) ∧ Below W.heap.size W W') hT hX hW2 hwl fun w' hb => ⟨rfl, hb⟩).mono fun e W' ⟨he, bel⟩ => ?_
  subst he
  exact ⟨_, rfl, _, _, _, [], _, [], hW', trodAll_mk1 (shut_bool Tryz.underlying4 _), (trodAll_cons_mk (Below.trod laidOut (by kernel_rfl) (of_decide_eq_true (by kernel_rfl)) k0 bel lt0) (trodAll_cons_mk (Below.trod laidOut (by kernel_rfl) (of_decide_eq_true (by kernel_rfl)) k1 bel lt1) trodAll_mk0)), rfl, bel.frame _, fun h => by cases h⟩
theorem said : Rows.SearchLooksUptoSaid :=
  OpenClaim.holds_of_cond 3 Tryz.f3 rfl rfl rfl rfl rfl rfl rfl ⟨rfl, rfl, rfl, rfl, rfl⟩ rfl rfl rfl rfl rfl (by kernel_rfl) Tryz.func3 (by kernel_rfl)
    (of_decide_eq_true (by kernel_rfl)) (by unfold Func.isWrapper; first | (rw [if_neg (of_decide_eq_false (by kernel_rfl))]; exact ⟨rfl, rfl⟩) | (rw [if_pos (of_decide_eq_true (by kernel_rfl))]; kernel_rfl))
    (fun os started H enc _ F => by rw [OpenClaim.pre_eq_preRow]; exact lifted os started H enc F)
theorem plain (f : FuncId) (fn : Func) (hf : Tryz.pinned.checked.prog.funcNamed "espalier/espalierlaw26.SearchLooks" = some f) (hfn : Tryz.pinned.checked.prog.funcs[f]? = some fn) :
    false = Tryz.pinned.checked.prog.looks [] ∧ ∀ (j : Nat) t, fn.params[j]? = some t → Tryz.pinned.checked.prog.wantsStandIn t = false := by
  obtain rfl : f = 3 := Option.some.inj ((show Tryz.prog.funcNamed "espalier/espalierlaw26.SearchLooks" = some 3 by kernel_rfl).symm.trans hf) |>.symm
  obtain rfl : fn = Tryz.f3 := (Option.some.inj (Tryz.func3.symm.trans hfn)).symm
  refine ⟨by kernel_rfl, fun j t ht => ?_⟩
  have hm : t ∈ Tryz.f3.params.toList := by simpa using Array.mem_of_getElem? ht
  have hall : (Tryz.f3.params.toList.all fun u => !Tryz.prog.wantsStandIn u) = true := by kernel_rfl
  exact (show Tryz.prog.wantsStandIn t = false by simpa using List.all_eq_true.1 hall t hm)
end Go.Proofs.YtccplipiahdhiaaGreatDoor.searchLooks
namespace Go.Proofs.YtccplipiahdhiaaGreatDoor
open Go.ChangeShapes Go.WideShapes Go.ChangeAt Go.RowKit Go.Joins Go.Lib
theorem searchLooks_holds : Rows.SearchLooksUptoCardSaid :=
  Claim7.holds_tied_plain_at .later [] _ _ _ _ searchLooks.said (fun _ h => by cases h) (by kernel_rfl) (fun _ h => by cases h) searchLooksUpto_row_tie rfl ⟨rfl, rfl⟩ (by kernel_rfl) rfl searchLooks.plain (by kernel_rfl)
#print axioms searchLooks_holds
end Go.Proofs.YtccplipiahdhiaaGreatDoor
