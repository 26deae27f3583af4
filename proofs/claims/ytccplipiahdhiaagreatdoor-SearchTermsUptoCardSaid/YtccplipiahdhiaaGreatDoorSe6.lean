/- SearchTerms: each word is found as often as it says; those that begin so are those of all that do. -/
import Derived.Test.YtccplipiahdhiaaGreatDoorProg
import Derived.Lib.ConvBytes
import Derived.Laws.IdiomStrings
import Derived.Shelf.Strings.FuncGrows
import Derived.Shelf.SlSortCmp.NoneTotal
import Derived.Laws.CopyRow
import Derived.Lib.SliceRun
import Derived.Test.YtccplipiahdhiaaGreatDoorSe5
namespace Go.Proofs.YtccplipiahdhiaaGreatDoor
open Go.RowKit Go.Vc
set_option linter.unusedVariables false
set_option linter.unusedSimpArgs false
set_option maxRecDepth 100000
theorem set_ok {s:Sl} (h:okSl s) {s':Sl} (hk:s'.kind=s.kind) (hkids:s'.kids=s.kids) (h1:s.kind=1→isName s'.nm=true∧attrF s'.attrs=0∧s'.text=s.text) (h2:s.kind=2→(textS s'.text).2=0∧s'.nm=s.nm∧s'.attrs=s.attrs):okSl s':=by
 obtain⟨a,b⟩:=h
 unfold okSl ownF
 rw [hk,hkids]
 rcases b with b | b
 ·obtain⟨c1,c2,c3⟩:=h1 b.1
  refine⟨by rw [if_pos b.1,if_pos c1];exact c2,.inl ⟨b.1,by rw [c3];exact b.2⟩⟩
 ·obtain⟨c1,c2,c3⟩:=h2 b.1
  refine⟨by rw [if_neg (by omega),if_pos b.1,c1];rfl,.inr ⟨b.1,by rw [c2];exact b.2.1,by rw [c3];exact b.2.2.1,b.2.2.2⟩⟩
theorem ok_own1 {s:Sl} (h:okSl s) (hk:s.kind=1):isName s.nm=true∧attrF s.attrs=0:=by
 obtain⟨a,b⟩:=h
 unfold ownF at a
 rw [if_pos hk] at a
 by_cases hn:isName s.nm=true
 ·rw [if_pos hn] at a;exact⟨hn,a⟩
 ·rw [if_neg hn] at a;cases a
section
variable {D:Im}
theorem setName_wf (hw:Wf D) (n:Nat) (nm:ByteArray):Wf (setNameF D n nm).1:=by
 unfold setNameF
 by_cases h1:chgF D n 1≠0
 ·rw [if_pos h1];exact hw
 rw [if_neg h1]
 obtain⟨s,hs,hk⟩:=chg_some (by simpa using h1)
 by_cases h2:isName nm=true
 ·rw [if_pos h2]
  have ho:=hw.a.ok n s hs
  exact node_wf hw hs rfl rfl rfl rfl rfl (set_ok ho rfl rfl (fun _=>⟨h2,(ok_own1 ho hk).2,rfl⟩) fun e=>by omega)
 ·rw [if_neg h2];exact hw
theorem setText_wf (hw:Wf D) (n:Nat) (t:ByteArray):Wf (setTextF D n t).1:=by
 unfold setTextF
 by_cases h1:chgF D n 2≠0
 ·rw [if_pos h1];exact hw
 rw [if_neg h1]
 obtain⟨s,hs,hk⟩:=chg_some (by simpa using h1)
 by_cases h2:(textS t).2=0
 ·rw [if_pos h2]
  have ho:=hw.a.ok n s hs
  exact node_wf hw hs rfl rfl rfl rfl rfl (set_ok ho rfl rfl (fun e=>by omega) fun _=>⟨h2,rfl,rfl⟩)
 ·rw [if_neg h2];exact hw
theorem setAttr_wf (hw:Wf D) (n:Nat) (nm v:ByteArray):Wf (setAttrF D n nm v).1:=by
 unfold setAttrF
 by_cases h1:chgF D n 1≠0
 ·rw [if_pos h1];exact hw
 rw [if_neg h1]
 obtain⟨s,hs,hk⟩:=chg_some (by simpa using h1)
 by_cases h2:isName nm≠true
 ·rw [if_pos h2];exact hw
 rw [if_neg h2]
 by_cases h3:(textS v).2≠0
 ·rw [if_pos h3];exact hw
 rw [if_neg h3]
 by_cases h4:thereA (atsI D n) nm=false∧32≤(atsI D n).length
 ·rw [if_pos h4];exact hw
 rw [if_neg h4]
 rw [ats_some hs] at h4
 have ho:=hw.a.ok n s hs
 obtain⟨a1,a2⟩:=okS_ats ho hk
 have h2:isName nm=true:=by simpa using h2
 have h3:(textS v).2=0:=by simpa using h3
 have hlen:(setA' s.attrs nm v).length≤32:=by
  have hp:=posA_le s.attrs nm
  unfold setA'
  split
  ·simpa using a1
  ·rename_i ht
   have ht:thereA s.attrs nm=false:=by simpa using ht
   have:¬32≤s.attrs.length:=fun h=>h4 ⟨ht,h⟩
   simp;omega
 exact node_wf hw hs rfl rfl rfl rfl rfl (set_ok ho rfl rfl (fun _=>⟨(ok_own1 ho hk).1,(attrF_ok _).2 ⟨hlen,okA_set a2 h2 h3⟩,rfl⟩) fun e=>by omega)
theorem dropAttr_wf (hw:Wf D) (n:Nat) (nm:ByteArray):Wf (dropAttrF D n nm).1:=by
 unfold dropAttrF
 by_cases h1:chgF D n 1≠0
 ·rw [if_pos h1];exact hw
 rw [if_neg h1]
 obtain⟨s,hs,hk⟩:=chg_some (by simpa using h1)
 by_cases h2:thereA (atsI D n) nm=true
 ·rw [if_pos h2]
  have ho:=hw.a.ok n s hs
  obtain⟨a1,a2⟩:=okS_ats ho hk
  exact node_wf hw hs rfl rfl rfl rfl rfl (set_ok ho rfl rfl (fun _=>⟨(ok_own1 ho hk).1,(attrF_ok _).2 ⟨by simp;omega,okA_drop a2 _⟩,rfl⟩) fun e=>by omega)
 ·rw [if_neg h2];exact hw
end
structure Ac where
 kind:Int
 wh:Int
 how:Bool
 n:Nat
 at_:Nat
 nm:ByteArray
 val:ByteArray
 x:Tr
def meantF (D:Im) (a:Ac):Ac :=
 if a.how=false then a else
 if (allI D 0).length=0 then { a with how:=false,at_:=0 } else
 { a with how:=false,n:=(allI D 0).getD (a.n % (allI D 0).length) 0,at_:=if a.at_ % ((allI D 0).length+1)=(allI D 0).length then 0 else (allI D 0).getD (a.at_ % ((allI D 0).length+1)) 0 }
def actF (D:Im) (a:Ac):Im :=
 if a.kind=0 then (insF D a.wh a.at_ a.x).1 else if a.kind=1 then (movF D a.n a.wh a.at_).1 else if a.kind=2 then (delF D a.n).1 else if a.kind=3 then (setNameF D a.n a.nm).1 else
 if a.kind=4 then (setTextF D a.n a.val).1 else if a.kind=5 then (setAttrF D a.n a.nm a.val).1 else if a.kind=6 then (dropAttrF D a.n a.nm).1 else D
def doF (D:Im) (a:Ac):Im:=actF D (meantF D a)
theorem act_wf {D:Im} (hw:Wf D) (a:Ac):Wf (actF D a):=by
 unfold actF
 split
 ·exact ins_wf hw _ _ _
 split
 ·exact mov_wf hw _ _ _
 split
 ·exact del_wf hw _
 split
 ·exact setName_wf hw _ _
 split
 ·exact setText_wf hw _ _
 split
 ·exact setAttr_wf hw _ _ _
 split
 ·exact dropAttr_wf hw _ _
 ·exact hw
theorem do_wf {D:Im} (hw:Wf D) (a:Ac):Wf (doF D a):=act_wf hw _
structure AcOk (a:Ac):Prop where
 n:a.n < 18446744073709551616
 at_:a.at_ < 18446744073709551616
theorem allI_live {D:Im} (hw:Wf D) {x:Nat} (hx:x∈allI D 0):∃s,slA D.sl x=some s:=by
 unfold allI at hx
 rw [if_pos rfl,List.mem_flatMap] at hx
 obtain⟨y,hy,hx⟩:=hx
 obtain⟨_,t,t1,t2⟩:=hw.a.root.2 y hy
 exact all_live hw.a ⟨t,t1⟩ (fun z hz=>by simp at hz) hx
section
variable {w w1:World}{g:Nat}{D:Im}{vs vr:Sv}{es:List S8}{R:Ending→World→Prop}
theorem allI_lt (h:RW [] w g D vs vr es) (hw:Wf D) {x:Nat} (hx:x∈allI D 0):x < 18446744073709551616:=by
 obtain⟨s,hs⟩:=allI_live hw hx
 exact hnd_lt h.ok h.few hs
theorem getD_lt (h:RW [] w g D vs vr es) (hw:Wf D) (i:Nat):(allI D 0).getD i 0 < 18446744073709551616:=by
 rw [List.getD_eq_getElem?_getD]
 cases hi:(allI D 0)[i]? with
 | none=>show 0 < _;omega
 | some x=>exact allI_lt h hw (List.mem_of_getElem? hi)
theorem meant_ok (h:RW [] w g D vs vr es) (hw:Wf D) {a:Ac} (ha:AcOk a):AcOk (meantF D a):=by
 unfold meantF
 split
 ·exact ha
 split
 ·exact⟨ha.n,show 0 < 18446744073709551616 by decide⟩
 ·refine⟨getD_lt h hw _,?_⟩
  dsimp only
  split
  ·show 0 < _;omega
  ·exact getD_lt h hw _
theorem meant_x (a:Ac):(meantF D a).x=a.x∧(meantF D a).kind=a.kind∧(meantF D a).wh=a.wh∧(meantF D a).nm=a.nm∧(meantF D a).val=a.val:=by
 unfold meantF
 split
 ·exact⟨rfl,rfl,rfl,rfl,rfl⟩
 split
 ·exact⟨rfl,rfl,rfl,rfl,rfl⟩
 ·exact⟨rfl,rfl,rfl,rfl,rfl⟩
def acV (a:Ac) (e:E5):Value:=.agg #[.int .i64 a.kind,.int .i64 a.wh,.bool a.how,.int .u64 (a.n:Nat),.int .u64 (a.at_:Nat),.string a.nm,.string a.val,.int .i64 e.kind,.string e.nm,slV e.ats,.string e.text,slV e.kids]
theorem meant_calls (h:RW [] w g D vs vr es) (hw:Wf D) {a:Ac} (e:E5) (ha:AcOk a) (hK:∀w',Below w.heap.size w w'→R (.returned (acV (meantF D a) e)) w') :
  Calls Tryz.prog 97 #[.pointer (some ⟨g,0,none⟩),acV a e] w R:=by
 refine ok97 (some ⟨g,0,none⟩) a.kind a.wh a.how (a.n:Nat) (a.at_:Nat) a.nm a.val e.kind e.nm e.ats.1 e.ats.2.1 e.ats.2.2 e.text e.kids.1 e.kids.2.1 e.kids.2.2 ?_
 unfold F97
 refine al fun ga w1 hb1 b1 hge1=>al fun g4 w2 hb2 b2 hge2=>?_
 have B2:=btr hb1 hb1.size hb2
 have hs1:=hb1.size
 have hs2:=hb2.size
 refine AllW (n:=0) (h.keep B2) hw (by omega) fun v w3 hb3 hv _=>⟨_,_,_,_,rfl,?_⟩
 have hv:=hv (.inl rfl)
 have B3:=btr B2 B2.size hb3
 have b13:=(b1.keep hb2).keep hb3
 have b23:=b2.keep hb3
 have hne:ga≠g4:=by have:=b1.lt;omega
 have hga:=b1.lt
 have fin:∀(w':World) (a':Ac),Fm (·=ga) w3 w'→Blk w' ga #[.int .i64 a'.kind,.int .i64 a'.wh,.bool a'.how,.int .u64 (a'.n:Nat),.int .u64 (a'.at_:Nat),.string a'.nm,.string a'.val,.int .i64 e.kind,.string e.nm,.slice e.ats.1 e.ats.2.1 e.ats.2.2,.string e.text,.slice e.kids.1 e.kids.2.1 e.kids.2.2] 143→a'=meantF D a→F97_j12 ⟨ga,0,none⟩ ⟨g4,0,none⟩ w' R:=by
  intro w' a' hf hb ha'
  unfold F97_j12
  have b24:=hf.blk b23 (fun e=>hne e.symm)
  simp only [Addr.add_mk,Nat.zero_add,hb.cell,lds]
  refine st_blk b24 (by simp) fun u1 q1 f1=>st_blk q1 (by simp) fun u2 q2 f2=>st_blk q2 (by simp) fun u3 q3 f3=>st_blk q3 (by simp) fun u4 q4 f4=>st_blk q4 (by simp) fun u5 q5 f5=>st_blk q5 (by simp) fun u6 q6 f6=>st_blk q6 (by simp) fun u7 q7 f7=>st_blk q7 (by simp) fun u8 q8 f8=>st_blk q8 (by simp) fun u9 q9 f9=>st_blk q9 (by simp) fun u10 q10 f10=>st_blk q10 (by simp) fun u11 q11 f11=>st_blk q11 (by simp) fun u12 q12 f12=>?_
  simp only [List.setIfInBounds_toArray,List.set_cons_zero,List.set_cons_succ] at q12
  have F12:Fm (·=g4) w' u12:=((((((((((f1.trans f2).trans f3).trans f4).trans f5).trans f6).trans f7).trans f8).trans f9).trans f10).trans f11).trans f12
  simp only [Addr.add_mk,Nat.zero_add,q12.cell,lds]
  have FF:Fm (fun b=>b=ga∨b=g4) w3 u12:=(hf.mono fun b _ e=>.inl e).trans (F12.mono fun b _ e=>.inr e)
  have:=hK u12 (B3.trans (FF.toBelow B3.size fun b hb e=>by rcases e with e | e <;> omega))
  rw [←ha'] at this
  exact this
 simp only [Addr.add_mk,Nat.zero_add,b13.cell,lds]
 rw [brnot]
 refine br (fun hh=>?_) (fun hh=>?_)
 rotate_left
 ·have:=fin w3 a (.refl _ _) b13 (by unfold meantF;rw [if_pos hh])
  unfold F97_j12 at this
  simp only [Addr.add_mk,Nat.zero_add,b13.cell,lds] at this
  exact this
 refine st_blk b13 (by simp) fun w4 b14 f4=>?_
 simp only [List.setIfInBounds_toArray,List.set_cons_zero,List.set_cons_succ] at b14
 have hlen:=allI_len hw 0 (.inl rfl)
 have hv1:v.2.1=(allI D 0).length:=by
  obtain⟨A,c,hv',_⟩:=hv.form
  rw [slv_form hv']
 have hmeant:meantF D a=if (allI D 0).length=0 then { a with how:=false,at_:=0 } else
   { a with how:=false,n:=(allI D 0).getD (a.n % (allI D 0).length) 0,at_:=if a.at_ % ((allI D 0).length+1)=(allI D 0).length then 0 else (allI D 0).getD (a.at_ % ((allI D 0).length+1)) 0 }:=by
  unfold meantF;rw [if_neg (by rw [hh];decide)]
 rw [hmeant] at fin
 have hv4:Own LHn w4 w2.heap.size 65 (slV v) (allI D 0):=own_fm hv f4 fun b hb e=>by have e:b=ga:=e;have:=(hv.lt b hb).1;omega
 generalize allI D 0=L at *
 refine⟨fun w'=>∃a',Fm (·=ga) w3 w'∧Blk w' ga #[.int .i64 a'.kind,.int .i64 a'.wh,.bool a'.how,.int .u64 (a'.n:Nat),.int .u64 (a'.at_:Nat),.string a'.nm,.string a'.val,.int .i64 e.kind,.string e.nm,.slice e.ats.1 e.ats.2.1 e.ats.2.2,.string e.text,.slice e.kids.1 e.kids.2.1 e.kids.2.2] 143∧a'=if L.length=0 then { a with how:=false,at_:=0 } else
   { a with how:=false,n:=L.getD (a.n % L.length) 0,at_:=if a.at_ % (L.length+1)=L.length then 0 else L.getD (a.at_ % (L.length+1)) 0 },fun w' ⟨a',z1,z2,z3⟩=>fin w' a' z1 z2 z3,?_⟩
 refine⟨inR_u64 (by omega) (by omega),?_⟩
 refine brd (fun hpos=>?_) (fun hz=>?_)
 rotate_left
 ·rw [if_pos (by omega)]
  refine st_blk b14 (by simp) fun w5 b15 f5=>?_
  simp only [List.setIfInBounds_toArray,List.set_cons_zero,List.set_cons_succ] at b15
  exact⟨{ a with how:=false,at_:=0 },f4.trans f5,b15,rfl⟩
 rw [if_neg (by omega)]
 simp only [Addr.add_mk,Nat.zero_add,b14.cell,lds]
 have hpos':0 < L.length:=by omega
 rw [hv1]
 have hm1:((a.n:Nat):Int).tmod ((L.length:Nat):Int)=((a.n % L.length:Nat):Int):=by rw [Int.tmod_eq_emod_of_nonneg (by omega)];rfl
 rw [hm1]
 have hi1:a.n % L.length < L.length:=Nat.mod_lt _ hpos'
 obtain⟨A,c,hvf,hrd⟩:=hv4.form
 have e1:v.1=A:=by rw [slv_form hvf]
 rw [←e1] at hrd
 refine⟨by omega,hrd.hn rfl rfl hi1 fun bb oo cc=>?_⟩
 simp only [cc,lds]
 refine st_blk b14 (by simp) fun w5 b15 f5=>?_
 simp only [List.setIfInBounds_toArray,List.set_cons_zero,List.set_cons_succ] at b15
 simp only [Addr.add_mk,Nat.zero_add,b15.cell,lds]
 have hv5:Own LHn w5 w2.heap.size 65 (slV v) L:=own_fm hv4 f5 fun b hb e=>by have e:b=ga:=e;have:=(hv.lt b hb).1;omega
 have eN:((L.length:Nat):Int)+1=((L.length+1:Nat):Int):=by omega
 rw [eN]
 have hm2:((a.at_:Nat):Int).tmod ((L.length+1:Nat):Int)=((a.at_ % (L.length+1):Nat):Int):=by rw [Int.tmod_eq_emod_of_nonneg (by omega)];rfl
 rw [hm2]
 have hi2:a.at_ % (L.length+1) < L.length+1:=Nat.mod_lt _ (by omega)
 have hg1:L.getD (a.n % L.length) 0=L[a.n % L.length]:=by rw [List.getD_eq_getElem?_getD,List.getElem?_eq_getElem hi1];rfl
 refine⟨inR_u64 (by omega) (by omega),by omega,?_⟩
 refine bre (fun heq=>?_) (fun hne2=>?_)
 ·refine st_blk b15 (by simp) fun w6 b16 f6=>?_
  simp only [List.setIfInBounds_toArray,List.set_cons_zero,List.set_cons_succ] at b16
  refine⟨_,(f4.trans f5).trans f6,?_,rfl⟩
  dsimp only
  rw [hg1,if_pos (by omega)]
  exact b16
 ·obtain⟨A',c',hvf',hrd'⟩:=hv5.form
  have e1':v.1=A':=by rw [slv_form hvf']
  rw [←e1'] at hrd'
  have hi3:a.at_ % (L.length+1) < L.length:=by omega
  refine⟨inR_u64 (by omega) (by omega),by omega,hrd'.hn rfl rfl hi3 fun bb oo cc=>?_⟩
  simp only [cc,lds]
  refine st_blk b15 (by simp) fun w6 b16 f6=>?_
  simp only [List.setIfInBounds_toArray,List.set_cons_zero,List.set_cons_succ] at b16
  have hg2:L.getD (a.at_ % (L.length+1)) 0=L[a.at_ % (L.length+1)]:=by rw [List.getD_eq_getElem?_getD,List.getElem?_eq_getElem hi3];rfl
  refine⟨_,(f4.trans f5).trans f6,?_,rfl⟩
  dsimp only
  rw [hg1,if_neg (by omega),hg2]
  exact b16
end
set_option maxRecDepth 100000
def okc (o:Nat→Nat) (b:Nat):Bool:=Nat.beq (o b) 0
theorem okc_iff {o:Nat→Nat}{b:Nat}:okc o b=true↔o b=0:=⟨fun h=>Nat.eq_of_beq_eq_true h,fun h=>by unfold okc;rw [h];rfl⟩
theorem vw_iff {ok:Nat→Bool}{g b:Nat}:(ok b && !(Nat.beq b g))=true↔ok b=true∧b≠g:=by
 rw [Bool.and_eq_true]
 constructor
 ·rintro ⟨h1,h2⟩
  refine⟨h1,fun e=>?_⟩
  subst e
  rw [show Nat.beq b b=true from Nat.beq_refl b] at h2;cases h2
 ·rintro ⟨h1,h2⟩
  refine⟨h1,?_⟩
  cases h:Nat.beq b g with
  | false=>rfl
  | true=>exact absurd (Nat.eq_of_beq_eq_true h) h2
structure EvA (w:World) (o:Nat→Nat) (w1:World) (o1:Nat→Nat):Prop where
 fm:Fm (fun b=>o b≠0) w w1
 old:∀b,b < w.heap.size→o b=0→o1 b=0
structure Edr (p:Value) (P:Nat→World→(Nat→Nat)→Im→Prop):Prop where
 up:∀{k w o D},P k w o D→P (k+1) w o D
 lt:∀{k w o D},P k w o D→∀b,o b≠0→b < w.heap.size
 keep:∀{k:Nat}{w w1:World}{o:Nat→Nat}{D:Im}{M:Nat→Prop},P k w o D→Fm M w w1→(∀b,b < w.heap.size→M b→o b=0)→P k w1 o D
 ins:∀{k:Nat}{w:World}{o:Nat→Nat}{D:Im}{x:Tr}{e:E5}{wh:Int}{a:Nat}{R:Ending→World→Prop}{K:Value→World→Prop},P k w o D→k < 1099511627776→Wf D→Tabs (wc o w)→RTr (wc o w) x e→a < 18446744073709551616 →
  (∀ w' o', P (k + 1) w' o' (insF D wh a x).1 → EvA w o w' o' → K (.tuple #[.int .u64 ((insF D wh a x).2.1 : Nat), .int .i64 (insF D wh a x).2.2]) w') → CallM Tryz.prog p "Insert" #[.int .i64 wh, .int .u64 (a : Nat), .agg #[.int .i64 e.kind, .string e.nm, slV e.ats, .string e.text, slV e.kids]] w R K
 mov:∀{k:Nat}{w:World}{o:Nat→Nat}{D:Im}{n a:Nat}{wh:Int}{R:Ending→World→Prop}{K:Value→World→Prop},P k w o D→k < 1099511627776→Wf D→n < 18446744073709551616→a < 18446744073709551616 →
  (∀ w' o', P (k + 1) w' o' (movF D n wh a).1 → EvA w o w' o' → K (.int .i64 (movF D n wh a).2) w') → CallM Tryz.prog p "Move" #[.int .u64 (n : Nat), .int .i64 wh, .int .u64 (a : Nat)] w R K
 del:∀{k:Nat}{w:World}{o:Nat→Nat}{D:Im}{n:Nat}{R:Ending→World→Prop}{K:Value→World→Prop},P k w o D→k < 1099511627776→Wf D→n < 18446744073709551616 →
  (∀ w' o', P (k + 1) w' o' (delF D n).1 → EvA w o w' o' → K (.int .i64 (delF D n).2) w') → CallM Tryz.prog p "Delete" #[.int .u64 (n : Nat)] w R K
 name:∀{k:Nat}{w:World}{o:Nat→Nat}{D:Im}{n:Nat}{s:ByteArray}{R:Ending→World→Prop}{K:Value→World→Prop},P k w o D→k < 1099511627776→Wf D→Tabs (wc o w)→n < 18446744073709551616 →
  (∀ w' o', P (k + 1) w' o' (setNameF D n s).1 → EvA w o w' o' → K (.int .i64 (setNameF D n s).2) w') → CallM Tryz.prog p "SetName" #[.int .u64 (n : Nat), .string s] w R K
 text:∀{k:Nat}{w:World}{o:Nat→Nat}{D:Im}{n:Nat}{s:ByteArray}{R:Ending→World→Prop}{K:Value→World→Prop},P k w o D→k < 1099511627776→Wf D→Tabs (wc o w)→n < 18446744073709551616 →
  (∀ w' o', P (k + 1) w' o' (setTextF D n s).1 → EvA w o w' o' → K (.int .i64 (setTextF D n s).2) w') → CallM Tryz.prog p "SetText" #[.int .u64 (n : Nat), .string s] w R K
 attr:∀{k:Nat}{w:World}{o:Nat→Nat}{D:Im}{n:Nat}{s t:ByteArray}{R:Ending→World→Prop}{K:Value→World→Prop},P k w o D→k < 1099511627776→Wf D→Tabs (wc o w)→n < 18446744073709551616 →
  (∀ w' o', P (k + 1) w' o' (setAttrF D n s t).1 → EvA w o w' o' → K (.int .i64 (setAttrF D n s t).2) w') → CallM Tryz.prog p "SetAttr" #[.int .u64 (n : Nat), .string s, .string t] w R K
 drop:∀{k:Nat}{w:World}{o:Nat→Nat}{D:Im}{n:Nat}{s:ByteArray}{R:Ending→World→Prop}{K:Value→World→Prop},P k w o D→k < 1099511627776→Wf D→n < 18446744073709551616 →
  (∀ w' o', P (k + 1) w' o' (dropAttrF D n s).1 → EvA w o w' o' → K (.int .i64 (dropAttrF D n s).2) w') → CallM Tryz.prog p "DropAttr" #[.int .u64 (n : Nat), .string s] w R K
theorem RM.fm2 {ok ok2:Nat→Bool}{w w1:World}{g:Nat}{D:Im}{vs vr:Sv}{M:Nat→Prop} (h:RM ok w g D vs vr) (hf:Fm M w w1) (hm:∀b,b < w.heap.size→M b→ok b=false∧b≠g) (hk:∀b,b < w.heap.size→ok b=true→ok2 b=true):RM ok2 w1 g D vs vr :=
 ⟨hf.blk h.blk fun e=>(hm g h.blk.lt e).2 rfl,h.im.sub (sub_only (fun b hb h=>by rw [vw_iff] at h ⊢;exact⟨hk b hb h.1,h.2⟩) fun b hb hh=>hf.block b hb fun e=>by
  have:=(hm b hb e).1
  rw [vw_iff,this] at hh;cases hh.1),h.few⟩
section
variable {p:Value}{P:Nat→World→(Nat→Nat)→Im→Prop}{k:Nat}{w:World}{o:Nat→Nat}{g:Nat}{D:Im}{vs vr:Sv}{R:Ending→World→Prop}
theorem does_calls (E:Edr p P) (hP:P k w o D) (hk:k < 1099511627776) (hw:Wf D) (hR:RM (okc o) w g D vs vr) (hg:o g=0) (hT:Tabs (vw (okc o) g w)) {a:Ac}{e:E5} (ha:AcOk a) (hx:RTr (vw (okc o) g w) a.x e)
  (hK:∀w' o' vs' vr',P (k+1) w' o' (doF D a)→RM (okc o') w' g (doF D a) vs' vr'→Fm (fun b=>o b≠0∨b=g) w w'→(∀b,b < w.heap.size→o b=0→o' b=0)→R (.returned (.bool true)) w') :
  Calls Tryz.prog 60 #[p,.pointer (some ⟨g,0,none⟩),acV a e] w R:=by
 refine ok60 p (some ⟨g,0,none⟩) a.kind a.wh a.how (a.n:Nat) (a.at_:Nat) a.nm a.val e.kind e.nm e.ats.1 e.ats.2.1 e.ats.2.2 e.text e.kids.1 e.kids.2.1 e.kids.2.2 ?_
 unfold F60
 obtain⟨es,hr⟩:=hR.re
 have hgl:=hR.blk.lt
 refine al fun ga w1 hb1 b1 hge1=>?_
 simp only [Addr.add_mk,Nat.zero_add,b1.cell,lds]
 refine meant_calls (hr.keep hb1) hw e ha fun w2 hb2=>?_
 have B2:=btr hb1 hb1.size hb2
 have hmo:=meant_ok hr hw ha
 obtain⟨mx,mk,-,-,-⟩:=meant_x (D:=D) a
 unfold doF at hK
 rw [←mx] at hx
 generalize meantF D a=m at *
 refine⟨_,_,_,_,_,_,_,_,_,_,_,_,_,_,_,_,rfl,?_⟩
 refine st_blk (b1.keep hb2) (by simp) fun u1 q1 f1=>st_blk q1 (by simp) fun u2 q2 f2=>st_blk q2 (by simp) fun u3 q3 f3=>st_blk q3 (by simp) fun u4 q4 f4=>st_blk q4 (by simp) fun u5 q5 f5=>st_blk q5 (by simp) fun u6 q6 f6=>st_blk q6 (by simp) fun u7 q7 f7=>st_blk q7 (by simp) fun u8 q8 f8=>st_blk q8 (by simp) fun u9 q9 f9=>st_blk q9 (by simp) fun u10 q10 f10=>st_blk q10 (by simp) fun u11 q11 f11=>st_blk q11 (by simp) fun w3 b3 f12=>?_
 simp only [List.setIfInBounds_toArray,List.set_cons_zero,List.set_cons_succ] at b3
 have F12:Fm (·=ga) w2 w3:=((((((((((f1.trans f2).trans f3).trans f4).trans f5).trans f6).trans f7).trans f8).trans f9).trans f10).trans f11).trans f12
 clear q1 q2 q3 q4 q5 q6 q7 q8 q9 q10 q11 f1 f2 f3 f4 f5 f6 f7 f8 f9 f10 f11 f12
 have hs2:=B2.size
 have B3:Below w.heap.size w w3:=B2.trans (F12.toBelow hs2 fun b hb e=>by have e:b=ga:=e;omega)
 have hs3:=B3.size
 have P3:P k w3 o D:=E.keep (M:=fun _=>False) hP (.below B3) fun _ _ h=>h.elim
 have R3:RM (okc o) w3 g D vs vr:=hR.keep B3
 have hlt:=E.lt hP
 have oz:∀b,w.heap.size≤b→o b=0:=fun b hb=>Classical.byContradiction fun h=>by have:=hlt b h;omega
 have T3:Tabs (vw (okc o) g w3):=hT.sub (vw_sub (.below B3))
 have X3:RTr (vw (okc o) g w3) m.x e:=RTr.sub (vw_sub (.below B3)) _ _ hx
 have hsub:∀{u:World},Sub (vw (okc o) g u) (wc o u):=sub_only (fun b _ h=>(vw_iff.1 h).1) fun _ _ _=>rfl
 have hga:ga < w3.heap.size:=b3.lt
 have oga:o ga=0:=oz ga hge1
 have hgne:ga≠g:=by omega
 have fin:∀(w4:World) (o4:Nat→Nat),EvA w3.drew o w4 o4→RM (okc o4) w4 g D vs vr∧(∀b,w4.heap.size≤b→P (k+1) w4 o4 (actF D m)→okc o4 b=true):=fun w4 o4 ev=>by
  refine⟨(R3.keep (w1:=w3.drew) ((Below.refl _ _).drew)).fm2 ev.fm (fun b hb hm=>⟨?_,fun e=>by subst e;exact hm hg⟩) fun b hb h=>okc_iff.2 (ev.old b hb (okc_iff.1 h)),fun b hb hp=>okc_iff.2 (Classical.byContradiction fun h=>by have:=E.lt hp b h;omega)⟩
  cases h9:okc o b with
  | false=>rfl
  | true=>exact absurd (okc_iff.1 h9) hm
 have fin2:∀(w4 w5:World) (o4:Nat→Nat) (vs5 vr5:Sv),EvA w3.drew o w4 o4→P (k+1) w4 o4 (actF D m)→RM (okc o4) w5 g (actF D m) vs5 vr5→Fm (·=g) w4 w5→R (.returned (.bool true)) w5:=fun w4 w5 o4 vs5 vr5 ev hp hr hf=>by
  refine hK w5 o4 vs5 vr5 (E.keep hp hf fun b hb e=>?_) hr ?_ fun b hb h=>ev.old b (by show b < w3.heap.size;omega) h
  ·have e:b=g:=e
   subst e;exact ev.old b (by show b < w3.heap.size;omega) hg
  ·exact (Fm.below (B3.drew)).trans ((ev.fm.mono fun b _ h=>.inl h).trans (hf.mono fun b _ e=>.inr e))
 have hact:actF D m=if m.kind=0 then (insF D m.wh m.at_ m.x).1 else if m.kind=1 then (movF D m.n m.wh m.at_).1 else if m.kind=2 then (delF D m.n).1 else if m.kind=3 then (setNameF D m.n m.nm).1 else
   if m.kind=4 then (setTextF D m.n m.val).1 else if m.kind=5 then (setAttrF D m.n m.nm m.val).1 else if m.kind=6 then (dropAttrF D m.n m.nm).1 else D:=rfl
 have hdr:Below w3.heap.size w3 w3.drew:=(Below.refl _ _).drew
 have P3d:P k w3.drew o D:=E.keep (M:=fun _=>False) P3 (.below hdr) fun _ _ h=>h.elim
 have T3d:Tabs (wc o w3.drew):=(T3.sub (vw_sub (.below hdr))).sub hsub
 have bS:∀(w4:World) (o4:Nat→Nat),EvA w3.drew o w4 o4→Blk w4 ga _ 143:=fun w4 o4 ev=>ev.fm.blk (b3.keep hdr) (fun h=>h oga)
 simp only [Addr.add_mk,Nat.zero_add,Nat.reduceAdd,b3.cell,lds]
 refine bre (fun h0=>?_) (fun h0=>?_)
 ·-- Insert
  rw [if_pos h0] at hact
  have X3':RTr w3 m.x e:=RTr.sub sub_of_only _ _ X3
  refine copied_calls m.x (e:=e) X3' fun w4 e4 hb4 ot4=>⟨_,_,_,_,_,_,_,_,_,rfl,?_⟩
  have hs4:=hb4.size
  refine al fun g7 w5 hb5 b5 hge5=>?_
  refine st_blk b5 (by simp) fun u1 q1 f1=>st_blk q1 (by simp) fun u2 q2 f2=>st_blk q2 (by simp) fun u3 q3 f3=>st_blk q3 (by simp) fun u4 q4 f4=>st_blk q4 (by simp) fun w6 b6 f5=>?_
  simp only [List.setIfInBounds_toArray,List.set_cons_zero,List.set_cons_succ] at b6
  have F6:Fm (·=g7) w5 w6:=(((f1.trans f2).trans f3).trans f4).trans f5
  have D6:Below w4.heap.size w4 w6:=hb5.trans (F6.toBelow hb5.size fun b hb e=>by have e:b=g7:=e;omega)
  have D36:Below w3.heap.size w3 w6:=btr hb4 hs4 D6
  have b36:=b3.keep D36
  have hs6:=D6.size
  simp only [Addr.add_mk,Nat.zero_add,Nat.reduceAdd,b36.cell,b6.cell,lds]
  have P6:P k w6 o D:=E.keep (M:=fun _=>False) P3 (.below D36) fun _ _ h=>h.elim
  have ot6:=OTr.fm (M:=fun _=>False) (.below D6) _ _ _ _ (fun _ _ _ h=>h) ot4
  refine E.ins (e:=e4) P6 hk hw ((T3.sub (vw_sub (.below D36))).sub hsub) (OTr.rtr _ _ _ _ (fun b h1 h2=>okc_iff.2 (oz b (by omega))) ot6) hmo.at_ fun w7 o7 P7 ev7=>⟨_,_,rfl,?_⟩
  have hs7:=ev7.fm.size
  have b37:=ev7.fm.blk b36 (fun h=>h oga)
  have b67:=ev7.fm.blk b6 (fun h=>h (oz g7 (by omega)))
  simp only [Addr.add_mk,Nat.zero_add,Nat.reduceAdd,b37.cell,lds]
  have og7:o7 g=0:=ev7.old g (by omega) hg
  have F37:Fm (fun b=>o b≠0) w3 w7:=(Fm.below D36).trans ev7.fm
  have hm37:∀b,b < w3.heap.size→o b≠0→okc o b=false∧b≠g:=fun b hb h=>⟨by
   cases h9:okc o b with
   | false=>rfl
   | true=>exact absurd (okc_iff.1 h9) h,fun e=>by subst e;exact h hg⟩
  have hk37:∀b,b < w3.heap.size→okc o b=true→(okc o7 b && !(decide (w3.heap.size≤b∧b < w4.heap.size)))=true:=fun b hb h=>by
   rw [Bool.and_eq_true]
   exact⟨okc_iff.2 (ev7.old b (by omega) (okc_iff.1 h)),by rw [decide_eq_false (by omega)];rfl⟩
  have R7:RM (fun b=>okc o7 b && !(decide (w3.heap.size≤b∧b < w4.heap.size))) w7 g D vs vr:=R3.fm2 F37 hm37 hk37
  have X7:RTr (vw (fun b=>okc o7 b && !(decide (w3.heap.size≤b∧b < w4.heap.size))) g w7) m.x e:=RTr.sub (sub_only (fun b hb h=>(vw_iff (ok:=fun b=>okc o7 b && !(decide (w3.heap.size≤b∧b < w4.heap.size)))).2 ⟨hk37 b hb (vw_iff.1 h).1,(vw_iff.1 h).2⟩) fun b hb h=>F37.block b hb fun h9=>h9 (okc_iff.1 (vw_iff.1 h).1)) _ _ X3
  refine insertR_calls (e:=e) R7 (fun b hb=>?_) hw X7 hmo.at_ fun w8 vs8 vr8 R8 f8=>⟨_,_,rfl,?_⟩
  ·rw [Bool.and_eq_true]
   exact⟨okc_iff.2 (Classical.byContradiction fun h=>by have:=E.lt P7 b h;omega),by rw [decide_eq_false (by omega)];rfl⟩
  have hs8:=f8.size
  have b68:=f8.blk b67 (fun e=>by have e:g7=g:=e;omega)
  simp only [Addr.add_mk,Nat.zero_add,Nat.reduceAdd,b68.cell,lds]
  have ot8:=OTr.fm f8 _ _ _ _ (fun b h1 h2 e=>by have e:b=g:=e;omega) (OTr.fm ev7.fm _ _ _ _ (fun b h1 h2 h=>h (oz b (by omega))) ot6)
  refine spoil_calls m.x (e:=e4) ot8 (by omega) fun w9 f9=>⟨rfl,?_⟩
  rw [hact] at hK
  have P9:P (k+1) w9 o7 (insF D m.wh m.at_ m.x).1:=E.keep (E.keep P7 f8 fun b hb e=>by have e:b=g:=e;rw [e];exact og7) f9 fun b hb h=>ev7.old b (by omega) (oz b (by omega))
  have R9:RM (okc o7) w9 g (insF D m.wh m.at_ m.x).1 vs8 vr8:=R8.fm2 f9 (fun b hb h=>⟨by rw [decide_eq_true (show w3.heap.size≤b∧b < w4.heap.size from h)];simp,by omega⟩) fun b hb h=>by rw [Bool.and_eq_true] at h;exact h.1
  have F9:Fm (fun b=>o b≠0∨b=g) w w9:=(((Fm.below B3).trans (F37.mono fun b _ h=>.inl h)).trans (f8.mono fun b _ h=>.inr h)).trans' f9 fun b hb h=>by omega
  have:=hK w9 o7 vs8 vr8 P9 R9 F9 fun b hb h=>ev7.old b (by omega) h
  refine bre (fun _=>?_) (fun h=>absurd rfl h)
  rw [show ((insF D m.wh m.at_ m.x).2.2 == (insF D m.wh m.at_ m.x).2.2)=true from beq_self_eq_true _]
  exact this
 rw [if_neg h0] at hact
 refine bre (fun h1=>?_) (fun h1=>?_)
 ·rw [if_pos h1] at hact
  refine⟨fun w'=>Blk w' ga _ 143,b3.keep hdr,?_⟩
  refine⟨_,fun w' hb=>by rw [Blk.cell hb];rfl,?_⟩
  refine⟨_,fun w' hb=>by rw [Blk.cell hb];rfl,?_⟩
  refine⟨_,fun w' hb=>by rw [Blk.cell hb];rfl,?_⟩
  refine⟨_,fun w' hb=>by rw [Blk.cell hb];rfl,?_⟩
  refine⟨_,fun w' hb=>by rw [Blk.cell hb];rfl,?_⟩
  refine⟨_,fun w' hb=>by rw [Blk.cell hb];rfl,?_⟩
  refine E.mov P3d hk hw hmo.n hmo.at_ fun w4 o4 P4 ev=>⟨_,rfl,bS w4 o4 ev,?_⟩
  rw [←hact] at P4
  obtain⟨R4,n4⟩:=fin w4 o4 ev
  refine moveR_calls R4 (fun b hb=>n4 b hb P4) hw hmo.n hmo.at_ fun w5 vs5 vr5 R5 f5=>⟨_,rfl,?_⟩
  rw [←hact] at R5
  have:=fin2 w4 w5 o4 vs5 vr5 ev P4 R5 f5
  rw [beq_self_eq_true];exact this
 rw [if_neg h1] at hact
 refine bre (fun h2=>?_) (fun h2=>?_)
 ·rw [if_pos h2] at hact
  refine⟨fun w'=>Blk w' ga _ 143,b3.keep hdr,?_⟩
  refine⟨_,fun w' hb=>by rw [Blk.cell hb];rfl,?_⟩
  refine⟨_,fun w' hb=>by rw [Blk.cell hb];rfl,?_⟩
  refine E.del P3d hk hw hmo.n fun w4 o4 P4 ev=>⟨_,rfl,bS w4 o4 ev,?_⟩
  rw [←hact] at P4
  obtain⟨R4,n4⟩:=fin w4 o4 ev
  refine deleteR_calls R4 (fun b hb=>n4 b hb P4) hw hmo.n fun w5 vs5 vr5 R5 f5=>⟨_,rfl,?_⟩
  rw [←hact] at R5
  have:=fin2 w4 w5 o4 vs5 vr5 ev P4 R5 f5
  rw [beq_self_eq_true];exact this
 rw [if_neg h2] at hact
 refine bre (fun h3=>?_) (fun h3=>?_)
 ·rw [if_pos h3] at hact
  refine⟨fun w'=>Blk w' ga _ 143,b3.keep hdr,?_⟩
  refine⟨_,fun w' hb=>by rw [Blk.cell hb];rfl,?_⟩
  refine⟨_,fun w' hb=>by rw [Blk.cell hb];rfl,?_⟩
  refine⟨_,fun w' hb=>by rw [Blk.cell hb];rfl,?_⟩
  refine⟨_,fun w' hb=>by rw [Blk.cell hb];rfl,?_⟩
  refine E.name P3d hk hw T3d hmo.n fun w4 o4 P4 ev=>⟨_,rfl,bS w4 o4 ev,?_⟩
  rw [←hact] at P4
  obtain⟨R4,n4⟩:=fin w4 o4 ev
  refine setNameR_calls R4 (fun b hb=>n4 b hb P4) hmo.n fun w5 vs5 vr5 R5 f5=>⟨_,rfl,?_⟩
  rw [←hact] at R5
  have:=fin2 w4 w5 o4 vs5 vr5 ev P4 R5 f5
  rw [beq_self_eq_true];exact this
 rw [if_neg h3] at hact
 refine bre (fun h4=>?_) (fun h4=>?_)
 ·rw [if_pos h4] at hact
  refine⟨fun w'=>Blk w' ga _ 143,b3.keep hdr,?_⟩
  refine⟨_,fun w' hb=>by rw [Blk.cell hb];rfl,?_⟩
  refine⟨_,fun w' hb=>by rw [Blk.cell hb];rfl,?_⟩
  refine⟨_,fun w' hb=>by rw [Blk.cell hb];rfl,?_⟩
  refine⟨_,fun w' hb=>by rw [Blk.cell hb];rfl,?_⟩
  refine E.text P3d hk hw T3d hmo.n fun w4 o4 P4 ev=>⟨_,rfl,bS w4 o4 ev,?_⟩
  rw [←hact] at P4
  obtain⟨R4,n4⟩:=fin w4 o4 ev
  refine setTextR_calls R4 (fun b hb=>n4 b hb P4) hmo.n fun w5 vs5 vr5 R5 f5=>⟨_,rfl,?_⟩
  rw [←hact] at R5
  have:=fin2 w4 w5 o4 vs5 vr5 ev P4 R5 f5
  rw [beq_self_eq_true];exact this
 rw [if_neg h4] at hact
 refine bre (fun h5=>?_) (fun h5=>?_)
 ·rw [if_pos h5] at hact
  refine⟨fun w'=>Blk w' ga _ 143,b3.keep hdr,?_⟩
  refine⟨_,fun w' hb=>by rw [Blk.cell hb];rfl,?_⟩
  refine⟨_,fun w' hb=>by rw [Blk.cell hb];rfl,?_⟩
  refine⟨_,fun w' hb=>by rw [Blk.cell hb];rfl,?_⟩
  refine⟨_,fun w' hb=>by rw [Blk.cell hb];rfl,?_⟩
  refine⟨_,fun w' hb=>by rw [Blk.cell hb];rfl,?_⟩
  refine⟨_,fun w' hb=>by rw [Blk.cell hb];rfl,?_⟩
  refine E.attr P3d hk hw T3d hmo.n fun w4 o4 P4 ev=>⟨_,rfl,bS w4 o4 ev,?_⟩
  rw [←hact] at P4
  obtain⟨R4,n4⟩:=fin w4 o4 ev
  refine setAttrR_calls R4 (fun b hb=>n4 b hb P4) hw hmo.n fun w5 vs5 vr5 R5 f5=>⟨_,rfl,?_⟩
  rw [←hact] at R5
  have:=fin2 w4 w5 o4 vs5 vr5 ev P4 R5 f5
  rw [beq_self_eq_true];exact this
 rw [if_neg h5] at hact
 refine bre (fun h6=>?_) (fun h6=>?_)
 ·rw [if_pos h6] at hact
  refine⟨fun w'=>Blk w' ga _ 143,b3.keep hdr,?_⟩
  refine⟨_,fun w' hb=>by rw [Blk.cell hb];rfl,?_⟩
  refine⟨_,fun w' hb=>by rw [Blk.cell hb];rfl,?_⟩
  refine⟨_,fun w' hb=>by rw [Blk.cell hb];rfl,?_⟩
  refine⟨_,fun w' hb=>by rw [Blk.cell hb];rfl,?_⟩
  refine E.drop P3d hk hw hmo.n fun w4 o4 P4 ev=>⟨_,rfl,bS w4 o4 ev,?_⟩
  rw [←hact] at P4
  obtain⟨R4,n4⟩:=fin w4 o4 ev
  refine dropAttrR_calls R4 (fun b hb=>n4 b hb P4) hw hmo.n fun w5 vs5 vr5 R5 f5=>⟨_,rfl,?_⟩
  rw [←hact] at R5
  have:=fin2 w4 w5 o4 vs5 vr5 ev P4 R5 f5
  rw [beq_self_eq_true];exact this
 rw [if_neg h6] at hact
 have:=hK w3 o vs vr (by rw [hact];exact E.up P3) (by rw [hact];exact R3) (.below B3) fun _ _ h=>h
 exact this
end
set_option maxRecDepth 100000
structure LIv (k:Nat) (w:World) (o:Nat→Nat) (g:Nat) (ty:TypeId) (S:PS) (nms:List Nat) (gv:Nat) (E:Nat→Option (Nat × Nat)):Prop where
 x:LX w o g ty S nms gv E
 pi:PI S
 word:nms=0 :: S.D.roots.flatMap (wrd (slA S.D.sl) E 65)
 def1:∀y,E y≠none→∃s,slA S.D.sl y=some s
 def2:∀y s,slA S.D.sl y=some s→E y≠none
 gv_:gv≤8192*k
def LD (k:Nat) (g:Nat) (ty:TypeId) (w:World) (o:Nat→Nat) (D:Im):Prop:=∃S nms gv E,S.D=D∧LIv k w o g ty S nms gv E
section
variable {w w1 w2:World}{o o1 o2:Nat→Nat}{g k:Nat}{ty:TypeId}{S:PS}{bs nms lbs:List Nat}{mb gv:Nat}{wr:Int}{em:Option Nat}{E E':Nat→Option (Nat × Nat)}{M:Nat→Prop}{R:Ending→World→Prop}{θ:Th}{D:Im}
theorem EvL.a (h:EvL w o w1 o1):EvA w o w1 o1:=⟨h.fm.mono fun b _ e=>by omega,h.old⟩
theorem EvC.a (h:EvP w o w1 o1):EvA w o w1 o1:=⟨h.fm.mono fun b _ e=>by unfold pc at e;omega,h.old⟩
theorem EvA.tr (h:EvA w o w1 o1) (k:EvA w1 o1 w2 o2):EvA w o w2 o2 :=
 ⟨⟨k.fm.os.trans h.fm.os,k.fm.tape.trans h.fm.tape,k.fm.output.trans h.fm.output,Nat.le_trans h.fm.size k.fm.size,fun b hb hn=>by
  have h0:o b=0:=Classical.byContradiction fun e=>hn e
  rw [k.fm.block b (Nat.lt_of_lt_of_le hb h.fm.size) (fun e=>e (h.old b hb h0)),h.fm.block b hb hn]⟩,fun b hb h0=>k.old b (Nat.lt_of_lt_of_le hb h.fm.size) (h.old b hb h0)⟩
theorem EvA.below (hb:Below w.heap.size w w1):EvA w o w1 o:=⟨.below hb,fun _ _ h=>h⟩
theorem last_eq {X Y X' Y':List Nat}{ah:Nat} (hn:(X++Y).Nodup) (he:X++Y=X'++Y') (h1:X.getLast?=some ah) (h2:X'.getLast?=some ah):X=X'∧Y=Y':=by
 have p1:X≠[]:=fun e=>by rw [e] at h1;cases h1
 have p2:X'≠[]:=fun e=>by rw [e] at h2;cases h2
 have l1:0 < X.length:=List.length_pos_iff.2 p1
 have l2:0 < X'.length:=List.length_pos_iff.2 p2
 have g1:(X++Y)[X.length-1]?=some ah:=by rw [List.getElem?_append_left (by omega),←List.getLast?_eq_getElem?];exact h1
 have g2:(X++Y)[X'.length-1]?=some ah:=by rw [he,List.getElem?_append_left (by omega),←List.getLast?_eq_getElem?];exact h2
 have:=nd_get hn g1 g2
 exact List.append_inj he (by omega)
theorem ins_err {wh:Int}{a:Nat}{x:Tr} (h:(insF D wh a x).2.2≠0):(insF D wh a x).1=D:=by
 unfold insF at h ⊢
 split
 ·rfl
 split
 ·rfl
 split
 ·rfl
 split
 ·rfl
 split
 ·rfl
 ·exfalso
  rename_i h1 h2 h3 h4 h5
  rw [if_neg h1,if_neg h2,if_neg h3,if_neg h4,if_neg h5] at h
  exact h rfl
theorem retag {n:Nat}{s:Sl}{A0:Nat→Option Sl}{roots0:List Nat} (h:LX w o g ty S nms gv E) (hS:WfS S.D.sl) (hAt:Att A0 roots0 (slA S.D.sl) S.D.roots n s) (hword:nms=0 :: roots0.flatMap (wrd A0 E 65)) (hE1:∀y,E y≠none→∃t,A0 y=some t) (hE2:∀y t,A0 y=some t→E y≠none)
  (hfew:(roots0.flatMap (allA A0 65)).length+(allA (slA S.D.sl) 65 n).length≤4096) (hgv:gv < 9007199254740992)
  (hK:∀w' o' nms' E' v,LX w' o' g ty S nms' (gv+2*(allA (slA S.D.sl) 65 n).length) E'→nms'=0 :: S.D.roots.flatMap (wrd (slA S.D.sl) E' 65)→(∀y,E' y≠none→∃t,slA S.D.sl y=some t)→(∀y t,slA S.D.sl y=some t→E' y≠none)→EvA w o w' o'→R (.returned (.int .u64 (v:Nat))) w') :
  Calls Tryz.prog 70 #[.pointer (some ⟨g,0,none⟩),.int .u64 (n:Nat),.int .u64 (aheadF S.D E n:Nat)] w R:=by
 have hn:=hAt.at_
 have hE0:E 0=none:=Classical.byContradiction fun e=>by
  obtain⟨t,ht⟩:=hE1 0 e
  rw [hAt.w0.zero] at ht;cases ht
 have hah:aheadF S.D E n=if (lstA (slA S.D.sl) S.D.roots s.parent).idxOf n=0 then (eN E s.parent).1 else (eN E ((lstA (slA S.D.sl) S.D.roots s.parent).getD ((lstA (slA S.D.sl) S.D.roots s.parent).idxOf n-1) 0)).2:=by
  unfold aheadF;rw [hn];rfl
 obtain⟨X,Y,-,b1,l1⟩:=attach (E:=E) (E':=E) hAt.w hn hE0 (fun _ _=>rfl)
 rw [←hah] at l1
 rw [hAt.word,←hword] at b1
 obtain⟨lbs,hI⟩:=h.I
 have hnd:(X++Y).Nodup:=by rw [←b1];exact hI.nd
 have p1:X≠[]:=fun e=>by rw [e] at l1;cases l1
 have lx:0 < X.length:=List.length_pos_iff.2 p1
 have hi:nms[X.length-1]?=some (aheadF S.D E n):=by rw [b1,List.getElem?_append_left (by omega),←List.getLast?_eq_getElem?];exact l1
 obtain⟨c,c1,c2⟩:=hAt.w.chain n s hn
 have hlen:nms.length=1+2*(roots0.flatMap (allA A0 65)).length:=by
  rw [hword,List.length_cons,flat_len2 (h:=allA A0 65) fun y hy=>by
   obtain⟨_,u,u1,u2⟩:=hAt.w0.root.2 y hy
   exact wrd_len hAt.w0 65 y 1 u1 (.succ (hAt.w0.ne0 u1) u1 (by rw [u2];exact .zero)) (by omega)]
  omega
 refine tag_calls hAt.w 65 n c hn c2 (by omega) h hi (by omega) (by omega) fun w' o' E' h' ev z1 z2=>?_
 have hmem:∀y,y∈allA (slA S.D.sl) 65 n↔Wi (slA S.D.sl) n y:=fun y=>mem_all hAt.w ⟨s,hn⟩ (fun z hz=>by simp at hz) c2 (by omega)
 have hEE:∀y,¬Wi (slA S.D.sl) n y→E' y=E y:=fun y hy=>z1 y fun e=>hy ((hmem y).1 e)
 obtain⟨X',Y',a2,b2,l2⟩:=attach (E:=E) (E':=E') hAt.w hn hE0 hEE
 rw [←hah] at l2
 rw [hAt.word,←hword] at b2
 obtain⟨q1,q2⟩:=last_eq hnd (by rw [←b1,b2]) l1 l2
 subst q1 q2
 have e1:nms.take (X.length-1+1)=X:=by rw [b1,show X.length-1+1=X.length by omega,List.take_left]
 have e2:nms.drop (X.length-1+1)=Y:=by rw [b1,show X.length-1+1=X.length by omega,List.drop_left]
 rw [e1,e2] at h'
 refine hK w' o' _ E' _ h'.x a2.symm (fun y hy=>?_) (fun y t ht=>?_) ev.a
 ·by_cases hwy:Wi (slA S.D.sl) n y
  ·exact all_live hAt.w ⟨s,hn⟩ (fun z hz=>by simp at hz) ((hmem y).2 hwy)
  ·rw [hEE y hwy] at hy
   obtain⟨t,ht⟩:=hE1 y hy
   obtain⟨u,hu,_⟩:=hAt.live ht
   exact⟨u,hu⟩
 ·by_cases hwy:Wi (slA S.D.sl) n y
  ·exact z2 y ((hmem y).2 hwy)
  ·rw [hEE y hwy]
   obtain⟨cy,cy1,cy2⟩:=hAt.w.chain y t ht
   obtain⟨u,hu⟩:=hAt.split cy y cy2 ht hwy
   exact hE2 y u hu
end
set_option maxRecDepth 100000
section
variable {w w0 w1:World}{o:Nat→Nat}{θ:Th}{S:PS}{R:Ending→World→Prop}
def plV (s:Sl) (v:Sv):Value:=.agg #[.int .i64 s.kind,.string s.nm,.slice v.1 v.2.1 v.2.2,.string s.text,.slice none 0 0]
theorem plain_calls (h:PM w o θ S) {x:Nat}{s:Sl} (hx:slA S.D.sl x=some s) (hK:∀v w',Below w.heap.size w w'→Own LAt w' w.heap.size 205 (slV v) s.attrs→R (.returned (plV s v)) w'):Calls Tryz.prog 66 #[.pointer (some ⟨pb S.bs x,0,none⟩)] w R:=by
 refine ok66 (some ⟨pb S.bs x,0,none⟩) ?_
 unfold F66
 obtain⟨i,i1,i2,i3,i4⟩:=h.of hx
 obtain⟨a,kv,hN⟩:=h.nodes i _ s i2 i3
 have hr:=h.rng s (List.mem_of_getElem? i3)
 refine al fun g w1 hb1 b1 hge1=>?_
 have hdr:Below w1.heap.size w1 w1.drew:=(Below.refl _ _).drew
 have bN:=hN.blk.keep hb1
 refine⟨fun w'=>Below w1.heap.size w1 w',hdr,?_⟩
 simp only [NonNil_some,Addr.add_mk,Nat.zero_add]
 refine⟨_,fun w' hw=>by rw [(bN.keep hw).cell];rfl,_,fun w' hw=>by rw [(bN.keep hw).cell];rfl,_,_,_,fun w' hw=>by rw [(bN.keep hw).cell];rfl,_,fun w' hw=>by rw [(bN.keep hw).cell];rfl,?_⟩
 have B1d:=btr hb1 hb1.size hdr
 refine cloneOwn_calls s.attrs a ((rr_own hN.at1 hr.atf).keep B1d) fun v w2 hb2 ov=>⟨_,_,_,rfl,?_⟩
 have D2:=btr hdr hdr.size hb2
 refine⟨D2,?_⟩
 refine st_blk (b1.keep D2) (by simp) fun u1 q1 f1=>st_blk q1 (by simp) fun u2 q2 f2=>st_blk q2 (by simp) fun u3 q3 f3=>st_blk q3 (by simp) fun u4 q4 f4=>st_blk q4 (by simp) fun w3 b3 f5=>?_
 simp only [List.setIfInBounds_toArray,List.set_cons_zero,List.set_cons_succ] at b3
 have F3:Fm (·=g) w2 w3:=(((f1.trans f2).trans f3).trans f4).trans f5
 have B2:=btr B1d B1d.size hb2
 have hs1:=hb1.size
 have hds:w1.drew.heap.size=w1.heap.size:=rfl
 have hgl:=b1.lt
 simp only [Addr.add_mk,Nat.zero_add,b3.cell,lds]
 refine hK v w3 (B2.trans (F3.toBelow B2.size fun b hb e=>by have e:b=g:=e;omega)) ((own_fm ov F3 fun x hx e=>by have e:x=g:=e;have:=(ov.lt x hx).1;omega).rebase fun x hx=>by have:=(ov.lt x hx).1;omega)
theorem Get_calls (h:PM w o θ S) {x:Nat}{s:Sl} (hx:slA S.D.sl x=some s) (hK:∀v w',Below w.heap.size w w'→Own LAt w' w.heap.size 205 (slV v) s.attrs→R (.returned (.tuple #[plV s v,.int .i64 0])) w') :
  Calls Tryz.prog 35 #[.pointer (some ⟨θ.g,0,none⟩),.int .u64 (x:Nat)] w R:=by
 refine ok35 (some ⟨θ.g,0,none⟩) x ?_
 unfold F35
 refine al fun g w1 hb1 b1 hge1=>?_
 have hxl:=hx_lt h hx
 refine atL_calls (h.below hb1) hxl fun w2 hb2=>⟨_,rfl,?_⟩
 have e:ptrL S x=some ⟨pb S.bs x,0,none⟩:=by unfold ptrL;rw [hx];rfl
 rw [e]
 simp only [Option.isNone_some,Br_f,Addr.add_mk,Nat.zero_add]
 have B2:=btr hb1 hb1.size hb2
 refine plain_calls (h.below B2) hx ?_
 intro v w3 hb3 ov
 refine⟨s.kind,s.nm,v.1,v.2.1,v.2.2,s.text,none,0,0,by rw [plV],?_⟩
 have B3:=btr B2 B2.size hb3
 refine st_blk ((b1.keep hb2).keep hb3) (by simp) fun u1 q1 f1=>st_blk q1 (by simp) fun u2 q2 f2=>st_blk q2 (by simp) fun u3 q3 f3=>st_blk q3 (by simp) fun u4 q4 f4=>st_blk q4 (by simp) fun w4 b4 f5=>?_
 simp only [List.setIfInBounds_toArray,List.set_cons_zero,List.set_cons_succ] at b4
 have F4:Fm (·=g) w3 w4:=(((f1.trans f2).trans f3).trans f4).trans f5
 have hs1:=hb1.size
 have hs2:=hb2.size
 have hgl:=b1.lt
 simp only [Addr.add_mk,Nat.zero_add,b4.cell,lds]
 refine hK v w4 (B3.trans (F4.toBelow B3.size fun b hb e=>by have e:b=g:=e;omega)) ((own_fm ov F4 fun x hx e=>by have e:x=g:=e;have:=(ov.lt x hx).1;omega).rebase fun x hx=>by have:=(ov.lt x hx).1;omega)
theorem Tree_calls {k g:Nat}{ty:TypeId}{D:Im} (h:LD k g ty w o D) (hK:∀gc bs o' w' S',Below w.heap.size w w'→S'.D=D→PM w' o' ⟨gc,98,[]⟩ S'→S'.bs=bs→(∀b,o' b≠0→w.heap.size≤b)→PI S'→R (.returned (.pointer (some ⟨gc,0,none⟩))) w') :
  Calls Tryz.prog 34 #[.pointer (some ⟨g,0,none⟩)] w R:=by
 obtain⟨S,nms,gv,E,rfl,h⟩:=h
 obtain⟨tl,-,hp⟩:=h.x.pm
 refine ok34 (some ⟨g,0,none⟩) ?_
 unfold F34
 simp only [NonNil_some]
 refine Clone_calls (θ:=⟨g,ty,tl⟩) hp ?_
 intro gc bs o' w' hb hq ho
 refine⟨some ⟨gc,0,none⟩,rfl,?_⟩
 exact hK gc bs o' w' ⟨S.D,bs,S.lv,S.wn,S.lo⟩ hb rfl hq rfl ho ⟨h.pi.lv,h.pi.wn,h.pi.lo,h.pi.lo2⟩
end
end Go.Proofs.YtccplipiahdhiaaGreatDoor
namespace Go.Proofs.YtccplipiahdhiaaGreatDoor
open Go.RowKit
set_option maxHeartbeats 4000000
set_option maxRecDepth 100000
theorem inW_calls (c:Nat) (w:World):Calls Tryz.prog 83 #[.int .u8 c] w fun e w'=>e=.returned (.bool (inW c))∧w'=w:=by
 go_enter Tryz.func83,Tryz.ntmps83
 go_wp2
 all_goals (go_ret;refine⟨retB (?_:_=inW c) rfl,rfl⟩;rw [Bool.eq_iff_iff];simp [inW];omega)
theorem part_calls (c:Nat) (w:World):Calls Tryz.prog 88 #[.int .u8 c] w fun e w'=>e=.returned (.bool (inW c))∧w'=w:=by
 go_enter Tryz.func88,Tryz.ntmps88
 go_wp2
 all_goals (go_ret;refine⟨retB (?_:_=inW c) rfl,rfl⟩;rw [Bool.eq_iff_iff];simp [inW];omega)
end Go.Proofs.YtccplipiahdhiaaGreatDoor
namespace Go.Proofs.YtccplipiahdhiaaGreatDoor
def isW (s:ByteArray) (i:Nat):Bool:=match s[i]? with | some b=>inW b.toNat | none=>false
theorem isW_lt {s:ByteArray}{i:Nat} (h:isW s i=true):i < s.size:=by
 unfold isW at h
 split at h
 ·rename_i b hb
  rcases Nat.lt_or_ge i s.size with h' | h'
  ·exact h'
  ·rw [getElem?_neg s i (by omega)] at hb;cases hb
 ·cases h
theorem isW_at {s:ByteArray}{i:Nat} (h:i < s.size):isW s i=inW s[i].toNat:=by
 unfold isW;rw [getElem?_pos s i h]
def runE (s:ByteArray) (i:Nat):Nat:=if h:isW s i=true then runE s (i+1) else i
termination_by s.size-i
decreasing_by have:=isW_lt h;omega
theorem runE_t {s:ByteArray}{i:Nat} (h:isW s i=true):runE s i=runE s (i+1):=by rw [runE,dif_pos h]
theorem runE_f {s:ByteArray}{i:Nat} (h:isW s i=false):runE s i=i:=by rw [runE,dif_neg (by rw [h];decide)]
theorem runE_ge (s:ByteArray) (i:Nat):i≤runE s i:=by
 rw [runE]
 split
 ·rename_i h
  have:=isW_lt h
  have:=runE_ge s (i+1)
  omega
 ·exact Nat.le_refl _
termination_by s.size-i
theorem runE_le (s:ByteArray) (i:Nat) (hi:i≤s.size):runE s i≤s.size:=by
 rw [runE]
 split
 ·rename_i h
  have:=isW_lt h
  exact runE_le s (i+1) (by omega)
 ·exact hi
termination_by s.size-i
theorem runE_end (s:ByteArray) (i:Nat):isW s (runE s i)=false:=by
 rw [runE]
 split
 ·rename_i h
  have:=isW_lt h
  exact runE_end s (i+1)
 ·rename_i h;simpa using h
termination_by s.size-i
theorem runE_gt {s:ByteArray}{i:Nat} (h:isW s i=true):i < runE s i:=by
 rw [runE_t h];exact runE_ge s (i+1)
theorem lowW_lt {c:Nat} (h:c < 256):lowW c < 256:=by unfold lowW;split <;> omega
def lowU (b:UInt8):UInt8:=UInt8.ofNat (lowW b.toNat)
theorem lowU_nat (b:UInt8):(lowU b).toNat=lowW b.toNat:=by
 unfold lowU
 rw [UInt8.toNat_ofNat']
 exact Nat.mod_eq_of_lt (lowW_lt b.toNat_lt)
def lowB (s:ByteArray):ByteArray:=⟨(s.data.toList.map lowU).toArray⟩
def wordsF (s:ByteArray) (i:Nat):List (ByteArray × Nat) :=
 if h:i < s.size then
  if isW s i=true then (lowB (s.extract i (runE s i)),i) :: wordsF s (runE s i) else wordsF s (i+1)
 else []
termination_by s.size-i
decreasing_by
 ·rename_i hw;have:=runE_gt hw;omega
 ·omega
theorem wordsF_t {s:ByteArray}{i:Nat} (h:isW s i=true):wordsF s i=(lowB (s.extract i (runE s i)),i) :: wordsF s (runE s i):=by
 rw [wordsF,dif_pos (isW_lt h),if_pos h]
theorem wordsF_f {s:ByteArray}{i:Nat} (h:isW s i=false):wordsF s i=wordsF s (i+1):=by
 by_cases hi:i < s.size
 ·rw [wordsF,dif_pos hi,if_neg (by rw [h];decide)]
 ·rw [wordsF,dif_neg hi,wordsF,dif_neg (by omega)]
theorem wordsF_end {s:ByteArray}{i:Nat} (h:s.size≤i):wordsF s i=[]:=by rw [wordsF,dif_neg (by omega)]
theorem wordsF_len (s:ByteArray) (i:Nat):(wordsF s i).length≤s.size-i:=by
 rw [wordsF]
 split
 ·split
  ·rename_i hi hw
   have h1:=runE_gt hw
   have:=wordsF_len s (runE s i)
   have h2:=runE_le s i (by omega)
   simp only [List.length_cons]
   omega
  ·have:=wordsF_len s (i+1)
   omega
 ·simp
termination_by s.size-i
end Go.Proofs.YtccplipiahdhiaaGreatDoor
namespace Go.Proofs.YtccplipiahdhiaaGreatDoor
open Go.RowKit Go.Vc
set_option linter.unusedVariables false
set_option linter.unusedSimpArgs false
set_option maxRecDepth 100000
section
variable {w w1 w2:World}{o o1 o2:Nat→Nat}{g k:Nat}{ty:TypeId}{M:Nat→Prop}{R:Ending→World→Prop}{D:Im}
theorem insertL_calls (h:LD k g ty w o D) (hk:k < 1099511627776) (hw:Wf D) (hT:Tabs (wc o w)) {x:Tr}{e:E5} (hx:RTr (wc o w) x e) {wh:Int}{a:Nat} (ha:a < 18446744073709551616)
  (hK:∀w' o',LD (k+1) g ty w' o' (insF D wh a x).1→EvA w o w' o'→R (.returned (.tuple #[.int .u64 ((insF D wh a x).2.1:Nat),.int .i64 (insF D wh a x).2.2])) w') :
  Calls Tryz.prog 40 #[.pointer (some ⟨g,0,none⟩),.int .i64 wh,.int .u64 (a:Nat),.agg #[.int .i64 e.kind,.string e.nm,slV e.ats,.string e.text,slV e.kids]] w R:=by
 refine ok40 (some ⟨g,0,none⟩) wh a e.kind e.nm e.ats.1 e.ats.2.1 e.ats.2.2 e.text e.kids.1 e.kids.2.1 e.kids.2.2 ?_
 unfold F40
 obtain⟨S,nms,gv,E,rfl,hL⟩:=h
 refine al fun g7 w1 hb1 b7 hge7=>?_
 have hdr:Below w1.heap.size w1 w1.drew:=(Below.refl _ _).drew
 have B1:=btr hb1 hb1.size hdr
 refine⟨fun w'=>Below w1.heap.size w1 w',hdr,?_⟩
 simp only [NonNil_some,Addr.add_mk,Nat.zero_add]
 refine⟨_,fun w' hb=>by rw [(b7.keep hb).cell];rfl,?_⟩
 refine⟨_,fun w' hb=>by rw [(b7.keep hb).cell];rfl,?_⟩
 refine⟨_,_,_,fun w' hb=>by rw [(b7.keep hb).cell];rfl,?_⟩
 refine⟨_,fun w' hb=>by rw [(b7.keep hb).cell];rfl,?_⟩
 refine⟨_,_,_,fun w' hb=>by rw [(b7.keep hb).cell];rfl,?_⟩
 obtain⟨tl,hp,hback⟩:=(hL.x.below B1).tree
 have hsub:Sub (wc o w) (wc o w1.drew):=EvP.sub (EvC.below B1)
 refine insert_calls (e:=e) hp hL.pi hw (hT.sub hsub) (RTr.sub hsub _ _ hx) ha fun w2 o2 S2 p2 i2 d2 ev2=>⟨_,_,rfl,?_⟩
 have hx2:=hback w2 o2 S2 p2 ev2
 have E2:EvA w o w2 o2:=(EvA.below B1).tr (EvC.a ev2)
 have hgv:=hL.gv_
 refine⟨fun w'=>∃o',LD (k+1) g ty w' o' (insF S.D wh a x).1∧EvA w o w' o',?_,?_⟩
 ·rintro w3 ⟨o3,h3,e3⟩
  unfold F40_j4
  exact hK w3 o3 h3 e3
 ·refine bre (fun h0=>?_) (fun h0=>?_)
  ·obtain⟨s,hAt⟩:=ins_att hw (wh:=wh) (a:=a) (x:=x) h0
   have hw2:=ins_wf hw wh a x
   rw [←d2] at hAt hw2 ⊢
   have hfew:=hAt.few (D':=S2.D) hw2.s rfl
   generalize (insF S.D wh a x).2.1=n at *
   refine ahead_calls hx2 hAt.w hAt.at_ fun w3 hb3=>⟨_,rfl,?_⟩
   refine retag (hx2.below hb3) hw2.s hAt hL.word hL.def1 hL.def2 hfew (by omega) fun w4 o4 nms' E' v h4 q1 q2 q3 ev4=>⟨_,rfl,o4,⟨S2,nms',_,E',rfl,h4,i2,q1,q2,q3,?_⟩,(E2.tr (EvA.below hb3)).tr ev4⟩
   omega
  ·have hD:S2.D=S.D:=by rw [d2];exact ins_err h0
   refine⟨o2,⟨S2,nms,gv,E,d2,hx2,i2,by rw [hD];exact hL.word,by rw [hD];exact hL.def1,by rw [hD];exact hL.def2,by omega⟩,E2⟩
end
set_option maxRecDepth 100000
section
variable {A:Nat→Option Sl}{E E':Nat→Option (Nat × Nat)}{roots loose:List Nat}
def prE (E:Nat→Option (Nat × Nat)) (y:Nat):List Nat:=[(eN E y).1,(eN E y).2]
theorem wrd_perm (hA:WfA A roots loose):∀(r n:Nat) {s:Sl},A n=some s→(wrd A E r n).Perm ((allA A r n).flatMap (prE E))∨r=0
 | 0,n,s,_=>.inr rfl
 | r+1,n,s,hn=>by
  left
  rw [wrd_some hn,allA_some hn,List.flatMap_cons]
  have h1:(s.kids.flatMap (wrd A E r)).Perm ((s.kids.flatMap (allA A r)).flatMap (prE E)):=by
   rw [List.flatMap_assoc]
   refine flatMap_perm _ fun y hy=>?_
   obtain⟨t,ht,_⟩:=((hA.kid n s hn).2 y hy).2
   rcases wrd_perm hA r y ht with h | h
   ·exact h
   ·subst h;exact List.Perm.refl _
  show ((eN E n).1 :: s.kids.flatMap (wrd A E r)++[(eN E n).2]).Perm ((eN E n).1 :: (eN E n).2 :: _)
  rw [List.cons_append]
  refine List.Perm.cons _ ?_
  exact (List.perm_append_comm).trans (List.Perm.cons _ h1)
theorem pr_apart:∀(l:List Nat),(l.flatMap (prE E)).Nodup→(∀y∈l,(eN E y).1≠(eN E y).2)∧∀y∈l,∀z∈l,y≠z→∀a∈prE E y,a∉prE E z
 | [],_=>⟨fun y hy=>by simp at hy,fun y hy=>by simp at hy⟩
 | x :: l,h=>by
  rw [List.flatMap_cons] at h
  obtain⟨h1,h2,h3⟩:=List.nodup_append.1 h
  obtain⟨i1,i2⟩:=pr_apart l h2
  have hx:(eN E x).1≠(eN E x).2:=by unfold prE at h1;simpa using h1
  refine⟨fun y hy=>?_,fun y hy z hz hyz a ha hb=>?_⟩
  ·rcases List.mem_cons.1 hy with rfl | hy
   ·exact hx
   ·exact i1 y hy
  ·rcases List.mem_cons.1 hy with e1 | hy <;> rcases List.mem_cons.1 hz with e2 | hz
   ·exact hyz (e1.trans e2.symm)
   ·rw [e1] at ha
    exact h3 a ha a (List.mem_flatMap.2 ⟨z,hz,hb⟩) rfl
   ·rw [e2] at hb
    exact h3 a hb a (List.mem_flatMap.2 ⟨y,hy,ha⟩) rfl
   ·exact i2 y hy z hz hyz a ha hb
theorem untagN_filter:∀(l nms:List Nat),nms.Nodup→untagN E l nms=nms.filter fun x=>decide (x∉l.flatMap (prE E))
 | [],nms,_=>by rw [untagN];exact (List.filter_eq_self.2 fun x _=>by simp).symm
 | y :: l,nms,h=>by
  rw [untagN,untagN_filter l _ ((h.erase _).erase _),(h.erase _).erase_eq_filter,h.erase_eq_filter,List.filter_filter,List.filter_filter]
  refine List.filter_congr fun x hx=>?_
  rw [List.flatMap_cons]
  unfold prE
  rw [Bool.eq_iff_iff]
  simp only [Bool.and_eq_true,decide_eq_true_eq,bne_iff_ne,List.mem_append,List.mem_cons,List.not_mem_nil,or_false,not_or]
  constructor
  ·intro h;exact⟨⟨h.2,h.1.2⟩,h.1.1⟩
  ·intro h;exact⟨⟨h.2,h.1.2⟩,h.1.1⟩
theorem untag_word {l X wn Y:List Nat} (hn:(X++wn++Y).Nodup) (hp:∀x,x∈wn↔x∈l.flatMap (prE E)):untagN E l (X++wn++Y)=X++Y:=by
 rw [untagN_filter l _ hn,List.filter_append,List.filter_append]
 obtain⟨h1,h2,h3⟩:=List.nodup_append.1 hn
 obtain⟨h4,h5,h6⟩:=List.nodup_append.1 h1
 have e1:X.filter (fun x=>decide (x∉l.flatMap (prE E)))=X:=List.filter_eq_self.2 fun x hx=>by
  rw [decide_eq_true_eq,←hp];exact fun h=>h6 x hx x h rfl
 have e2:wn.filter (fun x=>decide (x∉l.flatMap (prE E)))=[]:=List.filter_eq_nil_iff.2 fun x hx=>by
  rw [decide_eq_true_eq,←hp];exact fun h=>h hx
 have e3:Y.filter (fun x=>decide (x∉l.flatMap (prE E)))=Y:=List.filter_eq_self.2 fun x hx=>by
  rw [decide_eq_true_eq,←hp];exact fun h=>h3 x (by simp [h]) x hx rfl
 rw [e1,e2,e3];simp
theorem tgd_of (hA:WfA A roots []) {n:Nat}{s:Sl} (hn:A n=some s) {X Y:List Nat} (hnd:(X++wrd A E 65 n++Y).Nodup) (h0:0∈X) (hE:∀y s,A y=some s→E y≠none):Tgd E (X++wrd A E 65 n++Y) (allA A 65 n)∧∀x,x∈wrd A E 65 n↔x∈(allA A 65 n).flatMap (prE E):=by
 have hpm:=(wrd_perm (E:=E) hA 65 n hn).resolve_right (by decide)
 have hmem:∀x,x∈wrd A E 65 n↔x∈(allA A 65 n).flatMap (prE E):=fun x=>hpm.mem_iff
 obtain⟨h1,h2,h3⟩:=List.nodup_append.1 hnd
 obtain⟨h4,h5,h6⟩:=List.nodup_append.1 h1
 obtain⟨a1,a2⟩:=pr_apart _ (hpm.nodup_iff.1 h5)
 have hin:∀y∈allA A 65 n,∀a∈prE E y,a∈wrd A E 65 n:=fun y hy a ha=>(hmem a).2 (List.mem_flatMap.2 ⟨y,hy,ha⟩)
 have hne:∀a∈wrd A E 65 n,a≠0:=fun a ha e=>by subst e;exact h6 0 h0 0 ha rfl
 refine⟨⟨all_nodup hA 65 n ⟨s,hn⟩ (fun z hz=>by simp at hz),fun y hy=>?_,fun y hy=>?_,fun y hy z hz hyz=>?_⟩,hmem⟩
 ·obtain⟨t,ht⟩:=all_live hA ⟨s,hn⟩ (fun z hz=>by simp at hz) hy
  exact Option.ne_none_iff_exists'.1 (hE y t ht)
 ·have m1:=hin y hy (eN E y).1 (by simp [prE])
  have m2:=hin y hy (eN E y).2 (by simp [prE])
  exact⟨by simp [m1],by simp [m2],hne _ m1,hne _ m2,a1 y hy⟩
 ·have:=a2 y hy z hz hyz
  unfold prE at this
  simp only [List.mem_cons,List.not_mem_nil,or_false,not_or,forall_eq_or_imp,forall_eq] at this
  exact⟨this.1.1,this.1.2,this.2.1,this.2.2⟩
end
set_option maxRecDepth 100000
section
variable {A:Nat→Option Sl}{E:Nat→Option (Nat × Nat)}{roots loose:List Nat}
def Cut (A:Nat→Option Sl) (E:Nat→Option (Nat × Nat)) (L W:List Nat) (i x:Nat):Prop :=
 ∃(P Q PW QW:List Nat) (r c:Nat) (s:Sl),A x=some s∧Ch A x c∧c+r=66∧L=P++allA A r x++Q∧P.length=i∧W=PW++wrd A E r x++QW∧∀y∈Q,(eN E y).1∈QW∧(eN E y).2∈QW
end
def lab (nms lbs:List Nat) (x:Nat):Nat:=lbs.getD (nms.idxOf x) 0
section
variable {D:Im}{E:Nat→Option (Nat × Nat)}{nms lbs:List Nat}{gv:Nat}
def en (E:Nat→Option (Nat × Nat)) (nms lbs:List Nat) (x:Nat):Nat:=lab nms lbs (eN E x).2
abbrev allD' (D:Im):List Nat:=D.roots.flatMap (allA (slA D.sl) 65)
end
set_option maxRecDepth 100000
abbrev Hit:=Nat × Nat × Nat
def txF (s:Sl):List (ByteArray × Nat):=if s.kind=2 then wordsF s.text 0 else []
def wdF (A:Nat→Option Sl) (n:Nat):List (ByteArray × Nat):=match A n with | some s=>txF s | none=>[]
def wsF (A:Nat→Option Sl) (n:Nat):List ByteArray:=(wdF A n).map (·.1)
def numF (n:Nat):Nat→List (ByteArray × Nat)→List (ByteArray × Hit)
 | _,[]=>[]
 | i,p :: l=>(p.1,(n,i,p.2)) :: numF n (i+1) l
def stF (A:Nat→Option Sl) (n:Nat):List (ByteArray × Hit):=numF n 0 (wdF A n)
def stsF (A:Nat→Option Sl) (l:List Nat):List (ByteArray × Hit):=l.flatMap (stF A)
def hitF (st:List (ByteArray × Hit)) (w:ByteArray):List Hit:=(st.filter fun p=>decide (p.1=w)).map (·.2)
theorem numF_app (n:Nat):∀(l m:List (ByteArray × Nat)) (i:Nat),numF n i (l++m)=numF n i l++numF n (i+l.length) m
 | [],m,i=>by simp [numF]
 | p :: l,m,i=>by
  rw [List.cons_append,numF,numF,numF_app n l m (i+1),List.cons_append,List.length_cons]
  congr 3;omega
theorem numF_mem {n:Nat}{w:ByteArray}{h:Hit}:∀(l:List (ByteArray × Nat)) (i:Nat),(w,h)∈numF n i l↔h.1=n∧i≤h.2.1∧l[h.2.1-i]?=some (w,h.2.2)
 | [],i=>by simp [numF]
 | p :: l,i=>by
  rw [numF,List.mem_cons,numF_mem l (i+1)]
  obtain⟨a,b,c⟩:=h
  obtain⟨p1,p2⟩:=p
  simp only [Prod.mk.injEq]
  constructor
  ·rintro (⟨rfl,rfl,rfl,rfl⟩ | ⟨rfl,h2,h3⟩)
   ·exact⟨rfl,Nat.le_refl _,by simp⟩
   ·refine⟨rfl,by omega,?_⟩
    rw [show b-i=(b-(i+1))+1 by omega,List.getElem?_cons_succ];exact h3
  ·rintro ⟨rfl,h2,h3⟩
   by_cases e:b=i
   ·subst e
    rw [Nat.sub_self,List.getElem?_cons_zero] at h3
    simp only [Option.some.injEq,Prod.mk.injEq] at h3
    exact .inl ⟨h3.1.symm,rfl,rfl,h3.2.symm⟩
   ·refine .inr ⟨rfl,by omega,?_⟩
    rw [show b-i=(b-(i+1))+1 by omega,List.getElem?_cons_succ] at h3;exact h3
theorem numF_len (n:Nat):∀(l:List (ByteArray × Nat)) (i:Nat),(numF n i l).length=l.length
 | [],_=>rfl
 | p :: l,i=>by rw [numF,List.length_cons,numF_len n l,List.length_cons]
theorem stF_mem {A:Nat→Option Sl}{n:Nat}{w:ByteArray}{h:Hit}:(w,h)∈stF A n↔h.1=n∧(wdF A n)[h.2.1]?=some (w,h.2.2):=by
 unfold stF
 rw [numF_mem];simp
theorem stsF_app (A:Nat→Option Sl) (l m:List Nat):stsF A (l++m)=stsF A l++stsF A m:=by unfold stsF;rw [List.flatMap_append]
theorem hitF_app (l m:List (ByteArray × Hit)) (w:ByteArray):hitF (l++m) w=hitF l w++hitF m w:=by unfold hitF;rw [List.filter_append,List.map_append]
theorem hitF_mem {st:List (ByteArray × Hit)}{w:ByteArray}{h:Hit}:h∈hitF st w↔(w,h)∈st:=by
 unfold hitF
 simp only [List.mem_map,List.mem_filter,decide_eq_true_eq]
 constructor
 ·rintro ⟨p,⟨h1,rfl⟩,rfl⟩;exact h1
 ·intro h1;exact⟨(w,h),⟨h1,rfl⟩,rfl⟩
theorem sts_mem {A:Nat→Option Sl}{l:List Nat}{w:ByteArray}{h:Hit}:(w,h)∈stsF A l↔h.1∈l∧(wdF A h.1)[h.2.1]?=some (w,h.2.2):=by
 unfold stsF
 rw [List.mem_flatMap]
 constructor
 ·rintro ⟨n,hn,hm⟩
  obtain⟨rfl,h2⟩:=stF_mem.1 hm
  exact⟨hn,h2⟩
 ·rintro ⟨h1,h2⟩;exact⟨h.1,h1,stF_mem.2 ⟨rfl,h2⟩⟩
def phrF (A:Nat→Option Sl) (st:List (ByteArray × Hit)) (ws:List ByteArray):List Hit :=
 (hitF st (ws.headD ByteArray.empty)).filter fun h=>decide (((wsF A h.1).drop h.2.1).take ws.length=ws)
def memB (w:ByteArray) (l:List ByteArray):Bool:=l.any fun v=>decide (v=w)
theorem memB_iff {w:ByteArray}{l:List ByteArray}:memB w l=true↔w∈l:=by
 unfold memB
 rw [List.any_eq_true]
 constructor
 ·rintro ⟨v,h1,h2⟩;rw [decide_eq_true_eq] at h2;subst h2;exact h1
 ·intro h;exact⟨w,h,decide_eq_true rfl⟩
def ownF' (A:Nat→Option Sl) (ws:List ByteArray) (n:Nat):List ByteArray:=(wsF A n).filter fun w=>memB w ws
def hasF (A:Nat→Option Sl) (ws:List ByteArray):Nat→Nat→List ByteArray
 | 0,_=>[]
 | r+1,n=>ownF' A ws n++(match A n with | some s=>s.kids.flatMap (hasF A ws r) | none=>[])
def allW' (ws l:List ByteArray):Bool:=ws.all fun w=>memB w l
def wholeF (A:Nat→Option Sl) (ws:List ByteArray) (r n:Nat):Bool:=match A n with | some s=>decide (s.kind=1) && allW' ws (hasF A ws r n) | none=>false
def someF (A:Nat→Option Sl) (ws:List ByteArray):Nat→Nat→Bool
 | 0,_=>false
 | r+1,n=>wholeF A ws (r+1) n || (match A n with | some s=>s.kids.any (someF A ws r) | none=>false)
def besF (A:Nat→Option Sl) (ws:List ByteArray):Nat→Nat→List ByteArray
 | 0,_=>[]
 | r+1,n=>if wholeF A ws (r+1) n=true then [] else ownF' A ws n++(match A n with | some s=>s.kids.flatMap (besF A ws r) | none=>[])
def besK (A:Nat→Option Sl) (ws:List ByteArray) (r n:Nat):List ByteArray:=ownF' A ws n++(match A n with | some s=>s.kids.flatMap (besF A ws (r-1)) | none=>[])
def findF (A:Nat→Option Sl) (ws:List ByteArray) (q:Nat→Nat→Bool):Nat→Nat→List Nat
 | 0,_=>[]
 | r+1,n=>(match A n with | some s=>s.kids.flatMap (findF A ws q r) | none=>[])++(if wholeF A ws (r+1) n=true∧q (r+1) n=true then [n] else [])
set_option maxRecDepth 100000
def idxP {α:Type} (p:α→Bool):List α→Nat→Int
 | [],_=>-1
 | y :: l,i=>if p y=true then (i:Nat) else idxP p l (i+1)
theorem idxP_ge {α:Type} (p:α→Bool):∀(l:List α) (i:Nat),(0≤idxP p l i)↔l.any p=true
 | [],i=>by simp [idxP]
 | y :: l,i=>by
  rw [idxP,List.any_cons,Bool.or_eq_true]
  by_cases h:p y=true
  ·rw [if_pos h];simp [h]
  ·rw [if_neg h,idxP_ge p l (i+1)];simp [h]
theorem idxP_any {α:Type} (p:α→Bool) (l:List α):decide (idxP p l 0≥0)=l.any p:=by
 rw [Bool.eq_iff_iff,decide_eq_true_iff];exact idxP_ge p l 0
section
variable {w:World}{R:Ending→World→Prop}
def RdV {α:Type} (L:Lay α) (w:World) (l:List α) (v:Sv):Prop:=v.2.1=l.length∧l.length < 4611686018427387904∧Rd L w v.1 v.2.2 l
theorem RdV.keep {α:Type}{L:Lay α}{w1:World}{l:List α}{v:Sv} (h:RdV L w l v) (hb:Below w.heap.size w w1):RdV L w1 l v:=⟨h.1,h.2.1,h.2.2.keep hb⟩
theorem rdV_own {α:Type}{L:Lay α}{B:Nat}{e:TypeId}{v:Sv}{l:List α} (h:Own L w B e (slV v) l) (hl:l.length < 4611686018427387904):RdV L w l v:=⟨(rdO h).1,hl,(rdO h).2⟩
theorem Rd.str {A:Option Addr}{c:Nat}{xs:List ByteArray} (h:Rd LS w A c xs) {n:Nat} (hn:n=xs.length) {i:Int}{k:Nat} (hi:i=k) (hk:k < xs.length) {K:Addr→Prop}
  (hK:∀b o,w.cell? ⟨b,o,none⟩=some (.string xs[k])→K ⟨b,o,none⟩):IdxA A n i 1 K:=by
 subst hi
 refine h.idx hn (by omega) (by omega) rfl fun b o hc=>?_
 simp only [Int.toNat_natCast] at hc
 exact hK b o (hc 0 _ rfl)
theorem indexFS (l:List ByteArray) (v:Sv) (f:Value) (p:ByteArray→Bool) (hl:RdV LS w l v)
  (hf:∀y∈l,∀(w1:World) (K:Value→World→Prop) (R':Ending→World→Prop),Below w.heap.size w w1→(∀w2,Below w1.heap.size w1 w2→K (.bool (p y)) w2)→CallV Tryz.prog f #[.string y] w1 R' K)
  (h:∀w',Below w.heap.size w w'→R (.returned (.int .i64 (idxP p l 0))) w'):Calls Tryz.prog 137 #[.slice v.1 v.2.1 v.2.2,f] w R:=by
 obtain⟨z1,z0,z2⟩:=hl
 refine ok137 v.1 v.2.1 v.2.2 f ?_
 unfold F137
 refine⟨fun i w'=>∃k:Nat,i=k∧k≤l.length∧Below w.heap.size w w'∧idxP p (l.drop k) k=idxP p l 0,fun i _=>l.length-i.toNat,⟨0,rfl,by omega,Below.refl _ _,by simp⟩,?_⟩
 rintro i w1 ⟨k,rfl,hk,hb1,hF⟩
 unfold F137_l2
 refine brd (fun hlt=>?_) (fun hge=>?_)
 ·have hk2:k < l.length:=by omega
  rw [List.drop_eq_getElem_cons hk2,idxP] at hF
  refine (z2.keep hb1).str z1 rfl (k:=k) hk2 fun b o c0=>?_
  simp only [c0,lds]
  refine hf _ (List.getElem_mem hk2) w1 _ R hb1 fun w2 hb2=>⟨_,rfl,?_⟩
  have B2:=btr hb1 hb1.size hb2
  refine br (fun hp=>?_) (fun hp=>?_)
  ·rw [if_pos hp] at hF
   rw [hF];exact h w2 B2
  ·rw [if_neg (by rw [hp];decide)] at hF
   exact⟨inR_i64 (by omega) (by omega),⟨k+1,by simp,by omega,B2,hF⟩,(by first | omega | (dsimp only;omega))⟩
 ·have hk2:k=l.length:=by omega
  subst hk2
  rw [List.drop_length,idxP] at hF
  rw [hF];exact h w1 hb1
theorem indexFH (l:List Nat) (v:Sv) (f:Value) (p:Nat→Bool) (hl:RdV LHn w l v)
  (hf:∀y∈l,∀(w1:World) (K:Value→World→Prop) (R':Ending→World→Prop),Below w.heap.size w w1→(∀w2,Below w1.heap.size w1 w2→K (.bool (p y)) w2)→CallV Tryz.prog f #[.int .u64 (y:Nat)] w1 R' K)
  (h:∀w',Below w.heap.size w w'→R (.returned (.int .i64 (idxP p l 0))) w'):Calls Tryz.prog 127 #[.slice v.1 v.2.1 v.2.2,f] w R:=by
 obtain⟨z1,z0,z2⟩:=hl
 refine ok127 v.1 v.2.1 v.2.2 f ?_
 unfold F127
 refine⟨fun i w'=>∃k:Nat,i=k∧k≤l.length∧Below w.heap.size w w'∧idxP p (l.drop k) k=idxP p l 0,fun i _=>l.length-i.toNat,⟨0,rfl,by omega,Below.refl _ _,by simp⟩,?_⟩
 rintro i w1 ⟨k,rfl,hk,hb1,hF⟩
 unfold F127_l2
 refine brd (fun hlt=>?_) (fun hge=>?_)
 ·have hk2:k < l.length:=by omega
  rw [List.drop_eq_getElem_cons hk2,idxP] at hF
  refine (z2.keep hb1).hn z1 rfl (k:=k) hk2 fun b o c0=>?_
  simp only [c0,lds]
  refine hf _ (List.getElem_mem hk2) w1 _ R hb1 fun w2 hb2=>⟨_,rfl,?_⟩
  have B2:=btr hb1 hb1.size hb2
  refine br (fun hp=>?_) (fun hp=>?_)
  ·rw [if_pos hp] at hF
   rw [hF];exact h w2 B2
  ·rw [if_neg (by rw [hp];decide)] at hF
   exact⟨inR_i64 (by omega) (by omega),⟨k+1,by simp,by omega,B2,hF⟩,(by first | omega | (dsimp only;omega))⟩
 ·have hk2:k=l.length:=by omega
  subst hk2
  rw [List.drop_length,idxP] at hF
  rw [hF];exact h w1 hb1
theorem containsFS (l:List ByteArray) (v:Sv) (f:Value) (p:ByteArray→Bool) (hl:RdV LS w l v)
  (hf:∀y∈l,∀(w1:World) (K:Value→World→Prop) (R':Ending→World→Prop),Below w.heap.size w w1→(∀w2,Below w1.heap.size w1 w2→K (.bool (p y)) w2)→CallV Tryz.prog f #[.string y] w1 R' K)
  (h:∀w',Below w.heap.size w w'→R (.returned (.bool (l.any p))) w'):Calls Tryz.prog 94 #[.slice v.1 v.2.1 v.2.2,f] w R:=by
 refine ok94 v.1 v.2.1 v.2.2 f ?_
 unfold F94
 refine indexFS l v f p hl hf fun w' hb=>⟨_,rfl,?_⟩
 rw [idxP_any];exact h w' hb
theorem indexS (l:List ByteArray) (v:Sv) (x:ByteArray) (hl:RdV LS w l v) (h:R (.returned (.int .i64 (idxP (fun y=>decide (y=x)) l 0))) w):Calls Tryz.prog 162 #[.slice v.1 v.2.1 v.2.2,.string x] w R:=by
 obtain⟨z1,z0,z2⟩:=hl
 refine ok162 v.1 v.2.1 v.2.2 x ?_
 unfold F162
 refine⟨fun i w'=>∃k:Nat,i=k∧k≤l.length∧w=w'∧idxP (fun y=>decide (y=x)) (l.drop k) k=idxP (fun y=>decide (y=x)) l 0,fun i _=>l.length-i.toNat,⟨0,rfl,by omega,rfl,by simp⟩,?_⟩
 rintro i w1 ⟨k,rfl,hk,rfl,hF⟩
 unfold F162_l2
 refine brd (fun hlt=>?_) (fun hge=>?_)
 ·have hk2:k < l.length:=by omega
  rw [List.drop_eq_getElem_cons hk2,idxP] at hF
  refine z2.str z1 rfl (k:=k) hk2 fun b o c0=>?_
  simp only [c0,lds]
  rw [bytes_eq]
  refine brd (fun hp=>?_) (fun hp=>?_)
  ·rw [if_pos (decide_eq_true hp.symm)] at hF
   rw [hF];exact h
  ·rw [if_neg (by simpa using fun e=>hp e.symm)] at hF
   exact⟨inR_i64 (by omega) (by omega),⟨k+1,by simp,by omega,trivial,hF⟩,(by first | omega | (dsimp only;omega))⟩
 ·have hk2:k=l.length:=by omega
  subst hk2
  rw [List.drop_length,idxP] at hF
  rw [hF];exact h
theorem containsS (l:List ByteArray) (v:Sv) (x:ByteArray) (hl:RdV LS w l v) (h:R (.returned (.bool (memB x l))) w):Calls Tryz.prog 125 #[.slice v.1 v.2.1 v.2.2,.string x] w R:=by
 refine ok125 v.1 v.2.1 v.2.2 x ?_
 unfold F125
 refine indexS l v x hl ⟨_,rfl,?_⟩
 rw [idxP_any];exact h
theorem indexHn (l:List Nat) (v:Sv) (x:Nat) (hl:RdV LHn w l v) (h:R (.returned (.int .i64 (idxP (fun y=>decide (y=x)) l 0))) w):Calls Tryz.prog 128 #[.slice v.1 v.2.1 v.2.2,.int .u64 (x:Nat)] w R:=by
 obtain⟨z1,z0,z2⟩:=hl
 refine ok128 v.1 v.2.1 v.2.2 x ?_
 unfold F128
 refine⟨fun i w'=>∃k:Nat,i=k∧k≤l.length∧w=w'∧idxP (fun y=>decide (y=x)) (l.drop k) k=idxP (fun y=>decide (y=x)) l 0,fun i _=>l.length-i.toNat,⟨0,rfl,by omega,rfl,by simp⟩,?_⟩
 rintro i w1 ⟨k,rfl,hk,rfl,hF⟩
 unfold F128_l2
 refine brd (fun hlt=>?_) (fun hge=>?_)
 ·have hk2:k < l.length:=by omega
  rw [List.drop_eq_getElem_cons hk2,idxP] at hF
  refine z2.hn z1 rfl (k:=k) hk2 fun b o c0=>?_
  simp only [c0,lds]
  refine bre (fun hp=>?_) (fun hp=>?_)
  ·rw [if_pos (decide_eq_true (by omega))] at hF
   rw [hF];exact h
  ·rw [if_neg (by simp;omega)] at hF
   exact⟨inR_i64 (by omega) (by omega),⟨k+1,by simp,by omega,trivial,hF⟩,(by first | omega | (dsimp only;omega))⟩
 ·have hk2:k=l.length:=by omega
  subst hk2
  rw [List.drop_length,idxP] at hF
  rw [hF];exact h
theorem containsHn (l:List Nat) (v:Sv) (x:Nat) (hl:RdV LHn w l v) (h:R (.returned (.bool (l.any fun y=>decide (y=x)))) w):Calls Tryz.prog 79 #[.slice v.1 v.2.1 v.2.2,.int .u64 (x:Nat)] w R:=by
 refine ok79 v.1 v.2.1 v.2.2 x ?_
 unfold F79
 refine indexHn l v x hl ⟨_,rfl,?_⟩
 rw [idxP_any];exact h
theorem equalS {l m:List ByteArray}{v u:Sv} (hl:RdV LS w l v) (hm:RdV LS w m u) (h:∀w',Below w.heap.size w w'→R (.returned (.bool (decide (l=m)))) w'):Calls Tryz.prog 55 #[.slice v.1 v.2.1 v.2.2,.slice u.1 u.2.1 u.2.2] w R:=by
 obtain⟨z1,z0,z2⟩:=hl
 obtain⟨y1,y0,y2⟩:=hm
 refine ok55 v.1 v.2.1 v.2.2 u.1 u.2.1 u.2.2 ?_
 unfold F55
 refine brn (fun hne=>?_) (fun he=>?_)
 ·have:=h w (.refl _ _)
  rw [decide_eq_false (fun e=>by subst e;omega)] at this;exact this
 have hlm:l.length=m.length:=by omega
 refine⟨fun i w'=>∃k:Nat,i=k∧k≤l.length∧Below w.heap.size w w'∧l.take k=m.take k,fun i _=>l.length-i.toNat,⟨0,rfl,by omega,Below.refl _ _,by simp⟩,?_⟩
 rintro i w1 ⟨k,rfl,hk,hb1,hF⟩
 unfold F55_l4
 refine brd (fun hlt=>?_) (fun hge=>?_)
 ·have hk2:k < l.length:=by omega
  refine dr fun w2 hb2 _=>?_
  have B2:=btr hb1 hb1.size hb2
  refine (z2.keep B2).str z1 rfl (k:=k) hk2 fun b o c0=>?_
  simp only [c0,lds]
  refine (y2.keep B2).str y1 rfl (k:=k) (by omega) fun b2 o2 c2=>?_
  simp only [c2,lds]
  rw [bytes_eq,brnot]
  refine brd (fun hp=>?_) (fun hp=>?_)
  ·refine⟨inR_i64 (by omega) (by omega),⟨k+1,by simp,by omega,B2,?_⟩,(by first | omega | (dsimp only;omega))⟩
   rw [List.take_succ_eq_append_getElem hk2,List.take_succ_eq_append_getElem (by omega),hF,hp]
  ·have:=h w2 B2
   rw [decide_eq_false (fun e=>by subst e;exact hp rfl)] at this;exact this
 ·have hk2:k=l.length:=by omega
  subst hk2
  rw [List.take_length,hlm,List.take_length] at hF
  have:=h w1 hb1
  rw [decide_eq_true hF] at this;exact this
end
set_option maxRecDepth 100000
structure MsE (es:Array MapEntry) (clock:Nat) (f:ByteArray→Option Value):Prop where
 key:∀x∈es.toList,∃k,x.key=.string k∧f k=some x.val
 has:∀k v,f k=some v→∃x∈es.toList,x.key=.string k
 one:(es.toList.map (·.key)).Nodup
 born:∀x∈es.toList,x.born < clock
 age:(es.toList.map (·.born)).Nodup
def Ms (w:World) (b:Nat) (f:ByteArray→Option Value):Prop:=∃es clock,w.heap[b]?=some (.map es clock)∧MsE es clock f
theorem ba_beq (a b:ByteArray):(a == b)=decide (a=b):=by
 obtain⟨a⟩:=a
 obtain⟨b⟩:=b
 have:((⟨a⟩:ByteArray) == ⟨b⟩)=(a == b):=rfl
 rw [this,Bool.eq_iff_iff,beq_iff_eq,decide_eq_true_eq]
 constructor
 ·rintro rfl;rfl
 ·intro h;injection h
theorem findNow_str {k:ByteArray}:∀(l:List MapEntry) (i:Nat),(∀x∈l,∃a,x.key=.string a) →
  (Instr.findNow .string (.string k) l i=some none∧∀x∈l,x.key≠.string k)∨∃j x,l[j]?=some x∧x.key=.string k∧Instr.findNow .string (.string k) l i=some (some (i+j,x.val))
 | [],i,_=>.inl ⟨rfl,fun x h=>by simp at h⟩
 | x :: l,i,h=>by
  obtain⟨a,ha⟩:=h x (by simp)
  by_cases hk:k=a
  ·subst hk
   refine .inr ⟨0,x,rfl,ha,?_⟩
   simp [Instr.findNow,ha,Instr.sameNow,ba_beq]
  ·have e:Instr.findNow .string (.string k) (x :: l) i=Instr.findNow .string (.string k) l (i+1):=by
    have hb:(k == a)=false:=by rw [ba_beq];exact decide_eq_false hk
    simp [Instr.findNow,ha,Instr.sameNow,hb]
   rcases findNow_str l (i+1) fun y hy=>h y (by simp [hy]) with ⟨h1,h2⟩ | ⟨j,y,h1,h2,h3⟩
   ·refine .inl ⟨by rw [e,h1],fun y hy=>?_⟩
    rcases List.mem_cons.1 hy with rfl | hy
    ·rw [ha];intro h;injection h with h;exact hk h.symm
    ·exact h2 y hy
   ·exact .inr ⟨j+1,y,by simpa using h1,h2,by rw [e,h3];congr 2;simp;omega⟩
section
variable {P:Program}{w:World}{b:Nat}{f:ByteArray→Option Value}{t kt et:TypeId}
theorem Ms.find (h:Ms w b f) (k:ByteArray):∃es clock,w.heap[b]?=some (.map es clock)∧MsE es clock f ∧
  ((f k=none∧Instr.findNow .string (.string k) es.toList 0=some none)∨∃j x,es.toList[j]?=some x∧x.key=.string k∧f k=some x.val∧Instr.findNow .string (.string k) es.toList 0=some (some (j,x.val))):=by
 obtain⟨es,clock,hb,he⟩:=h
 refine⟨es,clock,hb,he,?_⟩
 rcases findNow_str (k:=k) es.toList 0 fun x hx=>(he.key x hx).imp fun _ h=>h.1 with ⟨h1,h2⟩ | ⟨j,x,h1,h2,h3⟩
 ·refine .inl ⟨?_,h1⟩
  cases hf:f k with
  | none=>rfl
  | some v =>
   obtain⟨x,hx,hk⟩:=he.has k v hf
   exact absurd hk (h2 x hx)
 ·refine .inr ⟨j,x,h1,h2,?_,by simpa using h3⟩
  obtain⟨a,ha,hv⟩:=he.key x (List.mem_of_getElem? h1)
  rw [h2] at ha;injection ha with ha;subst ha;exact hv
theorem Ms.look (h:Ms w b f) (ht:P.underlying t=some (.map kt et)) (hk:P.underlying kt=some .string) {z:Value} (hz:(zeroValue et).run P w=.ok z w) (k:ByteArray) (c:Bool) {K:Value→World→Prop}
  (hK:K (if c then .tuple #[(f k).getD z,.bool (f k).isSome] else (f k).getD z) w):Raw P (Instr.lookup t (.map (some b)) (.string k) c) w K:=by
 obtain⟨es,clock,hb,he,h2⟩:=h.find k
 have hc:(Instr.checkKey es.isEmpty 10000 kt (.string k)).run P w=.ok () w:=MapKept.run_checkKey (k:=.string k) hk (by simp [MapKept.IsKey]) _ 9999
 rcases h2 with ⟨h1,h2⟩ | ⟨j,x,h3,h4,h1,h2⟩
 ·rw [h1] at hK
  refine⟨_,w,?_,hK⟩
  simp [Instr.lookup,run_underlying ht,MapKept.run_getObj_map hb,hc,MapKept.run_findKey hk h2,hz,Result.andThen]
 ·rw [h1] at hK
  refine⟨_,w,?_,hK⟩
  simp [Instr.lookup,run_underlying ht,MapKept.run_getObj_map hb,hc,MapKept.run_findKey hk h2,Result.andThen]
def updS (f:ByteArray→Option Value) (k:ByteArray) (v:Option Value):ByteArray→Option Value:=fun j=>if j=k then v else f j
theorem Ms.lt (h:Ms w b f):b < w.heap.size:=by
 obtain⟨es,clock,hb,_⟩:=h;exact (Array.getElem?_eq_some_iff.1 hb).1
theorem MsE.push {es:Array MapEntry}{clock:Nat} (he:MsE es clock f) {k:ByteArray} (hk:f k=none) (v:Value):MsE (es.push ⟨.string k,v,clock⟩) (clock+1) (updS f k (some v)):=by
 have hne:∀x∈es.toList,∀a,x.key=.string a→a≠k:=fun x hx a ha e=>by
  obtain⟨a',h1,h2⟩:=he.key x hx
  rw [ha] at h1;injection h1 with h1;subst h1;subst e;rw [hk] at h2;cases h2
 refine⟨fun x hx=>?_,fun j u hu=>?_,?_,fun x hx=>?_,?_⟩
 ·rw [Array.toList_push] at hx
  rcases List.mem_append.1 hx with hx | hx
  ·obtain⟨a,h1,h2⟩:=he.key x hx
   exact⟨a,h1,by unfold updS;rw [if_neg (hne x hx a h1)];exact h2⟩
  ·rw [List.mem_singleton] at hx;subst hx
   exact⟨k,rfl,by unfold updS;rw [if_pos rfl]⟩
 ·unfold updS at hu
  by_cases e:j=k
  ·subst e;exact⟨⟨.string j,v,clock⟩,by simp,rfl⟩
  ·rw [if_neg e] at hu
   obtain⟨x,hx,h1⟩:=he.has j u hu
   exact⟨x,by simp [Array.mem_toList_iff.1 hx],h1⟩
 ·rw [Array.toList_push,List.map_append,List.nodup_append]
  refine⟨he.one,by simp,fun x hx y hy e=>?_⟩
  rw [List.map_singleton,List.mem_singleton] at hy
  obtain⟨z,hz,rfl⟩:=List.mem_map.1 hx
  obtain⟨a,h1,-⟩:=he.key z hz
  rw [h1,hy] at e;injection e with e
  exact hne z hz a h1 e
 ·rw [Array.toList_push] at hx
  rcases List.mem_append.1 hx with hx | hx
  ·have:=he.born x hx;omega
  ·rw [List.mem_singleton] at hx;subst hx;exact Nat.lt_succ_self _
 ·rw [Array.toList_push,List.map_append,List.nodup_append]
  refine⟨he.age,by simp,fun x hx y hy e=>?_⟩
  rw [List.map_singleton,List.mem_singleton] at hy
  obtain⟨z,hz,rfl⟩:=List.mem_map.1 hx
  have:=he.born z hz
  simp only at hy e
  omega
theorem MsE.put {es:Array MapEntry}{clock:Nat} (he:MsE es clock f) {k:ByteArray}{j:Nat}{y:MapEntry} (hj:es.toList[j]?=some y) (hy:y.key=.string k) (v:Value) :
  MsE (es.modify j fun e=>{ e with key:=.string k,val:=v }) clock (updS f k (some v)):=by
 have hym:=List.mem_of_getElem? hj
 have hkeys:(es.modify j fun e=>{ e with key:=.string k,val:=v }).toList.map (·.key)=es.toList.map (·.key):=by
  rw [modify_list];exact map_modify_same _ _ _ _ fun x hx=>by rw [hj] at hx;cases hx;exact hy.symm
 have hborn:(es.modify j fun e=>{ e with key:=.string k,val:=v }).toList.map (·.born)=es.toList.map (·.born):=by
  rw [modify_list];exact map_modify_same _ _ _ _ fun x hx=>rfl
 refine⟨fun x hx=>?_,fun i u hu=>?_,by rw [hkeys];exact he.one,fun x hx=>?_,by rw [hborn];exact he.age⟩
 ·rw [modify_list] at hx
  rcases mem_modify _ _ _ y hj x hx with rfl | ⟨i,hi,hx2⟩
  ·exact⟨k,rfl,by unfold updS;rw [if_pos rfl]⟩
  ·obtain⟨a,h1,h2⟩:=he.key x (List.mem_of_getElem? hx2)
   refine⟨a,h1,?_⟩
   have hne:a≠k:=fun e=>by
    subst e
    obtain⟨l1,l2⟩:=List.getElem?_eq_some_iff.1 hx2
    obtain⟨m1,m2⟩:=List.getElem?_eq_some_iff.1 hj
    have hpw:=List.pairwise_iff_getElem.1 he.one
    rcases Nat.lt_or_gt_of_ne hi with h3 | h3
    ·have:=hpw i j (by simpa using l1) (by simpa using m1) h3
     simp only [List.getElem_map,l2,m2] at this
     exact this (by rw [h1,hy])
    ·have:=hpw j i (by simpa using m1) (by simpa using l1) h3
     simp only [List.getElem_map,l2,m2] at this
     exact this (by rw [h1,hy])
   unfold updS;rw [if_neg hne];exact h2
 ·have hex:∃x∈es.toList,x.key=.string i:=by
   unfold updS at hu
   by_cases e:i=k
   ·subst e;exact⟨y,hym,hy⟩
   ·rw [if_neg e] at hu;exact he.has i u hu
  obtain⟨x,hx,h1⟩:=hex
  have:Value.string i∈(es.modify j fun e=>{ e with key:=.string k,val:=v }).toList.map (·.key):=by
   rw [hkeys];exact List.mem_map.2 ⟨x,hx,h1⟩
  obtain⟨x',hx',h2⟩:=List.mem_map.1 this
  exact⟨x',hx',h2⟩
 ·have:x.born∈es.toList.map (·.born):=by rw [←hborn];exact List.mem_map.2 ⟨x,hx,rfl⟩
  obtain⟨z,hz,h1⟩:=List.mem_map.1 this
  rw [←h1];exact he.born z hz
theorem Ms.update (h:Ms w b f) (ht:P.underlying t=some (.map kt et)) (hk:P.underlying kt=some .string) (k:ByteArray) (v:Value) {K:World→Prop}
  (hK:∀w',Ms w' b (updS f k (some v))→Fm (·=b) w w'→K w'):Raw P (Instr.mapUpdate t (.map (some b)) (.string k) v) w fun _ w'=>K w':=by
 obtain⟨es,clock,hb,he,h2⟩:=h.find k
 have hlt:=(Array.getElem?_eq_some_iff.1 hb).1
 have hc:(Instr.checkKey false 10000 kt (.string k)).run P w=.ok () w:=MapKept.run_checkKey (k:=.string k) hk (by simp [MapKept.IsKey]) _ 9999
 rcases h2 with ⟨h1,h2⟩ | ⟨j,x,h3,h4,h1,h2⟩
 ·refine⟨(),{ w with heap:=w.heap.setIfInBounds b (.map (es.push ⟨.string k,v,clock⟩) (clock+1)) },?_,hK _ ⟨_,_,?_,he.push h1 v⟩ (set_fm _ _ _)⟩
  ·simp [Instr.mapUpdate,run_underlying ht,MapKept.run_getObj_map hb,hc,MapKept.run_findKey hk h2,MapKept.run_setObj_map _ hb,Result.andThen]
  ·simp [hlt]
 ·refine⟨(),{ w with heap:=w.heap.setIfInBounds b (.map (es.modify j fun e=>{ e with key:=.string k,val:=v }) clock) },?_,hK _ ⟨_,_,?_,he.put h3 h4 v⟩ (set_fm _ _ _)⟩
  ·have hj:(es[j]?).map (·.key)=some (.string k):=by
    rw [←Array.getElem?_toList,h3,Option.map_some,h4]
   have hst:(Instr.keyThatStays (.string k) (.string k)).run P w=.ok (.string k) w:=MapKept.run_keyThatStays (d:=.string) (by simp [MapKept.IsKey])
   simp only [Instr.mapUpdate,Sem.run_bind,run_underlying ht,MapKept.run_getObj_map hb,hc,MapKept.run_findKey hk h2,MapKept.run_setObj_map _ hb,Result.andThen,hj,hst,Option.getD_some]
  ·simp [hlt]
theorem Ms.fm {M:Nat→Prop}{w1:World} (h:Ms w b f) (hf:Fm M w w1) (hm:¬M b):Ms w1 b f:=by
 obtain⟨es,clock,hb,he⟩:=h
 exact⟨es,clock,by rw [hf.block b (Array.getElem?_eq_some_iff.1 hb).1 hm];exact hb,he⟩
end
set_option maxRecDepth 100000
def kb (es:Array MapEntry):List (Value × Nat):=es.toList.map fun x=>(x.key,x.born)
theorem kb_mem {es:Array MapEntry}{p:Value × Nat}:p∈kb es↔∃x∈es.toList,x.key=p.1∧x.born=p.2:=by
 unfold kb
 rw [List.mem_map]
 constructor
 ·rintro ⟨x,hx,rfl⟩;exact⟨x,hx,rfl,rfl⟩
 ·rintro ⟨x,hx,h1,h2⟩;exact⟨x,hx,by rw [h1,h2]⟩
section
variable {P:Program}{q:IntKind}{w:World}{b g:Nat}{f:Int→Option Value}{t kt et:TypeId}{left:Int→Prop}{cur:Option Int}
theorem nilMap_range (ht:P.underlying t=some (.map kt et)) {K:Value→World→Prop} (hK:K (.pointer (some ⟨w.heap.size,0,none⟩)) (w.alloc (.mapIter none 0 #[] 0))):Raw P (Instr.range t (.map none)) w K :=
 ⟨_,_,run_range_nilMap w t kt et ht,hK⟩
end
set_option maxRecDepth 100000
def Its (w:World) (b g:Nat) (f:ByteArray→Option Value) (left:ByteArray→Prop) (cur:Option ByteArray):Prop :=
 ∃es clock since seen last,w.heap[b]?=some (.map es clock)∧MsE es clock f∧w.heap[g]?=some (.mapIter (some b) since seen last)∧since≤last∧since≤clock∧(∀p∈kb es,p.2 < since) ∧
  (∀k,left k↔∃s,(Value.string k,s)∈kb es∧seen.contains s=false)∧∀k,cur=some k→last=clock∧∃s,(Value.string k,s)∈kb es∧seen.back?=some s
def itM (b g:Nat) (w:World):Nat:=match w.heap[b]?,w.heap[g]? with
 | some (.map es _),some (.mapIter _ _ seen _)=>(es.toList.filter fun e=>!seen.contains e.born).length
 | _,_=>0
theorem filter_lt {α:Type}{p q:α→Bool}:∀{l:List α}{x:α},x∈l→p x=true→q x=false→(∀y,q y=true→p y=true)→(l.filter q).length < (l.filter p).length
 | [],x,h,_,_,_=>by simp at h
 | y :: l,x,h,h1,h2,h3=>by
  have hle:(l.filter q).length≤(l.filter p).length:=by
   clear h
   induction l with
   | nil=>simp
   | cons z l ih =>
    rw [List.filter_cons,List.filter_cons]
    by_cases hq:q z=true
    ·rw [if_pos hq,if_pos (h3 z hq)];simp only [List.length_cons];omega
    ·rw [if_neg hq]
     split
     ·simp only [List.length_cons];omega
     ·exact ih
  rw [List.filter_cons,List.filter_cons]
  rcases List.mem_cons.1 h with rfl | h
  ·rw [if_pos h1,if_neg (by rw [h2];decide)];simp only [List.length_cons];omega
  ·have ih:=filter_lt h h1 h2 h3
   by_cases hq:q y=true
   ·rw [if_pos hq,if_pos (h3 y hq)];simp only [List.length_cons];omega
   ·rw [if_neg hq]
    split
    ·simp only [List.length_cons];omega
    ·exact ih
section
variable {P:Program}{w:World}{b g:Nat}{f:ByteArray→Option Value}{t kt et:TypeId}{left:ByteArray→Prop}{cur:Option ByteArray}
theorem Its.ne (h:Its w b g f left cur):b≠g:=by
 obtain⟨es,clock,since,seen,last,h1,h2,h3,_⟩:=h
 intro e;subst e;rw [h1] at h3;cases h3
theorem Ms.range (h:Ms w b f) (ht:P.underlying t=some (.map kt et)) {K:Value→World→Prop}
  (hK:∀w',Below w.heap.size w w'→Its w' b w.heap.size f (fun k=>f k≠none) none→K (.pointer (some ⟨w.heap.size,0,none⟩)) w'):Raw P (Instr.range t (.map (some b))) w K:=by
 obtain⟨es,clock,hb,he⟩:=h
 have hlt:=(Array.getElem?_eq_some_iff.1 hb).1
 refine⟨_,_,run_range_map w t kt et b es clock ht hb,hK _ ((Below.refl _ _).alloc (Nat.le_refl _) _) ⟨es,clock,clock,#[],clock,by rw [heap_alloc_old w _ hlt];exact hb,he,heap_alloc_new _ _,Nat.le_refl _,Nat.le_refl _,?_,fun k=>?_,fun k h=>by cases h⟩⟩
 ·intro p hp
  obtain⟨x,hx,h1,h2⟩:=kb_mem.1 hp
  rw [←h2];exact he.born x hx
 ·constructor
  ·intro hk
   cases hf:f k with
   | none=>exact absurd hf hk
   | some v =>
    obtain⟨x,hx,h1⟩:=he.has k v hf
    exact⟨x.born,kb_mem.2 ⟨x,hx,h1,rfl⟩,by simp⟩
  ·rintro ⟨s,hs,-⟩
   obtain⟨x,hx,h1,h2⟩:=kb_mem.1 hs
   obtain⟨a,h3,h4⟩:=he.key x hx
   rw [h1] at h3;injection h3 with h3;subst h3;rw [h4];simp
theorem Its.next (h:Its w b g f left cur) (ty:TypeId) {K:Value→World→Prop} (h0:(∀k,¬left k)→K (.tuple #[.bool false]) w)
  (h1:∀k v w1,left k→f k=some v→Fm (·=g) w w1→Its w1 b g f (fun j=>left j∧j≠k) (some k)→itM b g w1 < itM b g w→K (.tuple #[.bool true,.string k,v]) w1):Raw P (Instr.next (.pointer (some ⟨g,0,none⟩)) false ty) w K:=by
 have hne:=h.ne
 obtain⟨es,clock,since,seen,last,hb,he,hg,hsl,hsc,hold,hleft,-⟩:=h
 have hold':∀x∈es.toList,x.born < since:=fun x hx=>hold (x.key,x.born) (kb_mem.2 ⟨x,hx,rfl,rfl⟩)
 unfold Raw
 simp only [Instr.next,getObj,Sem.run_bind,Sem.run,hg,hb,Result.andThen,next_test_false seen es since last hold' hsl,Bool.false_eq_true,if_false]
 have hmem:∀x∈(Array.filter (fun e=>!seen.contains e.born) es).toList,x.born < since:=fun x hx=>hold' x (by simp at hx ⊢;exact hx.1)
 have hL:∀x,x∈Array.filter (fun e=>!seen.contains e.born) es↔x∈es.toList∧seen.contains x.born=false:=fun x=>by simp
 generalize Array.filter (fun e=>!seen.contains e.born) es=L at hmem hL ⊢
 have e1:L.filter (fun x=>decide (x.born < since))=L:=Array.filter_eq_self.2 (fun x hx=>by simpa using hmem x (by simpa using hx))
 have e2:L.filter (fun x=>decide (x.born≥since))=#[]:=by
  rw [Array.filter_eq_empty_iff]
  intro x hx
  have:=hmem x (by simpa using hx)
  simp
  omega
 simp only [e1,e2,Array.append_empty]
 by_cases hz:L.size=0
 ·have hLe:L=#[]:=Array.eq_empty_of_size_eq_zero hz
  refine⟨.tuple #[.bool false],w,?_,h0 fun k hk=>?_⟩
  ·subst hLe
   simp [choose,Sem.run,Question.forced]
  ·obtain⟨s,hs,hc⟩:=(hleft k).1 hk
   obtain⟨x,hx,h3,h4⟩:=kb_mem.1 hs
   have:x∈L:=(hL x).2 ⟨hx,by rw [h4];exact hc⟩
   rw [hLe] at this;simp at this
 ·have hne0:L.isEmpty=false:=by simp [Array.isEmpty,hz]
  simp only [hne0,Bool.false_eq_true,if_false,Array.empty_append,Array.size_map]
  have hch:∃(j:Nat) (w1:World),j < L.size∧w1.heap=w.heap∧Below w.heap.size w w1∧(choose (Question.mapNext L.size)).run P w=.ok j w1:=by
   by_cases hf:L.size≤1
   ·exact⟨0,w,by omega,rfl,Below.refl _ _,by simp [choose,Sem.run,Question.forced,hf]⟩
   ·exact⟨_,w.drew,Nat.mod_lt _ (by omega),rfl,(Below.refl _ _).drew,by
     simp only [choose,Sem.run,Question.forced,decide_eq_true_eq,hf,if_false,Question.cut]
     rfl⟩
  obtain⟨j,w1,hj,hh,hbel,hrun⟩:=hch
  have hset:∀(o':Obj),(setObj g o').run P w1=.ok () { w1 with heap:=w1.heap.setIfInBounds g o' }:=fun o'=>by
   simp [setObj,Sem.run,hh,hg]
  have hxm:L[j]∈L:=Array.getElem_mem hj
  obtain⟨hx1,hx2⟩:=(hL _).1 hxm
  obtain⟨k,hk1,hk2⟩:=he.key _ hx1
  have hglt:=(Array.getElem?_eq_some_iff.1 hg).1
  refine⟨.tuple #[.bool true,.string k,L[j].val],{ w1 with heap:=w1.heap.setIfInBounds g (.mapIter (some b) since (seen.push L[j].born) clock) },?_,?_⟩
  ·simp only [hrun,Array.getElem?_map,Array.getElem?_eq_getElem hj,Option.map_some,Sem.run_bind,hset,Result.andThen,hk1]
   rfl
  ·refine h1 k L[j].val _ ((hleft k).2 ⟨L[j].born,kb_mem.2 ⟨_,hx1,hk1,rfl⟩,hx2⟩) hk2 ((Fm.below hbel).trans (set_fm _ _ _)) ⟨es,clock,since,seen.push L[j].born,clock,?_,he,?_,hsc,hsc,hold,fun i=>?_,fun i hi=>?_⟩ ?_
   ·show (w1.heap.setIfInBounds g _)[b]?=_
    rw [Array.getElem?_setIfInBounds_ne (fun e=>hne e.symm),hh];exact hb
   ·show (w1.heap.setIfInBounds g _)[g]?=_
    rw [hh];simp [hglt]
   ·constructor
    ·rintro ⟨h3,h4⟩
     obtain⟨s,hs,hc⟩:=(hleft i).1 h3
     obtain⟨y,hy,h5,h6⟩:=kb_mem.1 hs
     refine⟨s,hs,?_⟩
     have hsx:s≠L[j].born:=fun e=>by
      have:y=L[j]:=nodup_map_inj he.age y hy _ hx1 (by rw [h6,e])
      rw [this,hk1] at h5;injection h5 with h5;exact h4 h5.symm
     simp only [Array.contains_eq_mem,Array.mem_push,decide_eq_false_iff_not,not_or] at hc ⊢
     exact⟨hc,hsx⟩
    ·rintro ⟨s,hs,hc⟩
     obtain⟨y,hy,h5,h6⟩:=kb_mem.1 hs
     simp only [Array.contains_eq_mem,Array.mem_push,decide_eq_false_iff_not,not_or] at hc
     refine⟨(hleft i).2 ⟨s,hs,by simpa using hc.1⟩,fun e=>?_⟩
     subst e
     have:y=L[j]:=nodup_map_inj he.one y hy _ hx1 (by rw [h5,hk1])
     exact hc.2 (by rw [←show y.born=s from h6,this])
   ·cases hi
    exact⟨rfl,L[j].born,kb_mem.2 ⟨_,hx1,hk1,rfl⟩,by simp⟩
   ·have a1:(w1.heap.setIfInBounds g (.mapIter (some b) since (seen.push L[j].born) clock))[b]?=some (.map es clock):=by
     rw [Array.getElem?_setIfInBounds_ne (fun e=>hne e.symm),hh];exact hb
    have a2:(w1.heap.setIfInBounds g (.mapIter (some b) since (seen.push L[j].born) clock))[g]?=some (.mapIter (some b) since (seen.push L[j].born) clock):=by
     rw [hh];simp [hglt]
    unfold itM
    dsimp only
    rw [a1,a2,hb,hg]
    dsimp only
    exact filter_lt hx1 (by rw [hx2];rfl) (by simp) fun y hy=>by simp at hy ⊢;exact hy.1
theorem Its.entry {k:ByteArray} (h:Its w b g f left (some k)) {v:Value} (hv:f k=some v) {K:Value→World→Prop} (hK:K (.tuple #[.string k,v]) w):Raw P (Instr.entry (.pointer (some ⟨g,0,none⟩))) w K:=by
 obtain⟨es,clock,since,seen,last,hb,he,hg,hsl,hsc,hold,hleft,hcur⟩:=h
 obtain⟨rfl,s,hs,hback⟩:=hcur k rfl
 obtain⟨x,hx,h1,h2⟩:=kb_mem.1 hs
 have hf:es.find? (·.born == s)=some x:=by rw [←Array.find?_toList,←show x.born=s from h2];exact find_born x es.toList he.age hx
 obtain⟨a,h3,h4⟩:=he.key x hx
 rw [h1] at h3;injection h3 with h3;subst h3
 have hxv:x.val=v:=by rw [hv] at h4;exact (Option.some.inj h4).symm
 refine⟨_,w,?_,hK⟩
 simp only [Instr.entry,getObj,Sem.run_bind,Sem.run,hg,hb,Result.andThen,hback,bne_self_eq_false,Bool.false_eq_true,if_false,hf]
 rw [←hxv,←show x.key=Value.string k from h1]
 rfl
theorem Its.fm {M:Nat→Prop}{w1:World} (h:Its w b g f left cur) (hf:Fm M w w1) (hm:¬M b) (hm2:¬M g):Its w1 b g f left cur:=by
 obtain⟨es,clock,since,seen,last,hb,he,hg,h⟩:=h
 exact⟨es,clock,since,seen,last,by rw [hf.block b (Array.getElem?_eq_some_iff.1 hb).1 hm];exact hb,he,by rw [hf.block g (Array.getElem?_eq_some_iff.1 hg).1 hm2];exact hg,h⟩
end
set_option maxRecDepth 100000
section
variable {D:Im}{E:Nat→Option (Nat × Nat)}{nms lbs:List Nat}{gv:Nat}{i k x y cx cy:Nat}{sx sy:Sl}
end
set_option maxRecDepth 100000
section
variable {A:Nat→Option Sl}{roots loose:List Nat}{ws:List ByteArray}{q:Nat→Nat→Bool}
theorem hasF_some {r n:Nat}{s:Sl} (h:A n=some s):hasF A ws (r+1) n=ownF' A ws n++s.kids.flatMap (hasF A ws r):=by rw [hasF,h]
theorem someF_some {r n:Nat}{s:Sl} (h:A n=some s):someF A ws (r+1) n=(wholeF A ws (r+1) n || s.kids.any (someF A ws r)):=by rw [someF,h]
theorem besF_some {r n:Nat}{s:Sl} (h:A n=some s):besF A ws (r+1) n=if wholeF A ws (r+1) n=true then [] else ownF' A ws n++s.kids.flatMap (besF A ws r):=by rw [besF,h]
theorem besK_some {r n:Nat}{s:Sl} (h:A n=some s):besK A ws (r+1) n=ownF' A ws n++s.kids.flatMap (besF A ws r):=by rw [besK,h,Nat.add_sub_cancel]
theorem findF_some {r n:Nat}{s:Sl} (h:A n=some s):findF A ws q (r+1) n=s.kids.flatMap (findF A ws q r)++(if wholeF A ws (r+1) n=true∧q (r+1) n=true then [n] else []):=by rw [findF,h]
def qS (A:Nat→Option Sl) (ws:List ByteArray) (r n:Nat):Bool:=match A n with | some s=>!(s.kids.any (someF A ws (r-1))) | none=>false
def qB (A:Nat→Option Sl) (ws:List ByteArray) (r n:Nat):Bool:=allW' ws (besK A ws r n)
theorem kidc (hA:WfA A roots loose) {n c:Nat}{s:Sl} (hs:A n=some s) (hc:Ch A n c) {k:Nat} (hk:k∈s.kids):∃t,A k=some t∧t.parent=n∧Ch A k (c+1):=by
 obtain⟨t,t1,t2⟩:=((hA.kid n s hs).2 k hk).2
 exact⟨t,t1,t2,.succ (hA.ne0 t1) t1 (by rw [t2];exact hc)⟩
theorem no66 (hA:WfA A roots loose) {n c:Nat}{s:Sl} (hs:A n=some s) (hc:Ch A n c):c≤64:=by
 obtain⟨c',h1,h2⟩:=hA.chain n s hs
 have:=hc.fn h2;omega
end
section
variable {D:Im}{ws:List ByteArray}{q:Nat→Nat→Bool}
def fndF (D:Im) (ws:List ByteArray) (q:Nat→Nat→Bool):List Nat:=(allD' D).filter fun n=>decide (n∈D.roots.flatMap (findF (slA D.sl) ws q 65))
def AllS (D:Im) (ws:List ByteArray):List Nat:=fndF D ws fun _ _=>true
def SmallS (D:Im) (ws:List ByteArray):List Nat:=fndF D ws (qS (slA D.sl) ws)
theorem rootc (hA:WfA (slA D.sl) D.roots []) {z:Nat} (hz:z∈D.roots):∃u,slA D.sl z=some u∧Ch (slA D.sl) z 1:=by
 obtain⟨_,u,u1,u2⟩:=hA.root.2 z hz
 exact⟨u,u1,.succ (hA.ne0 u1) u1 (by rw [u2];exact .zero)⟩
end
end Go.Proofs.YtccplipiahdhiaaGreatDoor
set_option linter.unusedVariables false
set_option maxRecDepth 100000
namespace Go.Proofs.YtccplipiahdhiaaGreatDoor
open Go.Vc
def F36 (s:ByteArray) (j:World) (R:Ending→World→Prop):Prop :=
 Calls Tryz.prog 67 #[(.string s)] j (post R fun v w1 =>
 ∃(h:Int) (f:Int),v=(.tuple #[(.int .i64 h),(.int .i64 f)]) ∧
 Br (f != (0:Int))
 (R (.returned (.tuple #[(.slice none 0 0),(.slice none 0 0),(.int .i64 f)])) w1)
 (Calls Tryz.prog 57 #[(.string s)] w1 (post R fun v2 i =>
 ∃(g:Option Addr) (b:Nat) (d:Nat) (e:Option Addr) (c:Nat) (a:Nat),v2=(.tuple #[(.slice g b d),(.slice e c a)]) ∧
 R (.returned (.tuple #[(.slice g b d),(.slice e c a),(.int .i64 0)])) i)))
theorem ok36 (s:ByteArray) {w:World}{R:Ending→World→Prop} (h:F36 s w R):Calls Tryz.prog 36 #[(.string s)] w R :=
 vc_calls (pl:=⟨24,⟨[]⟩,[],[]⟩) Tryz.func36 (by kernel_rfl) (by kernel_rfl) (by kernel_rfl) (Eq.mp (by kernel_rfl) h)
def F85_j7 (L3:Int→World→Prop) (b:Int) (a:World) (R:Ending→World→Prop):Prop :=
 InR .i64 (b+(1:Int))∧L3 (b+(1:Int)) a
def F85_l3 (j:Option Addr) (f:Nat) (d:Nat) (L3:Int→World→Prop) (i:Int) (g:World) (R:Ending→World→Prop):Prop :=
 Br (decide (i < ((f:Nat):Int)))
 (∃J7:World→Prop,(∀ (a:World),J7 a→F85_j7 L3 i a R) ∧
 (IdxA j f i 1 fun e =>
 LdI .u8 (g.cell? e) fun c =>
 Br (decide (c≥(65:Int)))
 (Br (decide (c≤(90:Int)))
 (InR .u8 (c+(97:Int))∧InR .u8 ((c+(97:Int))-(65:Int))∧IdxA j f i 1 fun h =>
 St g h (.int .u8 ((c+(97:Int))-(65:Int))) fun a =>
 J7 a)
 (J7 g))
 (J7 g)))
 (Raw Tryz.prog (convert 175 9 (.slice j f d)) g fun v2 a =>
 ∃(b:ByteArray),v2=(.string b) ∧
 R (.returned (.string b)) a)
def F85 (s:ByteArray) (e:World) (R:Ending→World→Prop):Prop :=
 Raw Tryz.prog (convert 9 175 (.string s)) e fun v w1 =>
 ∃(f:Option Addr) (c:Nat) (b:Nat),v=(.slice f c b) ∧
 ∃(I:Int→World→Prop) (m:Int→World→Nat),I (0:Int) w1 ∧
 ∀(d:Int) (a:World),I d a→F85_l3 f c b (fun d' w2=>I d' w2∧m d' w2 < m d a) d a R
theorem ok85 (s:ByteArray) {w:World}{R:Ending→World→Prop} (h:F85 s w R):Calls Tryz.prog 85 #[(.string s)] w R :=
 vc_calls (pl:=⟨30,⟨[]⟩,[(7,⟨[],[(4,6),(12,27)]⟩)],[(3,⟨[(10,(.s (.int .i64)))],[(4,6),(10,28)]⟩)]⟩) Tryz.func85 (by kernel_rfl) (by kernel_rfl) (by kernel_rfl) (Eq.mp (by kernel_rfl) h)
def F57_j8 (s:ByteArray) (L4:Option Addr→Nat→Nat→Option Addr→Nat→Nat→Int→World→Prop) (l:Option Addr) (lN:Nat) (lC:Nat) (at_:Option Addr) (atN:Nat) (atC:Nat) (i:Int) (i2:Int) (j:World) (R:Ending→World→Prop):Prop :=
 Br (decide (i2 > i))
 (SlB i i2 ((s.size:Nat):Int)
 (Calls Tryz.prog 85 #[(.string (s.extract (i).toNat (i2).toNat))] j (post R fun v w1 =>
 ∃(n:ByteArray),v=(.string n) ∧
 Al w1 #[(.string n)] 9 fun g34 h =>
 Raw Tryz.prog (Builtin.append_ #[26,26] 26 #[(.slice l lN lC),(.slice (some g34) 1 1)]) h fun v2 g =>
 ∃(k:Option Addr) (a:Nat) (e:Nat),v2=(.slice k a e) ∧
 Al g #[(.int .i64 i)] 3 fun g38 c =>
 Raw Tryz.prog (Builtin.append_ #[87,87] 87 #[(.slice at_ atN atC),(.slice (some g38) 1 1)]) c fun v3 d =>
 ∃(m:Option Addr) (b:Nat) (f:Nat),v3=(.slice m b f) ∧
 L4 k a e m b f i2 d)))
 (InR .i64 (i2+(1:Int))∧L4 l lN lC at_ atN atC (i2+(1:Int)) j)
def F57_j7 (L6:Int→World→Prop) (i2:Int) (a:World) (R:Ending→World→Prop):Prop :=
 InR .i64 (i2+(1:Int))∧L6 (i2+(1:Int)) a
def F57_l6 (s:ByteArray) (J8:Int→World→Prop) (L6:Int→World→Prop) (i2:Int) (b:World) (R:Ending→World→Prop):Prop :=
 ∃J7:World→Prop,(∀ (w1:World),J7 w1→F57_j7 L6 i2 w1 R) ∧
 (Br (decide (i2 < ((s.size:Nat):Int)))
 (IdxS s i2 fun c20 =>
 Calls Tryz.prog 88 #[(.int .u8 c20)] b (post R fun v w1 =>
 ∃(a:Bool),v=(.bool a) ∧
 Br a
 (J7 w1)
 (J8 i2 w1)))
 (J8 i2 b))
def F57_l4 (s:ByteArray) (L4:Option Addr→Nat→Nat→Option Addr→Nat→Nat→Int→World→Prop) (l:Option Addr) (lN:Nat) (lC:Nat) (at_:Option Addr) (atN:Nat) (atC:Nat) (i:Int) (a:World) (R:Ending→World→Prop):Prop :=
 Br (decide (i < ((s.size:Nat):Int)))
 (∃J8:Int→World→Prop,(∀(i2:Int) (w1:World),J8 i2 w1→F57_j8 s L4 l lN lC at_ atN atC i i2 w1 R) ∧
 (∃(I:Int→World→Prop) (m:Int→World→Nat),I i a ∧
 ∀(i2:Int) (w1:World),I i2 w1→F57_l6 s J8 (fun i2' w2=>I i2' w2∧m i2' w2 < m i2 w1) i2 w1 R))
 (R (.returned (.tuple #[(.slice l lN lC),(.slice at_ atN atC)])) a)
def F57 (s:ByteArray) (a:World) (R:Ending→World→Prop):Prop :=
 ∃(I:Option Addr→Nat→Nat→Option Addr→Nat→Nat→Int→World→Prop) (m:Option Addr→Nat→Nat→Option Addr→Nat→Nat→Int→World→Nat),I none 0 0 none 0 0 (0:Int) a ∧
 ∀(l:Option Addr) (lN:Nat) (lC:Nat) (at_:Option Addr) (atN:Nat) (atC:Nat) (i:Int) (w1:World),I l lN lC at_ atN atC i w1→F57_l4 s (fun l' lN' lC' at_' atN' atC' i' w2=>I l' lN' lC' at_' atN' atC' i' w2∧m l' lN' lC' at_' atN' atC' i' w2 < m l lN lC at_ atN atC i w1) l lN lC at_ atN atC i w1 R
theorem ok57 (s:ByteArray) {w:World}{R:Ending→World→Prop} (h:F57 s w R):Calls Tryz.prog 57 #[(.string s)] w R :=
 vc_calls (pl:=⟨44,⟨[]⟩,[(7,⟨[],[(13,23)]⟩),(8,⟨[(6,(.s (.int .i64)))],[(6,7),(13,25)]⟩)],[(6,⟨[(6,(.s (.int .i64)))],[(6,7),(13,25)]⟩),(4,⟨[(4,(.s .slice)),(5,(.s .slice)),(6,(.s (.int .i64)))],[(4,42)]⟩)]⟩) Tryz.func57 (by kernel_rfl) (by kernel_rfl) (by kernel_rfl) (Eq.mp (by kernel_rfl) h)
end Go.Proofs.YtccplipiahdhiaaGreatDoor
namespace Go.Vc
open Go Go.RowKit
section
variable {P:Program}{w:World}
theorem s2b {src dst e:TypeId}{u:TypeDesc}{s:ByteArray}{K:Value→World→Prop} (hs:P.underlying src=some u) (hd:P.underlying dst=some (.slice e)) (he:P.underlying e=some (.int .u8))
  (h:∀cap w1,Below w.heap.size w w1→(∀j (hj:j < s.size),w1.cell? ⟨w.heap.size,j,none⟩=some (.int .u8 (s[j].toNat:Int)))→(∀j,j < s.size→w1.frozen? ⟨w.heap.size,j,none⟩=false) →
   w1.heap.size=w.heap.size+1→K (.slice (some ⟨w.heap.size,0,none⟩) s.size cap) w1):Raw P (convert src dst (.string s)) w K:=by
 refine⟨_,_,Lib.run_convert_string_bytes w src dst e s hs hd he,h _ _ ?_ ?_ ?_ ?_⟩
 ·refine⟨rfl,rfl,rfl,by simp [Lib.bytesWorld,World.freeze],fun k hk=>?_⟩
  simp only [Lib.bytesWorld,World.freeze]
  rw [if_neg (by omega)]
  simp only [Array.getElem?_modify]
  rw [if_neg (by omega)]
  exact Below.heap_alloc w.drew _ k hk
 ·intro j hj
  have hsz:s.size≤(Lib.bytesCells w e s).size:=by simp [Lib.bytesCells]
  have:(Lib.bytesCells w e s)[j]?=some (.int .u8 (s[j].toNat:Int)):=by
   unfold Lib.bytesCells
   rw [Array.getElem?_append_left (by simpa using hj)]
   simp [hj];rfl
  simp only [Lib.bytesWorld,World.freeze,World.cell?]
  rw [if_neg (by omega)]
  simp only [Array.getElem?_modify,if_true]
  simp [World.alloc,World.drew,-World.alloc_eq,-World.drew_eq,this]
 ·intro j hj
  have hsz:s.size≤(Lib.bytesCells w e s).size:=by simp [Lib.bytesCells]
  simp only [Lib.bytesWorld,World.freeze,World.frozen?]
  rw [if_neg (by omega)]
  simp only [Array.getElem?_modify,if_true]
  simp [World.alloc,World.drew,-World.alloc_eq,-World.drew_eq]
  omega
 ·simp [Lib.bytesWorld,World.freeze]
theorem b2s {src dst e:TypeId}{a:Option Addr}{n cap:Nat}{K:Value→World→Prop} (l:List UInt8) (hn:n=l.length) (hs:P.underlying src=some (.slice e)) (he:P.underlying e=some (.int .u8)) (hd:P.underlying dst=some .string)
  (hc:∀j (hj:j < l.length),∃b o,a=some ⟨b,o,none⟩∧w.cell? ⟨b,o+j,none⟩=some (.int .u8 (l[j].toNat:Int))) (h:K (.string ⟨l.toArray⟩) w):Raw P (convert src dst (.slice a n cap)) w K:=by
 subst hn
 cases a with
 | none =>
  cases l with
  | nil=>exact⟨_,w,(by show (convert src dst (.slice none 0 cap)).run P w=_;rw [run_convert_bytes_string w src dst e none 0 cap hs he hd];rfl),h⟩
  | cons x xs=>obtain⟨b,o,h0,_⟩:=hc 0 (by simp);cases h0
 | some q =>
  refine⟨_,w,run_convert_bytes_back w src dst e q cap l hs he hd fun j hj=>?_,h⟩
  obtain⟨b,o,h0,h1⟩:=hc j hj
  obtain rfl:q=⟨b,o,none⟩:=by simpa using h0
  rw [Addr.add_mk]
  exact h1
end
end Go.Vc
namespace Go.Proofs.YtccplipiahdhiaaGreatDoor
open Go.RowKit Go.Vc
set_option maxRecDepth 100000
theorem inR_u8 {z:Int} (h0:0≤z) (h1:z≤255):InR .u8 z:=⟨by simpa [IntKind.min,IntKind.signed] using h0,by simpa [IntKind.max,IntKind.signed,IntKind.bits] using h1⟩
theorem lower_calls (s:ByteArray) (hs:s.size≤140737488351232) {w:World}{R:Ending→World→Prop} (h:∀w',Below w.heap.size w w'→R (.returned (.string (lowB s))) w'):Calls Tryz.prog 85 #[.string s] w R:=by
 refine ok85 s ?_
 unfold F85
 refine s2b rfl Tryz.underlying175 rfl fun cap w1 hb hc hf hsz=>⟨_,_,_,rfl,?_⟩
 refine⟨fun i w2=>∃k:Nat,i=k∧k≤s.size∧Below w.heap.size w w2∧(∀j,j < s.size→w2.frozen? ⟨w.heap.size,j,none⟩=false) ∧
   ∀j (hj:j < s.size),w2.cell? ⟨w.heap.size,j,none⟩=some (.int .u8 (if j < k then (lowU s[j]).toNat else s[j].toNat:Nat)),fun i w2=>s.size-i.toNat,⟨0,rfl,by omega,hb,hf,fun j hj=>by simpa using hc j hj⟩,?_⟩
 rintro i w2 ⟨k,rfl,hk,hb,hf,hc⟩
 unfold F85_l3
 refine brd (fun hlt=>?_) (fun hge=>?_)
 ·have hlt':k < s.size:=by omega
  have hck:=hc k hlt'
  simp only [Nat.lt_irrefl,if_false] at hck
  have hbyte:=s[k].toNat_lt
  refine⟨fun w3=>Below w.heap.size w w3∧(∀j,j < s.size→w3.frozen? ⟨w.heap.size,j,none⟩=false) ∧
   ∀j (hj:j < s.size),w3.cell? ⟨w.heap.size,j,none⟩=some (.int .u8 (if j < k+1 then (lowU s[j]).toNat else s[j].toNat:Nat)),?_,?_⟩
  ·rintro w3 ⟨h1,h2,h3⟩
   unfold F85_j7
   exact⟨inR_i64 (by omega) (by omega),⟨k+1,by simp,by omega,h1,h2,h3⟩,by dsimp only;omega⟩
  ·have skip:¬(65≤s[k].toNat∧s[k].toNat≤90)→∀j (hj:j < s.size),w2.cell? ⟨w.heap.size,j,none⟩=some (.int .u8 (if j < k+1 then (lowU s[j]).toNat else s[j].toNat:Nat)):=by
    intro hn j hj
    rw [hc j hj]
    congr 3
    by_cases hjk:j=k
    ·subst hjk
     rw [if_neg (by omega),if_pos (by omega),lowU_nat]
     unfold lowW
     rw [if_neg hn]
    ·by_cases hj2:j < k
     ·rw [if_pos hj2,if_pos (by omega)]
     ·rw [if_neg hj2,if_neg (by omega)]
   rw [IdxA_some (by omega) (by omega),Addr.add_mk]
   simp only [Int.toNat_natCast,Nat.mul_one,Nat.zero_add,hck,LdI_some]
   refine brd (fun h65=>brd (fun h90=>?_) (fun h90=>?_)) (fun h65=>?_)
   ·refine⟨inR_u8 (by omega) (by omega),inR_u8 (by omega) (by omega),?_⟩
    rw [IdxA_some (by omega) (by omega),Addr.add_mk]
    simp only [Int.toNat_natCast,Nat.mul_one,Nat.zero_add]
    refine⟨⟨_,hck⟩,hf k hlt',hb.setCell (by simp) _,fun j hj=>by rw [World.frozen?_setCell];exact hf j hj,fun j hj=>?_⟩
    by_cases hjk:j=k
    ·subst hjk
     rw [World.cell?_setCell_same _ _ _ hck,if_pos (by omega),lowU_nat]
     unfold lowW
     rw [if_pos (by omega)]
     congr 2
     omega
    ·rw [World.cell?_setCell_other _ _ _ _ (by intro e;cases e;exact hjk rfl),hc j hj]
     congr 3
     by_cases hj2:j < k
     ·rw [if_pos hj2,if_pos (by omega)]
     ·rw [if_neg hj2,if_neg (by omega)]
   ·exact⟨hb,hf,skip (by omega)⟩
   ·exact⟨hb,hf,skip (by omega)⟩
 ·have hk':k=s.size:=by omega
  refine b2s (s.data.toList.map lowU) (by simp) Tryz.underlying175 rfl rfl (fun j hj=>⟨_,_,rfl,?_⟩) ⟨_,rfl,h _ hb⟩
  have hj':j < s.size:=by simpa using hj
  rw [Nat.zero_add,hc j hj',if_pos (by omega)]
  simp
  rfl
theorem part_k {c:Int}{n:Nat} (hc:c=n) {w:World}{R:Ending→World→Prop} (h:R (.returned (.bool (inW n))) w):Calls Tryz.prog 88 #[.int .u8 c] w R:=by
 subst hc;exact (part_calls n w).mono fun e w' ⟨he,hw⟩=>by rw [he,hw];exact h
theorem idxS {s:ByteArray}{i:Int}{k:Nat} (hi:i=k) (hk:k < s.size) {K:Int→Prop} (h:K (s[k].toNat:Nat)):IdxS s i K:=by
 subst hi
 exact⟨by omega,s[k],by simp [getElem?_pos s k hk],h⟩
structure WS (w0:World) (v u:Value) (l:List (ByteArray × Nat)) (w:World):Prop where
 below:Below w0.heap.size w0 w
 ws:Own LS w w0.heap.size 9 v (l.map (·.1))
 at_:Own LI w w0.heap.size 3 u (l.map fun p=>(p.2:Int))
 ap:Apart v u
theorem WS.keep {w0 w w1:World}{v u:Value}{l:List (ByteArray × Nat)} (h:WS w0 v u l w) (hb:Below w.heap.size w w1):WS w0 v u l w1:=⟨btr h.below h.below.size hb,h.ws.keep hb,h.at_.keep hb,h.ap⟩
theorem Apart.symm {v u:Value} (h:Apart v u):Apart u v:=by
 rcases h with h | h
 ·cases hu:rowOf u with
  | none=>exact .inl hu
  | some k=>exact .inr (by rw [h,hu];simp)
 ·exact .inr fun e=>h e.symm
theorem Apart.nil_r {v:Value}{n c:Nat}:Apart v (.slice none n c):=by
 cases h:rowOf v with
 | none=>exact .inl h
 | some k=>exact .inr (by rw [h];intro hc;cases c <;> cases hc)
theorem words_calls (s:ByteArray) (hs:s.size≤16384) {w:World}{R:Ending→World→Prop} (h:∀A n c A2 n2 c2 w',WS w (.slice A n c) (.slice A2 n2 c2) (wordsF s 0) w'→R (.returned (.tuple #[.slice A n c,.slice A2 n2 c2])) w'):Calls Tryz.prog 57 #[.string s] w R:=by
 refine ok57 s ?_
 unfold F57
 refine⟨fun l lN lC at_ atN atC i w1=>∃(k:Nat) (pre:List (ByteArray × Nat)),i=k∧k≤s.size∧WS w (.slice l lN lC) (.slice at_ atN atC) pre w1∧pre++wordsF s k=wordsF s 0,
  fun l lN lC at_ atN atC i w1=>s.size-i.toNat,⟨0,[],rfl,by omega,⟨Below.refl _ _,Own.nil _ _ _ _,Own.nil _ _ _ _,.inl rfl⟩,rfl⟩,?_⟩
 rintro l lN lC at_ atN atC i w1 ⟨k,pre,rfl,hk,hws,hpre⟩
 have hlen:pre.length≤16384:=by
  have h1:=wordsF_len s 0
  rw [←hpre,List.length_append] at h1
  omega
 unfold F57_l4
 refine brd (fun hlt=>?_) (fun hge=>?_)
 ·refine⟨fun i2 w2=>i2=(runE s k:Nat)∧WS w (.slice l lN lC) (.slice at_ atN atC) pre w2,?_,?_⟩
  ·rintro i2 w2 ⟨rfl,hws⟩
   have hle:=runE_le s k hk
   unfold F57_j8
   refine brd (fun hgt=>?_) (fun hngt=>?_)
   ·have hW:isW s k=true:=by
     cases hw:isW s k with
     | true=>rfl
     | false=>rw [runE_f hw] at hgt;omega
    refine⟨by omega,by omega,by omega,?_⟩
    have hx:(s.extract ((k:Int)).toNat ((runE s k:Nat):Int).toNat)=s.extract k (runE s k):=by simp
    rw [hx]
    refine lower_calls _ (by simp;omega) fun w3 hb3=>⟨_,rfl,?_⟩
    have h3:=hws.keep hb3
    refine ap1 (L:=LS) (base:=w.heap.size) (.string .empty) 16 rfl Tryz.underlying26 rfl rfl h3.ws h3.below.size (by simp;omega) (by simp [maxLen];omega) fun A' c' w4 ho hg=>⟨_,_,_,rfl,?_⟩
    obtain⟨hat,hap⟩:=hg.own h3.at_ h3.ap.symm
    refine ap1 (L:=LI) (base:=w.heap.size) (x:=(k:Int)) (.int .i64 0) 8 rfl Tryz.underlying87 rfl rfl hat (Nat.le_trans h3.below.size hg.lt) (by simp;omega) (by simp [maxLen];omega) fun A2' c2' w5 ho2 hg2=>⟨_,_,_,rfl,?_⟩
    obtain⟨how,hap2⟩:=hg2.own ho hap.symm
    refine⟨⟨runE s k,pre++[(lowB (s.extract k (runE s k)),k)],rfl,hle,⟨(h3.below.trans hg.below).trans hg2.below,?_,?_,?_⟩,?_⟩,by dsimp only;have:=runE_gt hW;omega⟩
    ·simpa using how
    ·simpa using ho2
    ·simpa using hap2
    ·rw [←hpre,wordsF_t hW];simp
   ·have hW:isW s k=false:=by
     cases hw:isW s k with
     | false=>rfl
     | true=>have:=runE_gt hw;omega
    have hk2:runE s k=k:=runE_f hW
    rw [hk2]
    exact⟨inR_i64 (by omega) (by omega),⟨k+1,pre,by simp,by omega,hws,by rw [←wordsF_f hW];exact hpre⟩,by dsimp only;omega⟩
  ·refine⟨fun i2 w2=>∃j:Nat,i2=j∧j≤s.size∧runE s j=runE s k∧WS w (.slice l lN lC) (.slice at_ atN atC) pre w2,fun i2 w2=>s.size-i2.toNat,⟨k,rfl,hk,rfl,hws⟩,?_⟩
   rintro i2 w2 ⟨j,rfl,hj,hr,hws⟩
   unfold F57_l6
   refine⟨fun w3=>isW s j=true∧WS w (.slice l lN lC) (.slice at_ atN atC) pre w3,?_,?_⟩
   ·rintro w3 ⟨hW,hws⟩
    have:=isW_lt hW
    unfold F57_j7
    exact⟨inR_i64 (by omega) (by omega),⟨j+1,by simp,by omega,by rw [←runE_t hW];exact hr,hws⟩,by dsimp only;omega⟩
   ·refine brd (fun hlt2=>?_) (fun hge2=>?_)
    ·have hj2:j < s.size:=by omega
     refine idxS rfl hj2 ?_
     refine part_k rfl ⟨_,rfl,?_⟩
     rw [←isW_at hj2]
     refine br (fun hW=>⟨hW,hws⟩) (fun hW=>⟨by rw [←hr,runE_f hW],hws⟩)
    ·have:isW s j=false:=by
      cases hw:isW s j with
      | false=>rfl
      | true=>have:=isW_lt hw;omega
     exact⟨by rw [←hr,runE_f this],hws⟩
 ·have:pre=wordsF s 0:=by rw [←hpre,wordsF_end (by omega)];simp
  rw [this] at hws
  exact h _ _ _ _ _ _ _ hws
set_option maxRecDepth 100000
def LHt:Lay Hit:=⟨3,fun h=>[.int .u64 (h.1:Nat),.int .i64 (h.2.1:Nat),.int .i64 (h.2.2:Nat)],fun _=>rfl,fun _=>by simp [Value.oneCell'],by decide⟩
theorem mapTypeT:Tryz.prog.underlying 133=some (.map 65 26):=by kernel_rfl
theorem mapTypeH:Tryz.prog.underlying 134=some (.map 9 42):=by kernel_rfl
theorem keyTypeN:Tryz.prog.underlying 65=some (.int .u64):=by kernel_rfl
theorem keyTypeS:Tryz.prog.underlying 9=some .string:=by kernel_rfl
theorem zeroT (w:World):(zeroValue 26).run Tryz.prog w=.ok (.slice none 0 0) w:=by kernel_rfl
theorem zeroH (w:World):(zeroValue 42).run Tryz.prog w=.ok (.slice none 0 0) w:=by kernel_rfl
def isT (A:Nat→Option Sl) (n:Nat):Bool:=match A n with | some s=>decide (s.kind=2) | none=>false
theorem wd_notT {A:Nat→Option Sl}{n:Nat} (h:isT A n=false):wdF A n=[]:=by
 unfold isT at h;unfold wdF
 cases hs:A n with
 | none=>rfl
 | some s =>
  rw [hs] at h
  have:¬s.kind=2:=by simpa using h
  show txF s=[]
  unfold txF;rw [if_neg this]
def mpTx (A:Nat→Option Sl) (N:List Nat) (tv:Nat→Sv) (k:Int):Option Value:=if 0≤k∧k.toNat∈N∧isT A k.toNat=true then some (slV (tv k.toNat)) else none
def mpHt (st:List (ByteArray × Hit)) (hv:ByteArray→Sv) (k:ByteArray):Option Value:=if hitF st k=[] then none else some (slV (hv k))
structure IxO (w6 w:World) (o:Nat→Nat) (mt mh:Nat) (A:Nat→Option Sl) (N:List Nat) (st:List (ByteArray × Hit)) (tv:Nat→Sv) (hv:ByteArray→Sv):Prop where
 fr:Fm (fun b=>b=mt∨b=mh) w6 w
 lt:∀b,o b≠0→w6.heap.size≤b∧b < w.heap.size
 ne:mt≠mh
 tl:mt < w6.heap.size
 hl:mh < w6.heap.size
 tm:Mp .u64 w mt (mpTx A N tv)
 to:∀n∈N,isT A n=true→Own LS w 0 9 (slV (tv n)) (wsF A n)∧∀x,rowOf (slV (tv n))=some x→o x=4
 hm:Ms w mh (mpHt st hv)
 ho:∀k,Own LHt w 0 67 (slV (hv k)) (hitF st k)
 hc:∀k x,rowOf (slV (hv k))=some x→o x=5
 ha:∀k k',k≠k'→Apart (slV (hv k)) (slV (hv k'))
section
variable {w w1 w6:World}{o:Nat→Nat}{mt mh:Nat}{A:Nat→Option Sl}{N:List Nat}{st:List (ByteArray × Hit)}{tv:Nat→Sv}{hv:ByteArray→Sv}{M:Nat→Prop}
theorem IxO.keep (h:IxO w6 w o mt mh A N st tv hv) (hf:Fm M w w1) (hm:∀b,b < w.heap.size→M b→o b=0∧w6.heap.size≤b):IxO w6 w1 o mt mh A N st tv hv:=by
 have hs:=h.fr.size
 have hM:∀x,o x≠0→¬M x:=fun x hx e=>hx (hm x (h.lt x hx).2 e).1
 have h6:∀x,x < w6.heap.size→¬M x:=fun x hx e=>by have:=(hm x (by omega) e).2;omega
 exact⟨h.fr.trans' hf h6,fun b hb=>⟨(h.lt b hb).1,Nat.lt_of_lt_of_le (h.lt b hb).2 hf.size⟩,h.ne,h.tl,h.hl,h.tm.fm hf (h6 mt h.tl),fun n hn ht=>⟨own_fm (h.to n hn ht).1 hf fun x hx=>hM x (by rw [(h.to n hn ht).2 x hx];decide),(h.to n hn ht).2⟩,
  h.hm.fm hf (h6 mh h.hl),fun k=>own_fm (h.ho k) hf fun x hx=>hM x (by rw [h.hc k x hx];decide),h.hc,h.ha⟩
theorem IxO.below (h:IxO w6 w o mt mh A N st tv hv) (hb:Below w.heap.size w w1):IxO w6 w1 o mt mh A N st tv hv:=h.keep (M:=fun _=>False) (.below hb) fun _ _ h=>h.elim
theorem IxO.text (h:IxO w6 w o mt mh A N st tv hv) {n:Nat} (hn:isT A n=true) (hnew:n∉N) {v:Sv} (hv':Own LS w w6.heap.size 9 (slV v) (wsF A n)) (hc:∀x,rowOf (slV v)=some x→o x=0) {K:World→Prop}
  (hK:∀w' o',IxO w6 w' o' mt mh A (N++[n]) st (fun m=>if m=n then v else tv m) hv→Fm (·=mt) w w'→(∀x,o x≠0→o' x=o x)→(∀x,rowOf (slV v)≠some x→o' x=o x)→K w') :
  Raw Tryz.prog (Instr.mapUpdate 133 (.map (some mt)) (.int .u64 (n:Nat)) (slV v)) w fun _ w'=>K w':=by
 refine h.tm.update mapTypeT keyTypeN n (slV v) fun w' hm hf=>?_
 have hs:=h.fr.size
 have hold:∀x,o x≠0→cl o (rowOf (slV v)) 4 x=o x:=fun x hx=>cl_old hx
 have hgt:∀x,o x≠0→x≠mt:=fun x hx e=>by have:=(h.lt x hx).1;have:=h.tl;omega
 have hrt:∀x,rowOf (slV v)=some x→x≠mt:=fun x hx e=>by have:=(hv'.lt x hx).1;have:=h.tl;omega
 refine hK w' (cl o (rowOf (slV v)) 4) ⟨h.fr.trans (hf.mono fun b _ e=>.inl e),fun b hb=>?_,h.ne,h.tl,h.hl,?_,fun m hm2 ht=>?_,h.hm.fm hf (fun e=>h.ne e.symm),fun k=>own_fm (h.ho k) hf fun x hx=>hgt x (by rw [h.hc k x hx];decide),fun k x hx=>?_,h.ha⟩ hf hold fun x hx=>?_
 ·by_cases e:o b=0
  ·unfold cl at hb
   by_cases e2:rowOf (slV v)=some b∧o b=0
   ·have q1:=hv'.lt b e2.1;have q2:=hf.size;exact⟨q1.1,by omega⟩
   ·rw [if_neg e2] at hb;exact absurd e hb
  ·have q1:=h.lt b e;have q2:=hf.size;exact⟨q1.1,by omega⟩
 ·have:mpTx A (N++[n]) (fun m=>if m=n then v else tv m)=upd (mpTx A N tv) (n:Nat) (some (slV v)):=by
   funext k
   unfold mpTx upd
   by_cases e:k=(n:Int)
   ·subst e
    rw [if_pos rfl,if_pos ⟨by omega,by simp,by simpa using hn⟩];simp
   ·rw [if_neg e]
    by_cases h0:0≤k
    ·have e2:k.toNat≠n:=by omega
     simp only [h0,true_and,List.mem_append,List.mem_singleton,e2,or_false,if_false]
    ·rw [if_neg (fun q=>h0 q.1)];show none=if _ then _ else _
     rw [if_neg (fun q=>h0 q.1)]
  rw [this];exact hm
 ·by_cases e:m=n
  ·subst e
   simp only [if_pos rfl]
   exact⟨(own_fm hv' hf hrt).rebase fun _ _=>Nat.zero_le _,fun x hx=>cl_row hx (.inl (hc x hx))⟩
  ·simp only [if_neg e]
   have hm3:m∈N:=by
    rcases List.mem_append.1 hm2 with q | q
    ·exact q
    ·exact absurd (List.mem_singleton.1 q) e
   obtain⟨q1,q2⟩:=h.to m hm3 ht
   exact⟨own_fm q1 hf fun x hx=>hgt x (by rw [q2 x hx];decide),fun x hx=>by rw [hold x (by rw [q2 x hx];decide)];exact q2 x hx⟩
 ·rw [hold x (by rw [h.hc k x hx];decide)];exact h.hc k x hx
 ·unfold cl;rw [if_neg (fun e=>hx e.1)]
theorem IxO.look (h:IxO w6 w o mt mh A N st tv hv) (k:ByteArray) {K:Value→World→Prop} (hK:∀v,Own LHt w 0 67 (slV v) (hitF st k)→(∀x,rowOf (slV v)=some x→o x=5)→(∀k',k'≠k→Apart (slV (hv k')) (slV v))→K (slV v) w) :
  Raw Tryz.prog (Instr.lookup 134 (.map (some mh)) (.string k) false) w K:=by
 refine h.hm.look mapTypeH keyTypeS (zeroH w) k false ?_
 unfold mpHt
 by_cases e:hitF st k=[]
 ·rw [if_pos e]
  exact hK (none,0,0) (by rw [e];exact Own.nil _ _ _ _) (fun x hx=>by cases hx) fun k' _=>Apart.nil_r
 ·rw [if_neg e]
  exact hK (hv k) (h.ho k) (h.hc k) fun k' hk=>h.ha k' k hk
theorem IxO.hit (h:IxO w6 w o mt mh A N st tv hv) {k:ByteArray}{x:Hit}{v v1:Sv} (hw:Own LHt w 0 67 (slV v) (hitF st k)) (hvc:∀x,rowOf (slV v)=some x→o x=5) (hva:∀k',k'≠k→Apart (slV (hv k')) (slV v))
  {w2:World} (g:Grew 0 w w2 (slV v) (slV v1)) (h1:Own LHt w2 0 67 (slV v1) (hitF st k++[x])) {K:World→Prop}
  (hK:∀w' o',IxO w6 w' o' mt mh A N (st++[(k,x)]) tv (fun k'=>if k'=k then v1 else hv k')→Fm (fun b=>b=mh∨rowOf (slV v)=some b) w w'→(∀x,o x≠0→o' x=o x)→(∀x,rowOf (slV v1)≠some x→o' x=o x)→K w') :
  Raw Tryz.prog (Instr.mapUpdate 134 (.map (some mh)) (.string k) (slV v1)) w2 fun _ w'=>K w':=by
 have hs:=h.fr.size
 have FG:Fm (fun b=>rowOf (slV v)=some b) w w2:=Fm.grown g.grown fun b hb=>hb
 have hmh:rowOf (slV v)≠some mh:=fun e=>by have:=(h.lt mh (by rw [hvc mh e];decide)).1;have:=h.hl;omega
 have hmt:rowOf (slV v)≠some mt:=fun e=>by have:=(h.lt mt (by rw [hvc mt e];decide)).1;have:=h.tl;omega
 refine (h.hm.fm FG hmh).update mapTypeH keyTypeS k (slV v1) fun w' hm hf=>?_
 have FF:Fm (fun b=>b=mh∨rowOf (slV v)=some b) w w':=(FG.mono fun b _ e=>.inr e).trans (hf.mono fun b _ e=>.inl e)
 have hold:∀x,o x≠0→cl o (rowOf (slV v1)) 5 x=o x:=fun x hx=>cl_old hx
 have hmem:∀x,rowOf (slV v1)=some x→rowOf (slV v)=some x∨w.heap.size≤x:=fun x hx=>by
  rcases g.row with e | e | ⟨q,e,e2⟩
  ·rw [e] at hx;exact .inl hx
  ·rw [e] at hx;cases hx
  ·rw [e] at hx;cases hx;exact .inr e2
 have hz:∀x,w.heap.size≤x→o x=0:=fun x hx=>Classical.byContradiction fun e=>by have:=(h.lt x e).2;omega
 have h5:∀x,rowOf (slV v1)=some x→o x=0∨o x=5:=fun x hx=>(hmem x hx).elim (fun e=>.inr (hvc x e)) fun e=>.inl (hz x e)
 have hit1:hitF (st++[(k,x)]) k=hitF st k++[x]:=by rw [hitF_app];congr 1;unfold hitF;simp
 have hit2:∀k',k'≠k→hitF (st++[(k,x)]) k'=hitF st k':=fun k' hk=>by
  rw [hitF_app]
  have:hitF [(k,x)] k'=[]:=by unfold hitF;rw [List.filter_cons_of_neg (by simpa using fun e=>hk e.symm)];rfl
  rw [this,List.append_nil]
 have hgt:∀x,o x≠0→x≠mh:=fun x hx e=>by have:=(h.lt x hx).1;have:=h.hl;omega
 have hm1:∀x,rowOf (slV v1)=some x→x≠mh:=fun x hx e=>by
  rcases hmem x hx with q | q
  ·rw [e] at q;exact hmh q
  ·have:=h.hl;omega
 refine hK w' (cl o (rowOf (slV v1)) 5) ⟨?_,fun b hb=>?_,h.ne,h.tl,h.hl,h.tm.fm FF (fun e=>?_),fun m hm2 ht=>?_,?_,fun k'=>?_,fun k' y hy=>?_,fun a b hab=>?_⟩ FF hold fun y hy=>?_
 ·refine⟨FF.os.trans h.fr.os,FF.tape.trans h.fr.tape,FF.output.trans h.fr.output,Nat.le_trans hs FF.size,fun b hb hm=>(FF.block b (by omega) fun e=>?_).trans (h.fr.block b hb hm)⟩
  rcases e with e | e
  ·exact hm (.inr e)
  ·have:=(h.lt b (by rw [hvc b e];decide)).1;omega
 ·have hsz:=FF.size
  by_cases e:o b=0
  ·unfold cl at hb
   by_cases e2:rowOf (slV v1)=some b∧o b=0
   ·have q1:=(h1.lt b e2.1).2
    have q2:=hf.size
    rcases hmem b e2.1 with q | q
    ·rw [hvc b q] at e;cases e
    ·exact⟨by omega,by omega⟩
   ·rw [if_neg e2] at hb;exact absurd e hb
  ·have q:=h.lt b e;exact⟨q.1,by omega⟩
 ·rcases e with e | e
  ·exact h.ne e
  ·exact hmt e
 ·obtain⟨q1,q2⟩:=h.to m hm2 ht
  refine⟨own_fm q1 FF fun y hy e=>?_,fun y hy=>by rw [hold y (by rw [q2 y hy];decide)];exact q2 y hy⟩
  have:=q2 y hy
  rcases e with e | e
  ·exact hgt y (by rw [this];decide) e
  ·rw [hvc y e] at this;cases this
 ·have:mpHt (st++[(k,x)]) (fun k'=>if k'=k then v1 else hv k')=updS (mpHt st hv) k (some (slV v1)):=by
   funext k'
   unfold mpHt updS
   by_cases e:k'=k
   ·subst e
    dsimp only
    rw [if_pos rfl,hit1,if_neg (by simp),if_pos rfl]
   ·dsimp only
    rw [if_neg e,hit2 k' e,if_neg e]
  rw [this];exact hm
 ·by_cases e:k'=k
  ·subst e
   simp only [if_pos rfl]
   rw [hit1]
   exact own_fm h1 hf hm1
  ·simp only [if_neg e]
   rw [hit2 k' e]
   refine own_fm (h.ho k') FF fun y hy q=>?_
   rcases q with q | q
   ·exact hgt y (by rw [h.hc k' y hy];decide) q
   ·rcases hva k' e with q2 | q2
    ·rw [q2] at hy;cases hy
    ·exact q2 (hy.trans q.symm)
 ·by_cases e:k'=k
  ·subst e
   simp only [if_pos rfl] at hy
   exact cl_row hy (h5 y hy)
  ·simp only [if_neg e] at hy
   rw [hold y (by rw [h.hc k' y hy];decide)];exact h.hc k' y hy
 ·have key:∀c,c≠k→Apart (slV (hv c)) (slV v1):=fun c hc=>by
   rcases g.row with q | q | ⟨z,q,q2⟩
   ·rcases hva c hc with p | p
    ·exact .inl p
    ·exact .inr (by rw [q];exact p)
   ·cases hr:rowOf (slV (hv c)) with
    | none=>exact .inl hr
    | some y=>exact .inr (by rw [hr,q];simp)
   ·cases hr:rowOf (slV (hv c)) with
    | none=>exact .inl hr
    | some y =>
     refine .inr ?_
     rw [hr,q]
     intro p
     have p:y=z:=by simpa using p
     have:=(h.lt y (by rw [h.hc c y hr];decide)).2
     omega
  by_cases ea:a=k
  ·have eb:b≠k:=fun e=>hab (ea.trans e.symm)
   simp only [if_pos ea,if_neg eb]
   exact (key b eb).symm
  ·by_cases eb:b=k
   ·simp only [if_neg ea,if_pos eb];exact key a ea
   ·simp only [if_neg ea,if_neg eb];exact h.ha a b hab
 ·unfold cl;rw [if_neg (fun e=>hy e.1)]
end
end Go.Proofs.YtccplipiahdhiaaGreatDoor
set_option linter.unusedVariables false
namespace Go.Proofs
open Go.Shelf
def Tryz.lays315_ren:Go.Shelf.Ren:=⟨fun | 315=>131 | n=>n,fun | 9=>9 | 40=>179 | 4=>4 | 3=>3 | 0=>0 | 21=>21 | n=>n,fun | n=>n⟩
theorem Tryz.lays315:Go.Proofs.Lays.n315 Tryz.prog Tryz.lays315_ren:={
 mixed:=by kernel_rfl
 f315:=Tryz.func131.trans (congrArg some (by kernel_rfl))
 t0:=Tryz.underlying0
 a0:=Tryz.isAgg0
 z0:=Tryz.sizeOf0
 v0:=Tryz.zeroValue0
 t3:=Tryz.underlying3
 a3:=Tryz.isAgg3
 z3:=Tryz.sizeOf3
 v3:=Tryz.zeroValue3
 t4:=Tryz.underlying4
 a4:=Tryz.isAgg4
 z4:=Tryz.sizeOf4
 v4:=Tryz.zeroValue4
 t9:=Tryz.underlying9
 a9:=Tryz.isAgg9
 z9:=Tryz.sizeOf9
 v9:=Tryz.zeroValue9
 t21:=Tryz.underlying21
 a21:=Tryz.isAgg21
 z21:=Tryz.sizeOf21
 v21:=Tryz.zeroValue21
 t40:=Tryz.underlying179
 a40:=Tryz.isAgg179
 z40:=Tryz.sizeOf179
 v40:=Tryz.zeroValue179 }
end Go.Proofs
namespace Go.Proofs.YtccplipiahdhiaaGreatDoor
open Go.RowKit Go.Vc
open Go.Shelf
set_option linter.unusedVariables false
set_option linter.unusedSimpArgs false
set_option maxRecDepth 100000
def badR (r:Nat):Bool:=decide (r < 128) && !inW r
def oneF (s:ByteArray):Bool:=decide ((textS s).2=0) && (!decide (s=ByteArray.mk #[]) && (decide (s=lowB s) && decide (Lib.idxFunc badR true s < 0)))
def canS (ws:List ByteArray):Bool:=decide (0 < ws.length) && (decide (ws.length≤16) && !(ws.any fun w=>!oneF w))
theorem textS_ok {s:ByteArray} (h:(textS s).2=0):s.size≤16384:=by
 unfold textS at h
 split at h
 ·cases h
 ·omega
section
variable {w:World}{R:Ending→World→Prop}
theorem textA_k (s:ByteArray) (hT:Tabs w) (h:∀w',Below w.heap.size w w'→R (.returned (.tuple #[.int .i64 (textS s).1,.int .i64 (textS s).2])) w'):Calls Tryz.prog 67 #[.string s] w R:=by
 refine ok67 s ?_
 unfold F67
 exact (text_calls s w hT).mono fun e w' ⟨he,hw⟩=>by rw [he];exact⟨_,_,rfl,h w' hw⟩
theorem oneC {n:Nat} (hn:n≤1114111) (h:R (.returned (.bool (badR n))) w):Calls Tryz.prog 87 #[.int .i32 (n:Nat)] w R:=by
 refine ok87 n ?_
 unfold F87
 unfold badR at h
 refine brd (fun hlt=>?_) (fun hge=>?_)
 ·rw [decide_eq_true (by omega),Bool.true_and] at h
  exact⟨inR_u8 (by omega) (by omega),part_k (n:=n) rfl ⟨_,rfl,h⟩⟩
 ·rw [decide_eq_false (by omega),Bool.false_and] at h
  exact h
theorem one_calls (s:ByteArray) (hT:Tabs w) (h:∀w',Below w.heap.size w w'→R (.returned (.bool (oneF s))) w'):Calls Tryz.prog 50 #[.string s] w R:=by
 refine ok50 s ?_
 unfold F50
 unfold oneF at h
 refine textA_k s hT fun w1 hb1=>⟨_,_,rfl,?_⟩
 refine bre (fun h0=>?_) (fun h0=>?_)
 ·have h0':(textS s).2=0:=by omega
  have hsz:=textS_ok h0'
  rw [decide_eq_true h0',Bool.true_and] at h
  rw [bytes_eq,brnot]
  refine brd (fun h2=>?_) (fun h2=>?_)
  ·have:=h w1 hb1
   rw [decide_eq_true h2] at this;exact this
  ·rw [decide_eq_false h2] at h
   refine lower_calls s (by omega) fun w2 hb2=>⟨_,rfl,?_⟩
   have B2:=btr hb1 hb1.size hb2
   rw [bytes_eq]
   refine brd (fun h3=>?_) (fun h3=>?_)
   ·rw [decide_eq_true h3] at h
    refine ok86 s (.func (.func 87) #[] #[]) ?_
    unfold F86
    refine (Any.strings_indexFunc_grows Tryz.lays315 87 #[] (fun args w=>by kernel_rfl) badR true s w2 fun W x hx hb=>oneC hx ⟨rfl,.refl _ _⟩).mono fun e w' ⟨he,hw⟩=>?_
    subst he
    exact⟨_,rfl,_,rfl,h w' (btr B2 B2.size hw)⟩
   ·have:=h w2 B2
    rw [decide_eq_false h3] at this;exact this
 ·have:=h w1 hb1
  rw [decide_eq_false (by omega)] at this;exact this
theorem all_calls (ws:List ByteArray) (v:Sv) (hT:Tabs w) (hl:RdV LS w ws v) (h:∀w',Below w.heap.size w w'→R (.returned (.bool (canS ws))) w'):Calls Tryz.prog 54 #[.slice v.1 v.2.1 v.2.2] w R:=by
 refine ok54 v.1 v.2.1 v.2.2 ?_
 unfold F54
 unfold canS at h
 have hn:=hl.1
 refine brd (fun h0=>?_) (fun h0=>?_)
 ·rw [decide_eq_true (by omega),Bool.true_and] at h
  refine brd (fun h1=>?_) (fun h1=>?_)
  ·rw [decide_eq_true (by omega),Bool.true_and] at h
   refine containsFS ws v _ (fun w=>!oneF w) hl (fun y hy w1 K R' hb hK=>⟨by kernel_rfl,?_⟩) fun w' hb=>⟨_,rfl,h w' hb⟩
   refine ok95 y ?_
   unfold F95
   exact one_calls y (hT.keep hb) fun w2 hb2=>⟨_,rfl,hK w2 hb2⟩
  ·have:=h w (.refl _ _)
   rw [decide_eq_false (by omega)] at this;exact this
 ·have:=h w (.refl _ _)
  rw [decide_eq_false (by omega)] at this;exact this
end
end Go.Proofs.YtccplipiahdhiaaGreatDoor
namespace Go.Proofs.YtccplipiahdhiaaGreatDoor
open Go.RowKit Go.Vc
set_option linter.unusedVariables false
set_option linter.unusedSimpArgs false
set_option maxRecDepth 100000
structure IxR (w:World) (gx gd mt mh:Nat) (D:Im) (o:Nat→Nat) (S:PS) (nv:Sv) (tv:Nat→Sv) (hv:ByteArray→Sv):Prop where
 wf:Wf D
 sd:S.D=D
 pm:PM w o ⟨gd,98,[]⟩ S
 blk:Blk w gx #[.pointer (some ⟨gd,0,none⟩),slV nv,.map (some mt),.map (some mh)] 136
 nod:RdV LHn w (allD' D) nv
 tm:Mp .u64 w mt (mpTx (slA D.sl) (allD' D) tv)
 to:∀n∈allD' D,isT (slA D.sl) n=true→RdV LS w (wsF (slA D.sl) n) (tv n)
 hm:Ms w mh (mpHt (stsF (slA D.sl) (allD' D)) hv)
 ho:∀k,RdV LHt w (hitF (stsF (slA D.sl) (allD' D)) k) (hv k)
def Ix (w:World) (gx:Nat) (D:Im):Prop:=∃gd mt mh o S nv tv hv,IxR w gx gd mt mh D o S nv tv hv
section
variable {w w0 w1:World}{o:Nat→Nat}{gx gd mt mh:Nat}{D:Im}{S:PS}{nv:Sv}{tv:Nat→Sv}{hv:ByteArray→Sv}{R:Ending→World→Prop}{θ:Th}
theorem IxR.keep (h:IxR w gx gd mt mh D o S nv tv hv) (hb:Below w.heap.size w w1):IxR w1 gx gd mt mh D o S nv tv hv :=
 ⟨h.wf,h.sd,h.pm.below hb,h.blk.keep hb,h.nod.keep hb,h.tm.fm (M:=fun _=>False) (.below hb) (fun h=>h),fun n hn ht=>(h.to n hn ht).keep hb,h.hm.fm (M:=fun _=>False) (.below hb) (fun h=>h),fun k=>(h.ho k).keep hb⟩
theorem All0_calls (h:PM w o θ S) (hS:WfS S.D.sl) (hA:WfA (slA S.D.sl) S.D.roots []) (hK:∀v w',Below w.heap.size w w'→Own LHn w' w.heap.size 65 (slV v) (allD' S.D)→R (.returned (.tuple #[slV v,.int .i64 0])) w') :
  Calls Tryz.prog 56 #[.pointer (some ⟨θ.g,0,none⟩),.int .u64 0] w R:=by
 refine ok56 (some ⟨θ.g,0,none⟩) 0 ?_
 unfold F56
 refine bre (fun _=>?_) (fun h0=>absurd rfl h0)
 obtain⟨nv,rv,hd⟩:=h.doc
 have c1:w.cell? ⟨θ.g,1,none⟩=some (.slice rv.1 rv.2.1 rv.2.2):=by rw [hd.blk.cell];rfl
 simp only [NonNil_some,Addr.add_mk,Nat.zero_add,c1,lds]
 obtain⟨q1,q2⟩:=rdO hd.r1
 rw [List.length_map] at q1
 have hfew:=rootsAll_few hS hA
 refine allP_calls h hA 65 (v:=rv) (cc:=1) (xs:=[]) q1 q2 h.rts.2 (fun x hx=>by
  obtain⟨_,u,u1,u2⟩:=hA.root.2 x hx
  exact⟨u,u1,.succ (hA.ne0 u1) u1 (by rw [u2];exact .zero)⟩) (by omega) (.refl _ _) (Own.nil _ _ _ _) (by simp only [List.length_nil];omega) fun A' n' c' w' hb ho=>⟨_,_,_,rfl,?_⟩
 rw [List.nil_append] at ho
 exact hK (A',n',c') w' hb ho
theorem rdHeld {α:Type}{L:Lay α}{A:Option Addr}{c:Nat}{xs:List α}{Q:World→Prop} (h:Rd L w A c xs) (hS:∀w1,Q w1→Rd L w1 A c xs) {n:Nat} (hn:n=xs.length) {i:Int} (h0:0≤i) (h1:i < n) {sz:Nat} (hsz:sz=L.n) {K:Addr→Prop}
  (hK:∀b o,(∀j u,(L.cells (xs[i.toNat]'(by omega)))[j]?=some u→Held Q ⟨b,o+j,none⟩ u)→K ⟨b,o,none⟩):IdxA A n i sz K:=by
 subst hsz
 have hlt:i.toNat < xs.length:=by omega
 obtain⟨b,o,hA,hc⟩:=h.at i.toNat hlt
 subst hA
 rw [IdxA_some h0 h1,Addr.add_mk]
 refine hK _ _ fun j u hj w1 hw=>?_
 obtain⟨b',o',hA',hc'⟩:=(hS w1 hw).at i.toNat hlt
 simp only [Option.some.injEq,Addr.mk.injEq,and_true] at hA'
 obtain⟨rfl,rfl⟩:=hA'
 exact hc' j u hj
theorem hits_loop {w6:World}{N:List Nat}{n:Nat}{st0:List (ByteArray × Hit)}{A:Nat→Option Sl}{u u2:Sv}{l:List (ByteArray × Nat)} (hl:l.length≤16384) (hst:st0.length≤67108864) {o:Nat→Nat} (h:IxO w6 w o mt mh A N st0 tv hv) {xs:List Value}
  (hgx:gx < w6.heap.size) (hgt:gx≠mt∧gx≠mh) (hB:Blk w gx #[.pointer (some ⟨gd,0,none⟩),slV nv,.map (some mt),.map (some mh)] 136)
  (hu:Own LS w w6.heap.size 9 (slV u) (l.map (·.1))) (hu2:Own LI w w6.heap.size 3 (slV u2) (l.map fun p=>(p.2:Int))) (huc:∀x,rowOf (slV u)=some x→o x≠5) (huc2:∀x,rowOf (slV u2)=some x→o x=0) {J:World→Prop}
  (hJ:∀w' o' hv',IxO w6 w' o' mt mh A N (st0++numF n 0 l) tv hv'→Blk w' gx #[.pointer (some ⟨gd,0,none⟩),slV nv,.map (some mt),.map (some mh)] 136→J w') :
  ∃(I:Int→World→Prop) (m:Int→World→Nat),I (0:Int) w ∧
   ∀(x67:Int) (w1_16:World),I x67 w1_16→F26_l13 ⟨gx,0,none⟩ J (n:Nat) u.1 u.2.1 u2.1 u2.2.1 (fun x67' w2=>I x67' w2∧m x67' w2 < m x67 w1_16) x67 w1_16 R:=by
 obtain⟨z1,z2⟩:=rdO hu
 obtain⟨y1,y2⟩:=rdO hu2
 rw [List.length_map] at z1 y1
 refine⟨fun i w'=>∃(k:Nat) (o':Nat→Nat) (hv':ByteArray→Sv),i=k∧k≤l.length∧IxO w6 w' o' mt mh A N (st0++numF n 0 (l.take k)) tv hv'∧Blk w' gx #[.pointer (some ⟨gd,0,none⟩),slV nv,.map (some mt),.map (some mh)] 136 ∧
   Own LS w' w6.heap.size 9 (slV u) (l.map (·.1))∧Own LI w' w6.heap.size 3 (slV u2) (l.map fun p=>(p.2:Int))∧(∀x,rowOf (slV u)=some x→o' x≠5)∧(∀x,rowOf (slV u2)=some x→o' x≠5),
  fun i _=>l.length-i.toNat,⟨0,o,hv,rfl,by omega,by simpa [numF] using h,hB,hu,hu2,huc,fun x hx=>by rw [huc2 x hx];decide⟩,?_⟩
 rintro _ w1 ⟨k,o1,hv1,rfl,hk,h1,b1,u1,v1,c1,d1⟩
 unfold F26_l13
 refine brd (fun hlt=>?_) (fun hge=>?_)
 ·have hk2:k < l.length:=by omega
  refine⟨fun w'=>∃(o':Nat→Nat) (hv':ByteArray→Sv),IxO w6 w' o' mt mh A N (st0++numF n 0 (l.take (k+1))) tv hv'∧Blk w' gx #[.pointer (some ⟨gd,0,none⟩),slV nv,.map (some mt),.map (some mh)] 136 ∧
   Own LS w' w6.heap.size 9 (slV u) (l.map (·.1))∧Own LI w' w6.heap.size 3 (slV u2) (l.map fun p=>(p.2:Int))∧(∀x,rowOf (slV u)=some x→o' x≠5)∧(∀x,rowOf (slV u2)=some x→o' x≠5),?_,?_⟩
  ·rintro w' ⟨o',hv',q⟩
   exact⟨inR_i64 (by omega) (by omega),⟨k+1,o',hv',by simp,by omega,q⟩,(by first | omega | (dsimp only;omega))⟩
  refine (rdO u1).2.str (by rw [List.length_map,z1]) rfl (k:=k) (by rw [List.length_map];exact hk2) fun b oo c0=>?_
  rw [List.getElem_map] at c0
  simp only [c0,lds]
  have hdr:Below w1.heap.size w1 w1.drew:=(Below.refl _ _).drew
  refine⟨fun w'=>Blk w' gx #[.pointer (some ⟨gd,0,none⟩),slV nv,.map (some mt),.map (some mh)] 136∧Rd LI w' u2.1 u2.2.2 (l.map fun p=>(p.2:Int)),⟨b1.keep hdr,((rdO v1).2).keep hdr⟩,?_⟩
  simp only [Addr.add_mk,Nat.zero_add]
  refine⟨_,fun w' hw=>by rw [hw.1.cell];rfl,_,fun w' hw=>by rw [hw.1.cell];rfl,?_⟩
  refine rdHeld (Q:=fun w'=>Blk w' gx #[.pointer (some ⟨gd,0,none⟩),slV nv,.map (some mt),.map (some mh)] 136∧Rd LI w' u2.1 u2.2.2 (l.map fun p=>(p.2:Int))) (rdO v1).2 (fun w' hw=>hw.2) (by rw [List.length_map,y1]) (by omega) (by omega) rfl fun b2 o2 cc=>?_
  have cc:=cc 0 _ rfl
  simp only [Int.toNat_natCast,List.getElem_map,Nat.add_zero] at cc
  refine⟨_,cc,?_⟩
  have hnum:numF n 0 (l.take (k+1))=numF n 0 (l.take k)++[(l[k].1,(n,k,l[k].2))]:=by
   rw [List.take_succ_eq_append_getElem hk2,numF_app,List.length_take,Nat.min_eq_left hk]
   simp [numF]
  have hh:=h1.below hdr
  have hb1l:=b1.lt
  have hsz1:=h1.fr.size
  have fin:∀(w2 w3:World) (v v1':Sv),Below w1.heap.size w1 w2→Own LHt w2 0 67 (slV v) (hitF (st0++numF n 0 (l.take k)) l[k].1)→(∀x,rowOf (slV v)=some x→o1 x=5)→(∀k',k'≠l[k].1→Apart (slV (hv1 k')) (slV v)) →
    Own LHt w3 0 67 (slV v1') (hitF (st0++numF n 0 (l.take k)) l[k].1++[(n,k,l[k].2)])→Grew 0 w2 w3 (slV v) (slV v1') →
    (Blk w3 gx #[.pointer (some ⟨gd,0,none⟩),slV nv,.map (some mt),.map (some mh)] 136∧Rd LI w3 u2.1 u2.2.2 (l.map fun p=>(p.2:Int)))∧Raw Tryz.prog (Instr.mapUpdate 134 (.map (some mh)) (.string l[k].1) (slV v1')) w3 fun _ w'=>∃(o':Nat→Nat) (hv':ByteArray→Sv),IxO w6 w' o' mt mh A N (st0++numF n 0 (l.take (k+1))) tv hv'∧Blk w' gx #[.pointer (some ⟨gd,0,none⟩),slV nv,.map (some mt),.map (some mh)] 136 ∧
   Own LS w' w6.heap.size 9 (slV u) (l.map (·.1))∧Own LI w' w6.heap.size 3 (slV u2) (l.map fun p=>(p.2:Int))∧(∀x,rowOf (slV u)=some x→o' x≠5)∧(∀x,rowOf (slV u2)=some x→o' x≠5):=by
   intro w2 w3 v v1' hb2 ow oc oa ow1 g
   have h2:=h1.below hb2
   have b2:=b1.keep hb2
   have FG:Fm (fun b=>rowOf (slV v)=some b) w2 w3:=Fm.grown g.grown fun b hb=>hb
   have hnx:∀x,o1 x≠5→rowOf (slV v)≠some x:=fun x hx e=>hx (oc x e)
   have hox:∀x,o1 x≠0→w6.heap.size≤x:=fun x hx=>(h1.lt x hx).1
   have hgv:rowOf (slV v)≠some gx:=fun e=>by have:=hox gx (by rw [oc gx e];decide);omega
   refine⟨⟨FG.blk b2 hgv,(rdO (own_fm (v1.keep hb2) FG fun x hx e=>hnx x (d1 x hx) e)).2⟩,?_⟩
   refine h2.hit ow oc oa g ow1 fun w' o' h' ff hs1 hs2=>⟨o',fun k'=>if k'=l[k].1 then v1' else hv1 k',?_,?_,?_,?_,fun x hx=>?_,fun x hx=>?_⟩
   ·rw [hnum,←List.append_assoc];exact h'
   ·exact ff.blk b2 fun e=>by
     rcases e with e | e
     ·exact hgt.2 e
     ·exact hgv e
   ·exact own_fm (u1.keep hb2) ff fun x hx e=>by
     rcases e with e | e
     ·have:=(u1.lt x hx).1;have:=h1.hl;omega
     ·exact hnx x (c1 x hx) e
   ·exact own_fm (v1.keep hb2) ff fun x hx e=>by
     rcases e with e | e
     ·have:=(v1.lt x hx).1;have:=h1.hl;omega
     ·exact hnx x (d1 x hx) e
   ·have hxl:=(u1.lt x hx).2
    by_cases e:o1 x=0
    ·rw [hs2 x fun e2=>?_,e];decide
     rcases g.row with q | q | ⟨z,q,q2⟩
     ·rw [q] at e2;rw [oc x e2] at e;cases e
     ·rw [q] at e2;cases e2
     ·rw [q] at e2;cases e2;have:=hb2.size;omega
    ·rw [hs1 x e];exact c1 x hx
   ·have hxl:=(v1.lt x hx).2
    by_cases e:o1 x=0
    ·rw [hs2 x fun e2=>?_,e];decide
     rcases g.row with q | q | ⟨z,q,q2⟩
     ·rw [q] at e2;rw [oc x e2] at e;cases e
     ·rw [q] at e2;cases e2
     ·rw [q] at e2;cases e2;have:=hb2.size;omega
    ·rw [hs1 x e];exact d1 x hx
  have hlen:(hitF (st0++numF n 0 (l.take k)) l[k].1).length≤67125248:=by
   unfold hitF
   rw [List.length_map]
   refine Nat.le_trans (List.length_filter_le _ _) ?_
   rw [List.length_append,numF_len,List.length_take];omega
  constructor
  ·refine hh.look l[k].1 fun v ow oc oa=>⟨_,_,_,rfl,⟨b1.keep hdr,((rdO v1).2).keep hdr⟩,?_⟩
   refine ap1S (L:=LHt) (x:=(n,k,l[k].2)) (base:=0) (.agg #[.int .u64 0,.int .i64 0,.int .i64 0]) 24 rfl (by kernel_rfl) (by kernel_rfl) (by kernel_rfl) ow (Nat.zero_le _) (by omega) (by simp [maxLen];omega) (fun w' hb=>⟨(b1.keep hdr).keep hb,(((rdO v1).2).keep hdr).keep hb⟩) fun A' c' w4 o4 g4=>⟨A',_,c',rfl,?_⟩
   exact fin w1.drew w4 v (A',_,c') hdr ow oc oa o4 g4
  ·refine al fun g90 w2 hb2 b90 hge=>⟨⟨(b1.keep hdr).keep hb2,(((rdO v1).2).keep hdr).keep hb2⟩,?_⟩
   refine (hh.below hb2).look l[k].1 fun v ow oc oa=>⟨_,_,_,rfl,⟨(b1.keep hdr).keep hb2,(((rdO v1).2).keep hdr).keep hb2⟩,?_⟩
   have hlit:Own LHt w2 0 67 (.slice (some ⟨g90,0,none⟩) 1 1) [(n,k,l[k].2)]:=Own.lit' (xs:=[(n,k,l[k].2)]) b90 (Nat.zero_le _) (by simp [Lay.all,LHt]) (by simp [maxLen])
   refine ap (L:=LHt) (base:=0) (.agg #[.int .u64 0,.int .i64 0,.int .i64 0]) 24 rfl (by kernel_rfl) (by kernel_rfl) (by kernel_rfl) ow hlit.rd.2 (Nat.zero_le _) (by simp only [List.length_singleton];omega) (by simp [maxLen];omega) fun A' c' w4 o4 g4=>⟨A',_,c',rfl,?_⟩
   exact fin w2 w4 v (A',_,c') (btr hdr hdr.size hb2) ow oc oa o4 g4
 ·have hk2:k=l.length:=by omega
  subst hk2
  rw [List.take_length] at h1
  exact hJ w1 o1 hv1 h1 b1
theorem IxO.skip {w6:World}{A:Nat→Option Sl}{N:List Nat}{st:List (ByteArray × Hit)} (h:IxO w6 w o mt mh A N st tv hv) {n:Nat} (hn:isT A n=false):IxO w6 w o mt mh A (N++[n]) st tv hv:=by
 refine⟨h.fr,h.lt,h.ne,h.tl,h.hl,?_,fun m hm ht=>?_,h.hm,h.ho,h.hc,h.ha⟩
 ·have:mpTx A (N++[n]) tv=mpTx A N tv:=by
   funext k
   unfold mpTx
   by_cases e:k.toNat=n
   ·rw [if_neg (fun q=>by rw [e,hn] at q;cases q.2.2),if_neg (fun q=>by rw [e,hn] at q;cases q.2.2)]
   ·simp only [List.mem_append,List.mem_singleton,e,or_false]
  rw [this];exact h.tm
 ·rcases List.mem_append.1 hm with q | q
  ·exact h.to m q ht
  ·rw [List.mem_singleton] at q;subst q;rw [hn] at ht;cases ht
theorem sts_len (hw:Wf D) (l:List Nat):(stsF (slA D.sl) l).length≤l.length*16384:=by
 unfold stsF
 have:∀l:List Nat,(l.flatMap (stF (slA D.sl))).length≤l.length*16384:=by
  intro l
  induction l with
  | nil=>simp
  | cons x l ih =>
   rw [List.flatMap_cons,List.length_append,List.length_cons,Nat.add_mul]
   have:(stF (slA D.sl) x).length≤16384:=by
    unfold stF
    rw [numF_len]
    unfold wdF
    cases hs:slA D.sl x with
    | none=>simp
    | some s =>
     show (txF s).length≤_
     unfold txF
     split
     ·rename_i hk
      have h1:=(hw.a.ok x s hs).1
      unfold ownF at h1
      rw [if_neg (by omega),if_pos hk] at h1
      have:=textS_ok (s:=s.text) (by omega)
      have:=wordsF_len s.text 0
      omega
     ·simp
   omega
 exact this l
theorem alm {K:Nat→World→Prop} (h:∀r w1,Below w.heap.size w w1→w.heap.size≤r→r < w1.heap.size→w1.heap[r]?=some (.map #[] 0)→K r w1):AlM w K :=
 h _ _ ((Below.refl _ _).alloc (Nat.le_refl _) _) (Nat.le_refl _) (by simp) (heap_alloc_new _ _)
theorem mp_empty (q:IntKind) {r:Nat} (h:w.heap[r]?=some (.map #[] 0)):Mp q w r fun _=>none:=⟨#[],0,h,⟨fun x hx=>by simp at hx,fun k v h=>by simp at h,by simp,fun x hx=>by simp at hx,by simp⟩⟩
theorem ms_empty {r:Nat} (h:w.heap[r]?=some (.map #[] 0)):Ms w r fun _=>none:=⟨#[],0,h,⟨fun x hx=>by simp at hx,fun k v h=>by simp at h,by simp,fun x hx=>by simp at hx,by simp⟩⟩
theorem New_calls {k g:Nat}{ty:TypeId} (h:LD k g ty w o D) (hw:Wf D) (hK:∀gx w',Below w.heap.size w w'→Ix w' gx D→R (.returned (.tuple #[.pointer (some ⟨gx,0,none⟩),.int .i64 0])) w') :
  Calls Tryz.prog 26 #[.pointer (some ⟨g,0,none⟩)] w R:=by
 refine ok26 (some ⟨g,0,none⟩) ?_
 unfold F26
 simp only [Option.isNone_some,Br_f]
 refine Tree_calls h ?_
 intro gd bs o1 w1 S hb1 hSD hp1 _ ho1 _
 refine⟨_,rfl,?_⟩
 subst hSD
 refine alm fun mt w2 hb2 hge2 hlt2 hm2=>alm fun mh w3 hb3 hge3 hlt3 hm3=>?_
 have hmp2:=mp_empty .u64 hm2
 have hms3:=ms_empty hm3
 refine al fun gx w4 hb4 b4 hge4=>?_
 have B3:=btr hb2 hb2.size hb3
 have B4:=btr B3 B3.size hb4
 simp only [b4.cell,lds]
 have hp4:=hp1.below B4
 refine All0_calls (θ:=⟨gd,98,[]⟩) hp4 hw.s hw.a ?_
 intro nv w5 hb5 on
 refine⟨_,_,_,_,rfl,?_⟩
 refine st_blk (b4.keep hb5) (by simp) fun w6 b6 f6=>?_
 simp only [List.setIfInBounds_toArray,List.set_cons_zero,List.set_cons_succ] at b6
 have b6:Blk w6 gx #[.pointer (some ⟨gd,0,none⟩),slV nv,.map (some mt),.map (some mh)] 136:=b6
 have c1:w6.cell? ⟨gx,1,none⟩=some (.slice nv.1 nv.2.1 nv.2.2):=by rw [b6.cell];rfl
 simp only [Addr.add_mk,Nat.zero_add,c1,lds]
 have B5:=btr B4 B4.size hb5
 have hsz4:=b4.lt
 have hs5:=hb5.size
 have hs6:=f6.size
 have B6:Below w1.heap.size w1 w6:=B5.trans (f6.toBelow B5.size fun b hb e=>by have e:b=gx:=e;omega)
 have hnb:=rootsAll_nodup (roots:=S.D.roots) hw.a
 have hnf:(allD' S.D).length≤4096:=rootsAll_few hw.s hw.a
 have on6:Own LHn w6 w4.heap.size 65 (slV nv) (allD' S.D):=own_fm on f6 fun x hx e=>by have e:x=gx:=e;have:=(on.lt x hx).1;omega
 have hmt6:Mp .u64 w6 mt (fun _=>none):=by
  have h3:=hmp2.fm (M:=fun _=>False) (.below hb3) (fun h=>h)
  have h4:=h3.fm (M:=fun _=>False) (.below hb4) (fun h=>h)
  have h5:=h4.fm (M:=fun _=>False) (.below hb5) (fun h=>h)
  exact h5.fm f6 fun e=>by have e:mt=gx:=e;omega
 have hmh6:Ms w6 mh (fun _=>none):=by
  have h4:=hms3.fm (M:=fun _=>False) (.below hb4) (fun h=>h)
  have h5:=h4.fm (M:=fun _=>False) (.below hb5) (fun h=>h)
  exact h5.fm f6 fun e=>by have e:mh=gx:=e;omega
 have i0:IxO w6 w6 (fun _=>0) mt mh (slA S.D.sl) [] [] (fun _=>(none,0,0)) (fun _=>(none,0,0)):=by
  refine⟨.refl _ _,fun b hb=>absurd rfl hb,by omega,by omega,by omega,?_,fun n hn=>by simp at hn,?_,fun k=>?_,fun k x hx=>(by cases hx),fun k k' _=>.inl rfl⟩
  ·have:mpTx (slA S.D.sl) [] (fun _=>(none,0,0))=fun _=>none:=by funext k;unfold mpTx;rw [if_neg (fun q=>by simp at q)]
   rw [this];exact hmt6
  ·exact hmh6
  ·exact Own.nil _ _ _ _
 refine⟨fun i w'=>∃(m:Nat) (o':Nat→Nat) (tv:Nat→Sv) (hv:ByteArray→Sv),i=m∧m≤(allD' S.D).length∧IxO w6 w' o' mt mh (slA S.D.sl) ((allD' S.D).take m) (stsF (slA S.D.sl) ((allD' S.D).take m)) tv hv∧Blk w' gx #[.pointer (some ⟨gd,0,none⟩),slV nv,.map (some mt),.map (some mh)] 136,
  fun i _=>(allD' S.D).length-i.toNat,⟨0,_,_,_,rfl,by omega,i0,b6⟩,?_⟩
 rintro _ w7 ⟨m,o7,tv7,hv7,rfl,hm,h7,b7⟩
 have hfr:=h7.fr
 have B7:Below w1.heap.size w1 w7:=B6.trans (hfr.toBelow B6.size fun b hb e=>by omega)
 have on7:Own LHn w7 w4.heap.size 65 (slV nv) (allD' S.D):=own_fm on6 hfr fun x hx e=>by have:=(on6.lt x hx).1;omega
 obtain⟨n1,n2⟩:=rdO on7
 unfold F26_l6
 refine brd (fun hlt=>?_) (fun hge=>?_)
 ·have hml:m < (allD' S.D).length:=by omega
  refine⟨fun w'=>∃(o':Nat→Nat) (tv:Nat→Sv) (hv:ByteArray→Sv),IxO w6 w' o' mt mh (slA S.D.sl) ((allD' S.D).take (m+1)) (stsF (slA S.D.sl) ((allD' S.D).take (m+1))) tv hv∧Blk w' gx #[.pointer (some ⟨gd,0,none⟩),slV nv,.map (some mt),.map (some mh)] 136,?_,?_⟩
  ·rintro w' ⟨o',tv',hv',q1,q2⟩
   exact⟨inR_i64 (by omega) (by omega),⟨m+1,o',tv',hv',by simp,by omega,q1,q2⟩,(by first | omega | (dsimp only;omega))⟩
  refine n2.hn n1 rfl hml fun b oo c0=>?_
  have htk:(allD' S.D).take (m+1)=(allD' S.D).take m++[(allD' S.D)[m]]:=List.take_succ_eq_append_getElem hml
  have hget:(allD' S.D)[m]?=some (allD' S.D)[m]:=List.getElem?_eq_getElem hml
  have hnew:(allD' S.D)[m]∉(allD' S.D).take m:=fun hm2=>by
   obtain⟨j,hj⟩:=List.mem_iff_getElem?.1 hm2
   rw [List.getElem?_take] at hj
   split at hj
   ·have:=nd_get hnb hj hget;omega
   ·cases hj
  generalize (allD' S.D)[m]=n at *
  rw [htk,stsF_app]
  have hstn:stsF (slA S.D.sl) [n]=stF (slA S.D.sl) n:=by unfold stsF;simp
  rw [hstn]
  simp only [c0,b7.cell,lds]
  obtain⟨s,hs⟩:=(mem_all_roots hw.a).1 (List.mem_of_getElem? hget)
  have hp7:=hp1.below B7
  refine Get_calls (θ:=⟨gd,98,[]⟩) hp7 hs ?_
  intro va w8 hb8 _
  refine⟨s.kind,s.nm,va.1,va.2.1,va.2.2,s.text,none,0,0,0,rfl,?_⟩
  refine al fun gt w9 hb9 b9 hge9=>?_
  refine st_blk b9 (by simp) fun u1 q1 f1=>st_blk q1 (by simp) fun u2 q2 f2=>st_blk q2 (by simp) fun u3 q3 f3=>st_blk q3 (by simp) fun u4 q4 f4=>st_blk q4 (by simp) fun w10 b10 f5=>?_
  simp only [List.setIfInBounds_toArray,List.set_cons_zero,List.set_cons_succ] at b10
  have F10:Fm (·=gt) w9 w10:=(((f1.trans f2).trans f3).trans f4).trans f5
  have hs8:=hb8.size
  have D9:=btr hb8 hb8.size hb9
  have D10:Below w7.heap.size w7 w10:=D9.trans (F10.toBelow D9.size fun b hb e=>by have e:b=gt:=e;omega)
  have h10:=h7.below D10
  have bx10:=b7.keep D10
  simp only [Addr.add_mk,Nat.zero_add,b10.cell,lds]
  refine brn (fun hk=>?_) (fun hk=>?_)
  ·have ht:isT (slA S.D.sl) n=false:=by unfold isT;rw [hs];exact decide_eq_false hk
   have hst:stF (slA S.D.sl) n=[]:=by unfold stF;rw [wd_notT ht];rfl
   rw [hst,List.append_nil]
   exact⟨o7,tv7,hv7,h10.skip ht,bx10⟩
  ·have ht:isT (slA S.D.sl) n=true:=by unfold isT;rw [hs];exact decide_eq_true hk
   have htx:wdF (slA S.D.sl) n=wordsF s.text 0:=by unfold wdF;rw [hs];show txF s=_;unfold txF;rw [if_pos hk]
   have hok:s.text.size≤16384:=by
    have h1:=(hw.a.ok n s hs).1
    unfold ownF at h1
    rw [if_neg (by omega),if_pos hk] at h1
    exact textS_ok (by omega)
   refine words_calls s.text hok fun A1 c1n c1c A2 c2n c2c w11 ws=>⟨_,_,_,_,_,_,rfl,?_⟩
   have hb11:=ws.below
   have h11:=h10.below hb11
   have bx11:=bx10.keep hb11
   have hs10:=D10.size
   have hsf:=hfr.size
   have hz:∀x,w10.heap.size≤x→o7 x=0:=fun x hx=>Classical.byContradiction fun e=>by have:=(h10.lt x e).2;omega
   simp only [Addr.add_mk,Nat.zero_add,bx11.cell,lds]
   have hwsF:(wordsF s.text 0).map (·.1)=wsF (slA S.D.sl) n:=by unfold wsF;rw [htx]
   have ow:Own LS w11 w10.heap.size 9 (slV (A1,c1n,c1c)) ((wordsF s.text 0).map (·.1)):=ws.ws
   have ow2:Own LI w11 w10.heap.size 3 (slV (A2,c2n,c2c)) ((wordsF s.text 0).map fun p=>(p.2:Int)):=ws.at_
   have hap:Apart (slV (A1,c1n,c1c)) (slV (A2,c2n,c2c)):=ws.ap
   refine h11.text ht hnew (v:=(A1,c1n,c1c)) ((by rw [←hwsF];exact ow:Own LS w11 w10.heap.size 9 (slV (A1,c1n,c1c)) (wsF (slA S.D.sl) n)).rebase fun x hx=>by have:=(ow.lt x hx).1;omega) (fun x hx=>hz x (ow.lt x hx).1) fun w12 o12 h12 f12 hs1 hs2=>?_
   have hmtl:=h7.tl
   have bx12:=f12.blk bx11 fun e=>by have e:gx=mt:=e;omega
   have ow12:=own_fm ow f12 fun x hx e=>by have e:x=mt:=e;have:=(ow.lt x hx).1;omega
   have ow22:=own_fm ow2 f12 fun x hx e=>by have e:x=mt:=e;have:=(ow2.lt x hx).1;omega
   have h4:=(h12.to n (by simp) ht).2
   simp only [if_pos rfl] at h4
   have hwl:=wordsF_len s.text 0
   have hsl:=sts_len hw ((allD' S.D).take m)
   have htl:((allD' S.D).take m).length≤4096:=by rw [List.length_take];omega
   refine hits_loop (n:=n) (u:=(A1,c1n,c1c)) (u2:=(A2,c2n,c2c)) (l:=wordsF s.text 0) (xs:=[]) (by omega) (by omega) h12 (by omega) ⟨by omega,by omega⟩ bx12 (ow12.rebase fun x hx=>by have:=(ow.lt x hx).1;omega) (ow22.rebase fun x hx=>by have:=(ow2.lt x hx).1;omega)
    (fun x hx=>by rw [h4 x hx];decide) (fun x hx=>?_) fun w' o' hv' q1 q2=>⟨o',fun k=>if k=n then (A1,c1n,c1c) else tv7 k,hv',?_,q2⟩
   ·rw [hs2 x fun e=>?_]
    ·exact hz x (ow2.lt x hx).1
    ·rcases hap with p | p
     ·rw [p] at e;cases e
     ·exact p (e.trans hx.symm)
   ·have:stF (slA S.D.sl) n=numF n 0 (wordsF s.text 0):=by unfold stF;rw [htx]
    rw [this];exact q1
 ·have hm2:m=(allD' S.D).length:=by omega
  subst hm2
  rw [List.take_length] at h7
  have hsl:=sts_len hw (allD' S.D)
  refine hK gx w7 (hb1.trans (B7.mono hb1.size)) ⟨gd,mt,mh,o1,S,nv,tv7,hv7,hw,rfl,hp1.below B7,b7,rdV_own on7 (by omega),h7.tm,fun n hn ht=>?_,h7.hm,fun k=>?_⟩
  ·refine rdV_own (h7.to n hn ht).1 ?_
   have h1:=sts_len hw [n]
   have:(stsF (slA S.D.sl) [n]).length=(wsF (slA S.D.sl) n).length:=by
    unfold stsF wsF;simp [stF,numF_len]
   simp only [List.length_singleton] at h1
   omega
  ·refine rdV_own (h7.ho k) ?_
   unfold hitF
   rw [List.length_map]
   have:=List.length_filter_le (fun p:ByteArray × Hit=>decide (p.1=k)) (stsF (slA S.D.sl) (allD' S.D))
   omega
end
set_option maxRecDepth 100000
section
variable {A:Nat→Option Sl}{N:List Nat}{ws:List ByteArray}
end
set_option maxRecDepth 100000
section
variable {w w0 w1:World}{o:Nat→Nat}{gx gd mt mh:Nat}{D:Im}{S:PS}{nv:Sv}{tv:Nat→Sv}{hv:ByteArray→Sv}{R:Ending→World→Prop}
abbrev stD (D:Im):List (ByteArray × Hit):=stsF (slA D.sl) (allD' D)
theorem rdV_nil {α:Type} (L:Lay α) (w:World):RdV L w [] (none,0,0):=⟨rfl,by simp,Rd.nil _ _⟩
theorem IxR.lookH (h:IxR w gx gd mt mh D o S nv tv hv) (k:ByteArray) {K:Value→World→Prop} (hK:∀v,RdV LHt w (hitF (stD D) k) v→K (slV v) w):Raw Tryz.prog (Instr.lookup 134 (.map (some mh)) (.string k) false) w K:=by
 refine h.hm.look mapTypeH keyTypeS (zeroH w) k false ?_
 unfold mpHt
 by_cases e:hitF (stD D) k=[]
 ·rw [if_pos e]
  exact hK (none,0,0) (by rw [e];exact rdV_nil _ _)
 ·rw [if_neg e];exact hK (hv k) (h.ho k)
theorem IxR.lookT (h:IxR w gx gd mt mh D o S nv tv hv) {n:Nat} (hn:n∈allD' D) {K:Value→World→Prop} (hK:∀v,RdV LS w (wsF (slA D.sl) n) v→K (slV v) w):Raw Tryz.prog (Instr.lookup 133 (.map (some mt)) (.int .u64 (n:Nat)) false) w K:=by
 refine h.tm.look mapTypeT keyTypeN (zeroT w) n false ?_
 by_cases e:isT (slA D.sl) n=true
 ·have e1:mpTx (slA D.sl) (allD' D) tv (n:Nat)=some (slV (tv n)):=by
   unfold mpTx
   rw [if_pos ⟨by omega,by rw [Int.toNat_natCast];exact hn,by rw [Int.toNat_natCast];exact e⟩,Int.toNat_natCast]
  rw [e1]
  exact hK (tv n) (h.to n hn e)
 ·have e1:mpTx (slA D.sl) (allD' D) tv (n:Nat)=none:=by
   unfold mpTx
   rw [if_neg (fun q=>e (by have:=q.2.2;rwa [Int.toNat_natCast] at this))]
  rw [e1]
  have:wsF (slA D.sl) n=[]:=by unfold wsF;rw [wd_notT (by simpa using e)];rfl
  exact hK (none,0,0) (by rw [this];exact rdV_nil _ _)
theorem hit_few (hw:Wf D) (k:ByteArray):(hitF (stD D) k).length≤67108864:=by
 have h1:=sts_len hw (allD' D)
 have h2:(allD' D).length≤4096:=rootsAll_few hw.s hw.a
 unfold hitF
 rw [List.length_map]
 have:=List.length_filter_le (fun p:ByteArray × Hit=>decide (p.1=k)) (stD D)
 unfold stD at *
 omega
theorem cloneHit {l:List Hit}{v:Sv} (hl:RdV LHt w l v) (hn:l.length≤67108864) (h:∀v' w',Below w.heap.size w w'→Own LHt w' w.heap.size 67 (slV v') l→R (.returned (slV v')) w'):Calls Tryz.prog 51 #[.slice v.1 v.2.1 v.2.2] w R:=by
 refine ok51 v.1 v.2.1 v.2.2 ?_
 unfold F51
 obtain⟨z1,z0,z2⟩:=hl
 refine br (fun hz=>?_) (fun hz=>?_)
 ·have h1:v.1=none:=by simpa using hz
  have h2:=z2.2.2.1 h1
  have h3:=z2.1
  have:l=[]:=List.eq_nil_of_length_eq_zero (by omega)
  subst this
  exact h (none,0,0) w (Below.refl _ _) (Own.nil _ _ _ _)
 ·refine al fun g w1 hb1 b1 hge=>?_
  refine ap (L:=LHt) (e:=67) (xs:=[]) (ys:=l) (base:=w.heap.size) (.agg #[.int .u64 0,.int .i64 0,.int .i64 0]) 24 z1 (by kernel_rfl) (by kernel_rfl) (by kernel_rfl) (Own.bare _ _ _ _ _) (z2.keep hb1) hb1.size (by simp only [List.length_nil,Nat.zero_add];omega) (by simp [maxLen];omega) fun A' c' w2 o2 g2=>⟨_,_,_,rfl,?_⟩
  exact h (A',_,c') w2 (hb1.trans g2.below) (by rw [List.nil_append] at o2;exact o2)
theorem Find_calls (hx:IxR w gx gd mt mh D o S nv tv hv) (hT:Tabs w) (word:ByteArray) (h1:oneF word=true→∀v w',Below w.heap.size w w'→Own LHt w' w.heap.size 67 (slV v) (hitF (stD D) word)→R (.returned (.tuple #[slV v,.int .i64 0])) w')
  (h0:oneF word=false→∀w',Below w.heap.size w w'→R (.returned (.tuple #[.slice none 0 0,.int .i64 1])) w'):Calls Tryz.prog 16 #[.pointer (some ⟨gx,0,none⟩),.string word] w R:=by
 refine ok16 (some ⟨gx,0,none⟩) word ?_
 unfold F16
 refine one_calls word hT fun w1 hb1=>⟨_,rfl,?_⟩
 rw [brnot]
 refine br (fun ho=>?_) (fun ho=>h0 ho w1 hb1)
 have hx1:=hx.keep hb1
 have c3:w1.cell? ⟨gx,3,none⟩=some (.map (some mh)):=by rw [hx1.blk.cell];rfl
 simp only [NonNil_some,Addr.add_mk,Nat.zero_add,c3,lds]
 refine hx1.lookH word fun v hr=>⟨_,_,_,rfl,?_⟩
 refine cloneHit hr (hit_few hx.wf word) fun v' w2 hb2 ov=>⟨_,_,_,rfl,?_⟩
 exact h1 ho v' w2 (btr hb1 hb1.size hb2) (ov.rebase fun x hx=>Nat.le_trans hb1.size (ov.lt x hx).1)
theorem Phrase_calls (hx:IxR w gx gd mt mh D o S nv tv hv) (hT:Tabs w) {ws:List ByteArray}{v:Sv} (hl:RdV LS w ws v) (h1:canS ws=true→∀v w',Below w.heap.size w w'→Own LHt w' w.heap.size 67 (slV v) (phrF (slA D.sl) (stD D) ws)→R (.returned (.tuple #[slV v,.int .i64 0])) w')
  (h0:canS ws=false→∀w',Below w.heap.size w w'→R (.returned (.tuple #[.slice none 0 0,.int .i64 1])) w'):Calls Tryz.prog 20 #[.pointer (some ⟨gx,0,none⟩),.slice v.1 v.2.1 v.2.2] w R:=by
 refine ok20 (some ⟨gx,0,none⟩) v.1 v.2.1 v.2.2 ?_
 unfold F20
 refine all_calls ws v hT hl fun w1 hb1=>⟨_,rfl,?_⟩
 rw [brnot]
 refine br (fun ho=>?_) (fun ho=>h0 ho w1 hb1)
 have h1:=h1 ho
 obtain⟨x0,xs,rfl⟩:∃x0 xs,ws=x0 :: xs:=by
  cases ws with
  | nil=>unfold canS at ho;simp at ho
  | cons x0 xs=>exact⟨x0,xs,rfl⟩
 have hlen:(x0 :: xs).length≤16:=by
  unfold canS at ho
  simp only [Bool.and_eq_true,decide_eq_true_eq] at ho
  exact ho.2.1
 have hx1:=hx.keep hb1
 have hl1:=hl.keep hb1
 have hdr:Below w1.heap.size w1 w1.drew:=(Below.refl _ _).drew
 obtain⟨z1,z0,z2⟩:=hl1
 refine⟨fun w'=>Below w1.heap.size w1 w',hdr,?_⟩
 simp only [NonNil_some,Addr.add_mk,Nat.zero_add]
 refine⟨_,fun w' hw=>by rw [(hx1.blk.keep hw).cell];rfl,?_⟩
 refine z2.held (fun _ h=>h) z1 (by omega) (by simp only [List.length_cons] at z1;omega) rfl fun b oo cc=>?_
 have cc:=cc 0 _ rfl
 simp only [Int.toNat_zero,List.getElem_cons_zero,Nat.add_zero] at cc
 refine⟨_,cc,?_⟩
 have hx2:=hx1.keep hdr
 refine hx2.lookH x0 fun vh hr=>⟨_,_,_,rfl,?_⟩
 obtain⟨y1,y0,y2⟩:=hr
 have hB1:=btr hb1 hb1.size hdr
 have hfew:=hit_few hx.wf x0
 generalize hH:hitF (stD D) x0=H at *
 refine⟨fun A n c i w'=>∃k:Nat,i=k∧k≤H.length∧Below w1.drew.heap.size w1.drew w'∧Own LHt w' w1.drew.heap.size 67 (.slice A n c) ((H.take k).filter fun h=>decide (((wsF (slA D.sl) h.1).drop h.2.1).take (x0 :: xs).length=x0 :: xs)),fun _ _ _ i _=>H.length-i.toNat,
  ⟨0,rfl,by omega,.refl _ _,by simpa using Own.nil _ _ _ _⟩,?_⟩
 rintro A n c _ w2 ⟨k,rfl,hk,hb2,ho2⟩
 unfold F20_l5
 refine brd (fun hlt=>?_) (fun hge=>?_)
 ·have hk2:k < H.length:=by omega
  have hst:(H.take (k+1)).filter (fun h:Hit=>decide (((wsF (slA D.sl) h.1).drop h.2.1).take (x0 :: xs).length=x0 :: xs))=(H.take k).filter (fun h:Hit=>decide (((wsF (slA D.sl) h.1).drop h.2.1).take (x0 :: xs).length=x0 :: xs))++(if decide (((wsF (slA D.sl) H[k].1).drop H[k].2.1).take (x0 :: xs).length=x0 :: xs)=true then [H[k]] else []):=by
   rw [List.take_succ_eq_append_getElem hk2,List.filter_append]
   congr 1
   rw [List.filter_cons];rfl
  have hmem:H[k]∈hitF (stD D) x0:=by rw [hH];exact List.getElem_mem hk2
  have hfl:((H.take k).filter fun h:Hit=>decide (((wsF (slA D.sl) h.1).drop h.2.1).take (x0 :: xs).length=x0 :: xs)).length≤67108864:=Nat.le_trans (List.length_filter_le _ _) (by rw [List.length_take];omega)
  obtain⟨p1,p2⟩:=sts_mem.1 (hitF_mem.1 hmem)
  have p3:=(List.getElem?_eq_some_iff.1 p2).1
  have hwl:(wsF (slA D.sl) H[k].1).length=(wdF (slA D.sl) H[k].1).length:=by unfold wsF;rw [List.length_map]
  have hwd:(wdF (slA D.sl) H[k].1).length≤16384:=by
   have h1:=sts_len hx.wf [H[k].1]
   have:(stsF (slA D.sl) [H[k].1]).length=(wdF (slA D.sl) H[k].1).length:=by unfold stsF;simp [stF,numF_len]
   simp only [List.length_singleton] at h1;omega
  have hhl:H[k].2.2 < 9223372036854775808∨True:=.inr trivial
  refine⟨fun A n c w'=>Below w1.drew.heap.size w1.drew w'∧Own LHt w' w1.drew.heap.size 67 (.slice A n c) ((H.take (k+1)).filter fun h=>decide (((wsF (slA D.sl) h.1).drop h.2.1).take (x0 :: xs).length=x0 :: xs)),?_,?_⟩
  ·rintro A' n' c' w' ⟨q1,q2⟩
   exact⟨inR_i64 (by omega) (by omega),⟨k+1,by simp,by omega,q1,q2⟩,(by first | omega | (dsimp only;omega))⟩
  rw [hst]
  refine (y2.keep hb2).idx y1 (by omega) (by omega) rfl fun b3 o3 cc3=>?_
  simp only [Int.toNat_natCast] at cc3
  have k0:=cc3 0 _ rfl
  have k1:=cc3 1 _ rfl
  have k2:=cc3 2 _ rfl
  generalize H[k]=h at *
  obtain⟨hn,hwd2,hat⟩:=h
  simp only [Nat.add_zero] at k0
  simp only [Addr.add_mk,Nat.zero_add,k0,k1,k2,lds]
  refine al3 fun gh w3 hb3 bh hgeh=>?_
  have hdr3:Below w3.heap.size w3 w3.drew:=(Below.refl _ _).drew
  have D3:=btr hb2 hb2.size hb3
  have hx3:=hx2.keep D3
  refine⟨fun w'=>Below w3.heap.size w3 w',hdr3,?_⟩
  simp only [NonNil_some,Addr.add_mk,Nat.zero_add]
  refine⟨_,fun w' hw=>by rw [(hx3.blk.keep hw).cell];rfl,_,fun w' hw=>by rw [(bh.keep hw).cell];rfl,?_⟩
  have hx4:=hx3.keep hdr3
  have D4:=btr D3 D3.size hdr3
  have bh4:=bh.keep hdr3
  refine hx4.lookT p1 fun vt hrt=>⟨_,_,_,rfl,?_⟩
  obtain⟨t1,t0,t2⟩:=hrt
  have t1:vt.2.1=(wsF (slA D.sl) hn).length:=t1
  have t0:(wsF (slA D.sl) hn).length < 4611686018427387904:=t0
  have t2:Rd LS w3.drew vt.1 vt.2.2 (wsF (slA D.sl) hn):=t2
  simp only [Addr.add_mk,Nat.zero_add,bh4.cell,lds]
  have ho4:=ho2.keep (btr hb3 hb3.size hdr3)
  dsimp only at p1 p2 p3 hwl hwd
  refine⟨inR_i64 (by omega) (by omega),?_⟩
  have no:∀{w':World},Below w1.drew.heap.size w1.drew w'→Own LHt w' w1.drew.heap.size 67 (.slice A n c) ((H.take k).filter fun h:Hit=>decide (((wsF (slA D.sl) h.1).drop h.2.1).take (x0 :: xs).length=x0 :: xs))→decide (((wsF (slA D.sl) hn).drop hwd2).take (x0 :: xs).length=x0 :: xs)=false →
    Below w1.drew.heap.size w1.drew w'∧Own LHt w' w1.drew.heap.size 67 (.slice A n c) ((H.take k).filter (fun h:Hit=>decide (((wsF (slA D.sl) h.1).drop h.2.1).take (x0 :: xs).length=x0 :: xs))++(if decide (((wsF (slA D.sl) hn).drop hwd2).take (x0 :: xs).length=x0 :: xs)=true then [(hn,hwd2,hat)] else [])):=fun q1 q2 q3=>by
   rw [q3]
   exact⟨q1,by simpa using q2⟩
  refine brd (fun hfit=>?_) (fun hfit=>?_)
  ·refine⟨inR_i64 (by omega) (by omega),?_⟩
   have hcap:=t2.1
   refine⟨by omega,by omega,by omega,?_⟩
   have e1:(((hwd2:Nat):Int)).toNat=hwd2:=by omega
   have e2:(((hwd2:Nat):Int)+((v.2.1:Nat):Int)).toNat-(((hwd2:Nat):Int)).toNat=(x0 :: xs).length:=by omega
   rw [e2,e1]
   have hsub:RdV LS w3.drew (((wsF (slA D.sl) hn).drop hwd2).take (x0 :: xs).length) (SlA vt.1 vt.2.2 hwd2 1,(x0 :: xs).length,vt.2.2-hwd2):=by
    refine⟨by rw [List.length_take,List.length_drop];dsimp only;omega,by rw [List.length_take];omega,(t2.slice (k:=hwd2) (by omega)).take _⟩
   have hl4:RdV LS w3.drew (x0 :: xs) v:=(hl.keep hb1).keep (btr hdr hdr.size D4)
   refine equalS (v:=(SlA vt.1 vt.2.2 hwd2 1,(x0 :: xs).length,vt.2.2-hwd2)) hsub hl4 fun w5 hb5=>⟨_,rfl,?_⟩
   have D5:=btr D4 D4.size hb5
   have bh5:=bh4.keep hb5
   have ho5:=ho4.keep hb5
   refine br (fun hq=>?_) (fun hq=>no D5 ho5 hq)
   simp only [Addr.add_mk,Nat.zero_add,bh5.cell,lds]
   rw [if_pos hq]
   have hsz:=D5.size
   have hds:w1.drew.heap.size=w1.heap.size:=rfl
   have hs1:=hb1.size
   refine ap1 (L:=LHt) (x:=(hn,hwd2,hat)) (base:=w1.drew.heap.size) (.agg #[.int .u64 0,.int .i64 0,.int .i64 0]) 24 rfl (by kernel_rfl) (by kernel_rfl) (by kernel_rfl) ho5 (by omega) (by omega) (by unfold maxLen;omega) fun A' c' w6 o6 g6=>⟨A',_,c',rfl,D5.trans g6.below,o6⟩
  ·refine no D4 ho4 (decide_eq_false fun e=>?_)
   have:=congrArg List.length e
   rw [List.length_take,List.length_drop] at this
   omega
 ·have hk2:k=H.length:=by omega
  subst hk2
  rw [List.take_length] at ho2
  have hs1:=hb1.size
  have:=h1 (A,n,c) w2 (btr hB1 hB1.size hb2) (by unfold phrF;rw [List.headD_cons,hH];exact ho2.rebase fun x hx=>by have:=(ho2.lt x hx).1;have hds:w1.drew.heap.size=w1.heap.size:=rfl;omega)
  exact this
end
set_option maxRecDepth 100000
def preB (head w:ByteArray):Bool:=decide (head.size≤w.size) && decide (w.extract 0 head.size=head)
theorem preB_empty (w:ByteArray):preB ByteArray.empty w=true:=by
 unfold preB
 rw [Bool.and_eq_true,decide_eq_true_eq,decide_eq_true_eq]
 refine⟨Nat.zero_le _,?_⟩
 have h:ByteArray.empty.size=0:=rfl
 rw [h]
 apply ByteArray.ext
 rw [ByteArray.data_extract]
 exact Array.extract_zero
structure IsTm (st:List (ByteArray × Hit)) (head:ByteArray) (l:List (ByteArray × Nat)):Prop where
 up:l.Pairwise fun a b=>blt a.1 b.1=true
 mem:∀w n,(w,n)∈l↔preB head w=true∧hitF st w≠[]∧n=(hitF st w).length
theorem up_ext {α:Type}{R:α→α→Prop} (irr:∀a,¬R a a) (tr:∀a b c,R a b→R b c→R a c):∀{l m:List α},l.Pairwise R→m.Pairwise R→(∀a,a∈l↔a∈m)→l=m
 | [],[],_,_,_=>rfl
 | [],b :: m,_,_,h=>by have:=(h b).2 (by simp);simp at this
 | a :: l,[],_,_,h=>by have:=(h a).1 (by simp);simp at this
 | a :: l,b :: m,h1,h2,h=>by
  have p1:=List.pairwise_cons.1 h1
  have p2:=List.pairwise_cons.1 h2
  have e:a=b:=by
   rcases List.mem_cons.1 ((h a).1 (by simp)) with e | e
   ·exact e
   ·rcases List.mem_cons.1 ((h b).2 (by simp)) with e2 | e2
    ·exact e2.symm
    ·exact absurd (tr _ _ _ (p1.1 b e2) (p2.1 a e)) (irr a)
  subst e
  rw [up_ext irr tr p1.2 p2.2 fun x=>?_]
  constructor
  ·intro hx
   rcases List.mem_cons.1 ((h x).1 (List.mem_cons_of_mem _ hx)) with e | e
   ·subst e;exact absurd (p1.1 x hx) (irr x)
   ·exact e
  ·intro hx
   rcases List.mem_cons.1 ((h x).2 (List.mem_cons_of_mem _ hx)) with e | e
   ·subst e;exact absurd (p2.1 x hx) (irr x)
   ·exact e
section
variable {st:List (ByteArray × Hit)}{head:ByteArray}{l m:List (ByteArray × Nat)}
theorem tm_unique (h1:IsTm st head l) (h2:IsTm st head m):l=m :=
 up_ext (R:=fun a b=>blt a.1 b.1=true) (fun a h=>by rw [blt_irr] at h;cases h) (fun _ _ _=>blt_trans) h1.up h2.up fun⟨w,n⟩=>(h1.mem w n).trans (h2.mem w n).symm
theorem tm_head (h:IsTm st ByteArray.empty l):IsTm st head (l.filter fun p=>preB head p.1):=by
 refine⟨h.up.filter _,fun w n=>?_⟩
 rw [List.mem_filter,h.mem]
 constructor
 ·rintro ⟨⟨_,h2,h3⟩,h4⟩;exact⟨h4,h2,h3⟩
 ·rintro ⟨h1,h2,h3⟩;exact⟨⟨preB_empty w,h2,h3⟩,h1⟩
end
end Go.Proofs.YtccplipiahdhiaaGreatDoor
set_option linter.unusedVariables false
namespace Go.Proofs
open Go.Shelf
def Tryz.laysNm_ren:Go.Shelf.Ren:=⟨fun | 6=>91 | 15=>135 | 14=>134 | 28=>173 | 29=>174 | 20=>165 | 21=>166 | 22=>167 | 23=>168 | 24=>169 | 25=>170 | 26=>171 | 27=>172 | 46=>192 | 47=>193 | 48=>194 | 49=>195 | 50=>196 | 57=>200 | n=>n,fun | 22=>46 | 24=>80 | 25=>183 | 3=>3 | 39=>239 | 0=>0 | 53=>160 | 55=>64 | 4=>4 | 46=>266 | 45=>265 | 50=>164 | 5=>5 | 9=>9 | 66=>283 | 70=>287 | 76=>289 | 77=>242 | n=>n,fun | n=>n⟩
theorem Tryz.laysNm:Go.Proofs.SlLaysF0.n6 Tryz.prog Tryz.laysNm_ren:={
 mixed:=by kernel_rfl
 f6 := ⟨"slices.SortFunc[[]espalier/api.Named,espalier/api.Named]", by decide, Tryz.func91.trans (congrArg some (by kernel_rfl))⟩
 f14 := ⟨"slices.pdqsortCmpFunc[espalier/api.Named]", by decide, Tryz.func134.trans (congrArg some (by kernel_rfl))⟩
 f15:=Tryz.func135.trans (congrArg some (by kernel_rfl))
 f20 := ⟨"slices.insertionSortCmpFunc[espalier/api.Named]", by decide, Tryz.func165.trans (congrArg some (by kernel_rfl))⟩
 f21 := ⟨"slices.heapSortCmpFunc[espalier/api.Named]", by decide, Tryz.func166.trans (congrArg some (by kernel_rfl))⟩
 f22 := ⟨"slices.breakPatternsCmpFunc[espalier/api.Named]", by decide, Tryz.func167.trans (congrArg some (by kernel_rfl))⟩
 f23 := ⟨"slices.choosePivotCmpFunc[espalier/api.Named]", by decide, Tryz.func168.trans (congrArg some (by kernel_rfl))⟩
 f24 := ⟨"slices.reverseRangeCmpFunc[espalier/api.Named]", by decide, Tryz.func169.trans (congrArg some (by kernel_rfl))⟩
 f25 := ⟨"slices.partialInsertionSortCmpFunc[espalier/api.Named]", by decide, Tryz.func170.trans (congrArg some (by kernel_rfl))⟩
 f26 := ⟨"slices.partitionEqualCmpFunc[espalier/api.Named]", by decide, Tryz.func171.trans (congrArg some (by kernel_rfl))⟩
 f27 := ⟨"slices.partitionCmpFunc[espalier/api.Named]", by decide, Tryz.func172.trans (congrArg some (by kernel_rfl))⟩
 f28:=Tryz.func173.trans (congrArg some (by kernel_rfl))
 f29:=Tryz.func174.trans (congrArg some (by kernel_rfl))
 f46 := ⟨"slices.siftDownCmpFunc[espalier/api.Named]", by decide, Tryz.func192.trans (congrArg some (by kernel_rfl))⟩
 f47:=Tryz.func193.trans (congrArg some (by kernel_rfl))
 f48:=Tryz.func194.trans (congrArg some (by kernel_rfl))
 f49 := ⟨"slices.medianAdjacentCmpFunc[espalier/api.Named]", by decide, Tryz.func195.trans (congrArg some (by kernel_rfl))⟩
 f50 := ⟨"slices.medianCmpFunc[espalier/api.Named]", by decide, Tryz.func196.trans (congrArg some (by kernel_rfl))⟩
 f57 := ⟨"slices.order2CmpFunc[espalier/api.Named]", by decide, Tryz.func200.trans (congrArg some (by kernel_rfl))⟩
 t0:=Tryz.underlying0
 a0:=Tryz.isAgg0
 z0:=Tryz.sizeOf0
 v0:=Tryz.zeroValue0
 t3:=Tryz.underlying3
 a3:=Tryz.isAgg3
 z3:=Tryz.sizeOf3
 v3:=Tryz.zeroValue3
 t4:=Tryz.underlying4
 a4:=Tryz.isAgg4
 z4:=Tryz.sizeOf4
 v4:=Tryz.zeroValue4
 t5:=Tryz.underlying5
 a5:=Tryz.isAgg5
 z5:=Tryz.sizeOf5
 v5:=Tryz.zeroValue5
 t9:=Tryz.underlying9
 a9:=Tryz.isAgg9
 z9:=Tryz.sizeOf9
 v9:=Tryz.zeroValue9
 t22:=Tryz.underlying46
 a22:=Tryz.isAgg46
 z22:=Tryz.sizeOf46
 v22:=Tryz.zeroValue46
 t25:=Tryz.underlying183
 a25:=Tryz.isAgg183
 z25:=Tryz.sizeOf183
 v25:=Tryz.zeroValue183
 t39:=Tryz.underlying239
 a39:=Tryz.isAgg239
 z39:=Tryz.sizeOf239
 v39:=Tryz.zeroValue239
 t45:=Tryz.underlying265
 a45:=Tryz.isAgg265
 z45:=Tryz.sizeOf265
 v45:=Tryz.zeroValue265
 t46:=Tryz.underlying266
 a46:=Tryz.isAgg266
 z46:=Tryz.sizeOf266
 v46:=Tryz.zeroValue266
 t50:=Tryz.underlying164
 a50:=Tryz.isAgg164
 z50:=Tryz.sizeOf164
 v50:=Tryz.zeroValue164
 t53:=Tryz.underlying160
 a53:=Tryz.isAgg160
 z53:=Tryz.sizeOf160
 v53:=Tryz.zeroValue160
 t55:=Tryz.underlying64
 a55:=Tryz.isAgg64
 z55:=Tryz.sizeOf64
 v55:=Tryz.zeroValue64
 t66:=Tryz.underlying283
 a66:=Tryz.isAgg283
 z66:=Tryz.sizeOf283
 v66:=Tryz.zeroValue283
 t70:=Tryz.underlying287
 a70:=Tryz.isAgg287
 z70:=Tryz.sizeOf287
 v70:=Tryz.zeroValue287
 t76:=Tryz.underlying289
 a76:=Tryz.isAgg289
 z76:=Tryz.sizeOf289
 v76:=Tryz.zeroValue289
 t77:=Tryz.underlying242
 a77:=Tryz.isAgg242
 z77:=Tryz.sizeOf242
 v77:=Tryz.zeroValue242 }
end Go.Proofs
namespace Go.Proofs.YtccplipiahdhiaaGreatDoor
open Go.RowKit Go.Vc
open Go.Lib
open Go.Sort (SWO HoldsK PermIn SortedIn grow putRow putRowK flatK Holds)
set_option linter.unusedVariables false
set_option linter.unusedSimpArgs false
set_option maxRecDepth 100000
abbrev Nm:=ByteArray × Nat
def LNm:Lay Nm:=⟨2,fun x=>[.string x.1,.int .i64 (x.2:Nat)],fun _=>rfl,fun _=>by simp [Value.oneCell'],by decide⟩
instance:Inhabited Nm:=⟨(ByteArray.empty,0)⟩
def encN (x:Nm):List Value:=LNm.cells x
def cfN (x y:Nm):Int:=Lib.compareBytes x.1.data.toList y.1.data.toList
theorem ltOf_cfN (x y:Nm):ltOf cfN x y=true↔blt x.1 y.1=true:=by
 rw [←(cmpB x.1 y.1).1];unfold ltOf cfN;exact decide_eq_true_iff
theorem swoN:SWO (ltOf cfN) where
 irrefl x:=by rw [←Bool.not_eq_true,ltOf_cfN,blt_irr];decide
 trans x y z h1 h2:=by rw [ltOf_cfN] at *;exact blt_trans h1 h2
 ntrans x y z h1 h2:=by
  rw [←Bool.not_eq_true,ltOf_cfN] at *
  intro h
  rcases blt_tri x.1 y.1 with e | e | e
  ·exact h1 e
  ·rw [e] at h;exact h2 h
  ·exact h2 (blt_trans e h)
theorem alN {w:World}{c:Array Value}{t:TypeId}{K:Addr→World→Prop} (h:∀g w1,w1=w.alloc (.cells c t)→Below w.heap.size w w1→Blk w1 g c t→w.heap.size≤g→K ⟨g,0,none⟩ w1):Al w c t K :=
 h _ _ rfl ((Below.refl _ _).alloc (Nat.le_refl _) _) (Blk.alloc_new w c t) (Nat.le_refl _)
theorem cmpN_calls (x y:Nm) (W:World):Calls Tryz.prog 92 #[.agg (encN x).toArray,.agg (encN y).toArray] W fun e w'=>e=.returned (.int .i64 (cfN x y))∧∃q os',w'=grow (W.drewN q) os':=by
 obtain⟨xn,xc⟩:=x
 obtain⟨yn,yc⟩:=y
 refine ok92 xn xc yn yc ?_
 unfold F92
 refine alN fun ga w1 e1 hb1 ba g1=>alN fun gb w2 e2 hb2 bb g2=>?_
 have ba2:=ba.keep hb2
 simp only [Addr.add_mk,Nat.zero_add,ba2.cell,bb.cell,lds]
 refine compare_calls xn yn ⟨_,rfl,?_⟩
 refine⟨rfl,0,#[.cells #[.string xn,.int .i64 xc] 80]++#[.cells #[.string yn,.int .i64 yc] 80],?_⟩
 rw [e2,e1,Go.Sort.alloc_eq_grow,Go.Sort.alloc_eq_grow,Go.Sort.grow_grow];rfl
theorem cmpLaysN (blk off size:Nat) (w:World):CmpLays Tryz.prog 92 #[] encN 2 cfN blk off size w:=fun _ _ _ _ x y=>cmpN_calls x y _
theorem flatN_get (d:Array Nm) (t:Nat) (h:t < d.size*2):(flatK encN 2 d)[t]?=(LNm.all d.toList)[t]?:=by
 have h3:t / 2 < d.size:=by omega
 have hm:t % 2 < 2:=Nat.mod_lt _ (by decide)
 have e:t=t / 2*2+t % 2:=by omega
 have h1:=LNm.all_at d.toList (t / 2) (by simpa using h3) (t % 2) hm
 rw [show LNm.n=2 from rfl,←e] at h1
 rw [h1,Array.getElem?_eq_getElem (by simpa using h),←getElem!_pos (flatK encN 2 d) t (by simpa using h),Go.Sort.get_flatK _ _ _ _ h]
 have hl:t % 2 < (encN d[t / 2]).length:=by rw [show (encN d[t / 2]).length=2 from rfl];exact hm
 rw [getElem!_pos d _ h3,getElem!_pos (encN d[t / 2]) _ hl]
 simp only [Array.getElem_toList]
 rw [List.getElem?_eq_getElem (by exact hl)];rfl
theorem sortedN_own {w:World}{g c:Nat}{cur:Array Value}{e:TypeId}{n:Nat}{os:Array Obj}{d:Array Nm}{base:Nat} (hb:base≤g) (hh:Blk w g cur e) (hn:d.size≤c+1) (hm:c+1≤maxLen) (hs:cur.size=(c+1)*2) :
  Own LNm (sortWorldK encN 2 w g 0 n d os) base e (.slice (some ⟨g,0,none⟩) d.size (c+1)) d.toList∧Below base w (sortWorldK encN 2 w g 0 n d os):=by
 have hlt:=hh.lt
 have hlt2:g < (putRowK encN 2 (Go.Sort.ahead w n) g 0 d).heap.size:=by unfold putRowK;rw [Go.Sort.size_putRow];exact hlt
 have hblk:(sortWorldK encN 2 w g 0 n d os).heap[g]?=some (.cells (Go.Sort.putCells id 0 (flatK encN 2 d) cur) e (0,0)):=by
  unfold sortWorldK
  rw [Go.Sort.heap_grow_old _ _ hlt2]
  unfold putRowK putRow Go.Sort.mapBlock
  show (w.heap.modify g _)[g]?=_
  unfold Blk at hh
  rw [Array.getElem?_modify,if_pos rfl,hh];rfl
 refine⟨.inr (.inr ⟨g,c,_,by simp,hb,hblk,by simpa using hn,hm,by rw [show LNm.n=2 from rfl,←hs];simp [Go.Sort.putCells],?_⟩),⟨rfl,rfl,rfl,?_,fun b hb2=>?_⟩⟩
 ·refine List.ext_getElem? fun t=>?_
  rw [Array.length_toList,show LNm.n=2 from rfl]
  by_cases h:t < d.size*2
  ·rw [List.getElem?_take_of_lt h,←flatN_get d t h]
   have h2:t < cur.size:=by omega
   simp only [Go.Sort.putCells,Array.getElem?_toList,Array.getElem?_mapIdx,Array.getElem?_eq_getElem h2,Option.map_some,Nat.zero_le,Nat.zero_add,Go.Sort.size_flatK,h,and_self,if_true,Nat.sub_zero,id]
   rw [getElem!_pos _ _ (by simpa using h),Array.getElem?_eq_getElem (by simpa using h)]
  ·rw [List.getElem?_eq_none (by rw [List.length_take];omega),List.getElem?_eq_none (by rw [LNm.all_length,show LNm.n=2 from rfl];simp;omega)]
 ·unfold sortWorldK
  rw [Go.Sort.size_grow];unfold putRowK;rw [Go.Sort.size_putRow];exact Nat.le_add_right _ _
 ·unfold sortWorldK
  rw [Go.Sort.heap_grow_old _ _ (by omega)]
  unfold putRowK putRow Go.Sort.mapBlock
  show (w.heap.modify g _)[b]?=_
  rw [Array.getElem?_modify,if_neg (by omega)]
theorem ownN_holds {w:World}{g c:Nat}{cur:Array Value}{e:TypeId}{d:Array Nm} (hh:Blk w g cur e) (hs:cur.size=(c+1)*2) (ht:cur.toList.take (d.size*2)=LNm.all d.toList):HoldsK encN 2 w g 0 d:=by
 intro j hj
 have hj2:j < d.size*2:=by simpa using hj
 refine⟨?_,hh.frozen _⟩
 rw [hh.cell,Nat.zero_add,getElem!_pos (flatK encN 2 d) _ hj,id,←Array.getElem?_eq_getElem hj,flatN_get d j hj2,←ht,List.getElem?_take_of_lt hj2]
 simp
theorem sortN_calls (l:List Nm) (hz:l.length≤67108864) {A:Option Addr}{n c base:Nat}{w:World}{R:Ending→World→Prop} (ho:Own LNm w base 80 (.slice A n c) l)
  (h:∀l' w',Below base w w'→l'.Perm l→l'.Pairwise (fun a b=>blt b.1 a.1=false)→Own LNm w' base 80 (.slice A n c) l'→R (.returned (.tuple #[])) w') :
  Calls Tryz.prog 91 #[.slice A n c,.func (.func 92) #[] #[]] w R:=by
 have ho0:=ho
 have none:n=0→Calls Tryz.prog 91 #[.slice A n c,.func (.func 92) #[] #[]] w R:=by
  rintro rfl
  have hc:=AnyF.slices_SortFunc_none Tryz.laysNm A c (.func (.func 92) #[] #[]) w
  change Calls Tryz.prog 91 _ _ _ at hc
  refine hc.mono ?_
  rintro e w' ⟨rfl,rfl⟩
  obtain⟨hn,-⟩:=ho0.rd
  have:l=[]:=List.eq_nil_of_length_eq_zero hn.symm
  subst this
  exact h [] w' (Below.refl _ _) (List.Perm.refl _) .nil ho0
 rcases ho with ⟨he,rfl⟩ | ⟨⟨a,he⟩,rfl⟩ | ⟨g,c',cur,he,hb,hh,hn,hm,hs,ht⟩
 ·simp only [Value.slice.injEq] at he;exact none he.2.1
 ·simp only [Value.slice.injEq] at he;exact none he.2.1
 ·simp only [Value.slice.injEq] at he
  obtain⟨rfl,rfl,rfl⟩:=he
  have hd:l.toArray.toList=l:=by simp
  generalize hdd:l.toArray=d at hd
  have hsz:d.size=l.length:=by rw [←hd];simp
  rw [←hsz] at hn ht
  have hbk:Blk w g cur 80:=hh
  have eg:∀args w,(callFunc 92 args).run Tryz.prog w=.ok (.enter 92 args) w:=enters_of Tryz.func92 (by kernel_rfl) rfl
  have hc:=AnyQ.slices_SortFunc Tryz.laysNm 2 Tryz.isAgg80 Tryz.sizeOf80 encN (fun _=>rfl) (fun x v hv=>LNm.one x v hv) cfN swoN 92 #[] g 0 (c'+1) d w eg (cmpLaysN g 0 d.size w) (ownN_holds hbk hs (by rw [show (2:Nat)=LNm.n from rfl,ht,hd])) hbk.lt (by omega)
  change Calls Tryz.prog 91 _ _ _ at hc
  rw [←hsz]
  refine hc.mono ?_
  rintro e w' ⟨rfl,d',q,os,hp,hso,rfl⟩
  obtain⟨hp1,-,hp3⟩:=hp
  have htk:d'.toList.take d.size=d'.toList:=List.take_of_length_le (by simp [hp1])
  have hperm:d'.toList.Perm d.toList:=by rw [←htk];simpa using hp3
  obtain⟨h1,h2⟩:=sortedN_own (n:=q) (os:=os) (d:=d') hb hbk (by omega) hm hs
  rw [hp1] at h1
  refine h _ _ h2 ?_ ?_ (by rw [←hsz];exact h1)
  ·rw [hd] at hperm;exact hperm
  ·refine List.pairwise_iff_getElem.2 fun i j hi hj hij=>?_
   have hi2:i < d'.size:=by simpa using hi
   have hj2:j < d'.size:=by simpa using hj
   have:=hso i j (by omega) hij (by omega)
   rw [getElem!_pos d' j hj2,getElem!_pos d' i hi2,←Bool.not_eq_true,ltOf_cfN] at this
   simpa using this
end Go.Proofs.YtccplipiahdhiaaGreatDoor
namespace Go.Proofs.YtccplipiahdhiaaGreatDoor
open Go.RowKit Go.Vc
set_option linter.unusedVariables false
set_option linter.unusedSimpArgs false
set_option maxRecDepth 100000
theorem mapTypeW:Tryz.prog.underlying 167=some (.map 9 230):=by kernel_rfl
theorem zeroW (w:World):(zeroValue 230).run Tryz.prog w=.ok (.agg #[]) w:=by kernel_rfl
def mpW (l:List ByteArray) (k:ByteArray):Option Value:=if memB k l=true then some (.agg #[]) else none
def SetR (w:World) (m:Nat) (l:List ByteArray):Prop:=Ms w m (mpW l)
def SetO (w:World) (m:Option Nat) (l:List ByteArray):Prop:=match m with | some r=>SetR w r l | none=>l=[]
theorem memB_app {k:ByteArray}{l m:List ByteArray}:memB k (l++m)=(memB k l || memB k m):=by unfold memB;rw [List.any_append]
theorem mpW_ext {l m:List ByteArray} (h:∀k,memB k l=memB k m):mpW l=mpW m:=by funext k;unfold mpW;rw [h]
section
variable {w w1:World}{m m2 b g:Nat}{l s:List ByteArray}{M:Nat→Prop}{R:Ending→World→Prop}
theorem SetR.fm (h:SetR w m l) (hf:Fm M w w1) (hm:¬M m):SetR w1 m l:=Ms.fm h hf hm
theorem SetR.lt (h:SetR w m l):m < w.heap.size:=Ms.lt h
theorem SetR.ext (h:SetR w m l) (he:∀k,memB k l=memB k s):SetR w m s:=by unfold SetR at *;rw [←mpW_ext he];exact h
theorem set_empty {r:Nat} (h:w.heap[r]?=some (.map #[] 0)):SetR w r []:=by
 have e:mpW []=fun _=>none:=by funext k;unfold mpW memB;simp
 unfold SetR;rw [e];exact ms_empty h
theorem SetR.put (h:SetR w m l) (k:ByteArray) {K:World→Prop} (hK:∀w',SetR w' m (l++[k])→Fm (·=m) w w'→K w'):Raw Tryz.prog (Instr.mapUpdate 167 (.map (some m)) (.string k) (.agg #[])) w fun _ w'=>K w':=by
 refine Ms.update h mapTypeW keyTypeS k (.agg #[]) fun w' h' hf=>hK w' ?_ hf
 have e:mpW (l++[k])=updS (mpW l) k (some (.agg #[])):=by
  funext j
  unfold mpW updS
  rw [memB_app]
  by_cases hj:j=k
  ·subst hj
   rw [if_pos rfl,if_pos]
   rw [Bool.or_eq_true];exact .inr (memB_iff.2 (by simp))
  ·rw [if_neg hj]
   have:memB j [k]=false:=by
    cases hb:memB j [k] with
    | false=>rfl
    | true=>exact absurd (List.mem_singleton.1 (memB_iff.1 hb)) hj
   rw [this,Bool.or_false]
 unfold SetR;rw [e];exact h'
theorem SetO.look {mo:Option Nat} (h:SetO w mo l) (k:ByteArray) {K:Value→World→Prop} (hK:K (.tuple #[.agg #[],.bool (memB k l)]) w):Raw Tryz.prog (Instr.lookup 167 (.map mo) (.string k) true) w K:=by
 cases mo with
 | some r =>
  refine Ms.look h mapTypeW keyTypeS (zeroW w) k true ?_
  unfold mpW
  by_cases e:memB k l=true
  ·rw [e] at hK;rw [if_pos e];exact hK
  ·rw [show memB k l=false by simpa using e] at hK;rw [if_neg e];exact hK
 | none =>
  have h:l=[]:=h
  subst h
  have hz:memB k []=false:=rfl
  rw [hz] at hK
  have hc:(Instr.checkKey true 10000 9 (.string k)).run Tryz.prog w=.ok () w:=MapKept.run_checkKey (k:=.string k) keyTypeS (by simp [MapKept.IsKey]) _ 9999
  exact⟨_,w,by simp [Instr.lookup,run_underlying mapTypeW,hc,MapKept.run_findKey keyTypeS (show Instr.findNow .string (.string k) [] 0=some none from rfl),zeroW w,Result.andThen],hK⟩
theorem itM_fm (hf:Fm M w w1) (hb:b < w.heap.size) (hg:g < w.heap.size) (h1:¬M b) (h2:¬M g):itM b g w1=itM b g w:=by
 unfold itM;rw [hf.block b hb h1,hf.block g hg h2]
theorem union_loop (hm:SetR w m s) {mo:Option Nat} (ho:SetO w mo l) (hne:mo≠some m) {X:World→Prop}{step:Nat→(World→Prop)→World→Prop}
  (hstep:∀it L w',(Raw Tryz.prog (Instr.next (.pointer (some ⟨it,0,none⟩)) false 0) w' fun v5 w1_7=>(v5=.tuple #[.bool false]∧X w1_7)∨(∃(k:Value) (e:Value),v5=.tuple #[.bool true,k,e] ∧
   Raw Tryz.prog (Instr.entry (.pointer (some ⟨it,0,none⟩))) w1_7 fun v6 w1_8=>∃(x78_0:ByteArray) (e2:Value),v6=.tuple #[(.string x78_0),e2] ∧
   Raw Tryz.prog (Instr.mapUpdate 167 (.map (some m)) (.string x78_0) (.agg #[])) w1_8 fun _ w1_9=>L w1_9))→step it L w')
  (hX:∀w',SetR w' m (s++l)→Fm (·=m) w w'→X w') :
  Raw Tryz.prog (Instr.range 167 (.map mo)) w fun v4 w1_6=>∃it75:Nat,v4=.pointer (some ⟨it75,0,none⟩)∧∃(I:World→Prop) (mm:World→Nat),I w1_6∧∀(w1_7:World),I w1_7→step it75 (fun w2=>I w2∧mm w2 < mm w1_7) w1_7:=by
 cases mo with
 | none =>
  have ho:l=[]:=ho
  subst ho
  refine nilMap_range mapTypeW ⟨_,rfl,fun w'=>w'=w.alloc (.mapIter none 0 #[] 0),fun _=>0,rfl,?_⟩
  rintro _ rfl
  refine hstep _ _ _ ⟨_,_,run_next_nilMap w 0 0 0 #[],.inl ⟨rfl,hX _ ?_ (.below ((Below.refl _ _).alloc (Nat.le_refl _) _))⟩⟩
  rw [List.append_nil]
  exact hm.fm (M:=fun _=>False) (.below ((Below.refl _ _).alloc (Nat.le_refl _) _)) fun h=>h
 | some b =>
  have hb:SetR w b l:=ho
  have hbm:b≠m:=fun e=>hne (by rw [e])
  refine Ms.range hb mapTypeW fun w1 hb1 hI=>⟨_,rfl,?_⟩
  have hbl:=hb.lt
  have hml:=hm.lt
  have hIl:w.heap.size < w1.heap.size:=by
   obtain⟨es,clock,since,seen,last,_,_,h3,_⟩:=hI
   exact (Array.getElem?_eq_some_iff.1 h3).1
  refine⟨fun w'=>∃(t:List ByteArray) (left:ByteArray→Prop) (cur:Option ByteArray),Its w' b w.heap.size (mpW l) left cur∧SetR w' m t∧(∀k,memB k t=true↔memB k s=true∨(memB k l=true∧¬left k))∧Fm (fun x=>x=m) w w'∧w.heap.size < w'.heap.size,itM b w.heap.size,
   ⟨s,_,none,hI,hm.fm (M:=fun _=>False) (.below hb1) fun h=>h,fun k=>?_,.below hb1,hIl⟩,?_⟩
  ·unfold mpW
   by_cases e:memB k l=true
   ·rw [if_pos e];simp
   ·simp [e]
  rintro w2 ⟨t,left,cur,i2,s2,ht,f2,hl2⟩
  refine hstep _ _ _ ?_
  refine i2.next 0 (fun hno=>.inl ⟨rfl,hX w2 (s2.ext fun k=>?_) f2⟩) fun k v w3 hk hv f3 i3 hlt=>.inr ⟨_,_,rfl,?_⟩
  ·rw [Bool.eq_iff_iff,ht k,memB_app,Bool.or_eq_true]
   constructor
   ·rintro (e | e)
    ·exact .inl e
    ·exact .inr e.1
   ·rintro (e | e)
    ·exact .inl e
    ·exact .inr ⟨e,hno k⟩
  ·refine i3.entry hv ⟨k,v,rfl,?_⟩
   have s3:SetR w3 m t:=s2.fm f3 fun e=>by have e:m=w.heap.size:=e;omega
   have hmg:m≠w.heap.size:=by omega
   have hs3:=f3.size
   refine s3.put k fun w4 h4 f4=>⟨⟨t++[k],_,some k,i3.fm f4 (fun e=>hbm e) (fun e=>hmg e.symm),h4,fun j=>?_,?_,by have:=f4.size;omega⟩,?_⟩
   ·have hkl:memB k l=true:=by
     unfold mpW at hv
     by_cases e:memB k l=true
     ·exact e
     ·rw [if_neg e] at hv;cases hv
    rw [memB_app,Bool.or_eq_true,ht j]
    have hsing:memB j [k]=true↔j=k:=by rw [memB_iff];simp
    rw [hsing]
    constructor
    ·rintro ((e | e) | e)
     ·exact .inl e
     ·exact .inr ⟨e.1,fun q=>e.2 q.1⟩
     ·subst e;exact .inr ⟨hkl,fun q=>q.2 rfl⟩
    ·rintro (e | ⟨e1,e2⟩)
     ·exact .inl (.inl e)
     ·by_cases e3:j=k
      ·exact .inr e3
      ·exact .inl (.inr ⟨e1,fun q=>e2 ⟨q,e3⟩⟩)
   ·exact⟨f4.os.trans (f3.os.trans f2.os),f4.tape.trans (f3.tape.trans f2.tape),f4.output.trans (f3.output.trans f2.output),by have:=f4.size;have:=f2.size;omega,fun x hx hm=>by
     rw [f4.block x (by have:=f2.size;omega) hm,f3.block x (by have:=f2.size;omega) (fun e=>by have e:x=w.heap.size:=e;omega),f2.block x hx hm]⟩
   ·rw [itM_fm f4 (by omega) (by omega) (fun e=>hbm e) fun e=>hmg e.symm];exact hlt
theorem SetO.keep {mo:Option Nat} (h:SetO w mo l) (hb:Below w.heap.size w w1):SetO w1 mo l:=by
 cases mo with
 | some r=>exact SetR.fm (M:=fun _=>False) h (.below hb) fun h=>h
 | none=>exact h
end
set_option maxRecDepth 100000
structure TmI (st:List (ByteArray × Hit)) (head:ByteArray) (left:ByteArray→Prop) (l:List Nm):Prop where
 nd:(l.map (·.1)).Nodup
 mem:∀w n,(w,n)∈l↔preB head w=true∧hitF st w≠[]∧¬left w∧n=(hitF st w).length
section
variable {st:List (ByteArray × Hit)}{head:ByteArray}{left:ByteArray→Prop}{l l':List Nm}{k:ByteArray}
theorem TmI.start (h:∀k,hitF st k≠[]→left k):TmI st head left [] :=
 ⟨List.nodup_nil,fun w n=>⟨fun e=>by simp at e,fun⟨_,e,e2,_⟩=>absurd (h w e) e2⟩⟩
theorem TmI.skip (h:TmI st head left l) (hk:preB head k=false):TmI st head (fun j=>left j∧j≠k) l:=by
 refine⟨h.nd,fun w n=>?_⟩
 rw [h.mem]
 by_cases e:w=k
 ·subst e;rw [hk];simp
 ·simp [e]
theorem TmI.put (h:TmI st head left l) (hk:preB head k=true) (hl:left k) (hne:hitF st k≠[]):TmI st head (fun j=>left j∧j≠k) (l++[(k,(hitF st k).length)]):=by
 constructor
 ·rw [List.map_append,List.nodup_append]
  refine⟨h.nd,by simp,fun a ha b hb e=>?_⟩
  have hb:b=k:=by simpa using hb
  subst hb
  subst e
  obtain⟨⟨a,n⟩,h1,h2⟩:=List.mem_map.1 ha
  have h2:a=_:=h2
  rw [h2] at h1
  exact ((h.mem _ n).1 h1).2.2.1 hl
 ·intro w n
  rw [List.mem_append,h.mem,List.mem_singleton,Prod.mk.injEq]
  constructor
  ·rintro (⟨h1,h2,h3,h4⟩ | ⟨rfl,rfl⟩)
   ·exact⟨h1,h2,fun q=>h3 q.1,h4⟩
   ·exact⟨hk,hne,fun q=>q.2 rfl,rfl⟩
  ·rintro ⟨h1,h2,h3,h4⟩
   by_cases e:w=k
   ·subst e;exact .inr ⟨rfl,h4⟩
   ·exact .inl ⟨h1,h2,fun q=>h3 ⟨q,e⟩,h4⟩
theorem hit_word (h:hitF st k≠[]):∃x,(k,x)∈st:=by
 obtain⟨x,hx⟩:=List.exists_mem_of_ne_nil _ h
 exact⟨x,hitF_mem.1 hx⟩
theorem TmI.len (h:TmI st head left l):l.length≤st.length:=by
 have:=nodup_sub (b:=st.map (·.1)) h.nd fun x hx=>by
  obtain⟨⟨a,n⟩,h1,rfl⟩:=List.mem_map.1 hx
  obtain⟨y,hy⟩:=hit_word ((h.mem a n).1 h1).2.1
  exact List.mem_map.2 ⟨_,hy,rfl⟩
 simpa using this
theorem TmI.done (h:TmI st head left l) (h0:∀k,¬left k) (hp:l'.Perm l) (hs:l'.Pairwise fun a b=>blt b.1 a.1=false):IsTm st head l':=by
 constructor
 ·have hn:(l'.map (·.1)).Nodup:=(hp.map (·.1)).nodup_iff.2 h.nd
  rw [List.Nodup,List.pairwise_map] at hn
  refine List.pairwise_iff_getElem.2 fun i j hi hj hij=>?_
  have h1:=List.pairwise_iff_getElem.1 hs i j hi hj hij
  have h2:=List.pairwise_iff_getElem.1 hn i j hi hj hij
  rcases blt_tri l'[i].1 l'[j].1 with q | q | q
  ·exact q
  ·exact absurd q h2
  ·rw [h1] at q;cases q
 ·intro w n
  rw [hp.mem_iff,h.mem]
  exact⟨fun⟨a,b,_,d⟩=>⟨a,b,d⟩,fun⟨a,b,d⟩=>⟨a,b,h0 w,d⟩⟩
end
section
variable {w:World}{o:Nat→Nat}{gx gd mt mh:Nat}{D:Im}{S:PS}{nv:Sv}{tv:Nat→Sv}{hv:ByteArray→Sv}{R:Ending→World→Prop}
theorem hasPrefix_calls (s p:ByteArray) (hK:R (.returned (.bool (preB p s))) w):Calls Tryz.prog 90 #[.string s,.string p] w R:=by
 refine ok90 s p ?_
 unfold F90
 refine ok133 s p ?_
 unfold F133
 unfold preB at hK
 refine brd (fun hge=>?_) (fun hlt=>?_)
 ·rw [decide_eq_true (by omega),Bool.true_and] at hK
  refine⟨by omega,by omega,by omega,_,rfl,?_⟩
  rw [bytes_eq,Int.toNat_zero,Int.toNat_natCast]
  exact hK
 ·rw [decide_eq_false (by omega),Bool.false_and] at hK
  exact⟨_,rfl,hK⟩
theorem st_few (hw:Wf D):(stD D).length≤67108864:=by
 have h1:=sts_len hw (allD' D)
 have h2:(allD' D).length≤4096:=rootsAll_few hw.s hw.a
 unfold stD
 omega
theorem terms_calls (hx:IxR w gx gd mt mh D o S nv tv hv) (head:ByteArray) (hK:∀v w' l,Below w.heap.size w w'→Own LNm w' w.heap.size 80 (slV v) l→IsTm (stD D) head l→R (.returned (slV v)) w') :
  Calls Tryz.prog 53 #[.pointer (some ⟨gx,0,none⟩),.string head] w R:=by
 refine ok53 (some ⟨gx,0,none⟩) head ?_
 unfold F53
 have c3:w.cell? ⟨gx,3,none⟩=some (.map (some mh)):=by rw [hx.blk.cell];rfl
 simp only [NonNil_some,Addr.add_mk,Nat.zero_add,c3,lds]
 have hmh:=hx.hm.lt
 have hst:=st_few hx.wf
 refine Ms.range hx.hm mapTypeH fun w1 hb1 hI=>⟨_,rfl,?_⟩
 have hIl:w.heap.size < w1.heap.size:=by
  obtain⟨es,clock,since,seen,last,_,_,h3,_⟩:=hI
  exact (Array.getElem?_eq_some_iff.1 h3).1
 refine⟨fun A n c w'=>∃(l:List Nm) (left:ByteArray→Prop) (cur:Option ByteArray),Its w' mh w.heap.size (mpHt (stD D) hv) left cur∧Below w.heap.size w w'∧w.heap.size < w'.heap.size∧Own LNm w' (w.heap.size+1) 80 (.slice A n c) l∧TmI (stD D) head left l,fun _ _ _=>itM mh w.heap.size,
  ⟨[],_,none,hI,hb1,hIl,Own.nil _ _ _ _,TmI.start fun k hk=>?_⟩,?_⟩
 ·unfold mpHt;rw [if_neg hk];simp
 rintro A n c w2 ⟨l,left,cur,i2,hb2,hl2,ho,hT⟩
 unfold F53_l3
 have hlen:=hT.len
 refine i2.next 0 (fun hno=>.inl ⟨rfl,?_⟩) fun k v w3 hk hv' f3 i3 hlt=>.inr ⟨_,_,rfl,?_⟩
 ·refine sortN_calls l (by omega) ho fun l' w3 hb3 hp hs ho'=>⟨rfl,?_⟩
  exact hK (A,n,c) w3 l' (hb2.trans (hb3.mono (Nat.le_succ _))) (ho'.rebase fun x hx=>by have:=(ho'.lt x hx).1;omega) (hT.done hno hp hs)
 ·have hkv:hitF (stD D) k≠[]∧v=slV (hv k):=by
   unfold mpHt at hv'
   by_cases e:hitF (stD D) k=[]
   ·rw [if_pos e] at hv';cases hv'
   ·rw [if_neg e] at hv';exact⟨e,(Option.some.inj hv').symm⟩
  obtain⟨hne,rfl⟩:=hkv
  refine i3.entry hv' ⟨k,_,_,_,rfl,?_⟩
  have hs3:=f3.size
  have B3:Below w.heap.size w w3:=hb2.trans (f3.toBelow (by omega) fun b hb e=>by have e:b=w.heap.size:=e;omega)
  have ho3:Own LNm w3 (w.heap.size+1) 80 (.slice A n c) l:=own_fm ho f3 fun x hx e=>by have e:x=w.heap.size:=e;have:=(ho.lt x hx).1;omega
  refine hasPrefix_calls k head ⟨_,rfl,?_⟩
  refine br (fun hp=>?_) (fun hp=>?_)
  ·have hc:(hv k).2.1=(hitF (stD D) k).length:=(hx.ho k).1
   rw [hc]
   refine ap1 (L:=LNm) (x:=(k,(hitF (stD D) k).length)) (base:=w.heap.size+1) (.agg #[.string (ByteArray.mk #[]),.int .i64 0]) 24 rfl (by kernel_rfl) (by kernel_rfl) (by kernel_rfl) ho3 (by omega) (by omega) (by unfold maxLen;omega) fun A' c' w4 o4 g4=>⟨A',_,c',rfl,?_⟩
   have hrow:∀x,rowOf (.slice A n c)=some x→w.heap.size+1≤x:=fun x hx=>(ho3.lt x hx).1
   have FG:Fm (fun b=>rowOf (.slice A n c)=some b) w3 w4:=Fm.grown g4.grown fun b hb=>hb
   have n1:¬rowOf (.slice A n c)=some mh:=fun e=>by have:=hrow mh e;omega
   have n2:¬rowOf (.slice A n c)=some w.heap.size:=fun e=>by have:=hrow _ e;omega
   refine⟨⟨_,_,_,i3.fm FG n1 n2,B3.trans (g4.below.mono (Nat.le_succ _)),by have:=g4.lt;omega,o4,hT.put hp hk hne⟩,?_⟩
   show itM mh w.heap.size w4 < _
   rw [itM_fm FG (by omega) (by omega) n1 n2];exact hlt
  ·exact⟨⟨l,_,_,i3,B3,by omega,ho3,hT.skip hp⟩,hlt⟩
theorem Terms_calls (hx:IxR w gx gd mt mh D o S nv tv hv) (hK:∀v w' l,Below w.heap.size w w'→Own LNm w' w.heap.size 80 (slV v) l→IsTm (stD D) ByteArray.empty l→R (.returned (slV v)) w') :
  Calls Tryz.prog 23 #[.pointer (some ⟨gx,0,none⟩)] w R:=by
 refine ok23 (some ⟨gx,0,none⟩) ?_
 unfold F23
 exact terms_calls hx (ByteArray.mk #[]) fun v w' l hb ho ht=>⟨_,_,_,rfl,hK v w' l hb ho ht⟩
def headB (head:ByteArray):Bool:=decide (head=ByteArray.mk #[]) || oneF head
theorem Begins_calls (hx:IxR w gx gd mt mh D o S nv tv hv) (hT:Tabs w) (head:ByteArray) (h1:headB head=true→∀v w' l,Below w.heap.size w w'→Own LNm w' w.heap.size 80 (slV v) l→IsTm (stD D) head l→R (.returned (.tuple #[slV v,.int .i64 0])) w')
  (h0:headB head=false→∀w',Below w.heap.size w w'→R (.returned (.tuple #[.slice none 0 0,.int .i64 1])) w'):Calls Tryz.prog 18 #[.pointer (some ⟨gx,0,none⟩),.string head] w R:=by
 refine ok18 (some ⟨gx,0,none⟩) head ?_
 unfold F18
 have go:headB head=true→∀w1,Below w.heap.size w w1→F18_j3 (some ⟨gx,0,none⟩) head w1 R:=fun hh w1 hb1=>by
  unfold F18_j3
  exact terms_calls (hx.keep hb1) head fun v w' l hb ho ht=>⟨_,_,_,rfl,h1 hh v w' l (btr hb1 hb1.size hb) (ho.rebase fun x hx=>Nat.le_trans hb1.size (ho.lt x hx).1) ht⟩
 refine⟨fun w1=>headB head=true∧Below w.heap.size w w1,fun w1 ⟨a,b⟩=>go a w1 b,?_⟩
 rw [bytes_eq,brnot]
 refine brd (fun he=>⟨by unfold headB;rw [decide_eq_true he];rfl,.refl _ _⟩) (fun he=>?_)
 have hh:headB head=oneF head:=by unfold headB;rw [decide_eq_false he,Bool.false_or]
 refine one_calls head hT fun w1 hb1=>⟨_,rfl,?_⟩
 rw [brnot]
 exact br (fun h=>⟨by rw [hh];exact h,hb1⟩) (fun h=>h0 (by rw [hh];exact h) w1 hb1)
end
set_option maxRecDepth 100000
structure LkS (wx w:World) (gl gx:Nat) (vw a s b:Sv) (la ls lb:List Nat):Prop where
 bel:Below wx.heap.size wx w
 gl0:wx.heap.size≤gl
 blk:Blk w gl #[.pointer (some ⟨gx,0,none⟩),slV vw,slV a,slV s,slV b] 125
 oa:Own LHn w (gl+1) 65 (slV a) la
 os:Own LHn w (gl+1) 65 (slV s) ls
 ob:Own LHn w (gl+1) 65 (slV b) lb
 pas:Apart (slV a) (slV s)
 pab:Apart (slV a) (slV b)
 psb:Apart (slV s) (slV b)
def lkM (gl:Nat) (a s b:Sv) (x:Nat):Prop:=x=gl∨rowOf (slV a)=some x∨rowOf (slV s)=some x∨rowOf (slV b)=some x
structure LkF (gl:Nat) (w:World) (a s b:Sv) (w1:World) (a1 s1 b1:Sv):Prop where
 fm:Fm (lkM gl a s b) w w1
 row:∀x,lkM gl a1 s1 b1 x→lkM gl a s b x∨w.heap.size≤x
section
variable {wx w w0 w1 w2:World}{o:Nat→Nat}{gl gx gd mt mh:Nat}{D:Im}{S:PS}{nv vw a s b a1 s1 b1 a2 s2 b2:Sv}{tv:Nat→Sv}{hv:ByteArray→Sv}{R:Ending→World→Prop}{la ls lb:List Nat}{ws:List ByteArray}{M:Nat→Prop}
theorem LkF.refl:LkF gl w a s b w a s b:=⟨.refl _ _,fun x h=>.inl h⟩
theorem LkF.trans (h:LkF gl w a s b w1 a1 s1 b1) (k:LkF gl w1 a1 s1 b1 w2 a2 s2 b2):LkF gl w a s b w2 a2 s2 b2:=by
 have hs:=h.fm.size
 refine⟨⟨k.fm.os.trans h.fm.os,k.fm.tape.trans h.fm.tape,k.fm.output.trans h.fm.output,Nat.le_trans hs k.fm.size,fun x hx hm=>(k.fm.block x (by omega) fun e=>?_).trans (h.fm.block x hx hm)⟩,fun x hx=>?_⟩
 ·rcases h.row x e with q | q
  ·exact hm q
  ·omega
 ·rcases k.row x hx with q | q
  ·exact h.row x q
  ·exact .inr (by omega)
theorem LkF.fr (h:LkF gl w a s b w1 a1 s1 b1) (hf:Fm M w1 w2) (hM:∀x,x < w1.heap.size→M x→w.heap.size≤x):LkF gl w a s b w2 a1 s1 b1:=by
 have hs:=h.fm.size
 exact⟨h.fm.trans' hf fun x hx e=>(by have:=hM x (by omega) e;omega),h.row⟩
theorem LkS.fm (h:LkS wx w gl gx vw a s b la ls lb) (hf:Fm M w w1) (hM:∀x,x < w.heap.size→M x→wx.heap.size≤x∧¬lkM gl a s b x):LkS wx w1 gl gx vw a s b la ls lb:=by
 have hs:=h.bel.size
 refine⟨h.bel.trans (hf.toBelow hs fun x hx e=>by have:=(hM x (by omega) e).1;omega),h.gl0,hf.blk h.blk fun e=>(hM gl h.blk.lt e).2 (.inl rfl),own_fm h.oa hf fun x hx e=>(hM x (h.oa.lt x hx).2 e).2 (.inr (.inl hx)),own_fm h.os hf fun x hx e=>(hM x (h.os.lt x hx).2 e).2 (.inr (.inr (.inl hx))),
  own_fm h.ob hf fun x hx e=>(hM x (h.ob.lt x hx).2 e).2 (.inr (.inr (.inr hx))),h.pas,h.pab,h.psb⟩
theorem LkS.below (h:LkS wx w gl gx vw a s b la ls lb) (hb:Below w.heap.size w w1):LkS wx w1 gl gx vw a s b la ls lb:=h.fm (M:=fun _=>False) (.below hb) fun _ _ h=>h.elim
theorem LkS.lt (h:LkS wx w gl gx vw a s b la ls lb):∀x,lkM gl a s b x→gl≤x∧x < w.heap.size:=fun x hx=>by
 rcases hx with e | e | e | e
 ·subst e;exact⟨Nat.le_refl _,h.blk.lt⟩
 ·have:=h.oa.lt x e;exact⟨by omega,this.2⟩
 ·have:=h.os.lt x e;exact⟨by omega,this.2⟩
 ·have:=h.ob.lt x e;exact⟨by omega,this.2⟩
theorem whole_calls (h:LkS wx w gl gx vw a s b la ls lb) (hw:RdV LS wx ws vw) {mo:Option Nat}{l:List ByteArray} (hm:SetO w mo l) (hK:∀w',Below w.heap.size w w'→R (.returned (.bool (allW' ws l))) w') :
  Calls Tryz.prog 126 #[.pointer (some ⟨gl,0,none⟩),.map mo] w R:=by
 refine ok126 (some ⟨gl,0,none⟩) mo ?_
 unfold F126
 refine al fun g w1 hb1 b1 hge=>?_
 have h1:=h.below hb1
 have hm1:=hm.keep hb1
 simp only [NonNil_some,Addr.add_mk,Nat.zero_add]
 have c1:w1.cell? ⟨gl,1,none⟩=some (.slice vw.1 vw.2.1 vw.2.2):=by rw [h1.blk.cell];rfl
 simp only [c1,lds]
 refine containsFS ws vw _ (fun k=>!memB k l) (hw.keep h1.bel) (fun y hy w2 K R' hb2 hK2=>⟨by kernel_rfl,?_⟩) fun w2 hb2=>⟨_,rfl,?_⟩
 ·refine ok163 y ⟨g,0,none⟩ ?_
  unfold F163
  have b2:=b1.keep hb2
  simp only [b2.cell,List.getElem?_toArray,List.getElem?_cons_zero,lds]
  refine (hm1.keep hb2).look y ⟨_,rfl,?_⟩
  exact al fun g3 w3 hb3 _ _=>hK2 w3 hb3
 ·have e:(!(ws.any fun k=>!memB k l))=allW' ws l:=by
   unfold allW';rw [List.not_any_eq_all_not];simp
  rw [e];exact hK w2 (btr hb1 hb1.size hb2)
theorem LkS.push (j:Nat) (h:LkS wx w gl gx vw a s b la ls lb) (n:Nat) (hj:j=2∨j=3∨j=4) (hl:la.length≤4096∧ls.length≤4096∧lb.length≤4096) {X:World→Prop}
  (hK:∀w' a' s' b',LkS wx w' gl gx vw a' s' b' (if j=2 then la++[n] else la) (if j=3 then ls++[n] else ls) (if j=4 then lb++[n] else lb)→LkF gl w a s b w' a' s' b'→X w') :
  Al w #[.int .u64 (n:Nat)] 65 fun g w1_3=>Raw Tryz.prog (Builtin.append_ #[23,23] 23 #[(if j=2 then slV a else if j=3 then slV s else slV b),(.slice (some g) 1 1)]) w1_3 fun v4 w1_13 =>
   ∃(x128:Option Addr) (x128N:Nat) (x128C:Nat),v4=(.slice x128 x128N x128C)∧St w1_13 ⟨gl,j,none⟩ (.slice x128 x128N x128C) fun w1_14=>X w1_14:=by
 have hgl:=h.blk.lt
 have hgt:∀x,lkM gl a s b x→x < w.heap.size:=fun x hx=>(h.lt x hx).2
 have key:∀(v:Sv) (l:List Nat),Own LHn w (gl+1) 65 (slV v) l→l.length≤4096→(∀x,rowOf (slV v)=some x→lkM gl a s b x) →
   (∀(w':World) (v':Sv),Own LHn w' (gl+1) 65 (slV v') (l++[n])→Fm (fun x=>x=gl∨rowOf (slV v)=some x) w w'→Blk w' gl ((#[.pointer (some ⟨gx,0,none⟩),slV vw,slV a,slV s,slV b]:Array Value).setIfInBounds j (slV v')) 125→(∀x,rowOf (slV v')=some x→rowOf (slV v)=some x∨w.heap.size≤x) →
    (∀{u:Sv}{m:List Nat},Own LHn w (gl+1) 65 (slV u) m→Apart (slV u) (slV v)→Own LHn w' (gl+1) 65 (slV u) m∧Apart (slV u) (slV v'))→X w') →
   Al w #[.int .u64 (n:Nat)] 65 fun g w1_3=>Raw Tryz.prog (Builtin.append_ #[23,23] 23 #[slV v,(.slice (some g) 1 1)]) w1_3 fun v4 w1_13 =>
    ∃(x128:Option Addr) (x128N:Nat) (x128C:Nat),v4=(.slice x128 x128N x128C)∧St w1_13 ⟨gl,j,none⟩ (.slice x128 x128N x128C) fun w1_14=>X w1_14:=by
  intro v l ov hlen hrow hX
  refine ap1 (L:=LHn) (x:=n) (base:=gl+1) (.int .u64 0) 8 rfl (by kernel_rfl) (by kernel_rfl) (by kernel_rfl) ov (by omega) (by omega) (by unfold maxLen;omega) fun A' c' w1 o1 g1=>⟨A',_,c',rfl,?_⟩
  have FG:Fm (fun x=>rowOf (slV v)=some x) w w1:=Fm.grown g1.grown fun b hb=>hb
  have hg1:rowOf (slV v)≠some gl:=fun e=>by have:=(ov.lt gl e).1;omega
  have bl1:=FG.blk h.blk hg1
  refine st_blk bl1 (by rcases hj with e | e | e <;> subst e <;> simp) fun w2 b2 f2=>?_
  have o2:Own LHn w2 (gl+1) 65 (slV (A',l.length+1,c')) (l++[n]):=own_fm o1 f2 fun x hx e=>by have e:x=gl:=e;have:=(o1.lt x hx).1;omega
  refine hX w2 (A',l.length+1,c') o2 ((FG.mono fun x _ e=>.inr e).trans (f2.mono fun x _ e=>.inl e)) b2 (fun x hx=>?_) fun {u m} ou hap=>?_
  ·have hx:rowOf (.slice A' (l.length+1) c')=some x:=hx
   rcases g1.row with e | e | ⟨z,e,e2⟩
   ·rw [e] at hx;exact .inl hx
   ·rw [e] at hx;cases hx
   ·rw [e] at hx;cases hx;exact .inr e2
  ·obtain⟨q1,q2⟩:=g1.own ou hap
   exact⟨own_fm q1 f2 fun x hx e=>by have e:x=gl:=e;have:=(ou.lt x hx).1;omega,q2⟩
 have hbel:∀w':World,Fm (lkM gl a s b) w w'→Below wx.heap.size wx w':=fun w' f=>h.bel.trans (f.toBelow h.bel.size fun x hx e=>by have:=(h.lt x e).1;have:=h.gl0;omega)
 rcases hj with rfl | rfl | rfl
 ·refine key a la h.oa hl.1 (fun x hx=>.inr (.inl hx)) fun w' v' ov f bk row oth=>?_
  obtain⟨q1,q2⟩:=oth h.os h.pas.symm
  obtain⟨q3,q4⟩:=oth h.ob h.pab.symm
  have F:Fm (lkM gl a s b) w w':=f.mono fun x _ e=>by rcases e with e | e;exact .inl e;exact .inr (.inl e)
  exact hK w' v' s b ⟨hbel w' F,h.gl0,bk,ov,q1,q3,q2.symm,q4.symm,h.psb⟩ ⟨F,fun x hx=>by
   rcases hx with e | e | e | e
   ·exact .inl (.inl e)
   ·exact (row x e).imp (fun e=>.inr (.inl e)) id
   ·exact .inl (.inr (.inr (.inl e)))
   ·exact .inl (.inr (.inr (.inr e)))⟩
 ·refine key s ls h.os hl.2.1 (fun x hx=>.inr (.inr (.inl hx))) fun w' v' ov f bk row oth=>?_
  obtain⟨q1,q2⟩:=oth h.oa h.pas
  obtain⟨q3,q4⟩:=oth h.ob h.psb.symm
  have F:Fm (lkM gl a s b) w w':=f.mono fun x _ e=>by rcases e with e | e;exact .inl e;exact .inr (.inr (.inl e))
  exact hK w' a v' b ⟨hbel w' F,h.gl0,bk,q1,ov,q3,q2,h.pab,q4.symm⟩ ⟨F,fun x hx=>by
   rcases hx with e | e | e | e
   ·exact .inl (.inl e)
   ·exact .inl (.inr (.inl e))
   ·exact (row x e).imp (fun e=>.inr (.inr (.inl e))) id
   ·exact .inl (.inr (.inr (.inr e)))⟩
 ·refine key b lb h.ob hl.2.2 (fun x hx=>.inr (.inr (.inr hx))) fun w' v' ov f bk row oth=>?_
  obtain⟨q1,q2⟩:=oth h.oa h.pab
  obtain⟨q3,q4⟩:=oth h.os h.psb
  have F:Fm (lkM gl a s b) w w':=f.mono fun x _ e=>by rcases e with e | e;exact .inl e;exact .inr (.inr (.inr e))
  exact hK w' a s v' ⟨hbel w' F,h.gl0,bk,q1,q3,ov,h.pas,q2,q4⟩ ⟨F,fun x hx=>by
   rcases hx with e | e | e | e
   ·exact .inl (.inl e)
   ·exact .inl (.inr (.inl e))
   ·exact .inl (.inr (.inr (.inl e)))
   ·exact (row x e).imp (fun e=>.inr (.inr (.inr e))) id⟩
end
set_option maxRecDepth 100000
theorem flat_le2 {f g:Nat→List Nat}:∀{l:List Nat},(∀y∈l,(f y).length≤(g y).length)→(l.flatMap f).length≤(l.flatMap g).length
 | [],_=>by simp
 | y :: l,h=>by
  rw [List.flatMap_cons,List.flatMap_cons,List.length_append,List.length_append]
  have:=h y (by simp)
  have:=flat_le2 (f:=f) (g:=g) (l:=l) fun z hz=>h z (by simp [hz])
  omega
theorem find_len {A:Nat→Option Sl}{ws:List ByteArray}{q:Nat→Nat→Bool}:∀(r n:Nat),(findF A ws q r n).length≤(allA A r n).length
 | 0,n=>by simp [findF]
 | r+1,n=>by
  rw [findF,allA,List.length_append,List.length_cons]
  cases A n with
  | none =>
   dsimp only
   split <;> simp
  | some s =>
   dsimp only
   have:=flat_le2 (l:=s.kids) fun y _=>find_len (A:=A) (ws:=ws) (q:=q) r y
   split
   ·simp only [List.length_singleton];omega
   ·simp only [List.length_nil];omega
theorem flat_take {f:Nat→List Nat}{l:List Nat}{k:Nat} (hk:k < l.length):(l.take (k+1)).flatMap f=(l.take k).flatMap f++f l[k]:=by
 rw [List.take_succ_eq_append_getElem hk,List.flatMap_append];simp
theorem flat_takeB {f:Nat→List ByteArray}{l:List Nat}{k:Nat} (hk:k < l.length):(l.take (k+1)).flatMap f=(l.take k).flatMap f++f l[k]:=by
 rw [List.take_succ_eq_append_getElem hk,List.flatMap_append];simp
theorem flat_take_le {f:Nat→List Nat}{l:List Nat}{k:Nat}:((l.take k).flatMap f).length≤(l.flatMap f).length:=by
 have:l.flatMap f=(l.take k).flatMap f++(l.drop k).flatMap f:=by rw [←List.flatMap_append,List.take_append_drop]
 rw [this,List.length_append];omega
def q1:Nat→Nat→Bool:=fun _ _=>true
section
variable {wx w w0 w1 w2:World}{o:Nat→Nat}{gl gx gd mt mh:Nat}{D:Im}{S:PS}{nv vw:Sv}{tv:Nat→Sv}{hv:ByteArray→Sv}{R:Ending→World→Prop}{ws:List ByteArray}{M:Nat→Prop}
theorem IxR.lookT2 (h:IxR wx gx gd mt mh D o S nv tv hv) (hb:Below wx.heap.size wx w) {n:Nat} (hn:n∈allD' D) {K:Value→World→Prop} (hK:∀v,RdV LS wx (wsF (slA D.sl) n) v→K (slV v) w):Raw Tryz.prog (Instr.lookup 133 (.map (some mt)) (.int .u64 (n:Nat)) false) w K:=by
 refine (h.keep hb).tm.look mapTypeT keyTypeN (zeroT w) n false ?_
 by_cases e:isT (slA D.sl) n=true
 ·have e1:mpTx (slA D.sl) (allD' D) tv (n:Nat)=some (slV (tv n)):=by
   unfold mpTx
   rw [if_pos ⟨by omega,by rw [Int.toNat_natCast];exact hn,by rw [Int.toNat_natCast];exact e⟩,Int.toNat_natCast]
  rw [e1]
  exact hK (tv n) (h.to n hn e)
 ·have e1:mpTx (slA D.sl) (allD' D) tv (n:Nat)=none:=by
   unfold mpTx
   rw [if_neg (fun q=>e (by have:=q.2.2;rwa [Int.toNat_natCast] at this))]
  rw [e1]
  have:wsF (slA D.sl) n=[]:=by unfold wsF;rw [wd_notT (by simpa using e)];rfl
  exact hK (none,0,0) (by rw [this];exact rdV_nil _ _)
theorem below_calls (hx:IxR wx gx gd mt mh D o S nv tv hv) (hw:RdV LS wx ws vw):∀(r n c:Nat) {s0:Sl},slA D.sl n=some s0→Ch (slA D.sl) n c→c+r=66→∀{w:World}{a s b:Sv}{la ls lb:List Nat}{R:Ending→World→Prop},LkS wx w gl gx vw a s b la ls lb →
  la.length+(allA (slA D.sl) r n).length≤4096∧ls.length+(allA (slA D.sl) r n).length≤4096∧lb.length+(allA (slA D.sl) r n).length≤4096 →
  (∀w' r20 m21 a' s' b',LkS wx w' gl gx vw a' s' b' (la++findF (slA D.sl) ws q1 r n) (ls++findF (slA D.sl) ws (qS (slA D.sl) ws) r n) (lb++findF (slA D.sl) ws (qB (slA D.sl) ws) r n)→LkF gl w a s b w' a' s' b'→SetR w' r20 (hasF (slA D.sl) ws r n)→SetO w' m21 (besF (slA D.sl) ws r n) →
   w.heap.size≤r20→(∀x,m21=some x→w.heap.size≤x)→R (.returned (.tuple #[.map (some r20),.map m21,.bool (someF (slA D.sl) ws r n)])) w') →
  Calls Tryz.prog 75 #[.pointer (some ⟨gl,0,none⟩),.int .u64 (n:Nat)] w R:=by
 have hA:=hx.wf.a
 intro r
 induction r with
 | zero=>intro n c s0 hs hc hr;have:=no66 hA hs hc;omega
 | succ r ih =>
  intro n c s0 hs hc hr w a s b la ls lb R hL hlen hK
  have hc64:=no66 hA hs hc
  rw [allA_some hs,List.length_cons] at hlen
  rw [findF_some hs,findF_some hs,findF_some hs,hasF_some hs,besF_some hs,someF_some hs] at hK
  have hnA:n∈allD' D:=(mem_all_roots hA).2 ⟨s0,hs⟩
  refine ok75 (some ⟨gl,0,none⟩) n ?_
  unfold F75
  refine alm fun r20 w1 hb1 hge1 hlt1 hm1=>alm fun r21 w2 hb2 hge2 hlt2 hm2=>?_
  have B2:=btr hb1 hb1.size hb2
  have L2:=hL.below B2
  have h20:SetR w2 r20 []:=(set_empty hm1).fm (M:=fun _=>False) (.below hb2) fun h=>h
  have h21:SetR w2 r21 []:=set_empty hm2
  have hne:r20≠r21:=by omega
  have c0:w2.cell? ⟨gl,0,none⟩=some (.pointer (some ⟨gx,0,none⟩)):=by rw [L2.blk.cell];rfl
  have x2:=hx.keep L2.bel
  have cx:w2.cell? ⟨gx,2,none⟩=some (.map (some mt)):=by rw [x2.blk.cell];rfl
  simp only [NonNil_some,Addr.add_mk,Nat.zero_add,c0,cx,lds]
  refine hx.lookT2 L2.bel hnA fun vt hrt=>⟨_,_,_,rfl,?_⟩
  obtain⟨t1,t0,t2⟩:=hrt
  have hlk0:∀x,lkM gl a s b x→x < w.heap.size:=fun x h=>(hL.lt x h).2
  have hgl0:=hL.gl0
  have hgls:=hL.blk.lt
  refine⟨fun i w'=>∃k:Nat,i=k∧k≤(wsF (slA D.sl) n).length∧Fm (fun x=>x=r20∨x=r21) w2 w'∧SetR w' r20 (((wsF (slA D.sl) n).take k).filter fun x=>memB x ws)∧SetR w' r21 (((wsF (slA D.sl) n).take k).filter fun x=>memB x ws),fun i _=>(wsF (slA D.sl) n).length-i.toNat,
   ⟨0,rfl,by omega,.refl _ _,by simpa using h20,by simpa using h21⟩,?_⟩
  rintro _ w3 ⟨k,rfl,hk,f3,s20,s21⟩
  have L3:LkS wx w3 gl gx vw a s b la ls lb:=L2.fm f3 fun x hx2 e=>⟨by have:=hL.bel.size;omega,fun q=>by have:=hlk0 x q;omega⟩
  unfold F75_l3
  have hs3:=f3.size
  refine brd (fun hlt=>?_) (fun hge=>?_)
  ·have hk2:k < (wsF (slA D.sl) n).length:=by omega
   have htk:((wsF (slA D.sl) n).take (k+1)).filter (fun x=>memB x ws)=((wsF (slA D.sl) n).take k).filter (fun x=>memB x ws)++(if memB (wsF (slA D.sl) n)[k] ws=true then [(wsF (slA D.sl) n)[k]] else []):=by
    rw [List.take_succ_eq_append_getElem hk2,List.filter_append]
    congr 1
    rw [List.filter_cons];rfl
   refine⟨fun w'=>Fm (fun x=>x=r20∨x=r21) w2 w'∧SetR w' r20 (((wsF (slA D.sl) n).take (k+1)).filter fun x=>memB x ws)∧SetR w' r21 (((wsF (slA D.sl) n).take (k+1)).filter fun x=>memB x ws),?_,?_⟩
   ·rintro w' ⟨p1,p2,p3⟩
    exact⟨inR_i64 (by omega) (by omega),⟨k+1,by simp,by omega,p1,p2,p3⟩,(by first | omega | (dsimp only;omega))⟩
   refine (t2.keep L3.bel).str t1 rfl hk2 fun b oo cs=>?_
   have c1:w3.cell? ⟨gl,1,none⟩=some (.slice vw.1 vw.2.1 vw.2.2):=by rw [L3.blk.cell];rfl
   simp only [NonNil_some,Addr.add_mk,Nat.zero_add,cs,c1,lds]
   refine containsS ws vw _ (hw.keep L3.bel) ⟨_,rfl,?_⟩
   rw [htk]
   refine br (fun hm=>?_) (fun hm=>?_)
   ·rw [if_pos hm]
    refine s20.put _ fun w4 p20 f4=>?_
    refine (s21.fm f4 fun e=>hne e.symm).put _ fun w5 p21 f5=>⟨(f3.trans (f4.mono fun x _ e=>.inl e)).trans (f5.mono fun x _ e=>.inr e),p20.fm f5 hne,p21⟩
   ·rw [hm]
    simp only [Bool.false_eq_true,if_false,List.append_nil]
    exact⟨f3,s20,s21⟩
  ·have hk2:k=(wsF (slA D.sl) n).length:=by omega
   subst hk2
   rw [List.take_length] at s20 s21
   have s20:SetR w3 r20 (ownF' (slA D.sl) ws n):=s20
   have s21:SetR w3 r21 (ownF' (slA D.sl) ws n):=s21
   have F03:Fm (lkM gl a s b) w w3:=(Fm.below B2).trans' (f3) fun x hx2 e=>by omega
   have x3:=hx.keep L3.bel
   have c0:w3.cell? ⟨gl,0,none⟩=some (.pointer (some ⟨gx,0,none⟩)):=by rw [L3.blk.cell];rfl
   have cg:w3.cell? ⟨gx,0,none⟩=some (.pointer (some ⟨gd,0,none⟩)):=by rw [x3.blk.cell];rfl
   simp only [NonNil_some,Addr.add_mk,Nat.zero_add,c0,cg,lds]
   have hsd:=hx.sd
   subst hsd
   refine Kids_calls (θ:=⟨gd,98,[]⟩) x3.pm hA x3.pm.few hs ?_
   intro vk w4 hb4 ok4
   refine⟨_,_,_,_,rfl,?_⟩
   obtain⟨k1,k2⟩:=rdO ok4
   have hs4:=hb4.size
   have hkid:∀y∈s0.kids,∃t,slA S.D.sl y=some t∧Ch (slA S.D.sl) y (c+1):=fun y hy=>by
    obtain⟨t,t1,_,t3⟩:=kidc hA hs hc hy
    exact⟨t,t1,t3⟩
   have hkl:s0.kids.length≤4096:=Nat.le_trans (live_few (fun y hy=>by obtain⟨t,t1,_⟩:=hkid y hy;exact⟨t,t1⟩) (hA.kid n s0 hs).1) x3.pm.few
   refine⟨fun sm i w'=>∃(k:Nat) (a' s' b':Sv),i=k∧k≤s0.kids.length∧sm=(s0.kids.take k).any (someF (slA S.D.sl) ws r) ∧
     LkS wx w' gl gx vw a' s' b' (la++(s0.kids.take k).flatMap (findF (slA S.D.sl) ws q1 r)) (ls++(s0.kids.take k).flatMap (findF (slA S.D.sl) ws (qS (slA S.D.sl) ws) r)) (lb++(s0.kids.take k).flatMap (findF (slA S.D.sl) ws (qB (slA S.D.sl) ws) r)) ∧
     SetR w' r20 (ownF' (slA S.D.sl) ws n++(s0.kids.take k).flatMap (hasF (slA S.D.sl) ws r))∧SetR w' r21 (ownF' (slA S.D.sl) ws n++(s0.kids.take k).flatMap (besF (slA S.D.sl) ws r)) ∧
     LkF gl w a s b w' a' s' b'∧(∀x,lkM gl a' s' b' x→x < w3.heap.size→lkM gl a s b x)∧Own LHn w' w3.heap.size 65 (slV vk) s0.kids∧(∀x,rowOf (slV vk)=some x→¬lkM gl a' s' b' x)∧w4.heap.size≤w'.heap.size,
    fun _ i _=>s0.kids.length-i.toNat,⟨0,a,s,b,rfl,by omega,by simp,by simpa using L3.below hb4,by simpa using s20.fm (M:=fun _=>False) (.below hb4) fun h=>h,by simpa using s21.fm (M:=fun _=>False) (.below hb4) fun h=>h,
     ⟨F03.tr hb4,fun x h=>.inl h⟩,fun x h _=>h,ok4,fun x hx2 q=>by have:=(ok4.lt x hx2).1;have:=hlk0 x q;omega,Nat.le_refl _⟩,?_⟩
   rintro sm _ w5 ⟨k,a5,s5,b5,rfl,hk,rfl,L5,p20,p21,F5,rw5,ok5,rk5,hsz5⟩
   unfold F75_l10
   have hlk5:∀x,lkM gl a5 s5 b5 x→x < w.heap.size∨w3.heap.size≤x:=fun x q=>by
    by_cases e:x < w3.heap.size
    ·exact .inl (hlk0 x (rw5 x q e))
    ·exact .inr (by omega)
   have h20n:¬lkM gl a5 s5 b5 r20:=fun q=>by have:=hlk5 r20 q;omega
   have h21n:¬lkM gl a5 s5 b5 r21:=fun q=>by have:=hlk5 r21 q;omega
   refine brd (fun hlt=>?_) (fun hge=>?_)
   ·have hk2:k < s0.kids.length:=by omega
    have hanyk:(s0.kids.take (k+1)).any (someF (slA S.D.sl) ws r)=((s0.kids.take k).any (someF (slA S.D.sl) ws r) || someF (slA S.D.sl) ws r s0.kids[k]):=by
     rw [List.take_succ_eq_append_getElem hk2,List.any_append];simp
    refine⟨fun sm w'=>sm=(s0.kids.take (k+1)).any (someF (slA S.D.sl) ws r)∧∃(a' s' b':Sv),
     LkS wx w' gl gx vw a' s' b' (la++(s0.kids.take (k+1)).flatMap (findF (slA S.D.sl) ws q1 r)) (ls++(s0.kids.take (k+1)).flatMap (findF (slA S.D.sl) ws (qS (slA S.D.sl) ws) r)) (lb++(s0.kids.take (k+1)).flatMap (findF (slA S.D.sl) ws (qB (slA S.D.sl) ws) r)) ∧
     SetR w' r20 (ownF' (slA S.D.sl) ws n++(s0.kids.take (k+1)).flatMap (hasF (slA S.D.sl) ws r))∧SetR w' r21 (ownF' (slA S.D.sl) ws n++(s0.kids.take (k+1)).flatMap (besF (slA S.D.sl) ws r)) ∧
     LkF gl w a s b w' a' s' b'∧(∀x,lkM gl a' s' b' x→x < w3.heap.size→lkM gl a s b x)∧Own LHn w' w3.heap.size 65 (slV vk) s0.kids∧(∀x,rowOf (slV vk)=some x→¬lkM gl a' s' b' x)∧w4.heap.size≤w'.heap.size,?_,?_⟩
    ·rintro sm w' ⟨rfl,a',s',b',z1,z2,z3,z4,z5,z6,z7,z8⟩
     exact⟨inR_i64 (by omega) (by omega),⟨k+1,a',s',b',by simp,by omega,rfl,z1,z2,z3,z4,z5,z6,z7,z8⟩,(by first | omega | (dsimp only;omega))⟩
    refine (rdO ok5).2.hn k1 rfl hk2 fun bb oo cc=>?_
    simp only [cc,lds]
    obtain⟨t,ht,hct⟩:=hkid s0.kids[k] (List.getElem_mem hk2)
    have hfl:=@flat_take_le (allA (slA S.D.sl) r) s0.kids (k+1)
    have hall:=@flat_take (allA (slA S.D.sl) r) s0.kids k hk2
    have hle:∀q:Nat→Nat→Bool,((s0.kids.take k).flatMap (findF (slA S.D.sl) ws q r)).length≤((s0.kids.take k).flatMap (allA (slA S.D.sl) r)).length:=fun q=>flat_le2 fun y _=>find_len r y
    have hle1:=hle q1
    have hle2:=hle (qS (slA S.D.sl) ws)
    have hle3:=hle (qB (slA S.D.sl) ws)
    rw [hall,List.length_append] at hfl
    rw [flat_take hk2,flat_take hk2,flat_take hk2,flat_takeB hk2,flat_takeB hk2,hanyk]
    generalize s0.kids[k]=y at *
    refine ih y (c+1) ht hct (by omega) L5 (by simp only [List.length_append];omega) fun w6 r20k m21k a6 s6 b6 L6 F6 q20 q21 hge20 hge21=>⟨_,_,_,rfl,?_⟩
    have hs6:=F6.fm.size
    have p20':=p20.fm F6.fm h20n
    have p21':=p21.fm F6.fm h21n
    have hrow6:∀x,lkM gl a6 s6 b6 x→lkM gl a5 s5 b5 x∨w5.heap.size≤x:=F6.row
    refine union_loop p20' (mo:=some r20k) (l:=hasF (slA S.D.sl) ws r y) q20 (fun e=>by cases e;omega)
     (step:=fun it L w'=>F75_l14 r20 r21 _ _ _ _ it L w' R)
     (X:=fun w'=>Raw Tryz.prog (Instr.range 167 (.map m21k)) w' fun v6 w1_8=>∃it84:Nat,v6=.pointer (some ⟨it84,0,none⟩)∧∃(I:World→Prop) (m:World→Nat),I w1_8∧∀(w1_9:World),I w1_9→F75_l18 r21 _ _ _ it84 (fun w2=>I w2∧m w2 < m w1_9) w1_9 R)
     (fun it L w' h=>by unfold F75_l14;exact h) fun w7 s20 f7=>?_
    refine union_loop (p21'.fm f7 fun e=>hne e.symm) (mo:=m21k) (l:=besF (slA S.D.sl) ws r y) ?_ (fun e=>by have:=hge21 r21 e;omega)
     (step:=fun it L w'=>F75_l18 r21 _ _ _ it L w' R)
     (fun it L w' h=>by unfold F75_l18;exact h) fun w8 s21 f8=>?_
    ·cases m21k with
     | none=>exact q21
     | some x=>exact SetR.fm q21 f7 fun e=>by have e:x=r20:=e;have:=hge21 x rfl;omega
    have hs7:=f7.size
    have F68:Fm (fun x=>x=r20∨x=r21) w6 w8:=(f7.mono fun x _ e=>.inl e).trans (f8.mono fun x _ e=>.inr e)
    have fin:∃(a' s' b':Sv),
     LkS wx w8 gl gx vw a' s' b' (la++((s0.kids.take k).flatMap (findF (slA S.D.sl) ws q1 r)++findF (slA S.D.sl) ws q1 r y)) (ls++((s0.kids.take k).flatMap (findF (slA S.D.sl) ws (qS (slA S.D.sl) ws) r)++findF (slA S.D.sl) ws (qS (slA S.D.sl) ws) r y)) (lb++((s0.kids.take k).flatMap (findF (slA S.D.sl) ws (qB (slA S.D.sl) ws) r)++findF (slA S.D.sl) ws (qB (slA S.D.sl) ws) r y)) ∧
     SetR w8 r20 (ownF' (slA S.D.sl) ws n++((s0.kids.take k).flatMap (hasF (slA S.D.sl) ws r)++hasF (slA S.D.sl) ws r y))∧SetR w8 r21 (ownF' (slA S.D.sl) ws n++((s0.kids.take k).flatMap (besF (slA S.D.sl) ws r)++besF (slA S.D.sl) ws r y)) ∧
     LkF gl w a s b w8 a' s' b'∧(∀x,lkM gl a' s' b' x→x < w3.heap.size→lkM gl a s b x)∧Own LHn w8 w3.heap.size 65 (slV vk) s0.kids∧(∀x,rowOf (slV vk)=some x→¬lkM gl a' s' b' x)∧w4.heap.size≤w8.heap.size:=by
     refine⟨a6,s6,b6,?_,?_,?_,(F5.trans F6).fr F68 (fun x _ e=>by omega),fun x q hlt3=>?_,?_,fun x hx2 q=>?_,by have:=f8.size;omega⟩
     ·rw [←List.append_assoc,←List.append_assoc,←List.append_assoc]
      refine L6.fm F68 fun x _ e=>⟨by have:=hL.bel.size;omega,fun q=>?_⟩
      rcases hrow6 x q with q | q
      ·rcases e with e | e
       ·subst e;exact h20n q
       ·subst e;exact h21n q
      ·omega
     ·rw [←List.append_assoc];exact s20.fm f8 hne
     ·rw [←List.append_assoc];exact s21
     ·rcases hrow6 x q with q | q
      ·exact rw5 x q hlt3
      ·omega
     ·exact own_fm (own_fm ok5 F6.fm fun x hx2 q=>rk5 x hx2 q) F68 fun x hx2 e=>by have:=(ok5.lt x hx2).1;omega
     ·rcases hrow6 x q with q | q
      ·exact rk5 x hx2 q
      ·have:=(ok5.lt x hx2).2;omega
    refine br (fun hsm=>⟨by rw [hsm];rfl,fin⟩) (fun hsm=>⟨by rw [hsm];rfl,fin⟩)
   ·have hk2:k=s0.kids.length:=by omega
    subst hk2
    rw [List.take_length] at L5 p20 p21 ⊢
    have x5:=hx.keep L5.bel
    have c0:w5.cell? ⟨gl,0,none⟩=some (.pointer (some ⟨gx,0,none⟩)):=by rw [L5.blk.cell];rfl
    have cg:w5.cell? ⟨gx,0,none⟩=some (.pointer (some ⟨gd,0,none⟩)):=by rw [x5.blk.cell];rfl
    simp only [NonNil_some,Addr.add_mk,Nat.zero_add,c0,cg,lds]
    refine Get_calls (θ:=⟨gd,98,[]⟩) x5.pm hs ?_
    intro va w6 hb6 _
    refine⟨s0.kind,s0.nm,va.1,va.2.1,va.2.2,s0.text,none,0,0,0,rfl,?_⟩
    refine al fun gt w7 hb7 b7 hge7=>?_
    refine st_blk b7 (by simp) fun u1 q1' f1=>st_blk q1' (by simp) fun u2 q2 f2=>st_blk q2 (by simp) fun u3 q3 f3=>st_blk q3 (by simp) fun u4 q4 f4=>st_blk q4 (by simp) fun w8 b8 f5=>?_
    simp only [List.setIfInBounds_toArray,List.set_cons_zero,List.set_cons_succ] at b8
    have F8:Fm (·=gt) w7 w8:=(((f1.trans f2).trans f3).trans f4).trans f5
    clear q1' q2 q3 q4 f1 f2 f3 f4 f5
    have hs6:=hb6.size
    have D7:=btr hb6 hb6.size hb7
    have D8:Below w5.heap.size w5 w8:=D7.trans (F8.toBelow D7.size fun x hx2 e=>by have e:x=gt:=e;omega)
    have hle:∀q:Nat→Nat→Bool,(s0.kids.flatMap (findF (slA S.D.sl) ws q r)).length≤(s0.kids.flatMap (allA (slA S.D.sl) r)).length:=fun q=>flat_le2 fun y _=>find_len r y
    have hle1:=hle q1
    have hle2:=hle (qS (slA S.D.sl) ws)
    have hle3:=hle (qB (slA S.D.sl) ws)
    have hW:wholeF (slA S.D.sl) ws (r+1) n=(decide (s0.kind=1) && allW' ws (ownF' (slA S.D.sl) ws n++s0.kids.flatMap (hasF (slA S.D.sl) ws r))):=by
     unfold wholeF;rw [hs,←hasF_some hs]
    have hQS:qS (slA S.D.sl) ws (r+1) n=!(s0.kids.any (someF (slA S.D.sl) ws r)):=by unfold qS;rw [hs,Nat.add_sub_cancel]
    have hQB:qB (slA S.D.sl) ws (r+1) n=allW' ws (ownF' (slA S.D.sl) ws n++s0.kids.flatMap (besF (slA S.D.sl) ws r)):=by unfold qB;rw [besK_some hs]
    generalize hAS:ownF' (slA S.D.sl) ws n++s0.kids.flatMap (hasF (slA S.D.sl) ws r)=HAS at *
    generalize hBE:ownF' (slA S.D.sl) ws n++s0.kids.flatMap (besF (slA S.D.sl) ws r)=BES at *
    generalize hAN:s0.kids.any (someF (slA S.D.sl) ws r)=AN at *
    generalize s0.kids.flatMap (findF (slA S.D.sl) ws q1 r)=FA at *
    generalize s0.kids.flatMap (findF (slA S.D.sl) ws (qS (slA S.D.sl) ws) r)=FS at *
    generalize s0.kids.flatMap (findF (slA S.D.sl) ws (qB (slA S.D.sl) ws) r)=FB at *
    generalize (s0.kids.flatMap (allA (slA S.D.sl) r)).length=NN at *
    have L8:=L5.below D8
    have p208:=p20.fm (M:=fun _=>False) (.below D8) fun h=>h
    have p218:=p21.fm (M:=fun _=>False) (.below D8) fun h=>h
    have F58:LkF gl w a s b w8 a5 s5 b5:=F5.fr (M:=fun _=>False) (.below D8) fun _ _ h=>h.elim
    have hs8:=D8.size
    have none_:∀w9,Below w8.heap.size w8 w9→wholeF (slA S.D.sl) ws (r+1) n=false→R (.returned (.tuple #[.map (some r20),.map (some r21),.bool AN])) w9:=fun w9 hb9 hf=>by
     have:=hK w9 r20 (some r21) a5 s5 b5 ?_ (F58.fr (M:=fun _=>False) (.below hb9) fun _ _ h=>h.elim) (p208.fm (M:=fun _=>False) (.below hb9) fun h=>h) ?_ (by omega) (fun x e=>by cases e;omega)
     ·rw [hf,Bool.false_or] at this;exact this
     ·rw [hf]
      simp only [Bool.false_eq_true,false_and,if_false,List.append_nil]
      exact L8.below hb9
     ·rw [hf]
      simp only [Bool.false_eq_true,if_false]
      exact SetR.fm (M:=fun _=>False) p218 (.below hb9) fun h=>h
    refine⟨fun hs' bs' sm w9=>hs'=some r20∧bs'=some r21∧sm=AN∧Below w8.heap.size w8 w9∧wholeF (slA S.D.sl) ws (r+1) n=true,?_,?_⟩
    rotate_left
    ·simp only [b8.cell,List.getElem?_toArray,List.getElem?_cons_zero,lds]
     refine brn (fun hk1=>none_ w8 (.refl _ _) (by rw [hW,decide_eq_false hk1];rfl)) (fun hk1=>?_)
     refine whole_calls L8 hw (mo:=some r20) p208 fun w9 hb9=>⟨_,rfl,?_⟩
     rw [brnot]
     exact br (fun h1=>⟨trivial,trivial,trivial,hb9,by rw [hW,h1,decide_eq_true hk1];rfl⟩) (fun h1=>none_ w9 hb9 (by rw [hW,h1,Bool.and_false]))
    ·rintro _ _ sm w9 ⟨rfl,rfl,hsm,hb9,hwt⟩
     rw [hsm]
     rw [hwt,hQS,hQB] at hK
     simp only [true_and,if_true,Bool.true_or] at hK
     rw [if_pos (show q1 (r+1) n=true from rfl)] at hK
     have hs9:=hb9.size
     have L9:=L8.below hb9
     have p209:=p208.fm (M:=fun _=>False) (.below hb9) fun h=>h
     have p219:=p218.fm (M:=fun _=>False) (.below hb9) fun h=>h
     have F9:=F58.fr (M:=fun _=>False) (.below hb9) fun _ _ h=>h.elim
     unfold F75_j26
     have c2:w9.cell? ⟨gl,2,none⟩=some (.slice a5.1 a5.2.1 a5.2.2):=by rw [L9.blk.cell];rfl
     simp only [NonNil_some,Addr.add_mk,Nat.zero_add,c2,lds]
     refine L9.push 2 n (.inl rfl) (by simp only [List.length_append];omega) fun w10 a' s' b' L10 F10=>?_
     simp only [if_true,Nat.reduceEqDiff,if_false] at L10
     have hnn:∀{w':World}{a' s' b':Sv},w5.heap.size≤w'.heap.size→(¬lkM gl a' s' b' r20∧¬lkM gl a' s' b' r21)→∀{w2 a2 s2 b2},LkF gl w' a' s' b' w2 a2 s2 b2→(¬lkM gl a2 s2 b2 r20∧¬lkM gl a2 s2 b2 r21):=fun {w' a' s' b'} h1 h2 {w2 a2 s2 b2} k=>⟨fun q=>by
      rcases k.row _ q with e | e
      ·exact h2.1 e
      ·omega,fun q=>by
      rcases k.row _ q with e | e
      ·exact h2.2 e
      ·omega⟩
     have z10:=hnn (by omega) ⟨h20n,h21n⟩ F10
     have p20a:=p209.fm F10.fm h20n
     have p21a:=p219.fm F10.fm h21n
     have hs10:=F10.fm.size
     refine⟨fun w'=>∃(a2 s2 b2:Sv),LkS wx w' gl gx vw a2 s2 b2 (la++FA++[n]) (ls++(FS++if (!AN)=true then [n] else [])) (lb++FB)∧SetR w' r20 HAS∧SetR w' r21 BES∧LkF gl w a s b w' a2 s2 b2∧(¬lkM gl a2 s2 b2 r20∧¬lkM gl a2 s2 b2 r21)∧w5.heap.size≤w'.heap.size,?_,?_⟩
     rotate_left
     ·refine br (fun hn2=>?_) (fun hn2=>?_)
      ·have c3:w10.cell? ⟨gl,3,none⟩=some (.slice s'.1 s'.2.1 s'.2.2):=by rw [L10.blk.cell];rfl
       simp only [NonNil_some,Addr.add_mk,Nat.zero_add,c3,lds]
       refine L10.push 3 n (.inr (.inl rfl)) (by simp only [List.length_append,List.length_singleton];omega) fun w11 a2 s2 b2 L11 F11=>?_
       simp only [if_true,Nat.reduceEqDiff,if_false] at L11
       have hs11:=F11.fm.size
       refine⟨a2,s2,b2,?_,p20a.fm F11.fm z10.1,p21a.fm F11.fm z10.2,(F9.trans F10).trans F11,hnn (by omega) z10 F11,by omega⟩
       rw [hn2,if_pos rfl,←List.append_assoc];exact L11
      ·refine⟨a',s',b',?_,p20a,p21a,F9.trans F10,z10,by omega⟩
       rw [hn2]
       simp only [Bool.false_eq_true,if_false,List.append_nil]
       exact L10
     ·rintro w11 ⟨a2,s2,b2,L11,p20b,p21b,F11,z11,hs11⟩
      unfold F75_j29
      refine⟨fun w'=>∃(a3 s3 b3:Sv),LkS wx w' gl gx vw a3 s3 b3 (la++FA++[n]) (ls++(FS++if (!AN)=true then [n] else [])) (lb++(FB++if allW' ws BES=true then [n] else []))∧SetR w' r20 HAS∧LkF gl w a s b w' a3 s3 b3,?_,?_⟩
      ·rintro w12 ⟨a3,s3,b3,L12,p20c,F12⟩
       unfold F75_j31
       rw [List.append_assoc] at L12
       exact hK w12 r20 none a3 s3 b3 L12 F12 p20c rfl (by omega) fun x e=>by cases e
      ·refine whole_calls L11 hw (mo:=some r21) p21b fun w12 hb12=>⟨_,rfl,?_⟩
       have L12:=L11.below hb12
       have p20c:=p20b.fm (M:=fun _=>False) (.below hb12) fun h=>h
       have F12:=F11.fr (M:=fun _=>False) (.below hb12) fun _ _ h=>h.elim
       refine br (fun hn3=>?_) (fun hn3=>?_)
       ·have c4:w12.cell? ⟨gl,4,none⟩=some (.slice b2.1 b2.2.1 b2.2.2):=by rw [L12.blk.cell];rfl
        simp only [NonNil_some,Addr.add_mk,Nat.zero_add,c4,lds]
        refine L12.push 4 n (.inr (.inr rfl)) (by
         simp only [List.length_append,List.length_singleton]
         split <;> simp only [List.length_singleton,List.length_nil] <;> omega) fun w13 a3 s3 b3 L13 F13=>?_
        simp only [if_true,Nat.reduceEqDiff,if_false] at L13
        refine⟨a3,s3,b3,?_,p20c.fm F13.fm z11.1,F12.trans F13⟩
        rw [List.append_assoc lb] at L13;rw [if_pos hn3];exact L13
       ·refine⟨a2,s2,b2,?_,p20c,F12⟩
        have e4:(if allW' ws BES=true then [n] else [])=([]:List Nat):=if_neg (by rw [hn3];decide)
        rw [e4,List.append_nil];exact L12
end
set_option maxRecDepth 100000
theorem blk_cells {g:Nat}{t:TypeId}:∀(vs:List Value) (o:Nat) {w:World}{c:Array Value},Blk w g c t→∃c',Blk (w.setCells g o vs) g c' t∧c'.size=c.size∧(∀m,m≤o→c'.toList.take m=c.toList.take m)∧Fm (·=g) w (w.setCells g o vs)
 | [],o,w,c,h=>⟨c,h,rfl,fun _ _=>rfl,.refl _ _⟩
 | v :: vs,o,w,c,h=>by
  obtain⟨c',h1,h2,h3,h4⟩:=blk_cells vs (o+1) (h.set o v)
  refine⟨c',h1,by rw [h2];simp,fun m hm=>?_,((Fm.refl (fun x=>x=g) w).set (fun _=>rfl) v).trans h4⟩
  rw [h3 m (by omega),Array.toList_setIfInBounds,List.take_set,List.set_eq_of_length_le (by rw [List.length_take];omega)]
section
variable {w:World}{R:Ending→World→Prop}{B:Nat}{A:Option Addr}{n c a:Nat}{xs:List Nat}
theorem clearH (h:Own LHn w B 65 (.slice A n c) xs) (ha:a < xs.length) {K:World→Prop} (hK:∀w1,Own LHn w1 B 65 (.slice A a c) (xs.take a)→Fm (fun b=>rowOf (.slice A n c)=some b) w w1→K w1) :
  Raw Tryz.prog (Builtin.clear_ #[23] 0 #[.slice (SlA A c a 1) (n-a) (c-a)]) w (fun _ w'=>K w'):=by
 have h1:LHn.n=1:=rfl
 rcases h with ⟨_,rfl⟩ | ⟨_,rfl⟩ | ⟨g,c',cur,hsl,hb,hh,hn,hm,hs,ht⟩
 ·simp at ha
 ·simp at ha
 ·simp only [Value.slice.injEq] at hsl
  obtain⟨rfl,rfl,rfl⟩:=hsl
  have hbk:Blk w g cur 65:=hh
  have e1:SlA (some ⟨g,0,none⟩) (c'+1) a 1=some ⟨g,a,none⟩:=by
   unfold SlA
   rw [if_neg (by omega),Option.map_some,Addr.add_mk];simp
  rw [e1]
  refine⟨_,_,Lib.run_clear_slice w _ 65 0 (.int .u64 0) (by kernel_rfl) (fun w=>by kernel_rfl) (by kernel_rfl) (by kernel_rfl) g a _ _ (by omega) (fun j hj=>?_) (fun j hj=>hbk.frozen _),?_⟩
  ·rw [hbk.cell,Array.getElem?_eq_getElem (by rw [hs,h1];omega)];rfl
  ·obtain⟨c2,b2,s2,t2,f2⟩:=blk_cells (List.replicate (xs.length-a) (Value.int .u64 0)) a hbk
   refine hK _ (.inr (.inr ⟨g,c',c2,?_,hb,b2,?_,hm,by rw [s2,hs],?_⟩)) (f2.mono fun b _ e=>by subst e;rfl)
   ·rw [List.length_take,Nat.min_eq_left (by omega)]
   ·rw [List.length_take];omega
   ·rw [List.length_take,Nat.min_eq_left (by omega),h1,Nat.mul_one,t2 a (Nat.le_refl _),LHn.all_take xs a,←ht,List.take_take,h1]
    congr 1;omega
theorem putH (h:Own LHn w B 65 (.slice A n c) xs) {i:Int}{k:Nat} (hi:i=k) (hk:k < xs.length) (x:Nat) {K:World→Prop}
  (hK:∀w1,Own LHn w1 B 65 (.slice A n c) (xs.set k x)→Fm (fun b=>rowOf (.slice A n c)=some b) w w1→K w1):IdxA A n i 1 fun q=>St w q (.int .u64 (x:Nat)) K:=by
 subst hi
 have h1:LHn.n=1:=rfl
 rcases h with ⟨_,rfl⟩ | ⟨_,rfl⟩ | ⟨g,c',cur,hsl,hb,hh,hn,hm,hs,ht⟩
 ·simp at hk
 ·simp at hk
 ·simp only [Value.slice.injEq] at hsl
  obtain⟨rfl,rfl,rfl⟩:=hsl
  rw [IdxA_some (by omega) (by omega)]
  simp only [Addr.add_mk,Int.toNat_natCast,Nat.mul_one,Nat.zero_add]
  have hbk:Blk w g cur 65:=hh
  have hsz:k < cur.size:=by rw [hs,h1];omega
  refine st_blk hbk hsz fun w1 b1 hf=>hK w1 ?_ (hf.mono fun b _ hb=>by subst hb;rfl)
  refine .inr (.inr ⟨g,c',_,by simp,hb,b1,by simpa using hn,hm,by simpa using hs,?_⟩)
  rw [List.length_set,Array.toList_setIfInBounds,List.take_set,ht,Lay.all_set _ _ _ _ hk,h1,List.set_eq_take_append_cons_drop,if_pos (by rw [LHn.all_length,h1];omega)]
  simp [LHn]
theorem cloneHn {l:List Nat}{v:Sv} (hl:RdV LHn w l v) (hn:l.length≤67108864) (h:∀v' w',Below w.heap.size w w'→Own LHn w' w.heap.size 65 (slV v') l→R (.returned (slV v')) w'):Calls Tryz.prog 77 #[.slice v.1 v.2.1 v.2.2] w R:=by
 refine ok77 v.1 v.2.1 v.2.2 ?_
 unfold F77
 obtain⟨z1,z0,z2⟩:=hl
 refine br (fun hz=>?_) (fun hz=>?_)
 ·have h1:v.1=none:=by simpa using hz
  have h2:=z2.2.2.1 h1
  have h3:=z2.1
  have:l=[]:=List.eq_nil_of_length_eq_zero (by omega)
  subst this
  exact h (none,0,0) w (Below.refl _ _) (Own.nil _ _ _ _)
 ·refine al fun g w1 hb1 b1 hge=>?_
  refine ap (L:=LHn) (e:=65) (xs:=[]) (ys:=l) (base:=w.heap.size) (.int .u64 0) 8 z1 (by kernel_rfl) (by kernel_rfl) (by kernel_rfl) (Own.bare _ _ _ _ _) (z2.keep hb1) hb1.size (by simp only [List.length_nil,Nat.zero_add];omega) (by simp [maxLen];omega) fun A' c' w2 o2 g2=>⟨_,_,_,rfl,?_⟩
  exact h (A',_,c') w2 (hb1.trans g2.below) (by rw [List.nil_append] at o2;exact o2)
theorem idxP_cases {α:Type} (p:α→Bool):∀(l:List α) (i:Nat),(idxP p l i=-1∧l.filter (fun y=>!p y)=l)∨∃k,idxP p l i=((i+k:Nat):Int)∧k < l.length∧(l.take (k+1)).filter (fun y=>!p y)=l.take k
 | [],i=>.inl ⟨rfl,rfl⟩
 | y :: l,i=>by
  rw [idxP]
  by_cases h:p y=true
  ·rw [if_pos h]
   exact .inr ⟨0,rfl,by simp,by simp [h]⟩
  ·rw [if_neg h]
   have h2:p y=false:=by simpa using h
   rcases idxP_cases p l (i+1) with ⟨h3,h4⟩ | ⟨k,h3,h4,h5⟩
   ·exact .inl ⟨h3,by rw [List.filter_cons,h2,h4];rfl⟩
   ·exact .inr ⟨k+1,by rw [h3];congr 1;omega,by simp;omega,by rw [List.take_succ_cons,List.filter_cons,h2,h5];rfl⟩
theorem delFn {l:List Nat}{v:Sv}{f:Value} (p:Nat→Bool) (ho:Own LHn w B 65 (slV v) l) (hl:l.length≤1048576)
  (hf:∀y∈l,∀(w1:World) (K:Value→World→Prop) (R':Ending→World→Prop),Fm (fun b=>rowOf (slV v)=some b) w w1→(∀w2,Below w1.heap.size w1 w2→K (.bool (p y)) w2)→CallV Tryz.prog f #[.int .u64 (y:Nat)] w1 R' K)
  (h:∀v' w',Own LHn w' B 65 (slV v') (l.filter fun y=>!p y)→Fm (fun b=>rowOf (slV v)=some b) w w'→R (.returned (slV v')) w') :
  Calls Tryz.prog 76 #[.slice v.1 v.2.1 v.2.2,f] w R:=by
 refine ok76 v.1 v.2.1 v.2.2 f ?_
 unfold F76
 have hrd:=rdO ho
 refine indexFH l v f p ⟨hrd.1,by omega,hrd.2⟩ (fun y hy w1 K R' hb hK=>hf y hy w1 K R' (.below hb) hK) fun w1 hb1=>⟨_,rfl,?_⟩
 rcases idxP_cases p l 0 with ⟨h3,h4⟩ | ⟨a,h3,h4,h5⟩
 ·rw [h3]
  refine bre (fun _=>?_) (fun hn=>absurd rfl hn)
  exact h v w1 (by rw [h4];exact ho.keep hb1) (.below hb1)
 ·rw [h3,Nat.zero_add]
  refine bre (fun hn=>by omega) (fun _=>?_)
  have hn:=hrd.1
  refine⟨inR_i64 (by omega) (by omega),?_⟩
  refine⟨fun i j w'=>∃(a k:Nat) (xs:List Nat),i=a∧j=k∧a < k∧k≤l.length∧xs.length=l.length∧xs.take a=(l.take k).filter (fun y=>!p y)∧xs.drop k=l.drop k∧Own LHn w' B 65 (slV v) xs∧Fm (fun b=>rowOf (slV v)=some b) w w',fun _ j _=>l.length-j.toNat,
   ⟨a,a+1,l,rfl,by simp,by omega,by omega,rfl,h5.symm,rfl,ho.keep hb1,.below hb1⟩,?_⟩
  rintro _ _ w2 ⟨a,k,xs,rfl,rfl,hak,hk,hx,ht,hd,o2,f2⟩
  unfold F76_l5
  have hrd2:=rdO o2
  refine brd (fun hlt=>?_) (fun hge=>?_)
  ·have hk2:k < l.length:=by omega
   have hxk:xs[k]'(by omega)=l[k]:=by
    have h6:(xs.drop k)[0]?=(l.drop k)[0]?:=by rw [hd]
    rw [List.getElem?_drop,List.getElem?_drop,Nat.add_zero,List.getElem?_eq_getElem (by omega),List.getElem?_eq_getElem hk2] at h6
    exact Option.some.inj h6
   have htk:(l.take (k+1)).filter (fun y=>!p y)=xs.take a++(if (!p l[k])=true then [l[k]] else []):=by
    rw [List.take_succ_eq_append_getElem hk2,List.filter_append,ht]
    congr 1
    rw [List.filter_cons];rfl
   have hdk:xs.drop (k+1)=l.drop (k+1):=by
    rw [←List.drop_drop,←List.drop_drop,hd]
   refine⟨fun i w'=>∃(a:Nat) (xs:List Nat),i=a∧a < k+1∧xs.length=l.length∧xs.take a=(l.take (k+1)).filter (fun y=>!p y)∧xs.drop (k+1)=l.drop (k+1)∧Own LHn w' B 65 (slV v) xs∧Fm (fun b=>rowOf (slV v)=some b) w w',?_,?_⟩
   ·rintro _ w3 ⟨a',xs',rfl,q1,q2,q3,q4,q5,q6⟩
    unfold F76_j6
    exact⟨inR_i64 (by omega) (by omega),⟨a',k+1,xs',rfl,by simp,q1,by omega,q2,q3,q4,q5,q6⟩,(by first | omega | (dsimp only;omega))⟩
   refine hrd2.2.hn hrd2.1 rfl (k:=k) (by omega) fun b o c0=>?_
   rw [hxk] at c0
   simp only [c0,lds]
   refine hf _ (List.getElem_mem hk2) w2 _ R f2 fun w3 hb3=>⟨_,rfl,?_⟩
   have o3:=o2.keep hb3
   have f3:=f2.trans (Fm.below hb3)
   refine br (fun hp=>?_) (fun hp=>?_)
   ·refine putH o3 rfl (k:=a) (by omega) l[k] fun w4 o4 f4=>?_
    refine⟨inR_i64 (by omega) (by omega),a+1,xs.set a l[k],by simp,by omega,by rw [List.length_set];exact hx,?_,?_,o4,f3.trans f4⟩
    ·rw [htk,if_pos hp,List.take_succ_eq_append_getElem (by rw [List.length_set];omega),List.getElem_set_self,List.take_set,List.set_eq_of_length_le (by rw [List.length_take];omega)]
    ·rw [List.drop_set_of_lt (by omega),hdk]
   ·refine⟨a,xs,rfl,by omega,hx,?_,hdk,o3,f3⟩
    rw [htk,hp];simp
  ·have hk2:k=l.length:=by omega
   subst hk2
   rw [List.take_length] at ht
   have hcap:=hrd2.2.1
   refine⟨by omega,by omega,by omega,?_⟩
   have e1:(((v.2.1:Nat):Int)).toNat=v.2.1:=by omega
   have e2:(((a:Nat):Int)).toNat=a:=by omega
   rw [e1,e2]
   refine (clearH o2 (a:=a) (by omega) (K:=fun w'=>SlB 0 (a:Nat) ((v.2.2:Nat):Int) (R (.returned (.slice v.1 a v.2.2)) w')) fun w3 o3 f3=>?_)
   refine⟨by omega,by omega,by omega,?_⟩
   rw [ht] at o3
   exact h (v.1,a,v.2.2) w3 o3 (f2.trans f3)
end
end Go.Proofs.YtccplipiahdhiaaGreatDoor
