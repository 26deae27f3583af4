/- Search: SearchLooks, the card. -/
import Derived.Test.YtccplipiahdhiaaGreatDoorProg
import Derived.Lib.ConvBytes
import Derived.Laws.IdiomStrings
import Derived.Shelf.Strings.FuncGrows
import Derived.Test.YtccplipiahdhiaaGreatDoorSl3
namespace Go.Proofs.YtccplipiahdhiaaGreatDoor
open Go.RowKit Go.Vc
set_option linter.unusedVariables false
set_option linter.unusedSimpArgs false
set_option maxRecDepth 100000
theorem newOr_iff {ok:Nat→Bool}{k b:Nat}:(ok b || Nat.ble k b)=true↔ok b=true∨k≤b:=by
 rw [Bool.or_eq_true]
 exact⟨fun h=>h.imp id Nat.le_of_ble_eq_true,fun h=>h.imp id Nat.ble_eq_true_of_le⟩
section
variable {ok:Nat→Bool}{opn:List Nat}{w w1 w0:World}{g:Nat}{D:Im}{vs vr:Sv}{es:List S8}{R:Ending→World→Prop}
theorem getR_calls (h:RW opn w0 g D vs vr es) (hb0:Below w0.heap.size w0 w) {x:Nat}{s:Sl} (hx:slA D.sl x=some s)
  (hK:∀w' e,Below w.heap.size w w'→es[x % 4294967296-1]?=some e→R (.returned (.tuple #[.agg #[.int .i64 s.kind,.string s.nm,slV e.ats,.string s.text,.slice none 0 0],.int .i64 0])) w') :
  Calls Tryz.prog 48 #[.pointer (some ⟨g,0,none⟩),.int .u64 (x:Nat)] w R:=by
 have hxl:=hnd_lt h.ok h.few hx
 obtain⟨k,k1,hk,k2,k3,hx0⟩:=slA_get hx
 refine ok48 (some ⟨g,0,none⟩) x ?_
 unfold F48
 refine al fun g4 w1 hb1 b4 hge4=>?_
 have B1:=btr hb0 hb0.size hb1
 have h1:=h.keep B1
 refine atW h1 hxl ⟨_,rfl,?_⟩
 rw [k1]
 refine brd (fun h9=>absurd h9 (by simp [atI])) (fun _=>?_)
 simp only [NonNil_some,h1.c0,lds]
 obtain⟨e,he⟩:=h1.e8 hk
 obtain⟨b1,b2⟩:=h1.el k _ e (List.getElem?_eq_getElem hk) he
 obtain⟨hk',he'⟩:=List.getElem?_eq_some_iff.1 he
 refine h1.rd.s8 h1.en (show atI (some k)=k from rfl) hk' fun b o c0 c1 c2 c3 c4 c5 c6 c7=>?_
 rw [he'] at c0 c1 c2 c3 c4 c5 c6 c7
 simp only [Addr.add_mk,c0,c1,c2,c3,c4,c5,c6,c7,lds]
 refine al fun gs w2 hb2 bs hges=>?_
 refine st_blk bs (by simp) fun u1 q1 f1=>st_blk q1 (by simp) fun u2 q2 f2=>st_blk q2 (by simp) fun u3 q3 f3=>st_blk q3 (by simp) fun u4 q4 f4=>st_blk q4 (by simp) fun u5 q5 f5=>st_blk q5 (by simp) fun u6 q6 f6=>st_blk q6 (by simp) fun u7 q7 f7=>st_blk q7 (by simp) fun w3 q8 f8=>?_
 simp only [List.setIfInBounds_toArray,List.set_cons_zero,List.set_cons_succ] at q8
 have F3:Fm (·=gs) w2 w3:=((((((f1.trans f2).trans f3).trans f4).trans f5).trans f6).trans f7).trans f8
 have D3:Below w1.heap.size w1 w3:=hb2.trans (F3.toBelow hb2.size fun b hb e=>by have e:b=gs:=e;omega)
 simp only [Addr.add_mk,Nat.zero_add,q8.cell,lds]
 refine st_blk (b4.keep D3) (by simp) fun v1 p1 r1=>st_blk p1 (by simp) fun v2 p2 r2=>st_blk p2 (by simp) fun v3 p3 r3=>st_blk p3 (by simp) fun v4 p4 r4=>st_blk p4 (by simp) fun w4 p5 r5=>?_
 simp only [List.setIfInBounds_toArray,List.set_cons_zero,List.set_cons_succ] at p5
 have F4:Fm (·=g4) w3 w4:=(((r1.trans r2).trans r3).trans r4).trans r5
 simp only [Addr.add_mk,Nat.zero_add,p5.cell,lds]
 have hs1:=hb1.size
 have D13:Below w.heap.size w w3:=hb1.trans (D3.mono hs1)
 have:=hK w4 e (D13.trans (F4.toBelow D13.size fun b hb e=>by have e:b=g4:=e;omega)) (by rw [show x % 4294967296-1=k by omega];exact he)
 rw [←k2,←b1.kind,←b1.nm,←b1.text] at this
 exact this
end
set_option maxRecDepth 100000
def allI (D:Im) (n:Nat):List Nat:=if n=0 then D.roots.flatMap (allA (slA D.sl) 65) else allA (slA D.sl) 65 n
section
variable {opn:List Nat}{w w1 w0:World}{g:Nat}{D:Im}{vs vr:Sv}{es:List S8}{R:Ending→World→Prop}{loose:List Nat}
theorem all_few (hS:WfS D.sl) (hA:WfA (slA D.sl) D.roots []) {r x:Nat} (hx:∃s,slA D.sl x=some s):(allA (slA D.sl) r x).length≤4096 :=
 Nat.le_trans (live_few (fun y hy=>all_live hA hx (fun z hz=>by simp at hz) hy) (all_nodup hA r x hx fun z hz=>by simp at hz)) hS.few
theorem flat_le {f:Nat→List Nat}{k:Nat}:∀(l:List Nat),(∀x∈l,(f x).length≤k)→(l.flatMap f).length≤l.length*k
 | [],_=>by simp
 | x :: l,h=>by
  rw [List.flatMap_cons,List.length_append,List.length_cons,Nat.add_mul]
  have h1:=h x (by simp)
  have h2:=flat_le l fun y hy=>h y (by simp [hy])
  omega
theorem allI_len (hw:Wf D) (n:Nat) (hn:n=0∨∃s,slA D.sl n=some s):(allI D n).length≤16777216:=by
 unfold allI
 split
 ·have h1:=flat_le (f:=allA (slA D.sl) 65) (k:=4096) D.roots fun x hx=>by
   obtain⟨_,t,ht,_⟩:=hw.a.root.2 x hx
   exact all_few hw.s hw.a ⟨t,ht⟩
  have h2:=lst_fewD hw.s hw.a 0
  unfold lstI at h2;rw [lstA_zero] at h2
  have:=Nat.mul_le_mul_right 4096 h2
  omega
 ·have:=all_few (r:=65) hw.s hw.a (hn.resolve_left (by assumption));omega
theorem allW_loop {f:Nat→List Nat}{l:List Nat}{v:Sv} (hv:RR LHn w0 l v) {w1:World}{A1:Option Addr}{n1 c1:Nat}{xs:List Nat} (hb1:Below w0.heap.size w0 w1) (ho1:Own LHn w1 w0.heap.size 65 (.slice A1 n1 c1) xs) (hlen:xs.length+(l.flatMap f).length≤4398046511104)
  (hstep:∀x∈l,∀{w:World}{A:Option Addr}{n c:Nat}{ys:List Nat}{R:Ending→World→Prop},Below w0.heap.size w0 w→Own LHn w w0.heap.size 65 (.slice A n c) ys→ys.length+(f x).length≤4398046511104 →
   (∀A' n' c' w',Below w0.heap.size w0 w'→Own LHn w' w0.heap.size 65 (.slice A' n' c') (ys++f x)→R (.returned (.slice A' n' c')) w') →
   Calls Tryz.prog 81 #[.pointer (some ⟨g,0,none⟩),.int .u64 (x:Nat),.slice A n c] w R)
  (hK:∀A' n' c' w',Below w0.heap.size w0 w'→Own LHn w' w0.heap.size 65 (.slice A' n' c') (xs++l.flatMap f)→R (.returned (.slice A' n' c')) w') :
  ∃(I:Option Addr→Nat→Nat→Int→World→Prop) (m:Option Addr→Nat→Nat→Int→World→Nat),I A1 n1 c1 (0:Int) w1 ∧
   ∀(l3:Option Addr) (lN3:Nat) (lC3:Nat) (i:Int) (w1_2:World),I l3 lN3 lC3 i w1_2→F81_l5 (some ⟨g,0,none⟩) v.1 v.2.1 (fun l3' lN3' lC3' i' w2=>I l3' lN3' lC3' i' w2∧m l3' lN3' lC3' i' w2 < m l3 lN3 lC3 i w1_2) l3 lN3 lC3 i w1_2 R:=by
 obtain⟨z0,z1,z2⟩:=hv
 refine⟨fun l3 lN3 lC3 i w'=>∃m:Nat,i=m∧m≤l.length∧Below w0.heap.size w0 w'∧Own LHn w' w0.heap.size 65 (.slice l3 lN3 lC3) (xs++(l.take m).flatMap f),fun _ _ _ i _=>l.length-i.toNat,
  ⟨0,rfl,by omega,hb1,by simpa using ho1⟩,?_⟩
 rintro l3 lN3 lC3 i w3 ⟨m,rfl,hm,hb3,ho3⟩
 unfold F81_l5
 refine brd (fun hlt=>?_) (fun hge=>?_)
 ·have hm2:m < l.length:=by omega
  refine (z2.keep hb3).hn z1 rfl (k:=m) hm2 fun b o c0=>?_
  simp only [c0,lds]
  have hst:(l.take (m+1)).flatMap f=(l.take m).flatMap f++f l[m]:=by
   rw [List.take_succ_eq_append_getElem hm2,List.flatMap_append];simp
  have hle:((l.take (m+1)).flatMap f).length≤(l.flatMap f).length:=by
   have e:l.flatMap f=(l.take (m+1)).flatMap f++(l.drop (m+1)).flatMap f:=by rw [←List.flatMap_append,List.take_append_drop]
   rw [e,List.length_append];omega
  rw [hst,List.length_append] at hle
  refine hstep l[m] (List.getElem_mem hm2) hb3 ho3 (by simp only [List.length_append];omega) fun A4 n4 c4 w4 hb4 ho4=>⟨_,_,_,rfl,inR_i64 (by omega) (by omega),⟨m+1,by simp,by omega,hb4,?_⟩,(by first | omega | (dsimp only;omega))⟩
  rw [hst,←List.append_assoc];exact ho4
 ·have hm2:m=l.length:=by omega
  subst hm2
  rw [List.take_length] at ho3
  exact hK l3 lN3 lC3 w3 hb3 ho3
theorem allW (h:RW [] w0 g D vs vr es) (hA:WfA (slA D.sl) D.roots loose):∀(r x c:Nat) {s:Sl},slA D.sl x=some s→Ch (slA D.sl) x c→65≤c+r→∀{w:World}{A:Option Addr}{n c:Nat}{xs:List Nat}{R:Ending→World→Prop},
  Below w0.heap.size w0 w→Own LHn w w0.heap.size 65 (.slice A n c) xs→xs.length+(allA (slA D.sl) r x).length≤4398046511104 →
  (∀A' n' c' w',Below w0.heap.size w0 w'→Own LHn w' w0.heap.size 65 (.slice A' n' c') (xs++allA (slA D.sl) r x)→R (.returned (.slice A' n' c')) w') →
  Calls Tryz.prog 81 #[.pointer (some ⟨g,0,none⟩),.int .u64 (x:Nat),.slice A n c] w R:=by
 intro r
 induction r with
 | zero =>
  intro x c s hx hc hr
  obtain⟨c',h1,h2⟩:=hA.chain x s hx
  have:=hc.fn h2
  omega
 | succ r ih =>
  intro x c s hx hc hr w A n cc xs R hb ho hlen hK
  have hxl:=hnd_lt h.ok h.few hx
  have hx0:=hA.ne0 hx
  rw [allA_some hx,List.length_cons] at hlen
  rw [allA_some hx] at hK
  refine ok81 (some ⟨g,0,none⟩) x A n cc ?_
  unfold F81
  refine⟨fun A1 n1 c1 w1=>Below w0.heap.size w0 w1∧Own LHn w1 w0.heap.size 65 (.slice A1 n1 c1) (xs++[x]),?_,?_⟩
  ·rintro A1 n1 c1 w1 ⟨hb1,ho1⟩
   unfold F81_j3
   refine listW h hb1 hxl (.inr ⟨s,hx,by simp⟩) fun v w2 hb2 hv _ _=>⟨_,_,_,rfl,?_⟩
   have B2:=btr hb1 hb1.size hb2
   have hlst:lstI D x=s.kids:=by unfold lstI;exact lstA_some hx0 hx
   rw [hlst] at hv
   refine allW_loop (f:=allA (slA D.sl) r) hv B2 (ho1.keep hb2) (by simp only [List.length_append,List.length_singleton];omega) (fun y hy=>?_) fun A4 n4 c4 w4 hb4 ho4=>?_
   ·obtain⟨t,t1,t2⟩:=((hA.kid x s hx).2 y hy).2
    intro w A n c' ys R hb ho hl hK
    exact ih y (c+1) t1 (.succ (hA.ne0 t1) t1 (by rw [t2];exact hc)) (by omega) hb ho hl hK
   ·rw [List.append_assoc,List.singleton_append] at ho4
    exact hK A4 n4 c4 w4 hb4 ho4
  ·refine brn (fun _=>?_) (fun h0=>absurd h0 (by omega))
   refine ap1 (L:=LHn) (x:=x) (.int .u64 0) 8 rfl (by kernel_rfl) (by kernel_rfl) (by kernel_rfl) ho hb.size (by omega) (by simp [maxLen];omega) fun A' c' w1 o1 g1=>⟨_,_,_,rfl,hb.trans g1.below,o1⟩
theorem AllW (h:RW [] w g D vs vr es) (hw:Wf D) {n:Nat} (hn:n < 18446744073709551616)
  (hK:∀v w',Below w.heap.size w w'→(n=0∨(∃s,slA D.sl n=some s)→Own LHn w' w.heap.size 65 (slV v) (allI D n))→(n≠0→slA D.sl n=none→v=(none,0,0))→R (.returned (.tuple #[slV v,.int .i64 (if n=0∨(slA D.sl n).isSome=true then 0 else 8)])) w') :
  Calls Tryz.prog 47 #[.pointer (some ⟨g,0,none⟩),.int .u64 (n:Nat)] w R:=by
 refine ok47 (some ⟨g,0,none⟩) n ?_
 unfold F47
 refine⟨fun w'=>w=w'∧(n=0∨∃s,slA D.sl n=some s),?_,?_⟩
 ·rintro _ ⟨rfl,hl⟩
  unfold F47_j3
  refine al fun g16 w1 hb1 b1 hge1=>?_
  have hfin:∀A' n' c' w',Below w.heap.size w w'→Own LHn w' w.heap.size 65 (.slice A' n' c') (allI D n)→R (.returned (.tuple #[.slice A' n' c',.int .i64 0])) w':=fun A' n' c' w' hb ho=>by
   have:=hK (A',n',c') w' hb (fun _=>ho) (fun h0 h1=>by
    rcases hl with e | ⟨s,hs⟩
    ·exact absurd e h0
    ·rw [hs] at h1;cases h1)
   rw [if_pos (by
    rcases hl with e | ⟨s,hs⟩
    ·exact .inl e
    ·exact .inr (by rw [hs];rfl))] at this
   exact this
  rcases hl with rfl | ⟨s,hs⟩
  ·refine ok81 (some ⟨g,0,none⟩) 0 (some ⟨g16,0,none⟩) 0 0 ?_
   unfold F81
   refine⟨fun A1 n1 c1 w2=>w1=w2∧A1=some ⟨g16,0,none⟩∧n1=0∧c1=0,?_,brn (fun h0=>absurd rfl h0) fun _=>⟨rfl,rfl,rfl,rfl⟩⟩
   rintro _ _ _ _ ⟨rfl,rfl,rfl,rfl⟩
   unfold F81_j3
   have hlen:=allI_len hw 0 (.inl rfl)
   unfold allI at hlen hfin
   rw [if_pos rfl] at hlen hfin
   refine listW (x:=0) h hb1 (by omega) (.inl rfl) fun v w2 hb2 hv _ _=>⟨_,_,_,rfl,?_⟩
   have hlst:lstI D 0=D.roots:=by unfold lstI;exact lstA_zero
   rw [hlst] at hv
   refine allW_loop (f:=allA (slA D.sl) 65) (xs:=[]) hv (btr hb1 hb1.size hb2) (Own.bare _ _ _ _ _) (by simp only [List.length_nil];omega) (fun y hy=>?_) fun A4 n4 c4 w4 hb4 ho4=>⟨_,_,_,rfl,?_⟩
   ·obtain⟨_,t,t1,t2⟩:=hw.a.root.2 y hy
    intro w A n c' ys R hb ho hl hK
    exact allW h hw.a 65 y 1 t1 (.succ (hw.a.ne0 t1) t1 (by rw [t2];exact .zero)) (by omega) hb ho hl hK
   ·exact hfin A4 n4 c4 w4 hb4 (by simpa using ho4)
  ·have hn0:=hw.a.ne0 hs
   have hlen:=allI_len hw n (.inr ⟨s,hs⟩)
   unfold allI at hlen hfin
   rw [if_neg hn0] at hlen hfin
   obtain⟨c,c1,c2⟩:=hw.a.chain n s hs
   refine allW (xs:=[]) h hw.a 65 n c hs c2 (by omega) hb1 (Own.bare _ _ _ _ _) (by simp only [List.length_nil];omega) fun A4 n4 c4 w4 hb4 ho4=>⟨_,_,_,rfl,?_⟩
   exact hfin A4 n4 c4 w4 hb4 (by simpa using ho4)
 ·refine brn (fun h0=>?_) (fun h0=>⟨rfl,.inl (by omega)⟩)
  refine liveW h hn ⟨_,rfl,?_⟩
  rw [brnot]
  refine br (fun h1=>⟨rfl,.inr (Option.isSome_iff_exists.1 h1)⟩) (fun h1=>?_)
  have e9:slA D.sl n=none:=by
   cases h9:slA D.sl n with
   | none=>rfl
   | some s=>rw [h9] at h1;cases h1
  have:=hK (none,0,0) w (.refl _ _) (fun hl=>by
   rcases hl with e | ⟨s,hs⟩
   ·omega
   ·rw [hs] at e9;cases e9) (fun _ _=>rfl)
  rw [if_neg (by
   rw [e9]
   rintro (h | h)
   ·omega
   ·cases h)] at this
  exact this
end
set_option maxRecDepth 100000
section
variable {ok:Nat→Bool}{opn:List Nat}{w w1 w0:World}{g:Nat}{D:Im}{vs vr:Sv}{es:List S8}{R:Ending→World→Prop}{loose:List Nat}
end
set_option maxRecDepth 100000
section
variable {ok:Nat→Bool}{opn:List Nat}{w w1 w0:World}{g:Nat}{D:Im}{vs vr:Sv}{es:List S8}{R:Ending→World→Prop}{loose:List Nat}
end
end Go.Proofs.YtccplipiahdhiaaGreatDoor
set_option linter.unusedVariables false
set_option maxRecDepth 100000
namespace Go.Proofs.YtccplipiahdhiaaGreatDoor
open Go.Vc
def F38_j7 (y:Addr) (L3:Int→World→Prop) (i:Int) (s:Addr) (ca:World) (R:Ending→World→Prop):Prop :=
 LdSl (ca.cell? y) fun aa t z =>
 LdI .u32 (ca.cell? s) fun m =>
 LdB (ca.cell? (s.add 1)) fun k =>
 LdI .i64 (ca.cell? (s.add 2)) fun j =>
 LdStr (ca.cell? (s.add 3)) fun q =>
 LdSl (ca.cell? (s.add 4)) fun f a b =>
 LdStr (ca.cell? (s.add 5)) fun g =>
 LdI .u64 (ca.cell? (s.add 6)) fun e =>
 LdSl (ca.cell? (s.add 7)) fun p c d =>
 Al ca #[(.int .u32 m),(.bool k),(.int .i64 j),(.string q),(.slice f a b),(.string g),(.int .u64 e),(.slice p c d)] 162 fun g36 h =>
 Raw Tryz.prog (Builtin.append_ #[22,22] 22 #[(.slice aa t z),(.slice (some g36) 1 1)]) h fun v2 n =>
 ∃(ba:Option Addr) (v:Nat) (u:Nat),v2=(.slice ba v u) ∧
 St n y (.slice ba v u) fun r =>
 InR .i64 (i+(1:Int))∧L3 (i+(1:Int)) r
def F38_l3 (g1:Addr) (g2:Addr) (y:Addr) (L3:Int→World→Prop) (i:Int) (ib:World) (R:Ending→World→Prop):Prop :=
 LdSl (ib.cell? g1) fun gb eb sa =>
 Br (decide (i < ((eb:Nat):Int)))
 (LdSl (ib.cell? g1) fun jb ab db =>
 IdxA jb ab i 8 fun hb =>
 LdI .u32 (ib.cell? hb) fun ba =>
 LdB (ib.cell? (hb.add 1)) fun p =>
 LdI .i64 (ib.cell? (hb.add 2)) fun ja =>
 LdStr (ib.cell? (hb.add 3)) fun fa =>
 LdSl (ib.cell? (hb.add 4)) fun n g d =>
 LdStr (ib.cell? (hb.add 5)) fun j =>
 LdI .u64 (ib.cell? (hb.add 6)) fun v =>
 LdSl (ib.cell? (hb.add 7)) fun ka h e =>
 Al ib #[(.int .u32 0),(.bool false),(.int .i64 0),(.string (ByteArray.mk #[])),(.slice none 0 0),(.string (ByteArray.mk #[])),(.int .u64 0),(.slice none 0 0)] 162 fun s za =>
 St za s (.int .u32 ba) fun ua =>
 St ua (s.add 1) (.bool p) fun r =>
 St r (s.add 2) (.int .i64 ja) fun ga =>
 St ga (s.add 3) (.string fa) fun m =>
 St m (s.add 4) (.slice n g d) fun ma =>
 St ma (s.add 5) (.string j) fun k =>
 St k (s.add 6) (.int .u64 v) fun ca =>
 St ca (s.add 7) (.slice ka h e) fun u =>
 ∃J7:World→Prop,(∀ (t:World),J7 t→F38_j7 y L3 i s t R) ∧
 (∃S:World→Prop,S u.drew∧∃(fb:Option Addr) (cb:Nat) (va:Nat),Held S (s.add 4) (.slice fb cb va)∧∃(nb:Option Addr) (qa:Nat) (ta:Nat),Held S (s.add 7) (.slice nb qa ta)∧(Al u.drew #[] 205 fun g23 da =>
 S da∧(Raw Tryz.prog (Builtin.append_ #[81,81] 81 #[(.slice (some g23) 0 0),(.slice fb cb va)]) da fun v2 na =>
 ∃(mb:Option Addr) (ya:Nat) (pa:Nat),v2=(.slice mb ya pa) ∧
 S na∧Al na #[] 65 fun g27 ha =>
 S ha∧Raw Tryz.prog (Builtin.append_ #[23,23] 23 #[(.slice (some g27) 0 0),(.slice nb qa ta)]) ha fun v3 ia =>
 ∃(kb:Option Addr) (bb:Nat) (ra:Nat),v3=(.slice kb bb ra) ∧
 St ia (s.add 4) (.slice mb ya pa) fun z =>
 St z (s.add 7) (.slice kb bb ra) fun aa =>
 J7 aa)
 ∧ (Al da #[] 65 fun g27 na =>
 S na∧Raw Tryz.prog (Builtin.append_ #[81,81] 81 #[(.slice (some g23) 0 0),(.slice fb cb va)]) na fun v2 ha =>
 ∃(mb:Option Addr) (ya:Nat) (pa:Nat),v2=(.slice mb ya pa) ∧
 S ha∧Raw Tryz.prog (Builtin.append_ #[23,23] 23 #[(.slice (some g27) 0 0),(.slice nb qa ta)]) ha fun v3 ia =>
 ∃(kb:Option Addr) (bb:Nat) (ra:Nat),v3=(.slice kb bb ra) ∧
 St ia (s.add 4) (.slice mb ya pa) fun z =>
 St z (s.add 7) (.slice kb bb ra) fun aa =>
 J7 aa))
 ∧ (Al u.drew #[] 65 fun g27 da =>
 S da∧Al da #[] 205 fun g23 na =>
 S na∧Raw Tryz.prog (Builtin.append_ #[81,81] 81 #[(.slice (some g23) 0 0),(.slice fb cb va)]) na fun v2 ha =>
 ∃(mb:Option Addr) (ya:Nat) (pa:Nat),v2=(.slice mb ya pa) ∧
 S ha∧Raw Tryz.prog (Builtin.append_ #[23,23] 23 #[(.slice (some g27) 0 0),(.slice nb qa ta)]) ha fun v3 ia =>
 ∃(kb:Option Addr) (bb:Nat) (ra:Nat),v3=(.slice kb bb ra) ∧
 St ia (s.add 4) (.slice mb ya pa) fun z =>
 St z (s.add 7) (.slice kb bb ra) fun aa =>
 J7 aa)))
 (LdSl (ib.cell? y) fun q b a =>
 LdSl (ib.cell? (y.add 1)) fun ea f c =>
 St ib g2 (.slice q b a) fun za =>
 St za (g2.add 1) (.slice ea f c) fun ua =>
 LdSl (ua.cell? g2) fun res0_0 res0_0N res0_0C =>
 LdSl (ua.cell? (g2.add 1)) fun res0_1 res0_1N res0_1C =>
 R (.returned (.agg #[(.slice res0_0 res0_0N res0_0C),(.slice res0_1 res0_1N res0_1C)])) ua)
def F38 (x_0:Option Addr) (x_0N:Nat) (x_0C:Nat) (x_1:Option Addr) (x_1N:Nat) (x_1C:Nat) (p:World) (R:Ending→World→Prop):Prop :=
 Al p #[(.slice x_0 x_0N x_0C),(.slice x_1 x_1N x_1C)] 25 fun g1 w1 =>
 Al w1 #[(.slice none 0 0),(.slice none 0 0)] 25 fun g2 a =>
 Al a #[] 65 fun g6 c =>
 LdSl (c.cell? (g1.add 1)) fun q h k =>
 Raw Tryz.prog (Builtin.append_ #[23,23] 23 #[(.slice (some g6) 0 0),(.slice q h k)]) c fun v b =>
 ∃(r:Option Addr) (n:Nat) (j:Nat),v=(.slice r n j) ∧
 Al b #[(.slice none 0 0),(.slice none 0 0)] 25 fun y e =>
 St e y (.slice none 0 0) fun d =>
 St d (y.add 1) (.slice r n j) fun f =>
 ∃(I:Int→World→Prop) (m:Int→World→Nat),I (0:Int) f ∧
 ∀(i:Int) (g:World),I i g→F38_l3 g1 g2 y (fun i' w2=>I i' w2∧m i' w2 < m i g) i g R
theorem ok38 (x_0:Option Addr) (x_0N:Nat) (x_0C:Nat) (x_1:Option Addr) (x_1N:Nat) (x_1C:Nat) {w:World}{R:Ending→World→Prop} (h:F38 x_0 x_0N x_0C x_1 x_1N x_1C w R):Calls Tryz.prog 38 #[(.agg #[(.slice x_0 x_0N x_0C),(.slice x_1 x_1N x_1C)])] w R :=
 vc_calls (pl:=⟨40,⟨[]⟩,[(7,⟨[],[(23,33)]⟩)],[(3,⟨[(4,(.s (.int .i64)))],[(4,39)]⟩)]⟩) Tryz.func38 (by kernel_rfl) (by kernel_rfl) (by kernel_rfl) (Eq.mp (by kernel_rfl) h)
def F30_l4 (a:Option Addr) (aN:Nat) (b:Option Addr) (bN:Nat) (L4:Int→World→Prop) (i:Int) (f:World) (R:Ending→World→Prop):Prop :=
 Br (decide (i < ((aN:Nat):Int)))
 (Dr f fun w1 =>
 IdxA a aN i 1 fun e =>
 LdI .u64 (w1.cell? e) fun c =>
 IdxA b bN i 1 fun g =>
 LdI .u64 (w1.cell? g) fun d =>
 Br (c != d)
 (R (.returned (.bool false)) w1)
 (InR .i64 (i+(1:Int))∧L4 (i+(1:Int)) w1))
 (R (.returned (.bool true)) f)
def F30 (a:Option Addr) (aN:Nat) (aC:Nat) (b:Option Addr) (bN:Nat) (bC:Nat) (c:World) (R:Ending→World→Prop):Prop :=
 Br (((aN:Nat):Int) != ((bN:Nat):Int))
 (R (.returned (.bool false)) c)
 (∃(I:Int→World→Prop) (m:Int→World→Nat),I (0:Int) c ∧
 ∀(i:Int) (w1:World),I i w1→F30_l4 a aN b bN (fun i' w2=>I i' w2∧m i' w2 < m i w1) i w1 R)
theorem ok30 (a:Option Addr) (aN:Nat) (aC:Nat) (b:Option Addr) (bN:Nat) (bC:Nat) {w:World}{R:Ending→World→Prop} (h:F30 a aN aC b bN bC w R):Calls Tryz.prog 30 #[(.slice a aN aC),(.slice b bN bC)] w R :=
 vc_calls (pl:=⟨26,⟨[]⟩,[],[(4,⟨[(5,(.s (.int .i64)))],[(4,26)]⟩)]⟩) Tryz.func30 (by kernel_rfl) (by kernel_rfl) (by kernel_rfl) (Eq.mp (by kernel_rfl) h)
end Go.Proofs.YtccplipiahdhiaaGreatDoor
namespace Go.Proofs.YtccplipiahdhiaaGreatDoor
open Go.RowKit Go.Vc
set_option linter.unusedVariables false
set_option linter.unusedSimpArgs false
set_option maxRecDepth 100000
set_option maxRecDepth 100000
set_option maxRecDepth 100000
section
variable {D:Im}
end
structure Ac where
 kind:Int
 wh:Int
 how:Bool
 n:Nat
 at_:Nat
 nm:ByteArray
 val:ByteArray
 x:Tr
section
variable {w w1:World}{g:Nat}{D:Im}{vs vr:Sv}{es:List S8}{R:Ending→World→Prop}
end
set_option maxRecDepth 100000
def okc (o:Nat→Nat) (b:Nat):Bool:=Nat.beq (o b) 0
structure EvA (w:World) (o:Nat→Nat) (w1:World) (o1:Nat→Nat):Prop where
 fm:Fm (fun b=>o b≠0) w w1
 old:∀b,b < w.heap.size→o b=0→o1 b=0
section
variable {p:Value}{P:Nat→World→(Nat→Nat)→Im→Prop}{k:Nat}{w:World}{o:Nat→Nat}{g:Nat}{D:Im}{vs vr:Sv}{R:Ending→World→Prop}
end
set_option maxRecDepth 100000
structure LIv (k:Nat) (w:World) (o:Nat→Nat) (g:Nat) (ty:TypeId) (S:PS) (nms:List Nat) (gv:Nat) (E:Nat→Option (Nat × Nat)):Prop where
 x:LX w o g ty S nms gv E
 pi:PI S
 word:nms=0 :: S.D.roots.flatMap (wrd (slA S.D.sl) E 65)
 def1:∀y,E y≠none→∃s,slA S.D.sl y=some s
 def2:∀y s,slA S.D.sl y=some s→E y≠none
 gv_:gv≤8192*k
def LD (k:Nat) (g:Nat) (ty:TypeId) (w:World) (o:Nat→Nat) (D:Im):Prop:=∃S nms gv E,S.D=D∧LIv k w o g ty S nms gv E
section
variable {w w1 w2:World}{o o1 o2:Nat→Nat}{g k:Nat}{ty:TypeId}{S:PS}{bs nms lbs:List Nat}{mb gv:Nat}{wr:Int}{em:Option Nat}{E E':Nat→Option (Nat × Nat)}{M:Nat→Prop}{R:Ending→World→Prop}{θ:Th}{D:Im}
theorem EvL.a (h:EvL w o w1 o1):EvA w o w1 o1:=⟨h.fm.mono fun b _ e=>by omega,h.old⟩
theorem EvC.a (h:EvP w o w1 o1):EvA w o w1 o1:=⟨h.fm.mono fun b _ e=>by unfold pc at e;omega,h.old⟩
theorem EvA.tr (h:EvA w o w1 o1) (k:EvA w1 o1 w2 o2):EvA w o w2 o2 :=
 ⟨⟨k.fm.os.trans h.fm.os,k.fm.tape.trans h.fm.tape,k.fm.output.trans h.fm.output,Nat.le_trans h.fm.size k.fm.size,fun b hb hn=>by
  have h0:o b=0:=Classical.byContradiction fun e=>hn e
  rw [k.fm.block b (Nat.lt_of_lt_of_le hb h.fm.size) (fun e=>e (h.old b hb h0)),h.fm.block b hb hn]⟩,fun b hb h0=>k.old b (Nat.lt_of_lt_of_le hb h.fm.size) (h.old b hb h0)⟩
theorem EvA.below (hb:Below w.heap.size w w1):EvA w o w1 o:=⟨.below hb,fun _ _ h=>h⟩
theorem last_eq {X Y X' Y':List Nat}{ah:Nat} (hn:(X++Y).Nodup) (he:X++Y=X'++Y') (h1:X.getLast?=some ah) (h2:X'.getLast?=some ah):X=X'∧Y=Y':=by
 have p1:X≠[]:=fun e=>by rw [e] at h1;cases h1
 have p2:X'≠[]:=fun e=>by rw [e] at h2;cases h2
 have l1:0 < X.length:=List.length_pos_iff.2 p1
 have l2:0 < X'.length:=List.length_pos_iff.2 p2
 have g1:(X++Y)[X.length-1]?=some ah:=by rw [List.getElem?_append_left (by omega),←List.getLast?_eq_getElem?];exact h1
 have g2:(X++Y)[X'.length-1]?=some ah:=by rw [he,List.getElem?_append_left (by omega),←List.getLast?_eq_getElem?];exact h2
 have:=nd_get hn g1 g2
 exact List.append_inj he (by omega)
theorem ins_err {wh:Int}{a:Nat}{x:Tr} (h:(insF D wh a x).2.2≠0):(insF D wh a x).1=D:=by
 unfold insF at h ⊢
 split
 ·rfl
 split
 ·rfl
 split
 ·rfl
 split
 ·rfl
 split
 ·rfl
 ·exfalso
  rename_i h1 h2 h3 h4 h5
  rw [if_neg h1,if_neg h2,if_neg h3,if_neg h4,if_neg h5] at h
  exact h rfl
theorem retag {n:Nat}{s:Sl}{A0:Nat→Option Sl}{roots0:List Nat} (h:LX w o g ty S nms gv E) (hS:WfS S.D.sl) (hAt:Att A0 roots0 (slA S.D.sl) S.D.roots n s) (hword:nms=0 :: roots0.flatMap (wrd A0 E 65)) (hE1:∀y,E y≠none→∃t,A0 y=some t) (hE2:∀y t,A0 y=some t→E y≠none)
  (hfew:(roots0.flatMap (allA A0 65)).length+(allA (slA S.D.sl) 65 n).length≤4096) (hgv:gv < 9007199254740992)
  (hK:∀w' o' nms' E' v,LX w' o' g ty S nms' (gv+2*(allA (slA S.D.sl) 65 n).length) E'→nms'=0 :: S.D.roots.flatMap (wrd (slA S.D.sl) E' 65)→(∀y,E' y≠none→∃t,slA S.D.sl y=some t)→(∀y t,slA S.D.sl y=some t→E' y≠none)→EvA w o w' o'→R (.returned (.int .u64 (v:Nat))) w') :
  Calls Tryz.prog 70 #[.pointer (some ⟨g,0,none⟩),.int .u64 (n:Nat),.int .u64 (aheadF S.D E n:Nat)] w R:=by
 have hn:=hAt.at_
 have hE0:E 0=none:=Classical.byContradiction fun e=>by
  obtain⟨t,ht⟩:=hE1 0 e
  rw [hAt.w0.zero] at ht;cases ht
 have hah:aheadF S.D E n=if (lstA (slA S.D.sl) S.D.roots s.parent).idxOf n=0 then (eN E s.parent).1 else (eN E ((lstA (slA S.D.sl) S.D.roots s.parent).getD ((lstA (slA S.D.sl) S.D.roots s.parent).idxOf n-1) 0)).2:=by
  unfold aheadF;rw [hn];rfl
 obtain⟨X,Y,-,b1,l1⟩:=attach (E:=E) (E':=E) hAt.w hn hE0 (fun _ _=>rfl)
 rw [←hah] at l1
 rw [hAt.word,←hword] at b1
 obtain⟨lbs,hI⟩:=h.I
 have hnd:(X++Y).Nodup:=by rw [←b1];exact hI.nd
 have p1:X≠[]:=fun e=>by rw [e] at l1;cases l1
 have lx:0 < X.length:=List.length_pos_iff.2 p1
 have hi:nms[X.length-1]?=some (aheadF S.D E n):=by rw [b1,List.getElem?_append_left (by omega),←List.getLast?_eq_getElem?];exact l1
 obtain⟨c,c1,c2⟩:=hAt.w.chain n s hn
 have hlen:nms.length=1+2*(roots0.flatMap (allA A0 65)).length:=by
  rw [hword,List.length_cons,flat_len2 (h:=allA A0 65) fun y hy=>by
   obtain⟨_,u,u1,u2⟩:=hAt.w0.root.2 y hy
   exact wrd_len hAt.w0 65 y 1 u1 (.succ (hAt.w0.ne0 u1) u1 (by rw [u2];exact .zero)) (by omega)]
  omega
 refine tag_calls hAt.w 65 n c hn c2 (by omega) h hi (by omega) (by omega) fun w' o' E' h' ev z1 z2=>?_
 have hmem:∀y,y∈allA (slA S.D.sl) 65 n↔Wi (slA S.D.sl) n y:=fun y=>mem_all hAt.w ⟨s,hn⟩ (fun z hz=>by simp at hz) c2 (by omega)
 have hEE:∀y,¬Wi (slA S.D.sl) n y→E' y=E y:=fun y hy=>z1 y fun e=>hy ((hmem y).1 e)
 obtain⟨X',Y',a2,b2,l2⟩:=attach (E:=E) (E':=E') hAt.w hn hE0 hEE
 rw [←hah] at l2
 rw [hAt.word,←hword] at b2
 obtain⟨q1,q2⟩:=last_eq hnd (by rw [←b1,b2]) l1 l2
 subst q1 q2
 have e1:nms.take (X.length-1+1)=X:=by rw [b1,show X.length-1+1=X.length by omega,List.take_left]
 have e2:nms.drop (X.length-1+1)=Y:=by rw [b1,show X.length-1+1=X.length by omega,List.drop_left]
 rw [e1,e2] at h'
 refine hK w' o' _ E' _ h'.x a2.symm (fun y hy=>?_) (fun y t ht=>?_) ev.a
 ·by_cases hwy:Wi (slA S.D.sl) n y
  ·exact all_live hAt.w ⟨s,hn⟩ (fun z hz=>by simp at hz) ((hmem y).2 hwy)
  ·rw [hEE y hwy] at hy
   obtain⟨t,ht⟩:=hE1 y hy
   obtain⟨u,hu,_⟩:=hAt.live ht
   exact⟨u,hu⟩
 ·by_cases hwy:Wi (slA S.D.sl) n y
  ·exact z2 y ((hmem y).2 hwy)
  ·rw [hEE y hwy]
   obtain⟨cy,cy1,cy2⟩:=hAt.w.chain y t ht
   obtain⟨u,hu⟩:=hAt.split cy y cy2 ht hwy
   exact hE2 y u hu
end
set_option maxRecDepth 100000
section
variable {w w1 w2:World}{o o1 o2:Nat→Nat}{g k:Nat}{ty:TypeId}{M:Nat→Prop}{R:Ending→World→Prop}{D:Im}
theorem insertL_calls (h:LD k g ty w o D) (hk:k < 1099511627776) (hw:Wf D) (hT:Tabs (wc o w)) {x:Tr}{e:E5} (hx:RTr (wc o w) x e) {wh:Int}{a:Nat} (ha:a < 18446744073709551616)
  (hK:∀w' o',LD (k+1) g ty w' o' (insF D wh a x).1→EvA w o w' o'→R (.returned (.tuple #[.int .u64 ((insF D wh a x).2.1:Nat),.int .i64 (insF D wh a x).2.2])) w') :
  Calls Tryz.prog 40 #[.pointer (some ⟨g,0,none⟩),.int .i64 wh,.int .u64 (a:Nat),.agg #[.int .i64 e.kind,.string e.nm,slV e.ats,.string e.text,slV e.kids]] w R:=by
 refine ok40 (some ⟨g,0,none⟩) wh a e.kind e.nm e.ats.1 e.ats.2.1 e.ats.2.2 e.text e.kids.1 e.kids.2.1 e.kids.2.2 ?_
 unfold F40
 obtain⟨S,nms,gv,E,rfl,hL⟩:=h
 refine al fun g7 w1 hb1 b7 hge7=>?_
 have hdr:Below w1.heap.size w1 w1.drew:=(Below.refl _ _).drew
 have B1:=btr hb1 hb1.size hdr
 refine⟨fun w'=>Below w1.heap.size w1 w',hdr,?_⟩
 simp only [NonNil_some,Addr.add_mk,Nat.zero_add]
 refine⟨_,fun w' hb=>by rw [(b7.keep hb).cell];rfl,?_⟩
 refine⟨_,fun w' hb=>by rw [(b7.keep hb).cell];rfl,?_⟩
 refine⟨_,_,_,fun w' hb=>by rw [(b7.keep hb).cell];rfl,?_⟩
 refine⟨_,fun w' hb=>by rw [(b7.keep hb).cell];rfl,?_⟩
 refine⟨_,_,_,fun w' hb=>by rw [(b7.keep hb).cell];rfl,?_⟩
 obtain⟨tl,hp,hback⟩:=(hL.x.below B1).tree
 have hsub:Sub (wc o w) (wc o w1.drew):=EvP.sub (EvC.below B1)
 refine insert_calls (e:=e) hp hL.pi hw (hT.sub hsub) (RTr.sub hsub _ _ hx) ha fun w2 o2 S2 p2 i2 d2 ev2=>⟨_,_,rfl,?_⟩
 have hx2:=hback w2 o2 S2 p2 ev2
 have E2:EvA w o w2 o2:=(EvA.below B1).tr (EvC.a ev2)
 have hgv:=hL.gv_
 refine⟨fun w'=>∃o',LD (k+1) g ty w' o' (insF S.D wh a x).1∧EvA w o w' o',?_,?_⟩
 ·rintro w3 ⟨o3,h3,e3⟩
  unfold F40_j4
  exact hK w3 o3 h3 e3
 ·refine bre (fun h0=>?_) (fun h0=>?_)
  ·obtain⟨s,hAt⟩:=ins_att hw (wh:=wh) (a:=a) (x:=x) h0
   have hw2:=ins_wf hw wh a x
   rw [←d2] at hAt hw2 ⊢
   have hfew:=hAt.few (D':=S2.D) hw2.s rfl
   generalize (insF S.D wh a x).2.1=n at *
   refine ahead_calls hx2 hAt.w hAt.at_ fun w3 hb3=>⟨_,rfl,?_⟩
   refine retag (hx2.below hb3) hw2.s hAt hL.word hL.def1 hL.def2 hfew (by omega) fun w4 o4 nms' E' v h4 q1 q2 q3 ev4=>⟨_,rfl,o4,⟨S2,nms',_,E',rfl,h4,i2,q1,q2,q3,?_⟩,(E2.tr (EvA.below hb3)).tr ev4⟩
   omega
  ·have hD:S2.D=S.D:=by rw [d2];exact ins_err h0
   refine⟨o2,⟨S2,nms,gv,E,d2,hx2,i2,by rw [hD];exact hL.word,by rw [hD];exact hL.def1,by rw [hD];exact hL.def2,by omega⟩,E2⟩
end
set_option maxRecDepth 100000
section
variable {A:Nat→Option Sl}{E E':Nat→Option (Nat × Nat)}{roots loose:List Nat}
end
set_option maxRecDepth 100000
section
variable {A:Nat→Option Sl}{E:Nat→Option (Nat × Nat)}{roots loose:List Nat}
theorem wrd_mem (hA:WfA A roots loose):∀(r x y:Nat) {s:Sl},A x=some s→y∈allA A r x→(eN E y).1∈wrd A E r x∧(eN E y).2∈wrd A E r x
 | 0,x,y,s,hs,hy=>by simp [allA] at hy
 | r+1,x,y,s,hs,hy=>by
  rw [allA_some hs,List.mem_cons] at hy
  rw [wrd_some hs]
  rcases hy with rfl | hy
  ·simp
  ·obtain⟨k,hk,hy⟩:=List.mem_flatMap.1 hy
   obtain⟨t,t1,_⟩:=((hA.kid x s hs).2 k hk).2
   obtain⟨h1,h2⟩:=wrd_mem hA r k y t1 hy
   have g1:=List.mem_flatMap.2 ⟨k,hk,h1⟩
   have g2:=List.mem_flatMap.2 ⟨k,hk,h2⟩
   simp [g1,g2]
def Cut (A:Nat→Option Sl) (E:Nat→Option (Nat × Nat)) (L W:List Nat) (i x:Nat):Prop :=
 ∃(P Q PW QW:List Nat) (r c:Nat) (s:Sl),A x=some s∧Ch A x c∧c+r=66∧L=P++allA A r x++Q∧P.length=i∧W=PW++wrd A E r x++QW∧∀y∈Q,(eN E y).1∈QW∧(eN E y).2∈QW
theorem Cut.more {L W L1 L2 W1 W2:List Nat}{i x:Nat} (h:Cut A E L W i x) (h2:∀y∈L2,(eN E y).1∈W2∧(eN E y).2∈W2):Cut A E (L1++L++L2) (W1++W++W2) (L1.length+i) x:=by
 obtain⟨P,Q,PW,QW,r,c,s,a1,a2,a3,a4,a5,a6,a7⟩:=h
 refine⟨L1++P,Q++L2,W1++PW,QW++W2,r,c,s,a1,a2,a3,by rw [a4];simp,by simp [a5],by rw [a6];simp,fun y hy=>?_⟩
 rcases List.mem_append.1 hy with hy | hy
 ·obtain⟨h1,h2⟩:=a7 y hy;simp [h1,h2]
 ·obtain⟨h1,h2⟩:=h2 y hy;simp [h1,h2]
theorem flat_mem (hA:WfA A roots loose) {r:Nat}{l:List Nat} (hl:∀y∈l,∃t,A y=some t):∀y∈l.flatMap (allA A r),(eN E y).1∈l.flatMap (wrd A E r)∧(eN E y).2∈l.flatMap (wrd A E r):=fun y hy=>by
 obtain⟨k,hk,hy⟩:=List.mem_flatMap.1 hy
 obtain⟨t,t1⟩:=hl k hk
 obtain⟨h1,h2⟩:=wrd_mem (E:=E) hA r k y t1 hy
 exact⟨List.mem_flatMap.2 ⟨k,hk,h1⟩,List.mem_flatMap.2 ⟨k,hk,h2⟩⟩
theorem cut_list (hA:WfA A roots loose):∀(r c:Nat) (l:List Nat),(∀y∈l,∃t,A y=some t∧Ch A y c)→c+r=66→∀(i x:Nat),(l.flatMap (allA A r))[i]?=some x→Cut A E (l.flatMap (allA A r)) (l.flatMap (wrd A E r)) i x:=by
 intro r
 induction r with
 | zero =>
  intro c l hl hc i x hx
  have:l.flatMap (allA A 0)=[]:=by simp [allA]
  rw [this] at hx;simp at hx
 | succ r ihr =>
  intro c l
  induction l with
  | nil=>intro _ _ i x hx;simp at hx
  | cons y l ihl =>
   intro hl hc i x hx
   obtain⟨t,t1,t2⟩:=hl y (by simp)
   have hl2:∀z∈l,∃t,A z=some t∧Ch A z c:=fun z hz=>hl z (by simp [hz])
   have hl3:∀z∈l,∃t,A z=some t:=fun z hz=>by obtain⟨t,h,_⟩:=hl2 z hz;exact⟨t,h⟩
   have hm:=flat_mem (E:=E) (r:=r+1) hA hl3
   rw [List.flatMap_cons] at hx
   rw [List.flatMap_cons,List.flatMap_cons]
   by_cases hi:i < (allA A (r+1) y).length
   ·rw [List.getElem?_append_left hi] at hx
    cases i with
    | zero =>
     rw [allA_some t1] at hx
     obtain rfl:y=x:=by simpa using hx
     exact⟨[],l.flatMap (allA A (r+1)),[],l.flatMap (wrd A E (r+1)),r+1,c,t,t1,t2,hc,by simp,rfl,by simp,hm⟩
    | succ i =>
     rw [allA_some t1,List.getElem?_cons_succ] at hx
     have:=ihr (c+1) t.kids (fun z hz=>by
      obtain⟨u,u1,u2⟩:=((hA.kid y t t1).2 z hz).2
      exact⟨u,u1,.succ (hA.ne0 u1) u1 (by rw [u2];exact t2)⟩) (by omega) i x hx
     have h2:=this.more (L1:=[y]) (W1:=[(eN E y).1]) (L2:=l.flatMap (allA A (r+1))) (W2:=[(eN E y).2]++l.flatMap (wrd A E (r+1))) fun z hz=>by
      obtain⟨h1,h2⟩:=hm z hz;simp [h1,h2]
     rw [allA_some t1,wrd_some t1]
     have e1:[y].length+i=i+1:=by simp;omega
     rw [e1] at h2
     simpa using h2
   ·rw [List.getElem?_append_right (by omega)] at hx
    have:=ihl hl2 hc _ x hx
    have h2:=this.more (L1:=allA A (r+1) y) (W1:=wrd A E (r+1) y) (L2:=[]) (W2:=[]) (fun z hz=>by simp at hz)
    rw [List.append_nil,List.append_nil] at h2
    have e1:(allA A (r+1) y).length+(i-(allA A (r+1) y).length)=i:=by omega
    rw [e1] at h2;exact h2
end
def lab (nms lbs:List Nat) (x:Nat):Nat:=lbs.getD (nms.idxOf x) 0
section
variable {D:Im}{E:Nat→Option (Nat × Nat)}{nms lbs:List Nat}{gv:Nat}
def en (E:Nat→Option (Nat × Nat)) (nms lbs:List Nat) (x:Nat):Nat:=lab nms lbs (eN E x).2
abbrev allD' (D:Im):List Nat:=D.roots.flatMap (allA (slA D.sl) 65)
theorem allA_66 {A:Nat→Option Sl}{roots loose:List Nat} (hA:WfA A roots loose) {r x c:Nat}{s:Sl} (hs:A x=some s) (hc:Ch A x c) (hr:c+r=66):allA A r x=allA A 65 x:=by
 obtain⟨c',h1,h2⟩:=hA.chain x s hs
 have:=hc.fn h2
 have c0:0 < c:=by
  cases hc with
  | zero=>exact absurd rfl (hA.ne0 hs)
  | succ _ _ _=>omega
 rw [←allA_fuel hA (65-c) x c hs hc (by omega) r (by omega),←allA_fuel hA (65-c) x c hs hc (by omega) 65 (by omega)]
theorem in_iff (hA:WfA (slA D.sl) D.roots []) {i k x y:Nat} (hx:(allD' D)[i]?=some x) (hy:(allD' D)[k]?=some y):y∈allA (slA D.sl) 65 x↔i≤k∧k < i+(allA (slA D.sl) 65 x).length:=by
 obtain⟨P,Q,PW,QW,r,c,s,a1,a2,a3,a4,a5,a6,a7⟩:=cut_list (E:=fun _=>none) hA 65 1 D.roots (fun z hz=>by
  obtain⟨_,u,u1,u2⟩:=hA.root.2 z hz
  exact⟨u,u1,.succ (hA.ne0 u1) u1 (by rw [u2];exact .zero)⟩) rfl i x hx
 rw [allA_66 hA a1 a2 a3] at a4
 have hnd:(allD' D).Nodup:=rootsAll_nodup hA
 have hL:allD' D=P++allA (slA D.sl) 65 x++Q:=a4
 constructor
 ·intro hm
  obtain⟨j,hj⟩:=List.mem_iff_getElem?.1 hm
  have hjl:=(List.getElem?_eq_some_iff.1 hj).1
  have:(allD' D)[i+j]?=some y:=by
   rw [hL,List.append_assoc,List.getElem?_append_right (by omega),List.getElem?_append_left (by omega),show i+j-P.length=j by omega];exact hj
  have:=nd_get hnd this hy
  omega
 ·rintro ⟨h1,h2⟩
  rw [hL,List.append_assoc,List.getElem?_append_right (by omega),List.getElem?_append_left (by omega)] at hy
  exact List.mem_of_getElem? hy
end
set_option maxRecDepth 100000
abbrev Hit:=Nat × Nat × Nat
def txF (s:Sl):List (ByteArray × Nat):=if s.kind=2 then wordsF s.text 0 else []
def wdF (A:Nat→Option Sl) (n:Nat):List (ByteArray × Nat):=match A n with | some s=>txF s | none=>[]
def wsF (A:Nat→Option Sl) (n:Nat):List ByteArray:=(wdF A n).map (·.1)
def numF (n:Nat):Nat→List (ByteArray × Nat)→List (ByteArray × Hit)
 | _,[]=>[]
 | i,p :: l=>(p.1,(n,i,p.2)) :: numF n (i+1) l
def stF (A:Nat→Option Sl) (n:Nat):List (ByteArray × Hit):=numF n 0 (wdF A n)
def stsF (A:Nat→Option Sl) (l:List Nat):List (ByteArray × Hit):=l.flatMap (stF A)
def hitF (st:List (ByteArray × Hit)) (w:ByteArray):List Hit:=(st.filter fun p=>decide (p.1=w)).map (·.2)
theorem numF_app (n:Nat):∀(l m:List (ByteArray × Nat)) (i:Nat),numF n i (l++m)=numF n i l++numF n (i+l.length) m
 | [],m,i=>by simp [numF]
 | p :: l,m,i=>by
  rw [List.cons_append,numF,numF,numF_app n l m (i+1),List.cons_append,List.length_cons]
  congr 3;omega
theorem numF_mem {n:Nat}{w:ByteArray}{h:Hit}:∀(l:List (ByteArray × Nat)) (i:Nat),(w,h)∈numF n i l↔h.1=n∧i≤h.2.1∧l[h.2.1-i]?=some (w,h.2.2)
 | [],i=>by simp [numF]
 | p :: l,i=>by
  rw [numF,List.mem_cons,numF_mem l (i+1)]
  obtain⟨a,b,c⟩:=h
  obtain⟨p1,p2⟩:=p
  simp only [Prod.mk.injEq]
  constructor
  ·rintro (⟨rfl,rfl,rfl,rfl⟩ | ⟨rfl,h2,h3⟩)
   ·exact⟨rfl,Nat.le_refl _,by simp⟩
   ·refine⟨rfl,by omega,?_⟩
    rw [show b-i=(b-(i+1))+1 by omega,List.getElem?_cons_succ];exact h3
  ·rintro ⟨rfl,h2,h3⟩
   by_cases e:b=i
   ·subst e
    rw [Nat.sub_self,List.getElem?_cons_zero] at h3
    simp only [Option.some.injEq,Prod.mk.injEq] at h3
    exact .inl ⟨h3.1.symm,rfl,rfl,h3.2.symm⟩
   ·refine .inr ⟨rfl,by omega,?_⟩
    rw [show b-i=(b-(i+1))+1 by omega,List.getElem?_cons_succ] at h3;exact h3
theorem numF_len (n:Nat):∀(l:List (ByteArray × Nat)) (i:Nat),(numF n i l).length=l.length
 | [],_=>rfl
 | p :: l,i=>by rw [numF,List.length_cons,numF_len n l,List.length_cons]
theorem stF_mem {A:Nat→Option Sl}{n:Nat}{w:ByteArray}{h:Hit}:(w,h)∈stF A n↔h.1=n∧(wdF A n)[h.2.1]?=some (w,h.2.2):=by
 unfold stF
 rw [numF_mem];simp
theorem stsF_app (A:Nat→Option Sl) (l m:List Nat):stsF A (l++m)=stsF A l++stsF A m:=by unfold stsF;rw [List.flatMap_append]
theorem hitF_app (l m:List (ByteArray × Hit)) (w:ByteArray):hitF (l++m) w=hitF l w++hitF m w:=by unfold hitF;rw [List.filter_append,List.map_append]
theorem sts_mem {A:Nat→Option Sl}{l:List Nat}{w:ByteArray}{h:Hit}:(w,h)∈stsF A l↔h.1∈l∧(wdF A h.1)[h.2.1]?=some (w,h.2.2):=by
 unfold stsF
 rw [List.mem_flatMap]
 constructor
 ·rintro ⟨n,hn,hm⟩
  obtain⟨rfl,h2⟩:=stF_mem.1 hm
  exact⟨hn,h2⟩
 ·rintro ⟨h1,h2⟩;exact⟨h.1,h1,stF_mem.2 ⟨rfl,h2⟩⟩
def memB (w:ByteArray) (l:List ByteArray):Bool:=l.any fun v=>decide (v=w)
theorem memB_iff {w:ByteArray}{l:List ByteArray}:memB w l=true↔w∈l:=by
 unfold memB
 rw [List.any_eq_true]
 constructor
 ·rintro ⟨v,h1,h2⟩;rw [decide_eq_true_eq] at h2;subst h2;exact h1
 ·intro h;exact⟨w,h,decide_eq_true rfl⟩
def ownF' (A:Nat→Option Sl) (ws:List ByteArray) (n:Nat):List ByteArray:=(wsF A n).filter fun w=>memB w ws
def hasF (A:Nat→Option Sl) (ws:List ByteArray):Nat→Nat→List ByteArray
 | 0,_=>[]
 | r+1,n=>ownF' A ws n++(match A n with | some s=>s.kids.flatMap (hasF A ws r) | none=>[])
def allW' (ws l:List ByteArray):Bool:=ws.all fun w=>memB w l
def wholeF (A:Nat→Option Sl) (ws:List ByteArray) (r n:Nat):Bool:=match A n with | some s=>decide (s.kind=1) && allW' ws (hasF A ws r n) | none=>false
def someF (A:Nat→Option Sl) (ws:List ByteArray):Nat→Nat→Bool
 | 0,_=>false
 | r+1,n=>wholeF A ws (r+1) n || (match A n with | some s=>s.kids.any (someF A ws r) | none=>false)
def besF (A:Nat→Option Sl) (ws:List ByteArray):Nat→Nat→List ByteArray
 | 0,_=>[]
 | r+1,n=>if wholeF A ws (r+1) n=true then [] else ownF' A ws n++(match A n with | some s=>s.kids.flatMap (besF A ws r) | none=>[])
def besK (A:Nat→Option Sl) (ws:List ByteArray) (r n:Nat):List ByteArray:=ownF' A ws n++(match A n with | some s=>s.kids.flatMap (besF A ws (r-1)) | none=>[])
def findF (A:Nat→Option Sl) (ws:List ByteArray) (q:Nat→Nat→Bool):Nat→Nat→List Nat
 | 0,_=>[]
 | r+1,n=>(match A n with | some s=>s.kids.flatMap (findF A ws q r) | none=>[])++(if wholeF A ws (r+1) n=true∧q (r+1) n=true then [n] else [])
set_option maxRecDepth 100000
structure Nd (D:Im) (i x c:Nat) (s:Sl):Prop where
 at_:(allD' D)[i]?=some x
 sl:slA D.sl x=some s
 ch:Ch (slA D.sl) x c
abbrev szN (D:Im) (x:Nat):Nat:=(allA (slA D.sl) 65 x).length
section
variable {D:Im}{E:Nat→Option (Nat × Nat)}{nms lbs:List Nat}{gv:Nat}{i k x y cx cy:Nat}{sx sy:Sl}
theorem Nd.of (hA:WfA (slA D.sl) D.roots []) (h:(allD' D)[i]?=some x):∃c s,c≤64∧Nd D i x c s:=by
 obtain⟨s,hs⟩:=(mem_all_roots hA).1 (List.mem_of_getElem? h)
 obtain⟨c,c1,c2⟩:=hA.chain x s hs
 exact⟨c,s,c1,h,hs,c2⟩
end
set_option maxRecDepth 100000
section
variable {A:Nat→Option Sl}{roots loose:List Nat}{ws:List ByteArray}{q:Nat→Nat→Bool}
theorem allW_iff {l:List ByteArray}:allW' ws l=true↔∀w∈ws,w∈l:=by
 unfold allW';rw [List.all_eq_true];simp only [memB_iff]
theorem hasF_some {r n:Nat}{s:Sl} (h:A n=some s):hasF A ws (r+1) n=ownF' A ws n++s.kids.flatMap (hasF A ws r):=by rw [hasF,h]
theorem someF_some {r n:Nat}{s:Sl} (h:A n=some s):someF A ws (r+1) n=(wholeF A ws (r+1) n || s.kids.any (someF A ws r)):=by rw [someF,h]
theorem besF_some {r n:Nat}{s:Sl} (h:A n=some s):besF A ws (r+1) n=if wholeF A ws (r+1) n=true then [] else ownF' A ws n++s.kids.flatMap (besF A ws r):=by rw [besF,h]
theorem besK_some {r n:Nat}{s:Sl} (h:A n=some s):besK A ws (r+1) n=ownF' A ws n++s.kids.flatMap (besF A ws r):=by rw [besK,h,Nat.add_sub_cancel]
theorem findF_some {r n:Nat}{s:Sl} (h:A n=some s):findF A ws q (r+1) n=s.kids.flatMap (findF A ws q r)++(if wholeF A ws (r+1) n=true∧q (r+1) n=true then [n] else []):=by rw [findF,h]
def qS (A:Nat→Option Sl) (ws:List ByteArray) (r n:Nat):Bool:=match A n with | some s=>!(s.kids.any (someF A ws (r-1))) | none=>false
def qB (A:Nat→Option Sl) (ws:List ByteArray) (r n:Nat):Bool:=allW' ws (besK A ws r n)
def Wh (A:Nat→Option Sl) (ws:List ByteArray) (x:Nat):Prop:=∃c,Ch A x c∧wholeF A ws (66-c) x=true
theorem kidc (hA:WfA A roots loose) {n c:Nat}{s:Sl} (hs:A n=some s) (hc:Ch A n c) {k:Nat} (hk:k∈s.kids):∃t,A k=some t∧t.parent=n∧Ch A k (c+1):=by
 obtain⟨t,t1,t2⟩:=((hA.kid n s hs).2 k hk).2
 exact⟨t,t1,t2,.succ (hA.ne0 t1) t1 (by rw [t2];exact hc)⟩
theorem no66 (hA:WfA A roots loose) {n c:Nat}{s:Sl} (hs:A n=some s) (hc:Ch A n c):c≤64:=by
 obtain⟨c',h1,h2⟩:=hA.chain n s hs
 have:=hc.fn h2;omega
theorem mem_findF (hA:WfA A roots loose):∀(r n c:Nat) {s:Sl},A n=some s→Ch A n c→c+r=66→∀x,x∈findF A ws q r n↔x∈allA A r n∧∃cx,Ch A x cx∧wholeF A ws (66-cx) x=true∧q (66-cx) x=true:=by
 intro r
 induction r with
 | zero=>intro n c s hs hc hr;have:=no66 hA hs hc;omega
 | succ r ih =>
  intro n c s hs hc hr x
  rw [findF_some hs,allA_some hs,List.mem_append,List.mem_cons,List.mem_flatMap,List.mem_flatMap]
  have e:66-c=r+1:=by omega
  constructor
  ·rintro (⟨k,hk,hx⟩ | hx)
   ·obtain⟨t,t1,_,t3⟩:=kidc hA hs hc hk
    obtain⟨h1,h2⟩:=(ih k (c+1) t1 t3 (by omega) x).1 hx
    exact⟨.inr ⟨k,hk,h1⟩,h2⟩
   ·split at hx
    ·rename_i hq
     rw [List.mem_singleton] at hx;subst hx
     exact⟨.inl rfl,c,hc,by rw [e];exact hq⟩
    ·cases hx
  ·rintro ⟨h1,cx,h2,h3⟩
   rcases h1 with rfl | ⟨k,hk,h1⟩
   ·have:=h2.fn hc;subst this
    rw [e] at h3
    refine .inr ?_
    rw [if_pos h3];exact List.mem_singleton.2 rfl
   ·obtain⟨t,t1,_,t3⟩:=kidc hA hs hc hk
    exact .inl ⟨k,hk,(ih k (c+1) t1 t3 (by omega) x).2 ⟨h1,cx,h2,h3⟩⟩
theorem someF_iff (hA:WfA A roots loose):∀(r n c:Nat) {s:Sl},A n=some s→Ch A n c→c+r=66→(someF A ws r n=true↔∃x∈allA A r n,Wh A ws x):=by
 intro r
 induction r with
 | zero=>intro n c s hs hc hr;have:=no66 hA hs hc;omega
 | succ r ih =>
  intro n c s hs hc hr
  rw [someF_some hs,allA_some hs,Bool.or_eq_true,List.any_eq_true]
  have e:66-c=r+1:=by omega
  constructor
  ·rintro (h | ⟨k,hk,h⟩)
   ·exact⟨n,by simp,c,hc,by rw [e];exact h⟩
   ·obtain⟨t,t1,_,t3⟩:=kidc hA hs hc hk
    obtain⟨x,h1,h2⟩:=(ih k (c+1) t1 t3 (by omega)).1 h
    exact⟨x,List.mem_cons_of_mem _ (List.mem_flatMap.2 ⟨k,hk,h1⟩),h2⟩
  ·rintro ⟨x,h1,h2⟩
   rcases List.mem_cons.1 h1 with rfl | h1
   ·obtain⟨cx,h3,h4⟩:=h2
    have:=h3.fn hc;subst this
    rw [e] at h4;exact .inl h4
   ·obtain⟨k,hk,h1⟩:=List.mem_flatMap.1 h1
    obtain⟨t,t1,_,t3⟩:=kidc hA hs hc hk
    exact .inr ⟨k,hk,(ih k (c+1) t1 t3 (by omega)).2 ⟨x,h1,h2⟩⟩
theorem qS_iff (hA:WfA A roots loose) {r n c:Nat}{s:Sl} (hs:A n=some s) (hc:Ch A n c) (hr:c+r=66):qS A ws r n=true↔∀x∈s.kids.flatMap (allA A (r-1)),¬Wh A ws x:=by
 have:=no66 hA hs hc
 unfold qS
 rw [hs]
 simp only [Bool.not_eq_true',List.any_eq_false]
 constructor
 ·intro h x hx hw
  obtain⟨k,hk,h1⟩:=List.mem_flatMap.1 hx
  obtain⟨t,t1,_,t3⟩:=kidc hA hs hc hk
  exact h k hk ((someF_iff hA (r-1) k (c+1) t1 t3 (by omega)).2 ⟨x,h1,hw⟩)
 ·intro h k hk hs2
  obtain⟨t,t1,_,t3⟩:=kidc hA hs hc hk
  obtain⟨x,h1,hw⟩:=(someF_iff hA (r-1) k (c+1) t1 t3 (by omega)).1 hs2
  exact h x (List.mem_flatMap.2 ⟨k,hk,h1⟩) hw
end
section
variable {D:Im}{ws:List ByteArray}{q:Nat→Nat→Bool}
def fndF (D:Im) (ws:List ByteArray) (q:Nat→Nat→Bool):List Nat:=(allD' D).filter fun n=>decide (n∈D.roots.flatMap (findF (slA D.sl) ws q 65))
def AllS (D:Im) (ws:List ByteArray):List Nat:=fndF D ws fun _ _=>true
def SmallS (D:Im) (ws:List ByteArray):List Nat:=fndF D ws (qS (slA D.sl) ws)
def BestS (D:Im) (ws:List ByteArray):List Nat:=fndF D ws (qB (slA D.sl) ws)
theorem rootc (hA:WfA (slA D.sl) D.roots []) {z:Nat} (hz:z∈D.roots):∃u,slA D.sl z=some u∧Ch (slA D.sl) z 1:=by
 obtain⟨_,u,u1,u2⟩:=hA.root.2 z hz
 exact⟨u,u1,.succ (hA.ne0 u1) u1 (by rw [u2];exact .zero)⟩
theorem mem_fnd (hA:WfA (slA D.sl) D.roots []) {x:Nat}:x∈fndF D ws q↔(∃s,slA D.sl x=some s)∧∃c,Ch (slA D.sl) x c∧wholeF (slA D.sl) ws (66-c) x=true∧q (66-c) x=true:=by
 unfold fndF
 rw [List.mem_filter,decide_eq_true_eq]
 constructor
 ·rintro ⟨h1,h2⟩
  obtain⟨z,hz,h2⟩:=List.mem_flatMap.1 h2
  obtain⟨u,u1,u2⟩:=rootc hA hz
  exact⟨(mem_all_roots hA).1 h1,((mem_findF hA 65 z 1 u1 u2 rfl x).1 h2).2⟩
 ·rintro ⟨hs,h⟩
  have h1:=(mem_all_roots hA).2 hs
  refine⟨h1,?_⟩
  obtain⟨z,hz,h2⟩:=List.mem_flatMap.1 h1
  obtain⟨u,u1,u2⟩:=rootc hA hz
  exact List.mem_flatMap.2 ⟨z,hz,(mem_findF hA 65 z 1 u1 u2 rfl x).2 ⟨h2,h⟩⟩
theorem in_all (hA:WfA (slA D.sl) D.roots []) {x:Nat} (h:x∈fndF D ws q):x∈AllS D ws:=by
 obtain⟨hs,c,h1,h2,h3⟩:=(mem_fnd hA).1 h
 exact (mem_fnd hA).2 ⟨hs,c,h1,h2,rfl⟩
theorem within_kids (hA:WfA (slA D.sl) D.roots []) {x c r:Nat}{s:Sl} (hs:slA D.sl x=some s) (hc:Ch (slA D.sl) x c) (hr:c+r=66) {y:Nat}:y∈s.kids.flatMap (allA (slA D.sl) (r-1))↔y∈allA (slA D.sl) 65 x∧y≠x:=by
 have hl:=no66 hA hs hc
 obtain⟨r,rfl⟩:∃r',r=r'+1:=⟨r-1,by omega⟩
 have e:=allA_66 hA hs hc hr
 have hnd:=all_nodup hA (r+1) x ⟨s,hs⟩ fun z hz=>by simp at hz
 rw [allA_some hs] at e hnd
 rw [←e,Nat.add_sub_cancel,List.mem_cons]
 constructor
 ·intro h
  exact⟨.inr h,fun e=>by subst e;exact (List.nodup_cons.1 hnd).1 h⟩
 ·rintro ⟨h1 | h1,h2⟩
  ·exact absurd h1 h2
  ·exact h1
end
set_option maxRecDepth 100000
theorem up_ext {α:Type}{R:α→α→Prop} (irr:∀a,¬R a a) (tr:∀a b c,R a b→R b c→R a c):∀{l m:List α},l.Pairwise R→m.Pairwise R→(∀a,a∈l↔a∈m)→l=m
 | [],[],_,_,_=>rfl
 | [],b :: m,_,_,h=>by have:=(h b).2 (by simp);simp at this
 | a :: l,[],_,_,h=>by have:=(h a).1 (by simp);simp at this
 | a :: l,b :: m,h1,h2,h=>by
  have p1:=List.pairwise_cons.1 h1
  have p2:=List.pairwise_cons.1 h2
  have e:a=b:=by
   rcases List.mem_cons.1 ((h a).1 (by simp)) with e | e
   ·exact e
   ·rcases List.mem_cons.1 ((h b).2 (by simp)) with e2 | e2
    ·exact e2.symm
    ·exact absurd (tr _ _ _ (p1.1 b e2) (p2.1 a e)) (irr a)
  subst e
  rw [up_ext irr tr p1.2 p2.2 fun x=>?_]
  constructor
  ·intro hx
   rcases List.mem_cons.1 ((h x).1 (List.mem_cons_of_mem _ hx)) with e | e
   ·subst e;exact absurd (p1.1 x hx) (irr x)
   ·exact e
  ·intro hx
   rcases List.mem_cons.1 ((h x).2 (List.mem_cons_of_mem _ hx)) with e | e
   ·subst e;exact absurd (p2.1 x hx) (irr x)
   ·exact e
section
variable {st:List (ByteArray × Hit)}{head:ByteArray}{l m:List (ByteArray × Nat)}
end
set_option maxRecDepth 100000
section
variable {A:Nat→Option Sl}{ws:List ByteArray}{roots:List Nat}
theorem De.tr {x z y a b:Nat} (h:De A x z a) (k:De A z y b):De A x y (a+b):=by
 induction k with
 | self=>exact h
 | up ha _ ih=>exact .up ha ih
theorem own_mem {n:Nat}{w:ByteArray}:w∈ownF' A ws n↔w∈wsF A n∧w∈ws:=by
 unfold ownF'
 rw [List.mem_filter,memB_iff]
theorem all_de (hA:WfA A roots []) {r x y:Nat}{s:Sl} (hx:A x=some s) (h:y∈allA A r x):∃d,De A x y d:=by
 obtain⟨d,_,hd⟩:=(mem_allA hA r x y ⟨s,hx⟩ (fun z hz=>by simp at hz)).1 h
 exact⟨d,hd⟩
theorem mem_hasF (hA:WfA A roots []):∀(r n c:Nat) {s:Sl},A n=some s→Ch A n c→c+r=66→∀w,w∈hasF A ws r n↔w∈ws∧∃y∈allA A r n,w∈wsF A y:=by
 intro r
 induction r with
 | zero=>intro n c s hs hc hr;have:=no66 hA hs hc;omega
 | succ r ih =>
  intro n c s hs hc hr w
  rw [hasF_some hs,allA_some hs,List.mem_append,own_mem,List.mem_flatMap]
  constructor
  ·rintro (⟨h1,h2⟩ | ⟨k,hk,h⟩)
   ·exact⟨h2,n,by simp,h1⟩
   ·obtain⟨t,t1,_,t3⟩:=kidc hA hs hc hk
    obtain⟨h1,y,h2,h3⟩:=(ih k (c+1) t1 t3 (by omega) w).1 h
    exact⟨h1,y,List.mem_cons_of_mem _ (List.mem_flatMap.2 ⟨k,hk,h2⟩),h3⟩
  ·rintro ⟨h1,y,h2,h3⟩
   rcases List.mem_cons.1 h2 with rfl | h2
   ·exact .inl ⟨h3,h1⟩
   ·obtain⟨k,hk,h2⟩:=List.mem_flatMap.1 h2
    obtain⟨t,t1,_,t3⟩:=kidc hA hs hc hk
    exact .inr ⟨k,hk,(ih k (c+1) t1 t3 (by omega) w).2 ⟨h1,y,h2,h3⟩⟩
theorem kid_apart (hA:WfA A roots []) {r n c:Nat}{s:Sl} (hs:A n=some s) (hc:Ch A n c) {k k' z y:Nat} (hk:k∈s.kids) (hk':k'∈s.kids) (h1:y∈allA A r k) (h2:z∈allA A r k') (h3:y∈allA A 65 z):k=k':=by
 obtain⟨t,t1,_,t3⟩:=kidc hA hs hc hk
 obtain⟨t',t1',_,t3'⟩:=kidc hA hs hc hk'
 obtain⟨u,hu⟩:=all_live hA ⟨t',t1'⟩ (fun z hz=>by simp at hz) h2
 obtain⟨d1,e1⟩:=all_de hA t1 h1
 obtain⟨d2,e2⟩:=all_de hA t1' h2
 obtain⟨d3,e3⟩:=all_de hA hu h3
 have e4:=e2.tr e3
 have:=(e1.ch hA.zero t3).fn (e4.ch hA.zero t3')
 obtain rfl:d1=d2+d3:=by omega
 exact e1.fn e4
theorem kid_up (hA:WfA A roots []) {r n c:Nat}{s:Sl} (hs:A n=some s) (hc:Ch A n c) {k z:Nat} (hk:k∈s.kids) (h2:z∈allA A r k):n∉allA A 65 z:=fun h3=>by
 obtain⟨t,t1,_,t3⟩:=kidc hA hs hc hk
 obtain⟨u,hu⟩:=all_live hA ⟨t,t1⟩ (fun z hz=>by simp at hz) h2
 obtain⟨d2,e2⟩:=all_de hA t1 h2
 obtain⟨d3,e3⟩:=all_de hA hu h3
 have:=((e2.tr e3).ch hA.zero t3).fn hc
 omega
theorem mem_besF (hA:WfA A roots []):∀(r n c:Nat) {s:Sl},A n=some s→Ch A n c→c+r=66→∀w,w∈besF A ws r n↔w∈ws∧∃y∈allA A r n,w∈wsF A y∧∀z∈allA A r n,Wh A ws z→y∉allA A 65 z:=by
 intro r
 induction r with
 | zero=>intro n c s hs hc hr;have:=no66 hA hs hc;omega
 | succ r ih =>
  intro n c s hs hc hr w
  rw [besF_some hs]
  have er:66-c=r+1:=by omega
  by_cases hw:wholeF A ws (r+1) n=true
  ·rw [if_pos hw]
   constructor
   ·intro h;cases h
   ·rintro ⟨_,y,h1,_,h3⟩
    refine absurd ?_ (h3 n (by rw [allA_some hs];simp) ⟨c,hc,by rw [er];exact hw⟩)
    rw [←allA_66 hA hs hc hr];exact h1
  ·rw [if_neg hw]
   have hn:¬Wh A ws n:=fun⟨c',hc',h⟩=>by
    have:=hc'.fn hc;subst this
    rw [er] at h;exact hw h
   rw [List.mem_append,own_mem,List.mem_flatMap,allA_some hs]
   constructor
   ·rintro (⟨h1,h2⟩ | ⟨k,hk,h⟩)
    ·refine⟨h2,n,by simp,h1,fun z hz hwz hm=>?_⟩
     rcases List.mem_cons.1 hz with rfl | hz
     ·exact hn hwz
     ·obtain⟨k,hk,hz⟩:=List.mem_flatMap.1 hz
      exact kid_up hA hs hc hk hz hm
    ·obtain⟨t,t1,_,t3⟩:=kidc hA hs hc hk
     obtain⟨h1,y,h2,h3,h4⟩:=(ih k (c+1) t1 t3 (by omega) w).1 h
     refine⟨h1,y,List.mem_cons_of_mem _ (List.mem_flatMap.2 ⟨k,hk,h2⟩),h3,fun z hz hwz hm=>?_⟩
     rcases List.mem_cons.1 hz with rfl | hz
     ·exact hn hwz
     ·obtain⟨k',hk',hz⟩:=List.mem_flatMap.1 hz
      obtain rfl:=kid_apart hA hs hc hk hk' h2 hz hm
      exact h4 z hz hwz hm
   ·rintro ⟨h1,y,h2,h3,h4⟩
    rcases List.mem_cons.1 h2 with rfl | h2
    ·exact .inl ⟨h3,h1⟩
    ·obtain⟨k,hk,h2⟩:=List.mem_flatMap.1 h2
     obtain⟨t,t1,_,t3⟩:=kidc hA hs hc hk
     exact .inr ⟨k,hk,(ih k (c+1) t1 t3 (by omega) w).2 ⟨h1,y,h2,h3,fun z hz=>h4 z (List.mem_cons_of_mem _ (List.mem_flatMap.2 ⟨k,hk,hz⟩))⟩⟩
theorem mem_besK (hA:WfA A roots []) {r n c:Nat}{s:Sl} (hs:A n=some s) (hc:Ch A n c) (hr:c+(r+1)=66) (w:ByteArray):w∈besK A ws (r+1) n↔w∈ws∧∃y∈allA A (r+1) n,w∈wsF A y∧∀z∈s.kids.flatMap (allA A r),Wh A ws z→y∉allA A 65 z:=by
 rw [besK_some hs,List.mem_append,own_mem,List.mem_flatMap,allA_some hs]
 constructor
 ·rintro (⟨h1,h2⟩ | ⟨k,hk,h⟩)
  ·refine⟨h2,n,by simp,h1,fun z hz hwz hm=>?_⟩
   obtain⟨k,hk,hz⟩:=List.mem_flatMap.1 hz
   exact kid_up hA hs hc hk hz hm
  ·obtain⟨t,t1,_,t3⟩:=kidc hA hs hc hk
   obtain⟨h1,y,h2,h3,h4⟩:=(mem_besF hA r k (c+1) t1 t3 (by omega) w).1 h
   refine⟨h1,y,List.mem_cons_of_mem _ (List.mem_flatMap.2 ⟨k,hk,h2⟩),h3,fun z hz hwz hm=>?_⟩
   obtain⟨k',hk',hz⟩:=List.mem_flatMap.1 hz
   obtain rfl:=kid_apart hA hs hc hk hk' h2 hz hm
   exact h4 z hz hwz hm
 ·rintro ⟨h1,y,h2,h3,h4⟩
  rcases List.mem_cons.1 h2 with rfl | h2
  ·exact .inl ⟨h3,h1⟩
  ·obtain⟨k,hk,h2⟩:=List.mem_flatMap.1 h2
   obtain⟨t,t1,_,t3⟩:=kidc hA hs hc hk
   exact .inr ⟨k,hk,(mem_besF hA r k (c+1) t1 t3 (by omega) w).2 ⟨h1,y,h2,h3,fun z hz=>h4 z (List.mem_flatMap.2 ⟨k,hk,hz⟩)⟩⟩
end
def stW (D:Im) (w:ByteArray) (i:Nat):Bool:=memB w (wsF (slA D.sl) ((allD' D).getD i 0))
def hasQ (D:Im) (ws:List ByteArray) (out:Nat→Bool) (a b:Nat):Bool:=ws.all fun w=>(List.range' a (b-a)).any fun i=>stW D w i && !out i
abbrev Pl3:=Nat × Nat × Nat
def isE (D:Im) (n:Nat):Bool:=match slA D.sl n with | some s=>decide (s.kind=1) | none=>false
def plF (D:Im):Nat→List Pl3
 | 0=>[]
 | i+1=>plF D i++(if isE D ((allD' D).getD i 0)=true then [((allD' D).getD i 0,i,i+szN D ((allD' D).getD i 0))] else [])
def someP (D:Im) (ws:List ByteArray) (l:List Pl3):List Pl3:=l.filter fun p=>hasQ D ws (fun _=>false) p.2.1 p.2.2
def innP (l:List Pl3) (p:Pl3):Bool:=l.any fun q=>decide (p.2.1 < q.2.1) && decide (q.2.1 < p.2.2)
def outP (l:List Pl3) (p:Pl3) (j:Nat):Bool:=l.any fun q=>(decide (p.2.1 < q.2.1) && decide (q.2.1 < p.2.2)) && (decide (q.2.1≤j) && decide (j < q.2.2))
section
variable {D:Im}{ws:List ByteArray}
theorem hasQ_iff {out:Nat→Bool}{a b:Nat}:hasQ D ws out a b=true↔∀w∈ws,∃i,a≤i∧i < b∧w∈wsF (slA D.sl) ((allD' D).getD i 0)∧out i=false:=by
 unfold hasQ stW
 rw [List.all_eq_true]
 refine forall_congr' fun w=>forall_congr' fun hw=>?_
 rw [List.any_eq_true]
 constructor
 ·rintro ⟨i,h1,h2⟩
  rw [List.mem_range'_1] at h1
  simp only [Bool.and_eq_true,Bool.not_eq_true'] at h2
  exact⟨i,h1.1,by omega,memB_iff.1 h2.1,h2.2⟩
 ·rintro ⟨i,h1,h2,h3,h4⟩
  refine⟨i,List.mem_range'_1.2 ⟨h1,by omega⟩,?_⟩
  rw [memB_iff.2 h3,h4];rfl
theorem getD_all {i x:Nat} (h:(allD' D)[i]?=some x):(allD' D).getD i 0=x:=by rw [List.getD_eq_getElem?_getD,h];rfl
theorem pl_mem:∀{k:Nat}{p:Pl3},k≤(allD' D).length→(p∈plF D k↔p.2.1 < k∧(allD' D)[p.2.1]?=some p.1∧isE D p.1=true∧p.2.2=p.2.1+szN D p.1)
 | 0,p,_=>by simp [plF]
 | k+1,p,h=>by
  have hk:k < (allD' D).length:=by omega
  have hg:=List.getElem?_eq_getElem hk
  rw [plF,List.mem_append,pl_mem (by omega),getD_all hg]
  constructor
  ·rintro (⟨h1,h2⟩ | h1)
   ·exact⟨by omega,h2⟩
   ·split at h1
    ·rename_i he
     rw [List.mem_singleton] at h1
     subst h1
     exact⟨Nat.lt_succ_self _,hg,he,rfl⟩
    ·cases h1
  ·rintro ⟨h1,h2,h3,h4⟩
   by_cases e:p.2.1=k
   ·right
    obtain⟨p1,p2,p3⟩:=p
    simp only at e h2 h3 h4
    subst e
    rw [hg] at h2
    cases h2
    rw [if_pos h3,List.mem_singleton,h4]
   ·exact .inl ⟨by omega,h2,h3,h4⟩
theorem pl_up:∀{k:Nat},k≤(allD' D).length→(plF D k).Pairwise fun p q=>p.2.1 < q.2.1
 | 0,_=>by simp [plF]
 | k+1,h=>by
  rw [plF,List.pairwise_append]
  refine⟨pl_up (by omega),by split <;> simp,fun p hp q hq=>?_⟩
  have:=(pl_mem (by omega)).1 hp
  split at hq
  ·rw [List.mem_singleton] at hq
   subst hq
   exact this.1
  ·cases hq
theorem has_iff (hA:WfA (slA D.sl) D.roots []) {i x:Nat} (hx:(allD' D)[i]?=some x):isE D x=true∧hasQ D ws (fun _=>false) i (i+szN D x)=true↔x∈AllS D ws:=by
 obtain⟨c,s,hc,hn⟩:=Nd.of hA hx
 have hs:=hn.sl
 have hch:=hn.ch
 have e65:=allA_66 hA hs hch (show c+(66-c)=66 by omega)
 unfold AllS
 rw [mem_fnd hA,hasQ_iff]
 have hw:wholeF (slA D.sl) ws (66-c) x=true↔isE D x=true∧∀w∈ws,∃y∈allA (slA D.sl) 65 x,w∈wsF (slA D.sl) y:=by
  unfold wholeF isE
  rw [hs]
  simp only [Bool.and_eq_true]
  rw [allW_iff]
  refine and_congr_right fun _=>forall_congr' fun w=>forall_congr' fun hw=>?_
  rw [mem_hasF hA (66-c) x c hs hch (by omega),e65]
  exact⟨fun h=>h.2,fun h=>⟨hw,h⟩⟩
 constructor
 ·rintro ⟨h1,h2⟩
  refine⟨⟨s,hs⟩,c,hch,hw.2 ⟨h1,fun w hm=>?_⟩,rfl⟩
  obtain⟨j,j1,j2,j3,_⟩:=h2 w hm
  by_cases hj:j < (allD' D).length
  ·have hg:=List.getElem?_eq_getElem hj
   rw [getD_all hg] at j3
   exact⟨_,(in_iff hA hx hg).2 ⟨j1,j2⟩,j3⟩
  ·rw [List.getD_eq_getElem?_getD,List.getElem?_eq_none (by omega)] at j3
   simp [wsF,wdF,hA.zero] at j3
 ·rintro ⟨_,c',hc',h1,_⟩
  have:=hc'.fn hch;subst this
  obtain⟨h1,h2⟩:=hw.1 h1
  refine⟨h1,fun w hm=>?_⟩
  obtain⟨y,y1,y2⟩:=h2 w hm
  have hy:=(mem_all_roots hA).2 (all_live hA ⟨s,hs⟩ (fun z hz=>by simp at hz) y1)
  obtain⟨j,hj⟩:=List.mem_iff_getElem?.1 hy
  obtain⟨j1,j2⟩:=(in_iff hA hx hj).1 y1
  exact⟨j,j1,j2,by rw [getD_all hj];exact y2,rfl⟩
theorem some_mem (hA:WfA (slA D.sl) D.roots []) {p:Pl3}:p∈someP D ws (plF D (allD' D).length)↔(allD' D)[p.2.1]?=some p.1∧p.2.2=p.2.1+szN D p.1∧p.1∈AllS D ws:=by
 unfold someP
 rw [List.mem_filter,pl_mem (Nat.le_refl _)]
 constructor
 ·rintro ⟨⟨h1,h2,h3,h4⟩,h5⟩
  rw [h4] at h5
  exact⟨h2,h4,(has_iff hA h2).1 ⟨h3,h5⟩⟩
 ·rintro ⟨h1,h2,h3⟩
  obtain⟨h4,h5⟩:=(has_iff hA h1).2 h3
  exact⟨⟨(List.getElem?_eq_some_iff.1 h1).1,h1,h4,h2⟩,by rw [h2];exact h5⟩
theorem in_sz (hA:WfA (slA D.sl) D.roots []) {i k x y:Nat} (hx:(allD' D)[i]?=some x) (hy:(allD' D)[k]?=some y):y∈allA (slA D.sl) 65 x↔i≤k∧k < i+szN D x:=in_iff hA hx hy
theorem all_iff (hA:WfA (slA D.sl) D.roots []) {y:Nat}:y∈AllS D ws↔(∃s,slA D.sl y=some s)∧Wh (slA D.sl) ws y:=by
 unfold AllS
 rw [mem_fnd hA]
 exact⟨fun⟨h1,c,h2,h3,_⟩=>⟨h1,c,h2,h3⟩,fun⟨h1,c,h2,h3⟩=>⟨h1,c,h2,h3,rfl⟩⟩
theorem all_at (hA:WfA (slA D.sl) D.roots []) {y:Nat} (h:∃s,slA D.sl y=some s):∃j:Nat,(allD' D)[j]?=some y:=List.mem_iff_getElem?.1 ((mem_all_roots hA).2 h)
abbrev SP (D:Im) (ws:List ByteArray):List Pl3:=someP D ws (plF D (allD' D).length)
theorem inn_iff (hA:WfA (slA D.sl) D.roots []) {p:Pl3} (hp:p∈SP D ws):innP (SP D ws) p=true↔∃y,(y∈AllS D ws∧y∈allA (slA D.sl) 65 p.1)∧y≠p.1:=by
 obtain⟨p1,p2,p3⟩:=(some_mem hA).1 hp
 have hnd:(allD' D).Nodup:=rootsAll_nodup hA
 unfold innP
 rw [List.any_eq_true]
 constructor
 ·rintro ⟨q,hq,h⟩
  simp only [Bool.and_eq_true,decide_eq_true_eq] at h
  obtain⟨q1,q2,q3⟩:=(some_mem hA).1 hq
  refine⟨q.1,⟨q3,(in_sz hA p1 q1).2 (by omega)⟩,fun e=>?_⟩
  rw [e] at q1
  have:=nd_get hnd q1 p1
  omega
 ·rintro ⟨y,⟨h1,h2⟩,h3⟩
  obtain⟨j,hj⟩:=all_at hA ((all_iff hA).1 h1).1
  obtain⟨j1,j2⟩:=(in_sz hA p1 hj).1 h2
  refine⟨(y,j,j+szN D y),(some_mem hA).2 ⟨hj,rfl,h1⟩,?_⟩
  simp only [Bool.and_eq_true,decide_eq_true_eq]
  have hne:p.2.1≠j:=fun e=>by
   rw [e] at p1
   have:=p1.symm.trans hj
   exact h3 (by simpa using this.symm)
  omega
theorem out_iff (hA:WfA (slA D.sl) D.roots []) {p:Pl3} (hp:p∈SP D ws) {j v:Nat} (hj:(allD' D)[j]?=some v):outP (SP D ws) p j=true↔∃y,((y∈AllS D ws∧y∈allA (slA D.sl) 65 p.1)∧y≠p.1)∧v∈allA (slA D.sl) 65 y:=by
 obtain⟨p1,p2,p3⟩:=(some_mem hA).1 hp
 have hnd:(allD' D).Nodup:=rootsAll_nodup hA
 unfold outP
 rw [List.any_eq_true]
 constructor
 ·rintro ⟨q,hq,h⟩
  simp only [Bool.and_eq_true,decide_eq_true_eq] at h
  obtain⟨q1,q2,q3⟩:=(some_mem hA).1 hq
  refine⟨q.1,⟨⟨q3,(in_sz hA p1 q1).2 (by omega)⟩,fun e=>?_⟩,(in_sz hA q1 hj).2 (by omega)⟩
  rw [e] at q1
  have:=nd_get hnd q1 p1
  omega
 ·rintro ⟨y,⟨⟨h1,h2⟩,h3⟩,h4⟩
  obtain⟨k,hk⟩:=all_at hA ((all_iff hA).1 h1).1
  obtain⟨j1,j2⟩:=(in_sz hA p1 hk).1 h2
  obtain⟨j3,j4⟩:=(in_sz hA hk hj).1 h4
  refine⟨(y,k,k+szN D y),(some_mem hA).2 ⟨hk,rfl,h1⟩,?_⟩
  simp only [Bool.and_eq_true,decide_eq_true_eq]
  have hne:p.2.1≠k:=fun e=>by
   rw [e] at p1
   have:=p1.symm.trans hk
   exact h3 (by simpa using this.symm)
  omega
theorem found_eq (hA:WfA (slA D.sl) D.roots []) {q:Nat→Nat→Bool}{Q:Pl3→Bool} (h:∀p∈SP D ws,Q p=true↔p.1∈fndF D ws q):((SP D ws).filter Q).map (·.1)=fndF D ws q:=by
 have hnd:(allD' D).Nodup:=rootsAll_nodup hA
 refine up_ext (R:=fun a b=>∃i j:Nat,i < j∧(allD' D)[i]?=some a∧(allD' D)[j]?=some b) (fun a ⟨i,j,h1,h2,h3⟩=>?_) (fun a b c ⟨i,j,h1,h2,h3⟩ ⟨k,l,h4,h5,h6⟩=>?_) ?_ ?_ fun a=>?_
 ·have:=nd_get hnd h2 h3;omega
 ·have:=nd_get hnd h3 h5
  exact⟨i,l,by omega,h2,h6⟩
 ·rw [List.pairwise_map]
  have h1:(SP D ws).Pairwise fun p q=>p.2.1 < q.2.1:=(pl_up (Nat.le_refl _)).filter _
  have h2:(SP D ws).Pairwise fun p q=>∃i j:Nat,i < j∧(allD' D)[i]?=some p.1∧(allD' D)[j]?=some q.1:=List.Pairwise.imp_of_mem (fun {a b} ha hb hab=>⟨a.2.1,b.2.1,hab,((some_mem hA).1 ha).1,((some_mem hA).1 hb).1⟩) h1
  exact h2.filter _
 ·unfold fndF
  refine List.Pairwise.filter _ (List.pairwise_iff_getElem.2 fun i j hi hj hij=>⟨i,j,hij,List.getElem?_eq_getElem hi,List.getElem?_eq_getElem hj⟩)
 ·rw [List.mem_map]
  constructor
  ·rintro ⟨p,hp,rfl⟩
   obtain⟨h1,h2⟩:=List.mem_filter.1 hp
   exact (h p h1).1 h2
  ·intro ha
   have h1:=in_all hA ha
   obtain⟨j,hj⟩:=all_at hA ((all_iff hA).1 h1).1
   have hp:(a,j,j+szN D a)∈SP D ws:=(some_mem hA).2 ⟨hj,rfl,h1⟩
   exact⟨_,List.mem_filter.2 ⟨hp,(h _ hp).2 ha⟩,rfl⟩
theorem lk_all (hA:WfA (slA D.sl) D.roots []):(SP D ws).map (·.1)=AllS D ws:=by
 have:=found_eq (ws:=ws) hA (q:=fun _ _=>true) (Q:=fun _=>true) fun p hp=>⟨fun _=>((some_mem hA).1 hp).2.2,fun _=>rfl⟩
 rw [List.filter_eq_self.2 (fun _ _=>rfl)] at this
 exact this
theorem lk_small (hA:WfA (slA D.sl) D.roots []):((SP D ws).filter fun p=>!innP (SP D ws) p).map (·.1)=SmallS D ws:=by
 refine found_eq hA fun p hp=>?_
 obtain⟨p1,p2,p3⟩:=(some_mem hA).1 hp
 obtain⟨⟨s,hs⟩,c,hc,hw⟩:=(all_iff hA).1 p3
 have hl:=no66 hA hs hc
 rw [Bool.not_eq_true',mem_fnd hA]
 have hq:=qS_iff (ws:=ws) hA hs hc (show c+(66-c)=66 by omega)
 constructor
 ·intro h
  refine⟨⟨s,hs⟩,c,hc,hw,hq.2 fun y hy hwy=>?_⟩
  obtain⟨h1,h2⟩:=(within_kids hA hs hc (show c+(66-c)=66 by omega)).1 hy
  have hlive:=all_live hA ⟨s,hs⟩ (fun z hz=>by simp at hz) h1
  have:=(inn_iff hA hp).2 ⟨y,⟨(all_iff hA).2 ⟨hlive,hwy⟩,h1⟩,h2⟩
  rw [h] at this;cases this
 ·rintro ⟨_,c',hc',_,h⟩
  have:=hc'.fn hc;subst this
  refine Bool.eq_false_iff.2 fun h2=>?_
  obtain⟨y,⟨y1,y2⟩,y3⟩:=(inn_iff hA hp).1 h2
  exact hq.1 h y ((within_kids hA hs hc (by omega)).2 ⟨y2,y3⟩) ((all_iff hA).1 y1).2
theorem lk_best (hA:WfA (slA D.sl) D.roots []):((SP D ws).filter fun p=>hasQ D ws (outP (SP D ws) p) p.2.1 p.2.2).map (·.1)=BestS D ws:=by
 refine found_eq hA fun p hp=>?_
 obtain⟨p1,p2,p3⟩:=(some_mem hA).1 hp
 obtain⟨⟨s,hs⟩,c,hc,hw⟩:=(all_iff hA).1 p3
 have hl:=no66 hA hs hc
 obtain⟨r,er⟩:∃r,66-c=r+1:=⟨65-c,by omega⟩
 have hcr:c+(r+1)=66:=by omega
 have e65:=allA_66 hA hs hc hcr
 have hq:qB (slA D.sl) ws (66-c) p.1=true↔hasQ D ws (outP (SP D ws) p) p.2.1 p.2.2=true:=by
  unfold qB
  rw [allW_iff,hasQ_iff,er]
  refine forall_congr' fun w=>forall_congr' fun hm=>?_
  rw [mem_besK hA hs hc hcr,e65]
  constructor
  ·rintro ⟨_,y,y1,y2,y3⟩
   have hlive:=all_live hA ⟨s,hs⟩ (fun z hz=>by simp at hz) y1
   obtain⟨j,hj⟩:=all_at hA hlive
   obtain⟨j1,j2⟩:=(in_sz hA p1 hj).1 y1
   refine⟨j,j1,by omega,by rw [getD_all hj];exact y2,Bool.eq_false_iff.2 fun ho=>?_⟩
   obtain⟨z,⟨⟨z1,z2⟩,z3⟩,z4⟩:=(out_iff hA hp hj).1 ho
   exact y3 z ((within_kids (r:=r+1) hA hs hc hcr).2 ⟨z2,z3⟩) ((all_iff hA).1 z1).2 z4
  ·rintro ⟨j,j1,j2,j3,j4⟩
   by_cases hj:j < (allD' D).length
   ·have hg:=List.getElem?_eq_getElem hj
    rw [getD_all hg] at j3
    refine⟨hm,_,(in_sz hA p1 hg).2 (by omega),j3,fun z hz hwz hy=>?_⟩
    obtain⟨z2,z3⟩:=(within_kids (r:=r+1) hA hs hc hcr).1 hz
    have hlive:=all_live hA ⟨s,hs⟩ (fun z hz=>by simp at hz) z2
    have:=(out_iff hA hp hg).2 ⟨z,⟨⟨(all_iff hA).2 ⟨hlive,hwz⟩,z2⟩,z3⟩,hy⟩
    rw [j4] at this;cases this
   ·rw [List.getD_eq_getElem?_getD,List.getElem?_eq_none (by omega)] at j3
    simp [wsF,wdF,hA.zero] at j3
 rw [mem_fnd hA]
 constructor
 ·intro h
  exact⟨⟨s,hs⟩,c,hc,hw,hq.2 h⟩
 ·rintro ⟨_,c',hc',_,h⟩
  have:=hc'.fn hc;subst this
  exact hq.1 h
end
end Go.Proofs.YtccplipiahdhiaaGreatDoor
set_option linter.unusedVariables false
set_option maxRecDepth 100000
namespace Go.Proofs.YtccplipiahdhiaaGreatDoor
open Go.Vc
def F11 (x:Option Addr) (words:Option Addr) (wordsN:Nat) (wordsC:Nat) (j:World) (R:Ending→World→Prop):Prop :=
 Calls Tryz.prog 45 #[(.pointer x),(.slice words wordsN wordsC)] j (post R fun v w1 =>
 ∃(b:Option Addr) (a:Int),v=(.tuple #[(.pointer b),(.int .i64 a)]) ∧
 Br (a != (0:Int))
 (R (.returned (.tuple #[(.slice none 0 0),(.int .i64 a)])) w1)
 (NonNil b fun p19 =>
 LdSl (w1.cell? (p19.add 2)) fun i d e =>
 Calls Tryz.prog 46 #[(.pointer x),(.slice i d e)] w1 (post R fun v2 c =>
 ∃(h:Option Addr) (g:Nat) (f:Nat),v2=(.slice h g f) ∧
 R (.returned (.tuple #[(.slice h g f),(.int .i64 0)])) c)))
theorem ok11 (x:Option Addr) (words:Option Addr) (wordsN:Nat) (wordsC:Nat) {w:World}{R:Ending→World→Prop} (h:F11 x words wordsN wordsC w R):Calls Tryz.prog 11 #[(.pointer x),(.slice words wordsN wordsC)] w R :=
 vc_calls (pl:=⟨23,⟨[]⟩,[],[]⟩) Tryz.func11 (by kernel_rfl) (by kernel_rfl) (by kernel_rfl) (Eq.mp (by kernel_rfl) h)
def F13 (x:Option Addr) (words:Option Addr) (wordsN:Nat) (wordsC:Nat) (j:World) (R:Ending→World→Prop):Prop :=
 Calls Tryz.prog 45 #[(.pointer x),(.slice words wordsN wordsC)] j (post R fun v w1 =>
 ∃(b:Option Addr) (a:Int),v=(.tuple #[(.pointer b),(.int .i64 a)]) ∧
 Br (a != (0:Int))
 (R (.returned (.tuple #[(.slice none 0 0),(.int .i64 a)])) w1)
 (NonNil b fun p19 =>
 LdSl (w1.cell? (p19.add 4)) fun i d e =>
 Calls Tryz.prog 46 #[(.pointer x),(.slice i d e)] w1 (post R fun v2 c =>
 ∃(h:Option Addr) (g:Nat) (f:Nat),v2=(.slice h g f) ∧
 R (.returned (.tuple #[(.slice h g f),(.int .i64 0)])) c)))
theorem ok13 (x:Option Addr) (words:Option Addr) (wordsN:Nat) (wordsC:Nat) {w:World}{R:Ending→World→Prop} (h:F13 x words wordsN wordsC w R):Calls Tryz.prog 13 #[(.pointer x),(.slice words wordsN wordsC)] w R :=
 vc_calls (pl:=⟨23,⟨[]⟩,[],[]⟩) Tryz.func13 (by kernel_rfl) (by kernel_rfl) (by kernel_rfl) (Eq.mp (by kernel_rfl) h)
def F12 (x:Option Addr) (words:Option Addr) (wordsN:Nat) (wordsC:Nat) (j:World) (R:Ending→World→Prop):Prop :=
 Calls Tryz.prog 45 #[(.pointer x),(.slice words wordsN wordsC)] j (post R fun v w1 =>
 ∃(b:Option Addr) (a:Int),v=(.tuple #[(.pointer b),(.int .i64 a)]) ∧
 Br (a != (0:Int))
 (R (.returned (.tuple #[(.slice none 0 0),(.int .i64 a)])) w1)
 (NonNil b fun p19 =>
 LdSl (w1.cell? (p19.add 3)) fun i d e =>
 Calls Tryz.prog 46 #[(.pointer x),(.slice i d e)] w1 (post R fun v2 c =>
 ∃(h:Option Addr) (g:Nat) (f:Nat),v2=(.slice h g f) ∧
 R (.returned (.tuple #[(.slice h g f),(.int .i64 0)])) c)))
theorem ok12 (x:Option Addr) (words:Option Addr) (wordsN:Nat) (wordsC:Nat) {w:World}{R:Ending→World→Prop} (h:F12 x words wordsN wordsC w R):Calls Tryz.prog 12 #[(.pointer x),(.slice words wordsN wordsC)] w R :=
 vc_calls (pl:=⟨23,⟨[]⟩,[],[]⟩) Tryz.func12 (by kernel_rfl) (by kernel_rfl) (by kernel_rfl) (Eq.mp (by kernel_rfl) h)
def F46 (x:Option Addr) (l:Option Addr) (lN:Nat) (lC:Nat) (j:World) (R:Ending→World→Prop):Prop :=
 Al j #[(.slice l lN lC)] 23 fun l2 w1 =>
 NonNil x fun p6 =>
 LdSl (w1.cell? (p6.add 1)) fun k e h =>
 Calls Tryz.prog 77 #[(.slice k e h)] w1 (post R fun v a =>
 ∃(m:Option Addr) (i:Nat) (g:Nat),v=(.slice m i g) ∧
 Calls Tryz.prog 76 #[(.slice m i g),(.func (.func 78) #[] #[(.pointer (some l2))])] a (post R fun v2 c =>
 ∃(f:Option Addr) (b:Nat) (d:Nat),v2=(.slice f b d) ∧
 R (.returned (.slice f b d)) c))
theorem ok46 (x:Option Addr) (l:Option Addr) (lN:Nat) (lC:Nat) {w:World}{R:Ending→World→Prop} (h:F46 x l lN lC w R):Calls Tryz.prog 46 #[(.pointer x),(.slice l lN lC)] w R :=
 vc_calls (pl:=⟨12,⟨[]⟩,[],[]⟩) Tryz.func46 (by kernel_rfl) (by kernel_rfl) (by kernel_rfl) (Eq.mp (by kernel_rfl) h)
def F78 (n:Int) (cap0:Addr) (c:World) (R:Ending→World→Prop):Prop :=
 LdSl (c.cell? cap0) fun e b a =>
 Calls Tryz.prog 79 #[(.slice e b a),(.int .u64 n)] c (post R fun v w1 =>
 ∃(d:Bool),v=(.bool d) ∧
 R (.returned (.bool (!d))) w1)
theorem ok78 (n:Int) (cap0:Addr) {w:World}{R:Ending→World→Prop} (h:F78 n cap0 w R):Calls Tryz.prog 78 #[(.int .u64 n),(.pointer (some cap0))] w R :=
 vc_calls (pl:=⟨8,⟨[]⟩,[],[]⟩) Tryz.func78 (by kernel_rfl) (by kernel_rfl) (by kernel_rfl) (Eq.mp (by kernel_rfl) h)
def F45_l5 (g15:Addr) (g:Option Addr) (d:Nat) (L5:Int→World→Prop) (h:Int) (i:World) (R:Ending→World→Prop):Prop :=
 Br (decide (h < ((d:Nat):Int)))
 (IdxA g d h 1 fun j =>
 LdI .u64 (i.cell? j) fun f =>
 Calls Tryz.prog 75 #[(.pointer (some g15)),(.int .u64 f)] i (post R fun v3 e =>
 ∃(b:Option Nat) (a:Option Nat) (c:Bool),v3=(.tuple #[(.map b),(.map a),(.bool c)]) ∧
 InR .i64 (h+(1:Int))∧L5 (h+(1:Int)) e))
 (R (.returned (.tuple #[(.pointer (some g15)),(.int .i64 0)])) i)
def F45 (x:Option Addr) (words:Option Addr) (wordsN:Nat) (wordsC:Nat) (j:World) (R:Ending→World→Prop):Prop :=
 Calls Tryz.prog 54 #[(.slice words wordsN wordsC)] j (post R fun v w1 =>
 ∃(i:Bool),v=(.bool i) ∧
 Br (!i)
 (R (.returned (.tuple #[(.pointer none),(.int .i64 1)])) w1)
 (Al w1 #[(.pointer x),(.slice words wordsN wordsC),(.slice none 0 0),(.slice none 0 0),(.slice none 0 0)] 125 fun g15 a =>
 NonNil x fun p17 =>
 LdP (a.cell? p17) fun h =>
 Calls Tryz.prog 69 #[(.pointer h)] a (post R fun v2 d =>
 ∃(f:Option Addr) (b:Nat) (e:Nat),v2=(.slice f b e) ∧
 ∃(I:Int→World→Prop) (m:Int→World→Nat),I (0:Int) d ∧
 ∀(g:Int) (c:World),I g c→F45_l5 g15 f b (fun g' w2=>I g' w2∧m g' w2 < m g c) g c R)))
theorem ok45 (x:Option Addr) (words:Option Addr) (wordsN:Nat) (wordsC:Nat) {w:World}{R:Ending→World→Prop} (h:F45 x words wordsN wordsC w R):Calls Tryz.prog 45 #[(.pointer x),(.slice words wordsN wordsC)] w R :=
 vc_calls (pl:=⟨31,⟨[]⟩,[],[(5,⟨[(22,(.s (.int .i64)))],[(8,9),(22,30)]⟩)]⟩) Tryz.func45 (by kernel_rfl) (by kernel_rfl) (by kernel_rfl) (Eq.mp (by kernel_rfl) h)
def F75_j7 (L3:Int→World→Prop) (a:Int) (b:World) (R:Ending→World→Prop):Prop :=
 InR .i64 (a+(1:Int))∧L3 (a+(1:Int)) b
def F75_j22 (L10:Bool→Int→World→Prop) (b:Int) (some_2:Bool) (a:World) (R:Ending→World→Prop):Prop :=
 InR .i64 (b+(1:Int))∧L10 some_2 (b+(1:Int)) a
def F75_l18 (r21:Nat) (some_:Bool) (J22:Bool→World→Prop) (b:Bool) (it84:Nat) (L18:World→Prop) (g:World) (R:Ending→World→Prop):Prop :=
 Raw Tryz.prog (Instr.next (.pointer (some ⟨it84,0,none⟩)) false 0) g fun v7 f=>(v7=.tuple #[.bool false] ∧
 Br some_
 (J22 true f)
 (J22 b f))∨(∃(k:Value) (e:Value),v7=.tuple #[.bool true,k,e] ∧
 Raw Tryz.prog (Instr.entry (.pointer (some ⟨it84,0,none⟩))) f fun v8 a =>
 ∃(c:ByteArray) (e2:Value),v8=.tuple #[(.string c),e2] ∧
 Raw Tryz.prog (Instr.mapUpdate 167 (.map (some r21)) (.string c) (.agg #[])) a fun _ d =>
 L18 d)
def F75_l14 (r20:Nat) (r21:Nat) (some_:Bool) (J22:Bool→World→Prop) (a:Option Nat) (c:Bool) (it75:Nat) (L14:World→Prop) (h:World) (R:Ending→World→Prop):Prop :=
 Raw Tryz.prog (Instr.next (.pointer (some ⟨it75,0,none⟩)) false 0) h fun v5 f=>(v5=.tuple #[.bool false] ∧
 Raw Tryz.prog (Instr.range 167 (.map a)) f fun v6 g=>∃it84:Nat,v6=.pointer (some ⟨it84,0,none⟩) ∧
 ∃(I:World→Prop) (m:World→Nat),I  g ∧
 ∀ (d:World),I  d→F75_l18 r21 some_ J22 c it84 (fun  w2=>I  w2∧m  w2 < m  d)  d R)∨(∃(k:Value) (e:Value),v5=.tuple #[.bool true,k,e] ∧
 Raw Tryz.prog (Instr.entry (.pointer (some ⟨it75,0,none⟩))) f fun v6 g =>
 ∃(b:ByteArray) (e2:Value),v6=.tuple #[(.string b),e2] ∧
 Raw Tryz.prog (Instr.mapUpdate 167 (.map (some r20)) (.string b) (.agg #[])) g fun _ d =>
 L14 d)
def F75_j31 (has:Option Nat) (a:World) (R:Ending→World→Prop):Prop :=
 R (.returned (.tuple #[(.map has),(.map none),(.bool true)])) a
def F75_j29 (l:Option Addr) (n:Int) (has:Option Nat) (beside:Option Nat) (m:World) (R:Ending→World→Prop):Prop :=
 ∃J31:World→Prop,(∀ (d:World),J31 d→F75_j31 has d R) ∧
 (Calls Tryz.prog 126 #[(.pointer l),(.map beside)] m (post R fun v5 d =>
 ∃(j:Bool),v5=(.bool j) ∧
 Br j
 (NonNil l fun p148 =>
 LdSl (d.cell? (p148.add 4)) fun k b h =>
 Al d #[(.int .u64 n)] 65 fun g152 g =>
 Raw Tryz.prog (Builtin.append_ #[23,23] 23 #[(.slice k b h),(.slice (some g152) 1 1)]) g fun v6 e =>
 ∃(i:Option Addr) (c:Nat) (a:Nat),v6=(.slice i c a) ∧
 NonNil l fun p154 =>
 St e (p154.add 4) (.slice i c a) fun f =>
 J31 f)
 (J31 d)))
def F75_j26 (l:Option Addr) (n:Int) (has:Option Nat) (beside:Option Nat) (some_2:Bool) (v:World) (R:Ending→World→Prop):Prop :=
 NonNil l fun p123 =>
 LdSl (v.cell? (p123.add 2)) fun u e f =>
 Al v #[(.int .u64 n)] 65 fun g127 d =>
 Raw Tryz.prog (Builtin.append_ #[23,23] 23 #[(.slice u e f),(.slice (some g127) 1 1)]) d fun v4 q =>
 ∃(t:Option Addr) (h:Nat) (p:Nat),v4=(.slice t h p) ∧
 NonNil l fun p129 =>
 St q (p129.add 2) (.slice t h p) fun c =>
 ∃J29:World→Prop,(∀ (m:World),J29 m→F75_j29 l n has beside m R) ∧
 (Br (!some_2)
 (NonNil l fun p135 =>
 LdSl (c.cell? (p135.add 3)) fun s k a =>
 Al c #[(.int .u64 n)] 65 fun g139 m =>
 Raw Tryz.prog (Builtin.append_ #[23,23] 23 #[(.slice s k a),(.slice (some g139) 1 1)]) m fun v5 i =>
 ∃(r:Option Addr) (b:Nat) (j:Nat),v5=(.slice r b j) ∧
 NonNil l fun p141 =>
 St i (p141.add 3) (.slice r b j) fun g =>
 J29 g)
 (J29 c))
def F75_l10 (l:Option Addr) (n:Int) (r20:Nat) (r21:Nat) (q:Option Addr) (j:Nat) (L10:Bool→Int→World→Prop) (some_:Bool) (ia:Int) (ma:World) (R:Ending→World→Prop):Prop :=
 Br (decide (ia < ((j:Nat):Int)))
 (∃J22:Bool→World→Prop,(∀(some_2:Bool) (ea:World),J22 some_2 ea→F75_j22 L10 ia some_2 ea R) ∧
 (IdxA q j ia 1 fun ja =>
 LdI .u64 (ma.cell? ja) fun ka =>
 Calls Tryz.prog 75 #[(.pointer l),(.int .u64 ka)] ma (post R fun v3 ea =>
 ∃(y:Option Nat) (u:Option Nat) (s:Bool),v3=(.tuple #[(.map y),(.map u),(.bool s)]) ∧
 Raw Tryz.prog (Instr.range 167 (.map y)) ea fun v4 ca=>∃it75:Nat,v4=.pointer (some ⟨it75,0,none⟩) ∧
 ∃(I:World→Prop) (m:World→Nat),I  ca ∧
 ∀ (ga:World),I  ga→F75_l14 r20 r21 some_ J22 u s it75 (fun  w2=>I  w2∧m  w2 < m  ga)  ga R)))
 (NonNil l fun p99 =>
 LdP (ma.cell? p99) fun ba =>
 NonNil ba fun p102 =>
 LdP (ma.cell? p102) fun ha =>
 Calls Tryz.prog 35 #[(.pointer ha),(.int .u64 n)] ma (post R fun v3 ea =>
 ∃(f:Int) (h:ByteArray) (i:Option Addr) (c:Nat) (d:Nat) (g:ByteArray) (e:Option Addr) (b:Nat) (a:Nat) (k:Int),v3=(.tuple #[(.agg #[(.int .i64 f),(.string h),(.slice i c d),(.string g),(.slice e b a)]),(.int .i64 k)]) ∧
 Al ea #[(.int .i64 0),(.string (ByteArray.mk #[])),(.slice none 0 0),(.string (ByteArray.mk #[])),(.slice none 0 0)] 84 fun t ca =>
 St ca t (.int .i64 f) fun ga =>
 St ga (t.add 1) (.string h) fun fa =>
 St fa (t.add 2) (.slice i c d) fun da =>
 St da (t.add 3) (.string g) fun r =>
 St r (t.add 4) (.slice e b a) fun v =>
 ∃J26:Option Nat→Option Nat→Bool→World→Prop,(∀(has:Option Nat) (beside:Option Nat) (some_2:Bool) (p:World),J26 has beside some_2 p→F75_j26 l n has beside some_2 p R) ∧
 (LdI .i64 (v.cell? t) fun aa =>
 Br (aa != (1:Int))
 (R (.returned (.tuple #[(.map (some r20)),(.map (some r21)),(.bool some_)])) v)
 (Calls Tryz.prog 126 #[(.pointer l),(.map (some r20))] v (post R fun v4 p =>
 ∃(z:Bool),v4=(.bool z) ∧
 Br (!z)
 (R (.returned (.tuple #[(.map (some r20)),(.map (some r21)),(.bool some_)])) p)
 (J26 (some r20) (some r21) some_ p))))))
def F75_l3 (l:Option Addr) (n:Int) (r20:Nat) (r21:Nat) (u:Option Addr) (j:Nat) (L3:Int→World→Prop) (z:Int) (r:World) (R:Ending→World→Prop):Prop :=
 Br (decide (z < ((j:Nat):Int)))
 (∃J7:World→Prop,(∀ (f:World),J7 f→F75_j7 L3 z f R) ∧
 (IdxA u j z 1 fun t =>
 LdStr (r.cell? t) fun k =>
 NonNil l fun p37 =>
 LdSl (r.cell? (p37.add 1)) fun p e i =>
 Calls Tryz.prog 125 #[(.slice p e i),(.string k)] r (post R fun v2 f =>
 ∃(y:Bool),v2=(.bool y) ∧
 Br y
 (Raw Tryz.prog (Instr.mapUpdate 167 (.map (some r20)) (.string k) (.agg #[])) f fun _ h =>
 Raw Tryz.prog (Instr.mapUpdate 167 (.map (some r21)) (.string k) (.agg #[])) h fun _ g =>
 J7 g)
 (J7 f))))
 (NonNil l fun p51 =>
 LdP (r.cell? p51) fun s =>
 NonNil s fun p54 =>
 LdP (r.cell? p54) fun v =>
 Calls Tryz.prog 117 #[(.pointer v),(.int .u64 n)] r (post R fun v2 f =>
 ∃(c:Option Addr) (a:Nat) (b:Nat) (d:Int),v2=(.tuple #[(.slice c a b),(.int .i64 d)]) ∧
 ∃(I:Bool→Int→World→Prop) (m:Bool→Int→World→Nat),I false (0:Int) f ∧
 ∀(some_:Bool) (q:Int) (h:World),I some_ q h→F75_l10 l n r20 r21 c a (fun some_' q' w2=>I some_' q' w2∧m some_' q' w2 < m some_ q h) some_ q h R))
def F75 (l:Option Addr) (n:Int) (j:World) (R:Ending→World→Prop):Prop :=
 AlM j fun r20 w1 =>
 AlM w1 fun r21 b =>
 NonNil l fun p23 =>
 LdP (b.cell? p23) fun f =>
 NonNil f fun p26 =>
 LdM (b.cell? (p26.add 2)) fun i =>
 Raw Tryz.prog (Instr.lookup 133 (.map i) (.int .u64 n) false) b fun v d =>
 ∃(h:Option Addr) (e:Nat) (a:Nat),v=(.slice h e a) ∧
 ∃(I:Int→World→Prop) (m:Int→World→Nat),I (0:Int) d ∧
 ∀(g:Int) (c:World),I g c→F75_l3 l n r20 r21 h e (fun g' w2=>I g' w2∧m g' w2 < m g c) g c R
theorem ok75 (l:Option Addr) (n:Int) {w:World}{R:Ending→World→Prop} (h:F75 l n w R):Calls Tryz.prog 75 #[(.pointer l),(.int .u64 n)] w R :=
 vc_calls (pl:=⟨157,⟨[]⟩,[(7,⟨[],[(8,9),(34,48)]⟩),(22,⟨[(6,(.s .bool))],[(6,18),(65,96)]⟩),(31,⟨[],[(143,156)]⟩),(29,⟨[],[(131,143)]⟩),(26,⟨[(4,(.s .map)),(5,(.s .map)),(6,(.s .bool))],[(4,121)]⟩)],[(3,⟨[(32,(.s (.int .i64)))],[(8,9),(32,49)]⟩),(14,⟨[],[(16,17),(76,83)]⟩),(18,⟨[],[(17,18),(85,92)]⟩),(10,⟨[(6,(.s .bool)),(63,(.s (.int .i64)))],[(6,18),(63,97)]⟩)]⟩) Tryz.func75 (by kernel_rfl) (by kernel_rfl) (by kernel_rfl) (Eq.mp (by kernel_rfl) h)
def F126 (l:Option Addr) (has:Option Nat) (e:World) (R:Ending→World→Prop):Prop :=
 Al e #[(.map has)] 167 fun has2 w1 =>
 NonNil l fun p6 =>
 LdSl (w1.cell? (p6.add 1)) fun f b c =>
 Calls Tryz.prog 94 #[(.slice f b c),(.func (.func 163) #[] #[(.pointer (some has2))])] w1 (post R fun v a =>
 ∃(d:Bool),v=(.bool d) ∧
 R (.returned (.bool (!d))) a)
theorem ok126 (l:Option Addr) (has:Option Nat) {w:World}{R:Ending→World→Prop} (h:F126 l has w R):Calls Tryz.prog 126 #[(.pointer l),(.map has)] w R :=
 vc_calls (pl:=⟨12,⟨[]⟩,[],[]⟩) Tryz.func126 (by kernel_rfl) (by kernel_rfl) (by kernel_rfl) (Eq.mp (by kernel_rfl) h)
def F163 (d:ByteArray) (cap0:Addr) (c:World) (R:Ending→World→Prop):Prop :=
 LdM (c.cell? cap0) fun e =>
 Raw Tryz.prog (Instr.lookup 167 (.map e) (.string d) true) c fun v w1 =>
 ∃(b:Bool),v=(.tuple #[(.agg #[]),(.bool b)]) ∧
 Al w1 #[] 230 fun g4 a =>
 R (.returned (.bool (!b))) a
theorem ok163 (w_:ByteArray) (cap0:Addr) {w:World}{R:Ending→World→Prop} (h:F163 w_ cap0 w R):Calls Tryz.prog 163 #[(.string w_),(.pointer (some cap0))] w R :=
 vc_calls (pl:=⟨14,⟨[]⟩,[],[]⟩) Tryz.func163 (by kernel_rfl) (by kernel_rfl) (by kernel_rfl) (Eq.mp (by kernel_rfl) h)
def F26_j17 (L6:Int→World→Prop) (a:Int) (b:World) (R:Ending→World→Prop):Prop :=
 InR .i64 (a+(1:Int))∧L6 (a+(1:Int)) b
def F26_j16 (L13:Int→World→Prop) (b:Int) (a:World) (R:Ending→World→Prop):Prop :=
 InR .i64 (b+(1:Int))∧L13 (b+(1:Int)) a
def F26_l13 (g20:Addr) (J17:World→Prop) (u:Int) (c:Option Addr) (a:Nat) (d:Option Addr) (b:Nat) (L13:Int→World→Prop) (s:Int) (ba:World) (R:Ending→World→Prop):Prop :=
 Br (decide (s < ((a:Nat):Int)))
 (∃J16:World→Prop,(∀ (f:World),J16 f→F26_j16 L13 s f R) ∧
 (IdxA c a s 1 fun z =>
 LdStr (ba.cell? z) fun y =>
 ∃S:World→Prop,S ba.drew∧∃(q:Option Nat),Held S (g20.add 3) (.map q)∧∃(r:Option Nat),Held S (g20.add 3) (.map r)∧IdxA d b s 1 fun aa =>
 ∃(v:Int),Held S aa (.int .i64 v)∧(Raw Tryz.prog (Instr.lookup 134 (.map r) (.string y) false) ba.drew fun v5 e =>
 ∃(p:Option Addr) (k:Nat) (j:Nat),v5=(.slice p k j) ∧
 S e∧Al e #[(.int .u64 u),(.int .i64 s),(.int .i64 v)] 67 fun g90 g =>
 S g∧Raw Tryz.prog (Builtin.append_ #[42,42] 42 #[(.slice p k j),(.slice (some g90) 1 1)]) g fun v6 i =>
 ∃(t:Option Addr) (n:Nat) (m:Nat),v6=(.slice t n m) ∧
 S i∧Raw Tryz.prog (Instr.mapUpdate 134 (.map q) (.string y) (.slice t n m)) i fun _ h =>
 J16 h)
 ∧ (Al ba.drew #[(.int .u64 u),(.int .i64 s),(.int .i64 v)] 67 fun g90 e =>
 S e∧Raw Tryz.prog (Instr.lookup 134 (.map r) (.string y) false) e fun v5 g =>
 ∃(p:Option Addr) (k:Nat) (j:Nat),v5=(.slice p k j) ∧
 S g∧Raw Tryz.prog (Builtin.append_ #[42,42] 42 #[(.slice p k j),(.slice (some g90) 1 1)]) g fun v6 i =>
 ∃(t:Option Addr) (n:Nat) (m:Nat),v6=(.slice t n m) ∧
 S i∧Raw Tryz.prog (Instr.mapUpdate 134 (.map q) (.string y) (.slice t n m)) i fun _ h =>
 J16 h)))
 (J17 ba)
def F26_l6 (g20:Addr) (ha:Option Addr) (da:Nat) (L6:Int→World→Prop) (pa:Int) (ka:World) (R:Ending→World→Prop):Prop :=
 Br (decide (pa < ((da:Nat):Int)))
 (∃J17:World→Prop,(∀ (ga:World),J17 ga→F26_j17 L6 pa ga R) ∧
 (IdxA ha da pa 1 fun na =>
 LdI .u64 (ka.cell? na) fun ma =>
 LdP (ka.cell? g20) fun ra =>
 Calls Tryz.prog 35 #[(.pointer ra),(.int .u64 ma)] ka (post R fun v3 ga =>
 ∃(g:Int) (i:ByteArray) (h:Option Addr) (b:Nat) (c:Nat) (e:ByteArray) (f:Option Addr) (a:Nat) (d:Nat) (q:Int),v3=(.tuple #[(.agg #[(.int .i64 g),(.string i),(.slice h b c),(.string e),(.slice f a d)]),(.int .i64 q)]) ∧
 Al ga #[(.int .i64 0),(.string (ByteArray.mk #[])),(.slice none 0 0),(.string (ByteArray.mk #[])),(.slice none 0 0)] 84 fun t fa =>
 St fa t (.int .i64 g) fun ea =>
 St ea (t.add 1) (.string i) fun y =>
 St y (t.add 2) (.slice h b c) fun ba =>
 St ba (t.add 3) (.string e) fun u =>
 St u (t.add 4) (.slice f a d) fun ca =>
 LdI .i64 (ca.cell? t) fun qa =>
 Br (qa != (2:Int))
 (J17 ca)
 (LdStr (ca.cell? (t.add 3)) fun sa =>
 Calls Tryz.prog 57 #[(.string sa)] ca (post R fun v4 s =>
 ∃(r:Option Addr) (n:Nat) (k:Nat) (v:Option Addr) (p:Nat) (j:Nat),v4=(.tuple #[(.slice r n k),(.slice v p j)]) ∧
 LdM (s.cell? (g20.add 2)) fun ja =>
 Raw Tryz.prog (Instr.mapUpdate 133 (.map ja) (.int .u64 ma) (.slice r n k)) s fun _ aa =>
 ∃(I:Int→World→Prop) (m:Int→World→Nat),I (0:Int) aa ∧
 ∀(ia:Int) (z:World),I ia z→F26_l13 g20 J17 ma r n v p (fun ia' w2=>I ia' w2∧m ia' w2 < m ia z) ia z R)))))
 (R (.returned (.tuple #[(.pointer (some g20)),(.int .i64 0)])) ka)
def F26 (d:Option Addr) (u:World) (R:Ending→World→Prop):Prop :=
 Br (d).isNone
 (R (.returned (.tuple #[(.pointer none),(.int .i64 1)])) u)
 (Calls Tryz.prog 34 #[(.pointer d)] u (post R fun v w1 =>
 ∃(t:Option Addr),v=(.pointer t) ∧
 AlM w1 fun r17 g =>
 AlM g fun r18 i =>
 Al i #[(.pointer t),(.slice none 0 0),(.map (some r17)),(.map (some r18))] 136 fun g20 h =>
 LdP (h.cell? g20) fun s =>
 Calls Tryz.prog 56 #[(.pointer s),(.int .u64 0)] h (post R fun v2 p =>
 ∃(c:Option Addr) (a:Nat) (b:Nat) (e:Int),v2=(.tuple #[(.slice c a b),(.int .i64 e)]) ∧
 St p (g20.add 1) (.slice c a b) fun j =>
 LdSl (j.cell? (g20.add 1)) fun q k f =>
 ∃(I:Int→World→Prop) (m:Int→World→Nat),I (0:Int) j ∧
 ∀(r:Int) (n:World),I r n→F26_l6 g20 q k (fun r' w2=>I r' w2∧m r' w2 < m r n) r n R)))
theorem ok26 (d:Option Addr) {w:World}{R:Ending→World→Prop} (h:F26 d w R):Calls Tryz.prog 26 #[(.pointer d)] w R :=
 vc_calls (pl:=⟨95,⟨[]⟩,[(16,⟨[],[(11,13),(69,92)]⟩),(17,⟨[],[(6,13),(39,93)]⟩)],[(13,⟨[(67,(.s (.int .i64)))],[(11,13),(67,93)]⟩),(6,⟨[(37,(.s (.int .i64)))],[(6,13),(37,94)]⟩)]⟩) Tryz.func26 (by kernel_rfl) (by kernel_rfl) (by kernel_rfl) (Eq.mp (by kernel_rfl) h)
def F54 (l:Option Addr) (lN:Nat) (lC:Nat) (b:World) (R:Ending→World→Prop):Prop :=
 Br (decide (((lN:Nat):Int) > (0:Int)))
 (Br (decide (((lN:Nat):Int)≤(16:Int)))
 (Calls Tryz.prog 94 #[(.slice l lN lC),(.func (.func 95) #[] #[])] b (post R fun v w1 =>
 ∃(a:Bool),v=(.bool a) ∧
 R (.returned (.bool (!a))) w1))
 (R (.returned (.bool false)) b))
 (R (.returned (.bool false)) b)
theorem ok54 (l:Option Addr) (lN:Nat) (lC:Nat) {w:World}{R:Ending→World→Prop} (h:F54 l lN lC w R):Calls Tryz.prog 54 #[(.slice l lN lC)] w R :=
 vc_calls (pl:=⟨16,⟨[]⟩,[],[]⟩) Tryz.func54 (by kernel_rfl) (by kernel_rfl) (by kernel_rfl) (Eq.mp (by kernel_rfl) h)
def F95 (s:ByteArray) (b:World) (R:Ending→World→Prop):Prop :=
 Calls Tryz.prog 50 #[(.string s)] b (post R fun v w1 =>
 ∃(a:Bool),v=(.bool a) ∧
 R (.returned (.bool (!a))) w1)
theorem ok95 (s:ByteArray) {w:World}{R:Ending→World→Prop} (h:F95 s w R):Calls Tryz.prog 95 #[(.string s)] w R :=
 vc_calls (pl:=⟨6,⟨[]⟩,[],[]⟩) Tryz.func95 (by kernel_rfl) (by kernel_rfl) (by kernel_rfl) (Eq.mp (by kernel_rfl) h)
def F50 (s:ByteArray) (g:World) (R:Ending→World→Prop):Prop :=
 Calls Tryz.prog 67 #[(.string s)] g (post R fun v w1 =>
 ∃(b:Int) (d:Int),v=(.tuple #[(.int .i64 b),(.int .i64 d)]) ∧
 Br (d == (0:Int))
 (Br (!(s.toList == (ByteArray.mk #[]).toList))
 (Calls Tryz.prog 85 #[(.string s)] w1 (post R fun v2 a =>
 ∃(f:ByteArray),v2=(.string f) ∧
 Br (s.toList == f.toList)
 (Calls Tryz.prog 86 #[(.string s),(.func (.func 87) #[] #[])] a (post R fun v3 c =>
 ∃(e:Int),v3=(.int .i64 e) ∧
 R (.returned (.bool (decide (e < (0:Int))))) c))
 (R (.returned (.bool false)) a)))
 (R (.returned (.bool false)) w1))
 (R (.returned (.bool false)) w1))
theorem ok50 (s:ByteArray) {w:World}{R:Ending→World→Prop} (h:F50 s w R):Calls Tryz.prog 50 #[(.string s)] w R :=
 vc_calls (pl:=⟨27,⟨[]⟩,[],[]⟩) Tryz.func50 (by kernel_rfl) (by kernel_rfl) (by kernel_rfl) (Eq.mp (by kernel_rfl) h)
def F87 (r:Int) (a:World) (R:Ending→World→Prop):Prop :=
 Br (decide (r < (128:Int)))
 (InR .u8 (r)∧Calls Tryz.prog 88 #[(.int .u8 (r))] a (post R fun v w1 =>
 ∃(b:Bool),v=(.bool b) ∧
 R (.returned (.bool (!b))) w1))
 (R (.returned (.bool false)) a)
theorem ok87 (r:Int) {w:World}{R:Ending→World→Prop} (h:F87 r w R):Calls Tryz.prog 87 #[(.int .i32 r)] w R :=
 vc_calls (pl:=⟨11,⟨[]⟩,[],[]⟩) Tryz.func87 (by kernel_rfl) (by kernel_rfl) (by kernel_rfl) (Eq.mp (by kernel_rfl) h)
def F77 (s:Option Addr) (sN:Nat) (sC:Nat) (e:World) (R:Ending→World→Prop):Prop :=
 Br (s).isNone
 (R (.returned (.slice none 0 0)) e)
 (Al e #[] 65 fun g5 w1 =>
 Raw Tryz.prog (Builtin.append_ #[23,23] 23 #[(.slice (some g5) 0 0),(.slice s sN sC)]) w1 fun v a =>
 ∃(d:Option Addr) (b:Nat) (c:Nat),v=(.slice d b c) ∧
 R (.returned (.slice d b c)) a)
theorem ok77 (s:Option Addr) (sN:Nat) (sC:Nat) {w:World}{R:Ending→World→Prop} (h:F77 s sN sC w R):Calls Tryz.prog 77 #[(.slice s sN sC)] w R :=
 vc_calls (pl:=⟨8,⟨[]⟩,[],[]⟩) Tryz.func77 (by kernel_rfl) (by kernel_rfl) (by kernel_rfl) (Eq.mp (by kernel_rfl) h)
def F94 (s:Option Addr) (sN:Nat) (sC:Nat) (f:Value) (a:World) (R:Ending→World→Prop):Prop :=
 Calls Tryz.prog 137 #[(.slice s sN sC),f] a (post R fun v w1 =>
 ∃(b:Int),v=(.int .i64 b) ∧
 R (.returned (.bool (decide (b≥(0:Int))))) w1)
theorem ok94 (s:Option Addr) (sN:Nat) (sC:Nat) (f:Value) {w:World}{R:Ending→World→Prop} (h:F94 s sN sC f w R):Calls Tryz.prog 94 #[(.slice s sN sC),f] w R :=
 vc_calls (pl:=⟨9,⟨[]⟩,[],[]⟩) Tryz.func94 (by kernel_rfl) (by kernel_rfl) (by kernel_rfl) (Eq.mp (by kernel_rfl) h)
def F79 (s:Option Addr) (sN:Nat) (sC:Nat) (v:Int) (a:World) (R:Ending→World→Prop):Prop :=
 Calls Tryz.prog 128 #[(.slice s sN sC),(.int .u64 v)] a (post R fun v2 w1 =>
 ∃(b:Int),v2=(.int .i64 b) ∧
 R (.returned (.bool (decide (b≥(0:Int))))) w1)
theorem ok79 (s:Option Addr) (sN:Nat) (sC:Nat) (v:Int) {w:World}{R:Ending→World→Prop} (h:F79 s sN sC v w R):Calls Tryz.prog 79 #[(.slice s sN sC),(.int .u64 v)] w R :=
 vc_calls (pl:=⟨9,⟨[]⟩,[],[]⟩) Tryz.func79 (by kernel_rfl) (by kernel_rfl) (by kernel_rfl) (Eq.mp (by kernel_rfl) h)
def F125 (s:Option Addr) (sN:Nat) (sC:Nat) (v:ByteArray) (a:World) (R:Ending→World→Prop):Prop :=
 Calls Tryz.prog 162 #[(.slice s sN sC),(.string v)] a (post R fun v2 w1 =>
 ∃(b:Int),v2=(.int .i64 b) ∧
 R (.returned (.bool (decide (b≥(0:Int))))) w1)
theorem ok125 (s:Option Addr) (sN:Nat) (sC:Nat) (v:ByteArray) {w:World}{R:Ending→World→Prop} (h:F125 s sN sC v w R):Calls Tryz.prog 125 #[(.slice s sN sC),(.string v)] w R :=
 vc_calls (pl:=⟨9,⟨[]⟩,[],[]⟩) Tryz.func125 (by kernel_rfl) (by kernel_rfl) (by kernel_rfl) (Eq.mp (by kernel_rfl) h)
def F76_j6 (L5:Int→Int→World→Prop) (j:Int) (i2:Int) (a:World) (R:Ending→World→Prop):Prop :=
 InR .i64 (j+(1:Int))∧L5 i2 (j+(1:Int)) a
def F76_l5 (s:Option Addr) (sN:Nat) (sC:Nat) (del:Value) (L5:Int→Int→World→Prop) (i:Int) (j:Int) (e:World) (R:Ending→World→Prop):Prop :=
 Br (decide (j < ((sN:Nat):Int)))
 (∃J6:Int→World→Prop,(∀(i2:Int) (a:World),J6 i2 a→F76_j6 L5 j i2 a R) ∧
 (IdxA s sN j 1 fun f =>
 LdI .u64 (e.cell? f) fun c =>
 CallV Tryz.prog del #[(.int .u64 c)] e R (fun v2 a =>
 ∃(g:Bool),v2=(.bool g) ∧
 Br (!g)
 (IdxA s sN i 1 fun d =>
 St a d (.int .u64 c) fun b =>
 InR .i64 (i+(1:Int))∧J6 (i+(1:Int)) b)
 (J6 i a))))
 (SlB i ((sN:Nat):Int) ((sC:Nat):Int)
 (Raw Tryz.prog (Builtin.clear_ #[23] 0 #[(.slice (SlA s sC (i).toNat 1) ((((sN:Nat):Int)).toNat-(i).toNat) (sC-(i).toNat))]) e fun v2 a =>
 SlB 0 i ((sC:Nat):Int)
 (R (.returned (.slice s (i).toNat sC)) a)))
def F76 (s:Option Addr) (sN:Nat) (sC:Nat) (del:Value) (c:World) (R:Ending→World→Prop):Prop :=
 Calls Tryz.prog 127 #[(.slice s sN sC),del] c (post R fun v w1 =>
 ∃(b:Int),v=(.int .i64 b) ∧
 Br (b == ((-1):Int))
 (R (.returned (.slice s sN sC)) w1)
 (InR .i64 (b+(1:Int))∧∃(I:Int→Int→World→Prop) (m:Int→Int→World→Nat),I b (b+(1:Int)) w1 ∧
 ∀(i:Int) (j:Int) (a:World),I i j a→F76_l5 s sN sC del (fun i' j' w2=>I i' j' w2∧m i' j' w2 < m i j a) i j a R))
theorem ok76 (s:Option Addr) (sN:Nat) (sC:Nat) (del:Value) {w:World}{R:Ending→World→Prop} (h:F76 s sN sC del w R):Calls Tryz.prog 76 #[(.slice s sN sC),del] w R :=
 vc_calls (pl:=⟨42,⟨[]⟩,[(6,⟨[(5,(.s (.int .i64)))],[(5,6),(7,36)]⟩)],[(5,⟨[(5,(.s (.int .i64))),(6,(.s (.int .i64)))],[(5,36)]⟩)]⟩) Tryz.func76 (by kernel_rfl) (by kernel_rfl) (by kernel_rfl) (Eq.mp (by kernel_rfl) h)
def F127_l2 (s:Option Addr) (sN:Nat) (f:Value) (L2:Int→World→Prop) (e:Int) (c:World) (R:Ending→World→Prop):Prop :=
 Br (decide (e < ((sN:Nat):Int)))
 (IdxA s sN e 1 fun b =>
 LdI .u64 (c.cell? b) fun a =>
 CallV Tryz.prog f #[(.int .u64 a)] c R (fun v w1 =>
 ∃(d:Bool),v=(.bool d) ∧
 Br d
 (R (.returned (.int .i64 e)) w1)
 (InR .i64 (e+(1:Int))∧L2 (e+(1:Int)) w1)))
 (R (.returned (.int .i64 (-1))) c)
def F127 (s:Option Addr) (sN:Nat) (sC:Nat) (f:Value) (a:World) (R:Ending→World→Prop):Prop :=
 ∃(I:Int→World→Prop) (m:Int→World→Nat),I (0:Int) a ∧
 ∀(b:Int) (w1:World),I b w1→F127_l2 s sN f (fun b' w2=>I b' w2∧m b' w2 < m b w1) b w1 R
theorem ok127 (s:Option Addr) (sN:Nat) (sC:Nat) (f:Value) {w:World}{R:Ending→World→Prop} (h:F127 s sN sC f w R):Calls Tryz.prog 127 #[(.slice s sN sC),f] w R :=
 vc_calls (pl:=⟨19,⟨[]⟩,[],[(2,⟨[(8,(.s (.int .i64)))],[(4,6),(8,19)]⟩)]⟩) Tryz.func127 (by kernel_rfl) (by kernel_rfl) (by kernel_rfl) (Eq.mp (by kernel_rfl) h)
def F137_l2 (s:Option Addr) (sN:Nat) (f:Value) (L2:Int→World→Prop) (e:Int) (c:World) (R:Ending→World→Prop):Prop :=
 Br (decide (e < ((sN:Nat):Int)))
 (IdxA s sN e 1 fun b =>
 LdStr (c.cell? b) fun a =>
 CallV Tryz.prog f #[(.string a)] c R (fun v w1 =>
 ∃(d:Bool),v=(.bool d) ∧
 Br d
 (R (.returned (.int .i64 e)) w1)
 (InR .i64 (e+(1:Int))∧L2 (e+(1:Int)) w1)))
 (R (.returned (.int .i64 (-1))) c)
def F137 (s:Option Addr) (sN:Nat) (sC:Nat) (f:Value) (a:World) (R:Ending→World→Prop):Prop :=
 ∃(I:Int→World→Prop) (m:Int→World→Nat),I (0:Int) a ∧
 ∀(b:Int) (w1:World),I b w1→F137_l2 s sN f (fun b' w2=>I b' w2∧m b' w2 < m b w1) b w1 R
theorem ok137 (s:Option Addr) (sN:Nat) (sC:Nat) (f:Value) {w:World}{R:Ending→World→Prop} (h:F137 s sN sC f w R):Calls Tryz.prog 137 #[(.slice s sN sC),f] w R :=
 vc_calls (pl:=⟨19,⟨[]⟩,[],[(2,⟨[(8,(.s (.int .i64)))],[(4,6),(8,19)]⟩)]⟩) Tryz.func137 (by kernel_rfl) (by kernel_rfl) (by kernel_rfl) (Eq.mp (by kernel_rfl) h)
def F128_l2 (s:Option Addr) (sN:Nat) (v:Int) (L2:Int→World→Prop) (d:Int) (a:World) (R:Ending→World→Prop):Prop :=
 Br (decide (d < ((sN:Nat):Int)))
 (IdxA s sN d 1 fun b =>
 LdI .u64 (a.cell? b) fun c =>
 Br (v == c)
 (R (.returned (.int .i64 d)) a)
 (InR .i64 (d+(1:Int))∧L2 (d+(1:Int)) a))
 (R (.returned (.int .i64 (-1))) a)
def F128 (s:Option Addr) (sN:Nat) (sC:Nat) (v:Int) (a:World) (R:Ending→World→Prop):Prop :=
 ∃(I:Int→World→Prop) (m:Int→World→Nat),I (0:Int) a ∧
 ∀(b:Int) (w1:World),I b w1→F128_l2 s sN v (fun b' w2=>I b' w2∧m b' w2 < m b w1) b w1 R
theorem ok128 (s:Option Addr) (sN:Nat) (sC:Nat) (v:Int) {w:World}{R:Ending→World→Prop} (h:F128 s sN sC v w R):Calls Tryz.prog 128 #[(.slice s sN sC),(.int .u64 v)] w R :=
 vc_calls (pl:=⟨19,⟨[]⟩,[],[(2,⟨[(8,(.s (.int .i64)))],[(4,6),(8,19)]⟩)]⟩) Tryz.func128 (by kernel_rfl) (by kernel_rfl) (by kernel_rfl) (Eq.mp (by kernel_rfl) h)
def F162_l2 (s:Option Addr) (sN:Nat) (v:ByteArray) (L2:Int→World→Prop) (d:Int) (a:World) (R:Ending→World→Prop):Prop :=
 Br (decide (d < ((sN:Nat):Int)))
 (IdxA s sN d 1 fun b =>
 LdStr (a.cell? b) fun c =>
 Br (v.toList == c.toList)
 (R (.returned (.int .i64 d)) a)
 (InR .i64 (d+(1:Int))∧L2 (d+(1:Int)) a))
 (R (.returned (.int .i64 (-1))) a)
def F162 (s:Option Addr) (sN:Nat) (sC:Nat) (v:ByteArray) (a:World) (R:Ending→World→Prop):Prop :=
 ∃(I:Int→World→Prop) (m:Int→World→Nat),I (0:Int) a ∧
 ∀(b:Int) (w1:World),I b w1→F162_l2 s sN v (fun b' w2=>I b' w2∧m b' w2 < m b w1) b w1 R
theorem ok162 (s:Option Addr) (sN:Nat) (sC:Nat) (v:ByteArray) {w:World}{R:Ending→World→Prop} (h:F162 s sN sC v w R):Calls Tryz.prog 162 #[(.slice s sN sC),(.string v)] w R :=
 vc_calls (pl:=⟨19,⟨[]⟩,[],[(2,⟨[(8,(.s (.int .i64)))],[(4,6),(8,19)]⟩)]⟩) Tryz.func162 (by kernel_rfl) (by kernel_rfl) (by kernel_rfl) (Eq.mp (by kernel_rfl) h)
def F86 (s:ByteArray) (f:Value) (a:World) (R:Ending→World→Prop):Prop :=
 Calls Tryz.prog 131 #[(.string s),f,(.bool true)] a (post R fun v w1 =>
 ∃(b:Int),v=(.int .i64 b) ∧
 R (.returned (.int .i64 b)) w1)
theorem ok86 (s:ByteArray) (f:Value) {w:World}{R:Ending→World→Prop} (h:F86 s f w R):Calls Tryz.prog 86 #[(.string s),f] w R :=
 vc_calls (pl:=⟨8,⟨[]⟩,[],[]⟩) Tryz.func86 (by kernel_rfl) (by kernel_rfl) (by kernel_rfl) (Eq.mp (by kernel_rfl) h)
end Go.Proofs.YtccplipiahdhiaaGreatDoor
namespace Go.Proofs.YtccplipiahdhiaaGreatDoor
open Go.RowKit Go.Vc
set_option linter.unusedVariables false
set_option linter.unusedSimpArgs false
set_option maxRecDepth 100000
structure CNode (w0 w:World) (o:Nat→Nat) (S:PS) (bs:List Nat) (dn:Bool) (j b:Nat) (s:Sl) (a kv:Sv):Prop where
 blk:Blk w b (nodeC j s a (ptrH (bif dn then bs else S.bs) s.parent) kv) 202
 at1:Own LAt w 0 205 (slV a) s.attrs
 at2:∀x,rowOf (slV a)=some x→o x=10+4*j
 kd1:dn=true→Own LPt w 0 152 (slV kv) (s.kids.map (pb bs))
 kd2:dn=true→∀x,rowOf (slV kv)=some x→o x=9+4*j
 kd3:dn=false→kv.2.1=s.kids.length∧Rd LPt w0 kv.1 kv.2.2 (s.kids.map (pb S.bs))
structure CDoc (w0 w:World) (o:Nat→Nat) (S:PS) (gb gc:Nat) (bs:List Nat) (nv:Sv) (k:Nat):Prop where
 bel:Below w0.heap.size w0 w
 box:Blk w gb #[.pointer (some ⟨gc,0,none⟩)] 77
 doc:Blk w gc (docC nv (none,0,0) S.lv S.wn S.lo []) 98
 nv1:Own LPt w 0 152 (slV nv) bs
 nv2:∀x,rowOf (slV nv)=some x→o x=2
 col:o gc=1
 bc:o gb=0
 lt:∀b,o b≠0→w0.heap.size≤b∧b < w.heap.size
 gbl:w0.heap.size≤gb
 len:bs.length≤S.D.sl.length
 nc:∀(j b:Nat),bs[j]?=some b→o b=8+4*j
 nd:∀(j b:Nat) (s:Sl),bs[j]?=some b→S.D.sl[j]?=some s→∃a kv,CNode w0 w o S bs (decide (j < k)) j b s a kv
theorem inR_u32 {z:Int} (h0:0≤z) (h1:z≤4294967295):InR .u32 z:=⟨by simpa [IntKind.min,IntKind.signed] using h0,by simpa [IntKind.max,IntKind.signed,IntKind.bits] using h1⟩
section
variable {w w0 w1:World}{o o0 o1:Nat→Nat}{θ:Th}{S:PS}{bs:List Nat}{nv:Sv}{gb gc k:Nat}{M:Nat→Prop}{R:Ending→World→Prop}
theorem CNode.keep {dn:Bool}{j b:Nat}{s:Sl}{a kv:Sv} (h:CNode w0 w o S bs dn j b s a kv) (hb:o b=8+4*j) (hf:Fm M w w1) (hm:∀x,(o x=8+4*j∨o x=9+4*j∨o x=10+4*j)→¬M x) (ho:∀x,o x≠0→o1 x=o x):CNode w0 w1 o1 S bs dn j b s a kv :=
 ⟨hf.blk h.blk (hm b (.inl hb)),own_fm h.at1 hf fun x hx=>hm x (.inr (.inr (h.at2 x hx))),fun x hx=>by have:=h.at2 x hx;rw [ho x (by omega)];exact this,
  fun hd=>own_fm (h.kd1 hd) hf fun x hx=>hm x (.inr (.inl (h.kd2 hd x hx))),fun hd x hx=>by have:=h.kd2 hd x hx;rw [ho x (by omega)];exact this,h.kd3⟩
theorem CDoc.keep (h:CDoc w0 w o S gb gc bs nv k) (hf:Fm M w w1) (hm:∀b,b < w.heap.size→M b→o b=0∧b≠gb∧w0.heap.size≤b):CDoc w0 w1 o S gb gc bs nv k:=by
 have hM:∀x,o x≠0→¬M x:=fun x hx hmx=>hx (hm x (h.lt x hx).2 hmx).1
 refine⟨h.bel.trans (hf.toBelow h.bel.size fun b hb hmb=>?_),hf.blk h.box fun e=>(hm gb h.box.lt e).2.1 rfl,hf.blk h.doc (hM gc (by rw [h.col];decide)),own_fm h.nv1 hf fun x hx=>hM x (by rw [h.nv2 x hx];decide),h.nv2,h.col,h.bc,
  fun b hb=>⟨(h.lt b hb).1,Nat.lt_of_lt_of_le (h.lt b hb).2 hf.size⟩,h.gbl,h.len,h.nc,fun j b s hb hs=>?_⟩
 ·have:=(hm b (Nat.lt_of_lt_of_le hb h.bel.size) hmb).2.2;omega
 ·obtain⟨a,kv,hn⟩:=h.nd j b s hb hs
  exact⟨a,kv,hn.keep (h.nc j b hb) hf (fun x hx=>hM x (by omega)) fun _ _=>rfl⟩
theorem CDoc.below (h:CDoc w0 w o S gb gc bs nv k) (hb:Below w.heap.size w w1):CDoc w0 w1 o S gb gc bs nv k :=
 h.keep (M:=fun _=>False) (.below hb) fun _ _ h=>h.elim
theorem rdO {α:Type}{L:Lay α}{B:Nat}{e:TypeId}{v:Sv}{xs:List α} (h:Own L w B e (slV v) xs):v.2.1=xs.length∧Rd L w v.1 v.2.2 xs:=by
 obtain⟨A,c,hv,hr⟩:=h.form
 rw [slvF hv];exact⟨rfl,hr⟩
theorem turn_calls (hP:PM w0 o0 θ S) (h:CDoc w0 w o S gb gc bs nv k) (hlen:bs.length=S.D.sl.length) {l:List Nat}{v:Sv} (hv:v.2.1=l.length) (hr:Rd LPt w0 v.1 v.2.2 (l.map (pb S.bs))) (hl:l.length≤1048576) (hin:∀x∈l,inN S.D.sl.length x)
  (hK:∀r w',Below w.heap.size w w'→Own LPt w' w.heap.size 152 (slV r) (l.map (pb bs))→R (.returned (slV r)) w'):Calls Tryz.prog 110 #[slV v,.pointer (some ⟨gb,0,none⟩)] w R:=by
 refine ok110 v.1 v.2.1 v.2.2 ⟨gb,0,none⟩ ?_
 unfold F110
 have hfew:=hP.few
 refine⟨fun A n c x w'=>∃m:Nat,x=m∧m≤l.length∧Below w.heap.size w w'∧Own LPt w' w.heap.size 152 (.slice A n c) ((l.take m).map (pb bs)),fun _ _ _ x _=>l.length-x.toNat,⟨0,rfl,by omega,.refl _ _,by simpa using Own.nil _ _ _ _⟩,?_⟩
 rintro A n c _ w1 ⟨m,rfl,hm,hb1,ho⟩
 unfold F110_l3
 have B1:=btr h.bel h.bel.size hb1
 have h1:=h.below hb1
 refine brd (fun hlt=>?_) (fun hge=>?_)
 ·have hm2:m < l.length:=by omega
  refine (hr.keep B1).pt (by rw [List.length_map,hv]) rfl (k:=m) (by rw [List.length_map];exact hm2) fun b o c0=>?_
  rw [List.getElem_map] at c0
  simp only [c0,lds]
  have hdr:Below w1.heap.size w1 w1.drew:=(Below.refl _ _).drew
  obtain⟨p1,s,p2⟩:=pb_get hP.len (hin _ (List.getElem_mem hm2))
  have pin:=hin _ (List.getElem_mem hm2)
  obtain⟨x,hx⟩:∃x,l[m]=x:=⟨_,rfl⟩
  rw [hx] at c0 p1 p2 pin ⊢
  unfold inN at pin
  obtain⟨n1,n2⟩:=rdO h1.nv1
  refine⟨fun w'=>Below w1.heap.size w1 w',hdr,?_⟩
  refine⟨_,fun w' hw=>by rw [(h1.box.keep hw).cell];rfl,?_⟩
  refine⟨_,_,_,fun w' hw=>by rw [(h1.doc.keep hw).cell];rfl,?_⟩
  refine⟨_,fun w' hw=>(hP.below (btr B1 B1.size hw)).cIdx p1 p2,?_⟩
  refine⟨inR_u32 (by omega) (by omega),?_⟩
  refine n2.held (fun _ h=>h) n1 (by omega) (by omega) rfl fun b2 o2 cc=>?_
  have cc:=cc 0 _ rfl
  have e1:(((x % 4294967296-1+1:Nat):Int)-1).toNat=x % 4294967296-1:=by omega
  have e2:bs[(((x % 4294967296-1+1:Nat):Int)-1).toNat]'(by omega)=pb bs x:=by
   unfold pb
   rw [List.getD_eq_getElem?_getD,List.getElem?_eq_getElem (by omega)]
   simp only [e1,Option.getD_some]
  simp only [e2,Nat.add_zero] at cc
  refine⟨_,cc,?_⟩
  refine ap1 (L:=LPt) (x:=pb bs x) (xs:=(l.take m).map (pb bs)) (.pointer none) 8 rfl (by kernel_rfl) (by kernel_rfl) (by kernel_rfl) (ho.keep hdr) (by simpa using hb1.size) (by rw [List.length_map,List.length_take];omega) (by rw [List.length_map,List.length_take];simp [maxLen];omega) fun A' c' w4 o4 g4=>⟨A',_,c',rfl,inR_i64 (by omega) (by omega),⟨m+1,by simp,by omega,(btr hb1 hb1.size hdr).trans g4.below,?_⟩,(by first | omega | (dsimp only;omega))⟩
  rw [List.take_succ_eq_append_getElem hm2,List.map_append,hx];exact o4
 ·have hm2:m=l.length:=by omega
  subst hm2
  rw [List.take_length] at ho
  exact hK (A,n,c) w1 hb1 ho
theorem CDoc.push (h:CDoc w0 w o S gb gc bs nv 0) {gm:Nat}{s:Sl} (hs:S.D.sl[bs.length]?=some s) {a kv nv':Sv} (hf:Fm (fun b=>rowOf (slV nv)=some b∨b=gc) w w1) (hgm:w.heap.size≤gm)
  (bm:Blk w1 gm (nodeC bs.length s a (ptrH S.bs s.parent) kv) 202) (ha:Own LAt w1 0 205 (slV a) s.attrs) (har:∀x,rowOf (slV a)=some x→w.heap.size≤x∧x≠gm)
  (hk:kv.2.1=s.kids.length∧Rd LPt w0 kv.1 kv.2.2 (s.kids.map (pb S.bs))) (hd:Blk w1 gc (docC nv' (none,0,0) S.lv S.wn S.lo []) 98) (hn:Own LPt w1 0 152 (slV nv') (bs++[gm]))
  (hnr:∀x,rowOf (slV nv')=some x→rowOf (slV nv)=some x∨(w.heap.size≤x∧x≠gm∧rowOf (slV a)≠some x)):∃o',CDoc w0 w1 o' S gb gc (bs++[gm]) nv' 0:=by
 have hnew:∀x,w.heap.size≤x→o x=0:=fun x hx=>Classical.byContradiction fun e=>by have:=(h.lt x e).2;omega
 have hcol:=h.col
 have hbc:=h.bc
 have hgb:=h.box.lt
 have hgc:=h.doc.lt
 have hws:=h.bel.size
 have hss:=hf.size
 let o2:Nat→Nat:=fun x=>if x=gm then 8+4*bs.length else if rowOf (slV a)=some x then 10+4*bs.length else if rowOf (slV nv')=some x then 2 else o x
 have hold:∀x,o x≠0→o2 x=o x:=fun x hx=>by
  have hxl:=(h.lt x hx).2
  show (if x=gm then _ else _)=_
  rw [if_neg (by omega),if_neg (fun e=>by have:=(har x e).1;omega)]
  split
  ·rename_i e
   rcases hnr x e with e2 | e2
   ·exact (h.nv2 x e2).symm
   ·omega
  ·rfl
 have hM:∀x,o x≠0→o x≠2→o x≠1→¬(rowOf (slV nv)=some x∨x=gc):=fun x h0 h2 h1 e=>by
  rcases e with e | e
  ·exact h2 (h.nv2 x e)
  ·subst e;exact h1 h.col
 refine⟨o2,h.bel.trans (hf.toBelow h.bel.size fun b hb e=>?_),hf.blk h.box fun e=>?_,hd,hn,fun x hx=>?_,?_,?_,fun b hb=>?_,h.gbl,?_,fun j b hb=>?_,fun j b t hb ht=>?_⟩
 ·rcases e with e | e
  ·have:=(h.lt b (by rw [h.nv2 b e];decide)).1;omega
  ·have:=(h.lt gc (by rw [h.col];decide)).1;omega
 ·rcases e with e | e
  ·rw [h.nv2 gb e] at hbc;cases hbc
  ·rw [e,hcol] at hbc;cases hbc
 ·show (if x=gm then _ else _)=_
  rcases hnr x hx with e | ⟨e1,e2,e3⟩
  ·have:=(h.lt x (by rw [h.nv2 x e];decide)).2
   rw [if_neg (by omega),if_neg (fun e=>by have:=(har x e).1;omega),if_pos hx]
  ·rw [if_neg e2,if_neg e3,if_pos hx]
 ·rw [hold gc (by rw [hcol];decide)];exact hcol
 ·show (if gb=gm then _ else _)=_
  rw [if_neg (by omega),if_neg (fun e=>by have:=(har gb e).1;omega),if_neg (fun e=>?_)]
  ·exact hbc
  ·rcases hnr gb e with e2 | e2
   ·rw [h.nv2 gb e2] at hbc;cases hbc
   ·omega
 ·by_cases h0:o b=0
  ·have hb2:(if b=gm then 8+4*bs.length else if rowOf (slV a)=some b then 10+4*bs.length else if rowOf (slV nv')=some b then 2 else o b)≠0:=hb
   by_cases e1:b=gm
   ·subst e1;exact⟨by omega,bm.lt⟩
   rw [if_neg e1] at hb2
   by_cases e2:rowOf (slV a)=some b
   ·exact⟨by have:=(har b e2).1;omega,(ha.lt b e2).2⟩
   rw [if_neg e2] at hb2
   by_cases e3:rowOf (slV nv')=some b
   ·rcases hnr b e3 with e4 | e4
    ·rw [h.nv2 b e4] at h0;cases h0
    ·exact⟨by omega,(hn.lt b e3).2⟩
   rw [if_neg e3] at hb2
   exact absurd h0 hb2
  ·have:=h.lt b h0;exact⟨this.1,by omega⟩
 ·have:=(List.getElem?_eq_some_iff.1 hs).1
  rw [List.length_append];simp only [List.length_singleton];omega
 ·rw [List.getElem?_append] at hb
  split at hb
  ·have:=h.nc j b hb
   rw [hold b (by omega)];exact this
  ·rename_i hj
   have hj2:j=bs.length:=by
    have:=(List.getElem?_eq_some_iff.1 hb).1
    simp only [List.length_singleton] at this;omega
   subst hj2
   rw [Nat.sub_self,List.getElem?_cons_zero] at hb
   cases hb
   show (if gm=gm then _ else _)=_
   rw [if_pos rfl]
 ·rw [List.getElem?_append] at hb
  split at hb
  ·obtain⟨a2,kv2,hN⟩:=h.nd j b t hb ht
   have hc:=h.nc j b hb
   have e0:decide (j < 0)=false:=decide_eq_false (by omega)
   rw [e0] at hN ⊢
   have hN2:=hN.keep (o1:=o2) hc hf (fun x hx=>hM x (by omega) (by omega) (by omega)) hold
   exact⟨a2,kv2,hN2.blk,hN2.at1,hN2.at2,(fun e=>by cases e),(fun e=>by cases e),hN2.kd3⟩
  ·rename_i hj
   have hj2:j=bs.length:=by
    have:=(List.getElem?_eq_some_iff.1 hb).1
    simp only [List.length_singleton] at this;omega
   subst hj2
   rw [Nat.sub_self,List.getElem?_cons_zero] at hb
   cases hb
   rw [hs] at ht;cases ht
   have e0:decide (bs.length < 0)=false:=decide_eq_false (by omega)
   rw [e0]
   refine⟨a,kv,bm,ha,fun x hx=>?_,(fun e=>by cases e),(fun e=>by cases e),fun _=>hk⟩
   show (if x=gm then _ else _)=_
   rw [if_neg (har x hx).2,if_pos hx]
theorem CDoc.step (h:CDoc w0 w o S gb gc bs nv k) {b:Nat}{s:Sl}{a kv:Sv} (hb:bs[k]?=some b) (hs:S.D.sl[k]?=some s) (hf:Fm (·=b) w w1) (bm:Blk w1 b (nodeC k s a (ptrH bs s.parent) kv) 202)
  (ha:Own LAt w 0 205 (slV a) s.attrs) (ha2:∀x,rowOf (slV a)=some x→o x=10+4*k) (hkv:Own LPt w1 0 152 (slV kv) (s.kids.map (pb bs))) (hr:∀x,rowOf (slV kv)=some x→o x=0∧w0.heap.size≤x∧x≠gb) :
  ∃o',CDoc w0 w1 o' S gb gc bs nv (k+1):=by
 have hcol:=h.col
 have hbc:=h.bc
 have hbb:=h.nc k b hb
 have hws:=h.bel.size
 have hbl:=h.lt b (by omega)
 have hold:∀x,o x≠0→cl o (rowOf (slV kv)) (9+4*k) x=o x:=fun x hx=>cl_old hx
 refine⟨cl o (rowOf (slV kv)) (9+4*k),h.bel.trans (hf.toBelow h.bel.size fun x hx e=>?_),hf.blk h.box fun e=>?_,hf.blk h.doc fun e=>?_,own_fm h.nv1 hf fun x hx e=>?_,fun x hx=>?_,?_,?_,fun x hx=>?_,h.gbl,h.len,fun j c hc=>?_,fun j c t hc ht=>?_⟩
 ·have e:x=b:=e
  omega
 ·have e:gb=b:=e
  rw [e,hbb] at hbc;omega
 ·have e:gc=b:=e
  rw [e,hbb] at hcol;omega
 ·have e:x=b:=e
  have:=h.nv2 x hx
  rw [e,hbb] at this;omega
 ·rw [hold x (by rw [h.nv2 x hx];decide)];exact h.nv2 x hx
 ·rw [hold gc (by rw [hcol];decide)];exact hcol
 ·unfold cl;rw [if_neg (fun e=>(hr gb e.1).2.2 rfl)];exact hbc
 ·by_cases e:o x=0
  ·unfold cl at hx
   by_cases e2:rowOf (slV kv)=some x∧o x=0
   ·exact⟨(hr x e2.1).2.1,(hkv.lt x e2.1).2⟩
   ·rw [if_neg e2] at hx;exact absurd e hx
  ·have:=h.lt x e;have:=hf.size;exact⟨(h.lt x e).1,by omega⟩
 ·have:=h.nc j c hc
  rw [hold c (by omega)];exact this
 ·by_cases ej:j=k
  ·subst ej
   rw [hb] at hc;cases hc
   rw [hs] at ht;cases ht
   rw [decide_eq_true (by omega)]
   refine⟨a,kv,bm,own_fm ha hf fun x hx e=>?_,fun x hx=>?_,fun _=>hkv,fun _ x hx=>?_,(fun e=>by cases e)⟩
   ·have e:x=b:=e
    have:=ha2 x hx
    rw [e,hbb] at this;omega
   ·rw [hold x (by rw [ha2 x hx];omega)];exact ha2 x hx
   ·exact cl_row hx (.inl (hr x hx).1)
  ·obtain⟨a2,kv2,hN⟩:=h.nd j c t hc ht
   have e1:decide (j < k+1)=decide (j < k):=decide_eq_decide.2 (by omega)
   rw [e1]
   have hcc:=h.nc j c hc
   exact⟨a2,kv2,hN.keep hcc hf (fun x hx e=>by
    have e:x=b:=e
    rw [e,hbb] at hx;omega) hold⟩
theorem CDoc.pm (hP:PM w0 o0 θ S) (h:CDoc w0 w o S gb gc bs nv S.D.sl.length) (hlen:bs.length=S.D.sl.length) {rv:Sv} (hf:Fm (·=gc) w w1) (hd:Blk w1 gc (docC nv rv S.lv S.wn S.lo []) 98)
  (hrv:Own LPt w1 0 152 (slV rv) (S.D.roots.map (pb bs))) (hr:∀x,rowOf (slV rv)=some x→o x=0∧w0.heap.size≤x) :
  ∃o',PM w1 o' ⟨gc,98,[]⟩ ⟨S.D,bs,S.lv,S.wn,S.lo⟩∧∀b,o' b≠0→w0.heap.size≤b:=by
 have hcol:=h.col
 have hold:∀x,o x≠0→cl o (rowOf (slV rv)) 3 x=o x:=fun x hx=>cl_old hx
 have hss:=hf.size
 refine⟨cl o (rowOf (slV rv)) 3,⟨?_,fun x hx=>?_,hlen,hP.few,fun j c hc=>?_,⟨nv,rv,hd,own_fm h.nv1 hf fun x hx e=>?_,fun x hx=>?_,hrv,fun x hx=>cl_row hx (.inl (hr x hx).1)⟩,fun j c t hc ht=>?_,hP.rng,hP.rts,hP.cnt⟩,fun x hx=>?_⟩
 ·show cl o _ 3 gc=1
  rw [hold gc (by rw [hcol];decide)];exact hcol
 ·by_cases e:o x=0
  ·unfold cl at hx
   by_cases e2:rowOf (slV rv)=some x∧o x=0
   ·exact (hrv.lt x e2.1).2
   ·rw [if_neg e2] at hx;exact absurd e hx
  ·have:=(h.lt x e).2;omega
 ·have:=h.nc j c hc
  rw [hold c (by omega)];exact this
 ·have e:x=gc:=e
  have:=h.nv2 x hx
  rw [e,hcol] at this;omega
 ·rw [hold x (by rw [h.nv2 x hx];decide)];exact h.nv2 x hx
 ·have hj:=(List.getElem?_eq_some_iff.1 ht).1
  obtain⟨a,kv,hN⟩:=h.nd j c t hc ht
  rw [decide_eq_true hj] at hN
  have hcc:=h.nc j c hc
  have hN2:=hN.keep (o1:=cl o (rowOf (slV rv)) 3) hcc hf (fun x hx e=>by
   have e:x=gc:=e
   rw [e,hcol] at hx;omega) hold
  exact⟨a,kv,hN2.blk,hN2.at1,hN2.at2,hN2.kd1 rfl,hN2.kd2 rfl⟩
 ·by_cases e:o x=0
  ·unfold cl at hx
   by_cases e2:rowOf (slV rv)=some x∧o x=0
   ·exact (hr x e2.1).2
   ·rw [if_neg e2] at hx;exact absurd e hx
  ·exact (h.lt x e).1
theorem rr_own {B:Nat}{e:TypeId}{α:Type}{L:Lay α}{v:Sv}{l:List α} (h:Own L w B e (slV v) l) (hl:l.length≤1048576):RR L w l v:=by
 obtain⟨h1,h2⟩:=rdO h
 exact⟨hl,h1,h2⟩
theorem clone1 (hP:PM w0 o0 θ S) (hC:CDoc w0 w o S gb gc [] (none,0,0) 0) {v:Sv} (hv:Own LPt w0 0 152 (slV v) S.bs)
  (hK:∀w' o' bs nv,bs.length=S.D.sl.length→CDoc w0 w' o' S gb gc bs nv 0→F64_l3 (some ⟨θ.g,0,none⟩) ⟨gb,0,none⟩ v.1 v.2.1 (fun _ _=>False) (S.bs.length:Nat) w' R) :
  ∃(I:Int→World→Prop) (m:Int→World→Nat),I (0:Int) w ∧
   ∀(x29:Int) (w1:World),I x29 w1→F64_l3 (some ⟨θ.g,0,none⟩) ⟨gb,0,none⟩ v.1 v.2.1 (fun x29' w2=>I x29' w2∧m x29' w2 < m x29 w1) x29 w1 R:=by
 obtain⟨n1,n2⟩:=rdO hv
 have hlen:=hP.len
 have hfew:=hP.few
 refine⟨fun x w'=>∃(m:Nat) (o':Nat→Nat) (bs:List Nat) (nv:Sv),x=m∧m≤S.bs.length∧bs.length=m∧CDoc w0 w' o' S gb gc bs nv 0,fun x _=>S.bs.length-x.toNat,⟨0,o,[],_,rfl,by omega,rfl,hC⟩,?_⟩
 rintro _ w1 ⟨m,o1,bs,nv,rfl,hm,hbm,h1⟩
 by_cases hml:m < S.bs.length
 ·unfold F64_l3
  refine brd (fun hlt=>?_) (fun hge=>absurd (by omega) hge)
  have B1:=h1.bel
  refine (n2.keep B1).pt n1 rfl (k:=m) hml fun b oo c0=>?_
  simp only [c0,lds]
  obtain⟨s,hs⟩:∃s,S.D.sl[m]?=some s:=⟨_,List.getElem?_eq_getElem (by omega)⟩
  have hgb:S.bs[m]?=some S.bs[m]:=List.getElem?_eq_getElem hml
  generalize S.bs[m]=b0 at *
  obtain⟨a,kv,hN⟩:=hP.nodes m b0 s hgb hs
  have hr:=hP.rng s (List.mem_of_getElem? hs)
  have bN:=hN.blk.keep B1
  have bN':=bN
  unfold nodeC at bN'
  simp only [NonNil_some,Addr.add_mk,Nat.zero_add,bN'.cell,lds]
  refine al fun gm w2 hb2 b2 hge2=>?_
  refine st_blk b2 (by simp) fun u1 q1 f1=>st_blk q1 (by simp) fun u2 q2 f2=>st_blk q2 (by simp) fun u3 q3 f3=>st_blk q3 (by simp) fun u4 q4 f4=>st_blk q4 (by simp) fun u5 q5 f5=>st_blk q5 (by simp) fun u6 q6 f6=>st_blk q6 (by simp) fun u7 q7 f7=>st_blk q7 (by simp) fun u8 q8 f8=>st_blk q8 (by simp) fun w3 b3 f9=>?_
  simp only [List.setIfInBounds_toArray,List.set_cons_zero,List.set_cons_succ] at b3
  have F3:Fm (·=gm) w2 w3:=((((((((f1.trans f2).trans f3).trans f4).trans f5).trans f6).trans f7).trans f8).trans f9)
  clear q1 q2 q3 q4 q5 q6 q7 q8 f1 f2 f3 f4 f5 f6 f7 f8 f9
  have D3:Below w1.heap.size w1 w3:=hb2.trans (F3.toBelow hb2.size fun b hb e=>by have e:b=gm:=e;omega)
  have bN3:=bN'.keep D3
  simp only [NonNil_some,Addr.add_mk,Nat.zero_add,bN3.cell,lds]
  have ra:=(rr_own hN.at1 hr.atf).keep (btr B1 B1.size D3)
  refine cloneOwn_calls s.attrs a ra fun a' w4 hb4 oa=>⟨_,_,_,rfl,?_⟩
  have D4:=btr D3 D3.size hb4
  refine st_blk (b3.keep hb4) (by simp) fun w5 b5 f5=>?_
  simp only [List.setIfInBounds_toArray,List.set_cons_zero,List.set_cons_succ] at b5
  have hs1:=D3.size
  have hs4:=hb4.size
  have D5:Below w1.heap.size w1 w5:=D4.trans (f5.toBelow D4.size fun b hb e=>by have e:b=gm:=e;omega)
  have h5:=h1.below D5
  have hs5:=f5.size
  have hgm:gm < w3.heap.size:=b3.lt
  have oa5:Own LAt w5 0 205 (slV a') s.attrs:=(own_fm oa f5 fun x hx e=>by have e:x=gm:=e;have:=(oa.lt x hx).1;omega).rebase fun _ _=>Nat.zero_le _
  have har:∀x,rowOf (slV a')=some x→w3.heap.size≤x∧x < w5.heap.size:=fun x hx=>⟨(oa.lt x hx).1,(oa5.lt x hx).2⟩
  have hdr:Below w5.heap.size w5 w5.drew:=(Below.refl _ _).drew
  have h5d:=h5.below hdr
  have hgcol:=h5.col
  have hbcol:=h5.bc
  obtain⟨l1,l2⟩:=rdO h5.nv1
  refine⟨fun w'=>Blk w' gb #[.pointer (some ⟨gc,0,none⟩)] 77∧Blk w' gc (docC nv (none,0,0) S.lv S.wn S.lo []) 98,⟨h5d.box,h5d.doc⟩,?_⟩
  refine⟨_,fun w' hw=>by rw [hw.1.cell];rfl,_,fun w' hw=>by rw [hw.1.cell];rfl,?_⟩
  refine⟨_,_,_,fun w' hw=>by rw [hw.2.cell];rfl,?_⟩
  refine ap1S (L:=LPt) (x:=gm) (xs:=bs) (base:=0) (.pointer none) 8 rfl (by kernel_rfl) (by kernel_rfl) (by kernel_rfl) h5d.nv1 (Nat.zero_le _) (by omega) (by simp [maxLen];omega) (fun w' hb=>⟨h5d.box.keep hb,h5d.doc.keep hb⟩) fun A' c' w6 o6 g6=>⟨A',_,c',rfl,?_⟩
  have FG:Fm (fun b=>rowOf (slV nv)=some b) w5.drew w6:=Fm.grown g6.grown fun b hb=>hb
  have bb6:=FG.blk h5d.box fun e=>by rw [h5.nv2 gb e] at hbcol;cases hbcol
  have bc6:=FG.blk h5d.doc fun e=>by rw [h5.nv2 gc e] at hgcol;cases hgcol
  refine⟨⟨bb6,bc6⟩,?_⟩
  simp only [NonNil_some]
  refine st_blk bc6 (by simp [docC]) fun w7 b7 f7=>⟨inR_i64 (by omega) (by omega),?_⟩
  rw [show Value.slice A' (bs.length+1) c'=slV (A',bs.length+1,c') from rfl,doc_set0] at b7
  have FF:Fm (fun b=>rowOf (slV nv)=some b∨b=gc) w5.drew w7:=(FG.mono fun b _ e=>.inl e).trans (f7.mono fun b _ e=>.inr e)
  have hgcl:=h5.doc.lt
  have FF1:Fm (fun b=>rowOf (slV nv)=some b∨b=gc) w1 w7:=(Fm.below (btr D5 D5.size hdr)).trans FF
  have hgcw:=(h1.lt gc (by rw [h1.col];decide)).2
  have hnvl:∀x,rowOf (slV nv)=some x→x < w1.heap.size:=fun x hx=>(h1.lt x (by rw [h1.nv2 x hx];decide)).2
  have hdl:w5.drew.heap.size=w5.heap.size:=rfl
  have bm7:Blk w7 gm (nodeC bs.length s a' (ptrH S.bs s.parent) kv) 202:=by
   refine FF.blk (show Blk w5.drew gm _ _ from ?_) fun e=>?_
   ·have:=b5.keep hdr
    rw [hbm];exact this
   ·rcases e with e | e
    ·have:=hnvl gm e;omega
    ·omega
  obtain⟨o',hC'⟩:=h1.push (s:=s) (a:=a') (kv:=kv) (nv':=(A',bs.length+1,c')) (gm:=gm) (w1:=w7) (by rw [hbm];exact hs) FF1 hge2 bm7
   (own_fm oa5 ((Fm.below hdr).trans FF) fun x hx e=>by
    rcases e with e | e
    ·have:=hnvl x e;have:=(har x hx).1;omega
    ·have:=(har x hx).1;omega)
   (fun x hx=>⟨by have:=(har x hx).1;omega,by have:=(har x hx).1;omega⟩) ⟨by have:=(rdO hN.kd1).1;rwa [List.length_map] at this,(rdO hN.kd1).2⟩ b7
   (own_fm o6 f7 fun x hx e=>by
    have e:x=gc:=e
    have hx:rowOf (Value.slice A' (bs.length+1) c')=some x:=hx
    rcases g6.row with e2 | e2 | ⟨g,e2,e3⟩
    ·have hx2:rowOf (slV nv)=some x:=by
      have:rowOf (slV (A',bs.length+1,c'))=rowOf (slV nv):=e2
      rw [←this];exact hx
     rw [e,] at hx2
     rw [h5.nv2 gc hx2] at hgcol;cases hgcol
    ·have:rowOf (slV (A',bs.length+1,c'))=none:=e2
     rw [e2] at hx;cases hx
    ·have:rowOf (Value.slice A' (bs.length+1) c')=some g:=e2
     rw [this] at hx;cases hx;omega)
   (fun x hx=>by
    have hx:rowOf (Value.slice A' (bs.length+1) c')=some x:=hx
    rcases g6.row with e2 | e2 | ⟨g,e2,e3⟩
    ·rw [e2] at hx;exact .inl hx
    ·rw [e2] at hx;cases hx
    ·rw [e2] at hx;cases hx
     exact .inr ⟨by omega,by omega,fun e=>by have:=(har x e).2;omega⟩)
  exact⟨⟨m+1,o',bs++[gm],_,by simp,by omega,by simp;omega,hC'⟩,(by first | omega | (dsimp only;omega))⟩
 ·have hm2:m=S.bs.length:=by omega
  subst hm2
  have:=hK w1 o1 bs nv (by omega) h1
  unfold F64_l3 at this ⊢
  refine brd (fun hlt=>absurd hlt (by omega)) (fun hge=>?_)
  rw [decide_eq_false (by omega),Br_f] at this
  exact this
theorem clone2 (hP:PM w0 o0 θ S) (hC:CDoc w0 w o S gb gc bs nv 0) (hlen:bs.length=S.D.sl.length) {v:Sv} (hv:Own LPt w0 0 152 (slV v) S.bs)
  (hK:∀o' w',Below w0.heap.size w0 w'→PM w' o' ⟨gc,98,[]⟩ ⟨S.D,bs,S.lv,S.wn,S.lo⟩→(∀b,o' b≠0→w0.heap.size≤b)→R (.returned (.pointer (some ⟨gc,0,none⟩))) w') :
  ∃(I:Int→World→Prop) (m:Int→World→Nat),I (0:Int) w ∧
   ∀(x58:Int) (w1:World),I x58 w1→F64_l11 (some ⟨θ.g,0,none⟩) ⟨gb,0,none⟩ v.1 v.2.1 (fun x58' w2=>I x58' w2∧m x58' w2 < m x58 w1) x58 w1 R:=by
 obtain⟨n1,n2⟩:=rdO hv
 have hl0:=hP.len
 have hfew:=hP.few
 refine⟨fun x w'=>∃(m:Nat) (o':Nat→Nat),x=m∧m≤S.bs.length∧CDoc w0 w' o' S gb gc bs nv m,fun x _=>S.bs.length-x.toNat,⟨0,o,rfl,by omega,hC⟩,?_⟩
 rintro _ w1 ⟨m,o1,rfl,hm,h1⟩
 have B1:=h1.bel
 have hdr:Below w1.heap.size w1 w1.drew:=(Below.refl _ _).drew
 have B1d:=btr B1 B1.size hdr
 have h1d:=h1.below hdr
 obtain⟨l1,l2⟩:=rdO h1.nv1
 have hcol:=h1.col
 have hbc:=h1.bc
 unfold F64_l11
 refine brd (fun hlt=>?_) (fun hge=>?_)
 ·have hml:m < S.bs.length:=by omega
  refine⟨fun w'=>∃o',CDoc w0 w' o' S gb gc bs nv (m+1),?_,?_⟩
  ·rintro w' ⟨o',h'⟩
   exact⟨inR_i64 (by omega) (by omega),⟨m+1,o',by simp,by omega,h'⟩,(by first | omega | (dsimp only;omega))⟩
  refine (n2.keep B1).pt n1 rfl (k:=m) hml fun b oo c0=>?_
  simp only [c0,lds]
  obtain⟨s,hs⟩:∃s,S.D.sl[m]?=some s:=⟨_,List.getElem?_eq_getElem (by omega)⟩
  have hgb:S.bs[m]?=some S.bs[m]:=List.getElem?_eq_getElem hml
  obtain⟨bn,hbn⟩:∃bn,bs[m]?=some bn:=⟨_,List.getElem?_eq_getElem (by omega)⟩
  obtain⟨hbl,hbn'⟩:=List.getElem?_eq_some_iff.1 hbn
  generalize S.bs[m]=b0 at *
  obtain⟨a0,kv0,hN⟩:=hP.nodes m b0 s hgb hs
  have hr:=hP.rng s (List.mem_of_getElem? hs)
  obtain⟨a,kv,hQ⟩:=h1.nd m bn s hbn hs
  rw [decide_eq_false (by omega)] at hQ
  have hbnc:=h1.nc m bn hbn
  refine⟨fun w'=>Below w1.heap.size w1 w',hdr,?_⟩
  refine⟨_,fun w' hw=>by rw [(h1.box.keep hw).cell];rfl,?_⟩
  refine⟨_,_,_,fun w' hw=>by rw [(h1.doc.keep hw).cell];rfl,?_⟩
  refine l2.held (fun _ h=>h) l1 (by omega) (by omega) rfl fun b2 o2 cc=>?_
  have cc:=cc 0 _ rfl
  simp only [Int.toNat_natCast,hbn',Nat.add_zero] at cc
  refine⟨_,cc,?_⟩
  simp only [NonNil_some,Addr.add_mk,Nat.zero_add]
  refine⟨_,_,_,fun w' hw=>by rw [((hN.blk.keep B1).keep hw).cell];rfl,?_⟩
  obtain⟨q1,q2⟩:=rdO hN.kd1
  rw [List.length_map] at q1
  refine⟨by kernel_rfl,turn_calls hP h1d hlen q1 q2 hr.few hr.kids fun r w2 hb2 or2=>⟨_,_,_,rfl,?_⟩⟩
  have D2:=btr hdr hdr.size hb2
  refine⟨D2,?_⟩
  have h2:=h1.below D2
  have hws:=D2.size
  have hrr:∀x,rowOf (slV r)=some x→w1.heap.size≤x∧x < w2.heap.size:=fun x hx=>⟨(or2.lt x hx).1,(or2.lt x hx).2⟩
  have hbnl:=h1.lt bn (by omega)
  have b2:=hQ.blk.keep D2
  refine st_blk b2 (by simp [nodeC]) fun w3 b3 f3=>?_
  have e8:(nodeC m s a (ptrH (bif false then bs else S.bs) s.parent) kv).setIfInBounds 8 (.slice r.1 r.2.1 r.2.2)=nodeC m s a (ptrH S.bs s.parent) r:=by simp [nodeC]
  rw [e8] at b3
  have hgbl:=h1.gbl
  have hws0:=B1.size
  have hwb:=h1.box.lt
  have fin:∀w':World,Fm (·=bn) w2 w'→Blk w' bn (nodeC m s a (ptrH bs s.parent) r) 202→∃o',CDoc w0 w' o' S gb gc bs nv (m+1):=fun w' f b =>
   h2.step hbn hs f b (hQ.at1.keep D2) hQ.at2 (own_fm (or2.rebase fun _ _=>Nat.zero_le _) f fun x hx e=>by have e:x=bn:=e;have:=(hrr x hx).1;omega)
    fun x hx=>⟨Classical.byContradiction fun e=>by have:=(h1.lt x e).2;have:=(hrr x hx).1;omega,by have:=(hrr x hx).1;omega,by have:=(hrr x hx).1;omega⟩
  have D3:Below w0.heap.size w0 w3:=(btr B1 B1.size D2).trans (f3.toBelow (btr B1 B1.size D2).size fun b hb e=>by have e:b=bn:=e;omega)
  have cp:w3.cell? ⟨b0,7,none⟩=some (.pointer (ptrH S.bs s.parent)):=by rw [(hN.blk.keep D3).cell];rfl
  simp only [cp,lds]
  by_cases hp0:s.parent=0
  ·have e1:ptrH S.bs s.parent=none:=by unfold ptrH;rw [if_pos hp0]
   rw [e1]
   simp only [Option.isNone_none,Bool.not_true,Br_f]
   refine fin w3 f3 ?_
   have e2:ptrH bs s.parent=none:=by unfold ptrH;rw [if_pos hp0]
   rw [e2,←e1];exact b3
  ·have hpin:=hr.par.resolve_left hp0
   have e1:ptrH S.bs s.parent=some ⟨pb S.bs s.parent,0,none⟩:=by unfold ptrH;rw [if_neg hp0]
   rw [e1]
   simp only [Option.isNone_some,Bool.not_false,Br_t]
   have hdr3:Below w3.heap.size w3 w3.drew:=(Below.refl _ _).drew
   have bx3:=f3.blk h2.box fun e=>by have e:gb=bn:=e;rw [e] at hbc;omega
   have bd3:=f3.blk h2.doc fun e=>by have e:gc=bn:=e;rw [e] at hcol;omega
   have ho3:=own_fm h2.nv1 f3 fun x hx e=>by
    have e:x=bn:=e
    have:=h2.nv2 x hx
    rw [e] at this;omega
   obtain⟨p1,s2,p2⟩:=pb_get hP.len hpin
   unfold inN at hpin
   obtain⟨j1,j2⟩:=rdO ho3
   refine⟨fun w'=>Below w3.heap.size w3 w',hdr3,?_⟩
   refine⟨_,fun w' hw=>by rw [(bx3.keep hw).cell];rfl,?_⟩
   simp only [NonNil_some,Addr.add_mk,Nat.zero_add]
   refine⟨_,_,_,fun w' hw=>by rw [(bd3.keep hw).cell];rfl,?_⟩
   refine j2.held (fun _ h=>h) j1 (by omega) (by omega) rfl fun b4 o4 cc4=>?_
   have cc4:=cc4 0 _ rfl
   simp only [Int.toNat_natCast,hbn',Nat.add_zero] at cc4
   refine⟨_,cc4,?_⟩
   refine⟨_,fun w' hw=>by rw [(bx3.keep hw).cell];rfl,?_⟩
   simp only [NonNil_some,Addr.add_mk,Nat.zero_add]
   refine⟨_,_,_,fun w' hw=>by rw [(bd3.keep hw).cell];rfl,?_⟩
   refine⟨_,fun w' hw=>by rw [((hN.blk.keep D3).keep hw).cell];show _=some (Value.pointer (ptrH S.bs s.parent));rfl,?_⟩
   rw [e1]
   simp only [NonNil_some,Addr.add_mk,Nat.zero_add]
   refine⟨_,fun w' hw=>(hP.below (btr D3 D3.size hw)).cIdx p1 p2,inR_u32 (by omega) (by omega),?_⟩
   refine j2.held (fun _ h=>h) j1 (by omega) (by omega) rfl fun b5 o5 cc5=>?_
   have cc5:=cc5 0 _ rfl
   have e3:(((s.parent % 4294967296-1+1:Nat):Int)-1).toNat=s.parent % 4294967296-1:=by omega
   have e4:bs[(((s.parent % 4294967296-1+1:Nat):Int)-1).toNat]'(by omega)=pb bs s.parent:=by
    unfold pb
    rw [List.getD_eq_getElem?_getD,List.getElem?_eq_getElem (by omega)]
    simp only [e3,Option.getD_some]
   simp only [e4,Nat.add_zero] at cc5
   refine⟨_,cc5,?_⟩
   refine st_blk (b3.keep hdr3) (by simp [nodeC]) fun w5 b5 f5=>?_
   have e7:(nodeC m s a (ptrH S.bs s.parent) r).setIfInBounds 7 (.pointer (some ⟨pb bs s.parent,0,none⟩))=nodeC m s a (ptrH bs s.parent) r:=by
    have:ptrH bs s.parent=some ⟨pb bs s.parent,0,none⟩:=by unfold ptrH;rw [if_neg hp0]
    rw [this];simp [nodeC]
   rw [e7] at b5
   exact fin w5 ((f3.trans (Fm.below hdr3)).trans f5) b5
 ·have hm2:m=S.D.sl.length:=by omega
  subst hm2
  obtain⟨nv0,rv0,hd⟩:=hP.doc
  refine⟨fun w'=>Below w1.heap.size w1 w',hdr,?_⟩
  refine⟨_,fun w' hw=>by rw [(h1.box.keep hw).cell];rfl,?_⟩
  simp only [NonNil_some,Addr.add_mk,Nat.zero_add]
  refine⟨_,_,_,fun w' hw=>by rw [((hd.blk.keep B1).keep hw).cell];rfl,?_⟩
  obtain⟨q1,q2⟩:=rdO hd.r1
  rw [List.length_map] at q1
  refine⟨by kernel_rfl,turn_calls hP h1d hlen q1 q2 hP.rts.2 hP.rts.1 fun r w2 hb2 or2=>⟨_,_,_,rfl,?_⟩⟩
  have D2:=btr hdr hdr.size hb2
  refine⟨D2,?_⟩
  have h2:=h1.below D2
  have hws:=D2.size
  refine st_blk h2.doc (by simp [docC]) fun w3 b3 f3=>?_
  rw [show Value.slice r.1 r.2.1 r.2.2=slV r from rfl,show (none,0,0)=((none,0,0):Sv) from rfl,doc_set1] at b3
  have bx3:=f3.blk h2.box fun e=>by have e:gb=gc:=e;rw [e,hcol] at hbc;cases hbc
  have cb:w3.cell? ⟨gb,0,none⟩=some (.pointer (some ⟨gc,0,none⟩)):=by rw [bx3.cell];rfl
  simp only [cb,lds]
  have hgcl:=(h1.lt gc (by rw [hcol];decide))
  have hrr:∀x,rowOf (slV r)=some x→w1.heap.size≤x∧x < w2.heap.size:=fun x hx=>⟨(or2.lt x hx).1,(or2.lt x hx).2⟩
  have hws0:=B1.size
  obtain⟨o',hPM,ho'⟩:=h2.pm hP hlen f3 b3 (own_fm (or2.rebase fun _ _=>Nat.zero_le _) f3 fun x hx e=>by have e:x=gc:=e;have:=(hrr x hx).1;omega)
   fun x hx=>⟨Classical.byContradiction fun e=>by have:=(h1.lt x e).2;have:=(hrr x hx).1;omega,by have:=(hrr x hx).1;omega⟩
  exact hK o' w3 ((btr B1 B1.size D2).trans (f3.toBelow (btr B1 B1.size D2).size fun b hb e=>by have e:b=gc:=e;omega)) hPM ho'
theorem Clone_calls (hP:PM w o0 θ S) (hK:∀gc bs o' w',Below w.heap.size w w'→PM w' o' ⟨gc,98,[]⟩ ⟨S.D,bs,S.lv,S.wn,S.lo⟩→(∀b,o' b≠0→w.heap.size≤b)→R (.returned (.pointer (some ⟨gc,0,none⟩))) w') :
  Calls Tryz.prog 64 #[.pointer (some ⟨θ.g,0,none⟩)] w R:=by
 refine ok64 (some ⟨θ.g,0,none⟩) ?_
 unfold F64
 obtain⟨nv0,rv0,hd⟩:=hP.doc
 have hdr:Below w.heap.size w w.drew:=(Below.refl _ _).drew
 have start:∀(w':World) (gb gc:Nat),Below w.heap.size w w'→w.heap.size≤gb→w.heap.size≤gc→gb≠gc→Blk w' gb #[.pointer (some ⟨gc,0,none⟩)] 77→Blk w' gc (docC (none,0,0) (none,0,0) S.lv S.wn S.lo []) 98 →
   CDoc w w' (fun b=>if b=gc then 1 else 0) S gb gc [] (none,0,0) 0:=fun w' gb gc hb h1 h2 h3 b1 b2 =>
  ⟨hb,b1,b2,Own.nil _ _ _ _,fun x hx=>(by cases hx),if_pos rfl,if_neg h3,fun b hb=>(by
   by_cases e:b=gc
   ·subst e;exact⟨h2,b2.lt⟩
   ·rw [if_neg e] at hb;exact absurd rfl hb),h1,by simp,fun j b hb=>(by simp at hb),fun j b s hb=>(by simp at hb)⟩
 refine⟨fun c w'=>∃gb gc,c=⟨gb,0,none⟩∧CDoc w w' (fun b=>if b=gc then 1 else 0) S gb gc [] (none,0,0) 0,?_,?_⟩
 ·rintro _ w1 ⟨gb,gc,rfl,h1⟩
  unfold F64_j2
  have c0:w1.cell? ⟨θ.g,0,none⟩=some (.slice nv0.1 nv0.2.1 nv0.2.2):=by rw [(hd.blk.keep h1.bel).cell];rfl
  simp only [NonNil_some,c0,lds]
  refine clone1 hP h1 hd.n1 fun w2 o2 bs nv hl h2=>?_
  unfold F64_l3
  obtain⟨n1,n2⟩:=rdO hd.n1
  refine brd (fun hlt=>absurd hlt (by omega)) fun _=>?_
  have c2:w2.cell? ⟨θ.g,0,none⟩=some (.slice nv0.1 nv0.2.1 nv0.2.2):=by rw [(hd.blk.keep h2.bel).cell];rfl
  simp only [NonNil_some,c2,lds]
  exact clone2 hP h2 hl hd.n1 fun o' w' hb hPM ho=>hK gc bs o' w' hb hPM ho
 ·refine⟨fun w'=>Below w.heap.size w w',hdr,?_⟩
  simp only [NonNil_some,Addr.add_mk,Nat.zero_add]
  refine⟨_,fun w' hw=>by rw [(hd.blk.keep hw).cell];rfl,_,fun w' hw=>by rw [(hd.blk.keep hw).cell];rfl,_,fun w' hw=>by rw [(hd.blk.keep hw).cell];rfl,?_,?_⟩
  ·refine al fun gc w1 hb1 b1 hge1=>al fun gb w2 hb2 b2 hge2=>?_
   refine st_blk b2 (by simp) fun w3 b3 f3=>?_
   simp only [List.setIfInBounds_toArray,List.set_cons_zero,List.set_cons_succ] at b3
   have D2:=btr (btr hdr hdr.size hb1) (btr hdr hdr.size hb1).size hb2
   have hl1:=b1.lt
   have hs1:=hb1.size
   have hds:w.drew.heap.size=w.heap.size:=rfl
   exact⟨gb,gc,rfl,start w3 gb gc (D2.trans (f3.toBelow D2.size fun b hb e=>by have e:b=gb:=e;omega)) (by omega) (by omega) (by omega) b3 (f3.blk (b1.keep hb2) fun e=>by have e:gc=gb:=e;omega)⟩
  ·refine al fun gb w1 hb1 b1 hge1=>⟨btr hdr hdr.size hb1,?_⟩
   refine al fun gc w2 hb2 b2 hge2=>?_
   refine st_blk (b1.keep hb2) (by simp) fun w3 b3 f3=>?_
   simp only [List.setIfInBounds_toArray,List.set_cons_zero,List.set_cons_succ] at b3
   have D2:=btr (btr hdr hdr.size hb1) (btr hdr hdr.size hb1).size hb2
   have hl1:=b1.lt
   have hs1:=hb1.size
   have hds:w.drew.heap.size=w.heap.size:=rfl
   exact⟨gb,gc,rfl,start w3 gb gc (D2.trans (f3.toBelow D2.size fun b hb e=>by have e:b=gb:=e;omega)) (by omega) (by omega) (by omega) b3 (f3.blk b2 fun e=>by have e:gc=gb:=e;omega)⟩
end
set_option maxRecDepth 100000
section
variable {w w0 w1:World}{o:Nat→Nat}{θ:Th}{S:PS}{R:Ending→World→Prop}
def plV (s:Sl) (v:Sv):Value:=.agg #[.int .i64 s.kind,.string s.nm,.slice v.1 v.2.1 v.2.2,.string s.text,.slice none 0 0]
theorem plain_calls (h:PM w o θ S) {x:Nat}{s:Sl} (hx:slA S.D.sl x=some s) (hK:∀v w',Below w.heap.size w w'→Own LAt w' w.heap.size 205 (slV v) s.attrs→R (.returned (plV s v)) w'):Calls Tryz.prog 66 #[.pointer (some ⟨pb S.bs x,0,none⟩)] w R:=by
 refine ok66 (some ⟨pb S.bs x,0,none⟩) ?_
 unfold F66
 obtain⟨i,i1,i2,i3,i4⟩:=h.of hx
 obtain⟨a,kv,hN⟩:=h.nodes i _ s i2 i3
 have hr:=h.rng s (List.mem_of_getElem? i3)
 refine al fun g w1 hb1 b1 hge1=>?_
 have hdr:Below w1.heap.size w1 w1.drew:=(Below.refl _ _).drew
 have bN:=hN.blk.keep hb1
 refine⟨fun w'=>Below w1.heap.size w1 w',hdr,?_⟩
 simp only [NonNil_some,Addr.add_mk,Nat.zero_add]
 refine⟨_,fun w' hw=>by rw [(bN.keep hw).cell];rfl,_,fun w' hw=>by rw [(bN.keep hw).cell];rfl,_,_,_,fun w' hw=>by rw [(bN.keep hw).cell];rfl,_,fun w' hw=>by rw [(bN.keep hw).cell];rfl,?_⟩
 have B1d:=btr hb1 hb1.size hdr
 refine cloneOwn_calls s.attrs a ((rr_own hN.at1 hr.atf).keep B1d) fun v w2 hb2 ov=>⟨_,_,_,rfl,?_⟩
 have D2:=btr hdr hdr.size hb2
 refine⟨D2,?_⟩
 refine st_blk (b1.keep D2) (by simp) fun u1 q1 f1=>st_blk q1 (by simp) fun u2 q2 f2=>st_blk q2 (by simp) fun u3 q3 f3=>st_blk q3 (by simp) fun u4 q4 f4=>st_blk q4 (by simp) fun w3 b3 f5=>?_
 simp only [List.setIfInBounds_toArray,List.set_cons_zero,List.set_cons_succ] at b3
 have F3:Fm (·=g) w2 w3:=(((f1.trans f2).trans f3).trans f4).trans f5
 have B2:=btr B1d B1d.size hb2
 have hs1:=hb1.size
 have hds:w1.drew.heap.size=w1.heap.size:=rfl
 have hgl:=b1.lt
 simp only [Addr.add_mk,Nat.zero_add,b3.cell,lds]
 refine hK v w3 (B2.trans (F3.toBelow B2.size fun b hb e=>by have e:b=g:=e;omega)) ((own_fm ov F3 fun x hx e=>by have e:x=g:=e;have:=(ov.lt x hx).1;omega).rebase fun x hx=>by have:=(ov.lt x hx).1;omega)
theorem Get_calls (h:PM w o θ S) {x:Nat}{s:Sl} (hx:slA S.D.sl x=some s) (hK:∀v w',Below w.heap.size w w'→Own LAt w' w.heap.size 205 (slV v) s.attrs→R (.returned (.tuple #[plV s v,.int .i64 0])) w') :
  Calls Tryz.prog 35 #[.pointer (some ⟨θ.g,0,none⟩),.int .u64 (x:Nat)] w R:=by
 refine ok35 (some ⟨θ.g,0,none⟩) x ?_
 unfold F35
 refine al fun g w1 hb1 b1 hge1=>?_
 have hxl:=hx_lt h hx
 refine atL_calls (h.below hb1) hxl fun w2 hb2=>⟨_,rfl,?_⟩
 have e:ptrL S x=some ⟨pb S.bs x,0,none⟩:=by unfold ptrL;rw [hx];rfl
 rw [e]
 simp only [Option.isNone_some,Br_f,Addr.add_mk,Nat.zero_add]
 have B2:=btr hb1 hb1.size hb2
 refine plain_calls (h.below B2) hx ?_
 intro v w3 hb3 ov
 refine⟨s.kind,s.nm,v.1,v.2.1,v.2.2,s.text,none,0,0,by rw [plV],?_⟩
 have B3:=btr B2 B2.size hb3
 refine st_blk ((b1.keep hb2).keep hb3) (by simp) fun u1 q1 f1=>st_blk q1 (by simp) fun u2 q2 f2=>st_blk q2 (by simp) fun u3 q3 f3=>st_blk q3 (by simp) fun u4 q4 f4=>st_blk q4 (by simp) fun w4 b4 f5=>?_
 simp only [List.setIfInBounds_toArray,List.set_cons_zero,List.set_cons_succ] at b4
 have F4:Fm (·=g) w3 w4:=(((f1.trans f2).trans f3).trans f4).trans f5
 have hs1:=hb1.size
 have hs2:=hb2.size
 have hgl:=b1.lt
 simp only [Addr.add_mk,Nat.zero_add,b4.cell,lds]
 refine hK v w4 (B3.trans (F4.toBelow B3.size fun b hb e=>by have e:b=g:=e;omega)) ((own_fm ov F4 fun x hx e=>by have e:x=g:=e;have:=(ov.lt x hx).1;omega).rebase fun x hx=>by have:=(ov.lt x hx).1;omega)
theorem Tree_calls {k g:Nat}{ty:TypeId}{D:Im} (h:LD k g ty w o D) (hK:∀gc bs o' w' S',Below w.heap.size w w'→S'.D=D→PM w' o' ⟨gc,98,[]⟩ S'→S'.bs=bs→(∀b,o' b≠0→w.heap.size≤b)→PI S'→R (.returned (.pointer (some ⟨gc,0,none⟩))) w') :
  Calls Tryz.prog 34 #[.pointer (some ⟨g,0,none⟩)] w R:=by
 obtain⟨S,nms,gv,E,rfl,h⟩:=h
 obtain⟨tl,-,hp⟩:=h.x.pm
 refine ok34 (some ⟨g,0,none⟩) ?_
 unfold F34
 simp only [NonNil_some]
 refine Clone_calls (θ:=⟨g,ty,tl⟩) hp ?_
 intro gc bs o' w' hb hq ho
 refine⟨some ⟨gc,0,none⟩,rfl,?_⟩
 exact hK gc bs o' w' ⟨S.D,bs,S.lv,S.wn,S.lo⟩ hb rfl hq rfl ho ⟨h.pi.lv,h.pi.wn,h.pi.lo,h.pi.lo2⟩
end
set_option maxRecDepth 100000
def idxP {α:Type} (p:α→Bool):List α→Nat→Int
 | [],_=>-1
 | y :: l,i=>if p y=true then (i:Nat) else idxP p l (i+1)
theorem idxP_ge {α:Type} (p:α→Bool):∀(l:List α) (i:Nat),(0≤idxP p l i)↔l.any p=true
 | [],i=>by simp [idxP]
 | y :: l,i=>by
  rw [idxP,List.any_cons,Bool.or_eq_true]
  by_cases h:p y=true
  ·rw [if_pos h];simp [h]
  ·rw [if_neg h,idxP_ge p l (i+1)];simp [h]
theorem idxP_any {α:Type} (p:α→Bool) (l:List α):decide (idxP p l 0≥0)=l.any p:=by
 rw [Bool.eq_iff_iff,decide_eq_true_iff];exact idxP_ge p l 0
section
variable {w:World}{R:Ending→World→Prop}
def RdV {α:Type} (L:Lay α) (w:World) (l:List α) (v:Sv):Prop:=v.2.1=l.length∧l.length < 4611686018427387904∧Rd L w v.1 v.2.2 l
theorem RdV.keep {α:Type}{L:Lay α}{w1:World}{l:List α}{v:Sv} (h:RdV L w l v) (hb:Below w.heap.size w w1):RdV L w1 l v:=⟨h.1,h.2.1,h.2.2.keep hb⟩
theorem rdV_own {α:Type}{L:Lay α}{B:Nat}{e:TypeId}{v:Sv}{l:List α} (h:Own L w B e (slV v) l) (hl:l.length < 4611686018427387904):RdV L w l v:=⟨(rdO h).1,hl,(rdO h).2⟩
theorem Rd.str {A:Option Addr}{c:Nat}{xs:List ByteArray} (h:Rd LS w A c xs) {n:Nat} (hn:n=xs.length) {i:Int}{k:Nat} (hi:i=k) (hk:k < xs.length) {K:Addr→Prop}
  (hK:∀b o,w.cell? ⟨b,o,none⟩=some (.string xs[k])→K ⟨b,o,none⟩):IdxA A n i 1 K:=by
 subst hi
 refine h.idx hn (by omega) (by omega) rfl fun b o hc=>?_
 simp only [Int.toNat_natCast] at hc
 exact hK b o (hc 0 _ rfl)
theorem indexFS (l:List ByteArray) (v:Sv) (f:Value) (p:ByteArray→Bool) (hl:RdV LS w l v)
  (hf:∀y∈l,∀(w1:World) (K:Value→World→Prop) (R':Ending→World→Prop),Below w.heap.size w w1→(∀w2,Below w1.heap.size w1 w2→K (.bool (p y)) w2)→CallV Tryz.prog f #[.string y] w1 R' K)
  (h:∀w',Below w.heap.size w w'→R (.returned (.int .i64 (idxP p l 0))) w'):Calls Tryz.prog 137 #[.slice v.1 v.2.1 v.2.2,f] w R:=by
 obtain⟨z1,z0,z2⟩:=hl
 refine ok137 v.1 v.2.1 v.2.2 f ?_
 unfold F137
 refine⟨fun i w'=>∃k:Nat,i=k∧k≤l.length∧Below w.heap.size w w'∧idxP p (l.drop k) k=idxP p l 0,fun i _=>l.length-i.toNat,⟨0,rfl,by omega,Below.refl _ _,by simp⟩,?_⟩
 rintro i w1 ⟨k,rfl,hk,hb1,hF⟩
 unfold F137_l2
 refine brd (fun hlt=>?_) (fun hge=>?_)
 ·have hk2:k < l.length:=by omega
  rw [List.drop_eq_getElem_cons hk2,idxP] at hF
  refine (z2.keep hb1).str z1 rfl (k:=k) hk2 fun b o c0=>?_
  simp only [c0,lds]
  refine hf _ (List.getElem_mem hk2) w1 _ R hb1 fun w2 hb2=>⟨_,rfl,?_⟩
  have B2:=btr hb1 hb1.size hb2
  refine br (fun hp=>?_) (fun hp=>?_)
  ·rw [if_pos hp] at hF
   rw [hF];exact h w2 B2
  ·rw [if_neg (by rw [hp];decide)] at hF
   exact⟨inR_i64 (by omega) (by omega),⟨k+1,by simp,by omega,B2,hF⟩,(by first | omega | (dsimp only;omega))⟩
 ·have hk2:k=l.length:=by omega
  subst hk2
  rw [List.drop_length,idxP] at hF
  rw [hF];exact h w1 hb1
theorem indexFH (l:List Nat) (v:Sv) (f:Value) (p:Nat→Bool) (hl:RdV LHn w l v)
  (hf:∀y∈l,∀(w1:World) (K:Value→World→Prop) (R':Ending→World→Prop),Below w.heap.size w w1→(∀w2,Below w1.heap.size w1 w2→K (.bool (p y)) w2)→CallV Tryz.prog f #[.int .u64 (y:Nat)] w1 R' K)
  (h:∀w',Below w.heap.size w w'→R (.returned (.int .i64 (idxP p l 0))) w'):Calls Tryz.prog 127 #[.slice v.1 v.2.1 v.2.2,f] w R:=by
 obtain⟨z1,z0,z2⟩:=hl
 refine ok127 v.1 v.2.1 v.2.2 f ?_
 unfold F127
 refine⟨fun i w'=>∃k:Nat,i=k∧k≤l.length∧Below w.heap.size w w'∧idxP p (l.drop k) k=idxP p l 0,fun i _=>l.length-i.toNat,⟨0,rfl,by omega,Below.refl _ _,by simp⟩,?_⟩
 rintro i w1 ⟨k,rfl,hk,hb1,hF⟩
 unfold F127_l2
 refine brd (fun hlt=>?_) (fun hge=>?_)
 ·have hk2:k < l.length:=by omega
  rw [List.drop_eq_getElem_cons hk2,idxP] at hF
  refine (z2.keep hb1).hn z1 rfl (k:=k) hk2 fun b o c0=>?_
  simp only [c0,lds]
  refine hf _ (List.getElem_mem hk2) w1 _ R hb1 fun w2 hb2=>⟨_,rfl,?_⟩
  have B2:=btr hb1 hb1.size hb2
  refine br (fun hp=>?_) (fun hp=>?_)
  ·rw [if_pos hp] at hF
   rw [hF];exact h w2 B2
  ·rw [if_neg (by rw [hp];decide)] at hF
   exact⟨inR_i64 (by omega) (by omega),⟨k+1,by simp,by omega,B2,hF⟩,(by first | omega | (dsimp only;omega))⟩
 ·have hk2:k=l.length:=by omega
  subst hk2
  rw [List.drop_length,idxP] at hF
  rw [hF];exact h w1 hb1
theorem containsFS (l:List ByteArray) (v:Sv) (f:Value) (p:ByteArray→Bool) (hl:RdV LS w l v)
  (hf:∀y∈l,∀(w1:World) (K:Value→World→Prop) (R':Ending→World→Prop),Below w.heap.size w w1→(∀w2,Below w1.heap.size w1 w2→K (.bool (p y)) w2)→CallV Tryz.prog f #[.string y] w1 R' K)
  (h:∀w',Below w.heap.size w w'→R (.returned (.bool (l.any p))) w'):Calls Tryz.prog 94 #[.slice v.1 v.2.1 v.2.2,f] w R:=by
 refine ok94 v.1 v.2.1 v.2.2 f ?_
 unfold F94
 refine indexFS l v f p hl hf fun w' hb=>⟨_,rfl,?_⟩
 rw [idxP_any];exact h w' hb
theorem indexS (l:List ByteArray) (v:Sv) (x:ByteArray) (hl:RdV LS w l v) (h:R (.returned (.int .i64 (idxP (fun y=>decide (y=x)) l 0))) w):Calls Tryz.prog 162 #[.slice v.1 v.2.1 v.2.2,.string x] w R:=by
 obtain⟨z1,z0,z2⟩:=hl
 refine ok162 v.1 v.2.1 v.2.2 x ?_
 unfold F162
 refine⟨fun i w'=>∃k:Nat,i=k∧k≤l.length∧w=w'∧idxP (fun y=>decide (y=x)) (l.drop k) k=idxP (fun y=>decide (y=x)) l 0,fun i _=>l.length-i.toNat,⟨0,rfl,by omega,rfl,by simp⟩,?_⟩
 rintro i w1 ⟨k,rfl,hk,rfl,hF⟩
 unfold F162_l2
 refine brd (fun hlt=>?_) (fun hge=>?_)
 ·have hk2:k < l.length:=by omega
  rw [List.drop_eq_getElem_cons hk2,idxP] at hF
  refine z2.str z1 rfl (k:=k) hk2 fun b o c0=>?_
  simp only [c0,lds]
  rw [bytes_eq]
  refine brd (fun hp=>?_) (fun hp=>?_)
  ·rw [if_pos (decide_eq_true hp.symm)] at hF
   rw [hF];exact h
  ·rw [if_neg (by simpa using fun e=>hp e.symm)] at hF
   exact⟨inR_i64 (by omega) (by omega),⟨k+1,by simp,by omega,trivial,hF⟩,(by first | omega | (dsimp only;omega))⟩
 ·have hk2:k=l.length:=by omega
  subst hk2
  rw [List.drop_length,idxP] at hF
  rw [hF];exact h
theorem containsS (l:List ByteArray) (v:Sv) (x:ByteArray) (hl:RdV LS w l v) (h:R (.returned (.bool (memB x l))) w):Calls Tryz.prog 125 #[.slice v.1 v.2.1 v.2.2,.string x] w R:=by
 refine ok125 v.1 v.2.1 v.2.2 x ?_
 unfold F125
 refine indexS l v x hl ⟨_,rfl,?_⟩
 rw [idxP_any];exact h
theorem indexHn (l:List Nat) (v:Sv) (x:Nat) (hl:RdV LHn w l v) (h:R (.returned (.int .i64 (idxP (fun y=>decide (y=x)) l 0))) w):Calls Tryz.prog 128 #[.slice v.1 v.2.1 v.2.2,.int .u64 (x:Nat)] w R:=by
 obtain⟨z1,z0,z2⟩:=hl
 refine ok128 v.1 v.2.1 v.2.2 x ?_
 unfold F128
 refine⟨fun i w'=>∃k:Nat,i=k∧k≤l.length∧w=w'∧idxP (fun y=>decide (y=x)) (l.drop k) k=idxP (fun y=>decide (y=x)) l 0,fun i _=>l.length-i.toNat,⟨0,rfl,by omega,rfl,by simp⟩,?_⟩
 rintro i w1 ⟨k,rfl,hk,rfl,hF⟩
 unfold F128_l2
 refine brd (fun hlt=>?_) (fun hge=>?_)
 ·have hk2:k < l.length:=by omega
  rw [List.drop_eq_getElem_cons hk2,idxP] at hF
  refine z2.hn z1 rfl (k:=k) hk2 fun b o c0=>?_
  simp only [c0,lds]
  refine bre (fun hp=>?_) (fun hp=>?_)
  ·rw [if_pos (decide_eq_true (by omega))] at hF
   rw [hF];exact h
  ·rw [if_neg (by simp;omega)] at hF
   exact⟨inR_i64 (by omega) (by omega),⟨k+1,by simp,by omega,trivial,hF⟩,(by first | omega | (dsimp only;omega))⟩
 ·have hk2:k=l.length:=by omega
  subst hk2
  rw [List.drop_length,idxP] at hF
  rw [hF];exact h
theorem containsHn (l:List Nat) (v:Sv) (x:Nat) (hl:RdV LHn w l v) (h:R (.returned (.bool (l.any fun y=>decide (y=x)))) w):Calls Tryz.prog 79 #[.slice v.1 v.2.1 v.2.2,.int .u64 (x:Nat)] w R:=by
 refine ok79 v.1 v.2.1 v.2.2 x ?_
 unfold F79
 refine indexHn l v x hl ⟨_,rfl,?_⟩
 rw [idxP_any];exact h
end
set_option maxRecDepth 100000
structure MsE (es:Array MapEntry) (clock:Nat) (f:ByteArray→Option Value):Prop where
 key:∀x∈es.toList,∃k,x.key=.string k∧f k=some x.val
 has:∀k v,f k=some v→∃x∈es.toList,x.key=.string k
 one:(es.toList.map (·.key)).Nodup
 born:∀x∈es.toList,x.born < clock
 age:(es.toList.map (·.born)).Nodup
def Ms (w:World) (b:Nat) (f:ByteArray→Option Value):Prop:=∃es clock,w.heap[b]?=some (.map es clock)∧MsE es clock f
theorem ba_beq (a b:ByteArray):(a == b)=decide (a=b):=by
 obtain⟨a⟩:=a
 obtain⟨b⟩:=b
 have:((⟨a⟩:ByteArray) == ⟨b⟩)=(a == b):=rfl
 rw [this,Bool.eq_iff_iff,beq_iff_eq,decide_eq_true_eq]
 constructor
 ·rintro rfl;rfl
 ·intro h;injection h
theorem findNow_str {k:ByteArray}:∀(l:List MapEntry) (i:Nat),(∀x∈l,∃a,x.key=.string a) →
  (Instr.findNow .string (.string k) l i=some none∧∀x∈l,x.key≠.string k)∨∃j x,l[j]?=some x∧x.key=.string k∧Instr.findNow .string (.string k) l i=some (some (i+j,x.val))
 | [],i,_=>.inl ⟨rfl,fun x h=>by simp at h⟩
 | x :: l,i,h=>by
  obtain⟨a,ha⟩:=h x (by simp)
  by_cases hk:k=a
  ·subst hk
   refine .inr ⟨0,x,rfl,ha,?_⟩
   simp [Instr.findNow,ha,Instr.sameNow,ba_beq]
  ·have e:Instr.findNow .string (.string k) (x :: l) i=Instr.findNow .string (.string k) l (i+1):=by
    have hb:(k == a)=false:=by rw [ba_beq];exact decide_eq_false hk
    simp [Instr.findNow,ha,Instr.sameNow,hb]
   rcases findNow_str l (i+1) fun y hy=>h y (by simp [hy]) with ⟨h1,h2⟩ | ⟨j,y,h1,h2,h3⟩
   ·refine .inl ⟨by rw [e,h1],fun y hy=>?_⟩
    rcases List.mem_cons.1 hy with rfl | hy
    ·rw [ha];intro h;injection h with h;exact hk h.symm
    ·exact h2 y hy
   ·exact .inr ⟨j+1,y,by simpa using h1,h2,by rw [e,h3];congr 2;simp;omega⟩
section
variable {P:Program}{w:World}{b:Nat}{f:ByteArray→Option Value}{t kt et:TypeId}
theorem Ms.find (h:Ms w b f) (k:ByteArray):∃es clock,w.heap[b]?=some (.map es clock)∧MsE es clock f ∧
  ((f k=none∧Instr.findNow .string (.string k) es.toList 0=some none)∨∃j x,es.toList[j]?=some x∧x.key=.string k∧f k=some x.val∧Instr.findNow .string (.string k) es.toList 0=some (some (j,x.val))):=by
 obtain⟨es,clock,hb,he⟩:=h
 refine⟨es,clock,hb,he,?_⟩
 rcases findNow_str (k:=k) es.toList 0 fun x hx=>(he.key x hx).imp fun _ h=>h.1 with ⟨h1,h2⟩ | ⟨j,x,h1,h2,h3⟩
 ·refine .inl ⟨?_,h1⟩
  cases hf:f k with
  | none=>rfl
  | some v =>
   obtain⟨x,hx,hk⟩:=he.has k v hf
   exact absurd hk (h2 x hx)
 ·refine .inr ⟨j,x,h1,h2,?_,by simpa using h3⟩
  obtain⟨a,ha,hv⟩:=he.key x (List.mem_of_getElem? h1)
  rw [h2] at ha;injection ha with ha;subst ha;exact hv
theorem Ms.look (h:Ms w b f) (ht:P.underlying t=some (.map kt et)) (hk:P.underlying kt=some .string) {z:Value} (hz:(zeroValue et).run P w=.ok z w) (k:ByteArray) (c:Bool) {K:Value→World→Prop}
  (hK:K (if c then .tuple #[(f k).getD z,.bool (f k).isSome] else (f k).getD z) w):Raw P (Instr.lookup t (.map (some b)) (.string k) c) w K:=by
 obtain⟨es,clock,hb,he,h2⟩:=h.find k
 have hc:(Instr.checkKey es.isEmpty 10000 kt (.string k)).run P w=.ok () w:=MapKept.run_checkKey (k:=.string k) hk (by simp [MapKept.IsKey]) _ 9999
 rcases h2 with ⟨h1,h2⟩ | ⟨j,x,h3,h4,h1,h2⟩
 ·rw [h1] at hK
  refine⟨_,w,?_,hK⟩
  simp [Instr.lookup,run_underlying ht,MapKept.run_getObj_map hb,hc,MapKept.run_findKey hk h2,hz,Result.andThen]
 ·rw [h1] at hK
  refine⟨_,w,?_,hK⟩
  simp [Instr.lookup,run_underlying ht,MapKept.run_getObj_map hb,hc,MapKept.run_findKey hk h2,Result.andThen]
def updS (f:ByteArray→Option Value) (k:ByteArray) (v:Option Value):ByteArray→Option Value:=fun j=>if j=k then v else f j
theorem Ms.lt (h:Ms w b f):b < w.heap.size:=by
 obtain⟨es,clock,hb,_⟩:=h;exact (Array.getElem?_eq_some_iff.1 hb).1
theorem MsE.push {es:Array MapEntry}{clock:Nat} (he:MsE es clock f) {k:ByteArray} (hk:f k=none) (v:Value):MsE (es.push ⟨.string k,v,clock⟩) (clock+1) (updS f k (some v)):=by
 have hne:∀x∈es.toList,∀a,x.key=.string a→a≠k:=fun x hx a ha e=>by
  obtain⟨a',h1,h2⟩:=he.key x hx
  rw [ha] at h1;injection h1 with h1;subst h1;subst e;rw [hk] at h2;cases h2
 refine⟨fun x hx=>?_,fun j u hu=>?_,?_,fun x hx=>?_,?_⟩
 ·rw [Array.toList_push] at hx
  rcases List.mem_append.1 hx with hx | hx
  ·obtain⟨a,h1,h2⟩:=he.key x hx
   exact⟨a,h1,by unfold updS;rw [if_neg (hne x hx a h1)];exact h2⟩
  ·rw [List.mem_singleton] at hx;subst hx
   exact⟨k,rfl,by unfold updS;rw [if_pos rfl]⟩
 ·unfold updS at hu
  by_cases e:j=k
  ·subst e;exact⟨⟨.string j,v,clock⟩,by simp,rfl⟩
  ·rw [if_neg e] at hu
   obtain⟨x,hx,h1⟩:=he.has j u hu
   exact⟨x,by simp [Array.mem_toList_iff.1 hx],h1⟩
 ·rw [Array.toList_push,List.map_append,List.nodup_append]
  refine⟨he.one,by simp,fun x hx y hy e=>?_⟩
  rw [List.map_singleton,List.mem_singleton] at hy
  obtain⟨z,hz,rfl⟩:=List.mem_map.1 hx
  obtain⟨a,h1,-⟩:=he.key z hz
  rw [h1,hy] at e;injection e with e
  exact hne z hz a h1 e
 ·rw [Array.toList_push] at hx
  rcases List.mem_append.1 hx with hx | hx
  ·have:=he.born x hx;omega
  ·rw [List.mem_singleton] at hx;subst hx;exact Nat.lt_succ_self _
 ·rw [Array.toList_push,List.map_append,List.nodup_append]
  refine⟨he.age,by simp,fun x hx y hy e=>?_⟩
  rw [List.map_singleton,List.mem_singleton] at hy
  obtain⟨z,hz,rfl⟩:=List.mem_map.1 hx
  have:=he.born z hz
  simp only at hy e
  omega
theorem MsE.put {es:Array MapEntry}{clock:Nat} (he:MsE es clock f) {k:ByteArray}{j:Nat}{y:MapEntry} (hj:es.toList[j]?=some y) (hy:y.key=.string k) (v:Value) :
  MsE (es.modify j fun e=>{ e with key:=.string k,val:=v }) clock (updS f k (some v)):=by
 have hym:=List.mem_of_getElem? hj
 have hkeys:(es.modify j fun e=>{ e with key:=.string k,val:=v }).toList.map (·.key)=es.toList.map (·.key):=by
  rw [modify_list];exact map_modify_same _ _ _ _ fun x hx=>by rw [hj] at hx;cases hx;exact hy.symm
 have hborn:(es.modify j fun e=>{ e with key:=.string k,val:=v }).toList.map (·.born)=es.toList.map (·.born):=by
  rw [modify_list];exact map_modify_same _ _ _ _ fun x hx=>rfl
 refine⟨fun x hx=>?_,fun i u hu=>?_,by rw [hkeys];exact he.one,fun x hx=>?_,by rw [hborn];exact he.age⟩
 ·rw [modify_list] at hx
  rcases mem_modify _ _ _ y hj x hx with rfl | ⟨i,hi,hx2⟩
  ·exact⟨k,rfl,by unfold updS;rw [if_pos rfl]⟩
  ·obtain⟨a,h1,h2⟩:=he.key x (List.mem_of_getElem? hx2)
   refine⟨a,h1,?_⟩
   have hne:a≠k:=fun e=>by
    subst e
    obtain⟨l1,l2⟩:=List.getElem?_eq_some_iff.1 hx2
    obtain⟨m1,m2⟩:=List.getElem?_eq_some_iff.1 hj
    have hpw:=List.pairwise_iff_getElem.1 he.one
    rcases Nat.lt_or_gt_of_ne hi with h3 | h3
    ·have:=hpw i j (by simpa using l1) (by simpa using m1) h3
     simp only [List.getElem_map,l2,m2] at this
     exact this (by rw [h1,hy])
    ·have:=hpw j i (by simpa using m1) (by simpa using l1) h3
     simp only [List.getElem_map,l2,m2] at this
     exact this (by rw [h1,hy])
   unfold updS;rw [if_neg hne];exact h2
 ·have hex:∃x∈es.toList,x.key=.string i:=by
   unfold updS at hu
   by_cases e:i=k
   ·subst e;exact⟨y,hym,hy⟩
   ·rw [if_neg e] at hu;exact he.has i u hu
  obtain⟨x,hx,h1⟩:=hex
  have:Value.string i∈(es.modify j fun e=>{ e with key:=.string k,val:=v }).toList.map (·.key):=by
   rw [hkeys];exact List.mem_map.2 ⟨x,hx,h1⟩
  obtain⟨x',hx',h2⟩:=List.mem_map.1 this
  exact⟨x',hx',h2⟩
 ·have:x.born∈es.toList.map (·.born):=by rw [←hborn];exact List.mem_map.2 ⟨x,hx,rfl⟩
  obtain⟨z,hz,h1⟩:=List.mem_map.1 this
  rw [←h1];exact he.born z hz
theorem Ms.update (h:Ms w b f) (ht:P.underlying t=some (.map kt et)) (hk:P.underlying kt=some .string) (k:ByteArray) (v:Value) {K:World→Prop}
  (hK:∀w',Ms w' b (updS f k (some v))→Fm (·=b) w w'→K w'):Raw P (Instr.mapUpdate t (.map (some b)) (.string k) v) w fun _ w'=>K w':=by
 obtain⟨es,clock,hb,he,h2⟩:=h.find k
 have hlt:=(Array.getElem?_eq_some_iff.1 hb).1
 have hc:(Instr.checkKey false 10000 kt (.string k)).run P w=.ok () w:=MapKept.run_checkKey (k:=.string k) hk (by simp [MapKept.IsKey]) _ 9999
 rcases h2 with ⟨h1,h2⟩ | ⟨j,x,h3,h4,h1,h2⟩
 ·refine⟨(),{ w with heap:=w.heap.setIfInBounds b (.map (es.push ⟨.string k,v,clock⟩) (clock+1)) },?_,hK _ ⟨_,_,?_,he.push h1 v⟩ (set_fm _ _ _)⟩
  ·simp [Instr.mapUpdate,run_underlying ht,MapKept.run_getObj_map hb,hc,MapKept.run_findKey hk h2,MapKept.run_setObj_map _ hb,Result.andThen]
  ·simp [hlt]
 ·refine⟨(),{ w with heap:=w.heap.setIfInBounds b (.map (es.modify j fun e=>{ e with key:=.string k,val:=v }) clock) },?_,hK _ ⟨_,_,?_,he.put h3 h4 v⟩ (set_fm _ _ _)⟩
  ·have hj:(es[j]?).map (·.key)=some (.string k):=by
    rw [←Array.getElem?_toList,h3,Option.map_some,h4]
   have hst:(Instr.keyThatStays (.string k) (.string k)).run P w=.ok (.string k) w:=MapKept.run_keyThatStays (d:=.string) (by simp [MapKept.IsKey])
   simp only [Instr.mapUpdate,Sem.run_bind,run_underlying ht,MapKept.run_getObj_map hb,hc,MapKept.run_findKey hk h2,MapKept.run_setObj_map _ hb,Result.andThen,hj,hst,Option.getD_some]
  ·simp [hlt]
theorem Ms.fm {M:Nat→Prop}{w1:World} (h:Ms w b f) (hf:Fm M w w1) (hm:¬M b):Ms w1 b f:=by
 obtain⟨es,clock,hb,he⟩:=h
 exact⟨es,clock,by rw [hf.block b (Array.getElem?_eq_some_iff.1 hb).1 hm];exact hb,he⟩
end
set_option maxRecDepth 100000
def kb (es:Array MapEntry):List (Value × Nat):=es.toList.map fun x=>(x.key,x.born)
theorem kb_mem {es:Array MapEntry}{p:Value × Nat}:p∈kb es↔∃x∈es.toList,x.key=p.1∧x.born=p.2:=by
 unfold kb
 rw [List.mem_map]
 constructor
 ·rintro ⟨x,hx,rfl⟩;exact⟨x,hx,rfl,rfl⟩
 ·rintro ⟨x,hx,h1,h2⟩;exact⟨x,hx,by rw [h1,h2]⟩
section
variable {P:Program}{q:IntKind}{w:World}{b g:Nat}{f:Int→Option Value}{t kt et:TypeId}{left:Int→Prop}{cur:Option Int}
theorem nilMap_range (ht:P.underlying t=some (.map kt et)) {K:Value→World→Prop} (hK:K (.pointer (some ⟨w.heap.size,0,none⟩)) (w.alloc (.mapIter none 0 #[] 0))):Raw P (Instr.range t (.map none)) w K :=
 ⟨_,_,run_range_nilMap w t kt et ht,hK⟩
end
set_option maxRecDepth 100000
def Its (w:World) (b g:Nat) (f:ByteArray→Option Value) (left:ByteArray→Prop) (cur:Option ByteArray):Prop :=
 ∃es clock since seen last,w.heap[b]?=some (.map es clock)∧MsE es clock f∧w.heap[g]?=some (.mapIter (some b) since seen last)∧since≤last∧since≤clock∧(∀p∈kb es,p.2 < since) ∧
  (∀k,left k↔∃s,(Value.string k,s)∈kb es∧seen.contains s=false)∧∀k,cur=some k→last=clock∧∃s,(Value.string k,s)∈kb es∧seen.back?=some s
def itM (b g:Nat) (w:World):Nat:=match w.heap[b]?,w.heap[g]? with
 | some (.map es _),some (.mapIter _ _ seen _)=>(es.toList.filter fun e=>!seen.contains e.born).length
 | _,_=>0
theorem filter_lt {α:Type}{p q:α→Bool}:∀{l:List α}{x:α},x∈l→p x=true→q x=false→(∀y,q y=true→p y=true)→(l.filter q).length < (l.filter p).length
 | [],x,h,_,_,_=>by simp at h
 | y :: l,x,h,h1,h2,h3=>by
  have hle:(l.filter q).length≤(l.filter p).length:=by
   clear h
   induction l with
   | nil=>simp
   | cons z l ih =>
    rw [List.filter_cons,List.filter_cons]
    by_cases hq:q z=true
    ·rw [if_pos hq,if_pos (h3 z hq)];simp only [List.length_cons];omega
    ·rw [if_neg hq]
     split
     ·simp only [List.length_cons];omega
     ·exact ih
  rw [List.filter_cons,List.filter_cons]
  rcases List.mem_cons.1 h with rfl | h
  ·rw [if_pos h1,if_neg (by rw [h2];decide)];simp only [List.length_cons];omega
  ·have ih:=filter_lt h h1 h2 h3
   by_cases hq:q y=true
   ·rw [if_pos hq,if_pos (h3 y hq)];simp only [List.length_cons];omega
   ·rw [if_neg hq]
    split
    ·simp only [List.length_cons];omega
    ·exact ih
section
variable {P:Program}{w:World}{b g:Nat}{f:ByteArray→Option Value}{t kt et:TypeId}{left:ByteArray→Prop}{cur:Option ByteArray}
theorem Its.ne (h:Its w b g f left cur):b≠g:=by
 obtain⟨es,clock,since,seen,last,h1,h2,h3,_⟩:=h
 intro e;subst e;rw [h1] at h3;cases h3
theorem Ms.range (h:Ms w b f) (ht:P.underlying t=some (.map kt et)) {K:Value→World→Prop}
  (hK:∀w',Below w.heap.size w w'→Its w' b w.heap.size f (fun k=>f k≠none) none→K (.pointer (some ⟨w.heap.size,0,none⟩)) w'):Raw P (Instr.range t (.map (some b))) w K:=by
 obtain⟨es,clock,hb,he⟩:=h
 have hlt:=(Array.getElem?_eq_some_iff.1 hb).1
 refine⟨_,_,run_range_map w t kt et b es clock ht hb,hK _ ((Below.refl _ _).alloc (Nat.le_refl _) _) ⟨es,clock,clock,#[],clock,by rw [heap_alloc_old w _ hlt];exact hb,he,heap_alloc_new _ _,Nat.le_refl _,Nat.le_refl _,?_,fun k=>?_,fun k h=>by cases h⟩⟩
 ·intro p hp
  obtain⟨x,hx,h1,h2⟩:=kb_mem.1 hp
  rw [←h2];exact he.born x hx
 ·constructor
  ·intro hk
   cases hf:f k with
   | none=>exact absurd hf hk
   | some v =>
    obtain⟨x,hx,h1⟩:=he.has k v hf
    exact⟨x.born,kb_mem.2 ⟨x,hx,h1,rfl⟩,by simp⟩
  ·rintro ⟨s,hs,-⟩
   obtain⟨x,hx,h1,h2⟩:=kb_mem.1 hs
   obtain⟨a,h3,h4⟩:=he.key x hx
   rw [h1] at h3;injection h3 with h3;subst h3;rw [h4];simp
theorem Its.next (h:Its w b g f left cur) (ty:TypeId) {K:Value→World→Prop} (h0:(∀k,¬left k)→K (.tuple #[.bool false]) w)
  (h1:∀k v w1,left k→f k=some v→Fm (·=g) w w1→Its w1 b g f (fun j=>left j∧j≠k) (some k)→itM b g w1 < itM b g w→K (.tuple #[.bool true,.string k,v]) w1):Raw P (Instr.next (.pointer (some ⟨g,0,none⟩)) false ty) w K:=by
 have hne:=h.ne
 obtain⟨es,clock,since,seen,last,hb,he,hg,hsl,hsc,hold,hleft,-⟩:=h
 have hold':∀x∈es.toList,x.born < since:=fun x hx=>hold (x.key,x.born) (kb_mem.2 ⟨x,hx,rfl,rfl⟩)
 unfold Raw
 simp only [Instr.next,getObj,Sem.run_bind,Sem.run,hg,hb,Result.andThen,next_test_false seen es since last hold' hsl,Bool.false_eq_true,if_false]
 have hmem:∀x∈(Array.filter (fun e=>!seen.contains e.born) es).toList,x.born < since:=fun x hx=>hold' x (by simp at hx ⊢;exact hx.1)
 have hL:∀x,x∈Array.filter (fun e=>!seen.contains e.born) es↔x∈es.toList∧seen.contains x.born=false:=fun x=>by simp
 generalize Array.filter (fun e=>!seen.contains e.born) es=L at hmem hL ⊢
 have e1:L.filter (fun x=>decide (x.born < since))=L:=Array.filter_eq_self.2 (fun x hx=>by simpa using hmem x (by simpa using hx))
 have e2:L.filter (fun x=>decide (x.born≥since))=#[]:=by
  rw [Array.filter_eq_empty_iff]
  intro x hx
  have:=hmem x (by simpa using hx)
  simp
  omega
 simp only [e1,e2,Array.append_empty]
 by_cases hz:L.size=0
 ·have hLe:L=#[]:=Array.eq_empty_of_size_eq_zero hz
  refine⟨.tuple #[.bool false],w,?_,h0 fun k hk=>?_⟩
  ·subst hLe
   simp [choose,Sem.run,Question.forced]
  ·obtain⟨s,hs,hc⟩:=(hleft k).1 hk
   obtain⟨x,hx,h3,h4⟩:=kb_mem.1 hs
   have:x∈L:=(hL x).2 ⟨hx,by rw [h4];exact hc⟩
   rw [hLe] at this;simp at this
 ·have hne0:L.isEmpty=false:=by simp [Array.isEmpty,hz]
  simp only [hne0,Bool.false_eq_true,if_false,Array.empty_append,Array.size_map]
  have hch:∃(j:Nat) (w1:World),j < L.size∧w1.heap=w.heap∧Below w.heap.size w w1∧(choose (Question.mapNext L.size)).run P w=.ok j w1:=by
   by_cases hf:L.size≤1
   ·exact⟨0,w,by omega,rfl,Below.refl _ _,by simp [choose,Sem.run,Question.forced,hf]⟩
   ·exact⟨_,w.drew,Nat.mod_lt _ (by omega),rfl,(Below.refl _ _).drew,by
     simp only [choose,Sem.run,Question.forced,decide_eq_true_eq,hf,if_false,Question.cut]
     rfl⟩
  obtain⟨j,w1,hj,hh,hbel,hrun⟩:=hch
  have hset:∀(o':Obj),(setObj g o').run P w1=.ok () { w1 with heap:=w1.heap.setIfInBounds g o' }:=fun o'=>by
   simp [setObj,Sem.run,hh,hg]
  have hxm:L[j]∈L:=Array.getElem_mem hj
  obtain⟨hx1,hx2⟩:=(hL _).1 hxm
  obtain⟨k,hk1,hk2⟩:=he.key _ hx1
  have hglt:=(Array.getElem?_eq_some_iff.1 hg).1
  refine⟨.tuple #[.bool true,.string k,L[j].val],{ w1 with heap:=w1.heap.setIfInBounds g (.mapIter (some b) since (seen.push L[j].born) clock) },?_,?_⟩
  ·simp only [hrun,Array.getElem?_map,Array.getElem?_eq_getElem hj,Option.map_some,Sem.run_bind,hset,Result.andThen,hk1]
   rfl
  ·refine h1 k L[j].val _ ((hleft k).2 ⟨L[j].born,kb_mem.2 ⟨_,hx1,hk1,rfl⟩,hx2⟩) hk2 ((Fm.below hbel).trans (set_fm _ _ _)) ⟨es,clock,since,seen.push L[j].born,clock,?_,he,?_,hsc,hsc,hold,fun i=>?_,fun i hi=>?_⟩ ?_
   ·show (w1.heap.setIfInBounds g _)[b]?=_
    rw [Array.getElem?_setIfInBounds_ne (fun e=>hne e.symm),hh];exact hb
   ·show (w1.heap.setIfInBounds g _)[g]?=_
    rw [hh];simp [hglt]
   ·constructor
    ·rintro ⟨h3,h4⟩
     obtain⟨s,hs,hc⟩:=(hleft i).1 h3
     obtain⟨y,hy,h5,h6⟩:=kb_mem.1 hs
     refine⟨s,hs,?_⟩
     have hsx:s≠L[j].born:=fun e=>by
      have:y=L[j]:=nodup_map_inj he.age y hy _ hx1 (by rw [h6,e])
      rw [this,hk1] at h5;injection h5 with h5;exact h4 h5.symm
     simp only [Array.contains_eq_mem,Array.mem_push,decide_eq_false_iff_not,not_or] at hc ⊢
     exact⟨hc,hsx⟩
    ·rintro ⟨s,hs,hc⟩
     obtain⟨y,hy,h5,h6⟩:=kb_mem.1 hs
     simp only [Array.contains_eq_mem,Array.mem_push,decide_eq_false_iff_not,not_or] at hc
     refine⟨(hleft i).2 ⟨s,hs,by simpa using hc.1⟩,fun e=>?_⟩
     subst e
     have:y=L[j]:=nodup_map_inj he.one y hy _ hx1 (by rw [h5,hk1])
     exact hc.2 (by rw [←show y.born=s from h6,this])
   ·cases hi
    exact⟨rfl,L[j].born,kb_mem.2 ⟨_,hx1,hk1,rfl⟩,by simp⟩
   ·have a1:(w1.heap.setIfInBounds g (.mapIter (some b) since (seen.push L[j].born) clock))[b]?=some (.map es clock):=by
     rw [Array.getElem?_setIfInBounds_ne (fun e=>hne e.symm),hh];exact hb
    have a2:(w1.heap.setIfInBounds g (.mapIter (some b) since (seen.push L[j].born) clock))[g]?=some (.mapIter (some b) since (seen.push L[j].born) clock):=by
     rw [hh];simp [hglt]
    unfold itM
    dsimp only
    rw [a1,a2,hb,hg]
    dsimp only
    exact filter_lt hx1 (by rw [hx2];rfl) (by simp) fun y hy=>by simp at hy ⊢;exact hy.1
theorem Its.entry {k:ByteArray} (h:Its w b g f left (some k)) {v:Value} (hv:f k=some v) {K:Value→World→Prop} (hK:K (.tuple #[.string k,v]) w):Raw P (Instr.entry (.pointer (some ⟨g,0,none⟩))) w K:=by
 obtain⟨es,clock,since,seen,last,hb,he,hg,hsl,hsc,hold,hleft,hcur⟩:=h
 obtain⟨rfl,s,hs,hback⟩:=hcur k rfl
 obtain⟨x,hx,h1,h2⟩:=kb_mem.1 hs
 have hf:es.find? (·.born == s)=some x:=by rw [←Array.find?_toList,←show x.born=s from h2];exact find_born x es.toList he.age hx
 obtain⟨a,h3,h4⟩:=he.key x hx
 rw [h1] at h3;injection h3 with h3;subst h3
 have hxv:x.val=v:=by rw [hv] at h4;exact (Option.some.inj h4).symm
 refine⟨_,w,?_,hK⟩
 simp only [Instr.entry,getObj,Sem.run_bind,Sem.run,hg,hb,Result.andThen,hback,bne_self_eq_false,Bool.false_eq_true,if_false,hf]
 rw [←hxv,←show x.key=Value.string k from h1]
 rfl
theorem Its.fm {M:Nat→Prop}{w1:World} (h:Its w b g f left cur) (hf:Fm M w w1) (hm:¬M b) (hm2:¬M g):Its w1 b g f left cur:=by
 obtain⟨es,clock,since,seen,last,hb,he,hg,h⟩:=h
 exact⟨es,clock,since,seen,last,by rw [hf.block b (Array.getElem?_eq_some_iff.1 hb).1 hm];exact hb,he,by rw [hf.block g (Array.getElem?_eq_some_iff.1 hg).1 hm2];exact hg,h⟩
end
end Go.Proofs.YtccplipiahdhiaaGreatDoor
set_option linter.unusedVariables false
set_option maxRecDepth 100000
namespace Go.Proofs.YtccplipiahdhiaaGreatDoor
open Go.Vc
def F49_j5 (L4:Option Addr→Nat→Nat→Option Addr→Nat→Nat→Int→World→Prop) (words2:Option Addr) (wordsN2:Nat) (wordsC2:Nat) (at_2:Option Addr) (atN2:Nat) (atC2:Nat) (i2:Int) (a:World) (R:Ending→World→Prop):Prop :=
 InR .i64 (i2+(1:Int))∧L4 words2 wordsN2 wordsC2 at_2 atN2 atC2 (i2+(1:Int)) a
def F49_j12 (words:Option Addr) (wordsN:Nat) (wordsC:Nat) (at_:Option Addr) (atN:Nat) (atC:Nat) (i:Int) (J5:Option Addr→Nat→Nat→Option Addr→Nat→Nat→Int→World→Prop) (i2:Int) (b:Option Addr) (bN:Nat) (bC:Nat) (q:World) (R:Ending→World→Prop):Prop :=
 Raw Tryz.prog (convert 175 9 (.slice b bN bC)) q fun v2 a =>
 ∃(p:ByteArray),v2=(.string p) ∧
 Al a #[(.string p)] 9 fun g43 e =>
 Raw Tryz.prog (Builtin.append_ #[26,26] 26 #[(.slice words wordsN wordsC),(.slice (some g43) 1 1)]) e fun v3 c =>
 ∃(n:Option Addr) (k:Nat) (h:Nat),v3=(.slice n k h) ∧
 Al c #[(.int .i64 i)] 3 fun g47 j =>
 Raw Tryz.prog (Builtin.append_ #[87,87] 87 #[(.slice at_ atN atC),(.slice (some g47) 1 1)]) j fun v4 f =>
 ∃(m:Option Addr) (d:Nat) (g:Nat),v4=(.slice m d g) ∧
 J5 n k h m d g i2 f
def F49_j10 (s:ByteArray) (L9:Int→Option Addr→Nat→Nat→World→Prop) (i2:Int) (b:Option Addr) (bN:Nat) (bC:Nat) (h:World) (R:Ending→World→Prop):Prop :=
 IdxS s i2 fun c34 =>
 Calls Tryz.prog 84 #[(.int .u8 c34)] h (post R fun v2 c =>
 ∃(g:Int),v2=(.int .u8 g) ∧
 Al c #[(.int .u8 g)] 5 fun g36 e =>
 Raw Tryz.prog (Builtin.append_ #[175,175] 175 #[(.slice b bN bC),(.slice (some g36) 1 1)]) e fun v3 d =>
 ∃(i:Option Addr) (f:Nat) (a:Nat),v3=(.slice i f a) ∧
 InR .i64 (i2+(1:Int))∧L9 (i2+(1:Int)) i f a d)
def F49_l9 (s:ByteArray) (J12:Int→Option Addr→Nat→Nat→World→Prop) (L9:Int→Option Addr→Nat→Nat→World→Prop) (i2:Int) (b:Option Addr) (bN:Nat) (bC:Nat) (d:World) (R:Ending→World→Prop):Prop :=
 ∃J10:World→Prop,(∀ (a:World),J10 a→F49_j10 s L9 i2 b bN bC a R) ∧
 (Br (decide (i2 < ((s.size:Nat):Int)))
 (IdxS s i2 fun c28 =>
 Calls Tryz.prog 83 #[(.int .u8 c28)] d (post R fun v2 a =>
 ∃(c:Bool),v2=(.bool c) ∧
 Br c
 (J10 a)
 (J12 i2 b bN bC a)))
 (J12 i2 b bN bC d))
def F49_l4 (s:ByteArray) (L4:Option Addr→Nat→Nat→Option Addr→Nat→Nat→Int→World→Prop) (words:Option Addr) (wordsN:Nat) (wordsC:Nat) (at_:Option Addr) (atN:Nat) (atC:Nat) (i:Int) (c:World) (R:Ending→World→Prop):Prop :=
 Br (decide (i < ((s.size:Nat):Int)))
 (∃J5:Option Addr→Nat→Nat→Option Addr→Nat→Nat→Int→World→Prop,(∀(words2:Option Addr) (wordsN2:Nat) (wordsC2:Nat) (at_2:Option Addr) (atN2:Nat) (atC2:Nat) (i2:Int) (w1:World),J5 words2 wordsN2 wordsC2 at_2 atN2 atC2 i2 w1→F49_j5 L4 words2 wordsN2 wordsC2 at_2 atN2 atC2 i2 w1 R) ∧
 (IdxS s i fun c17 =>
 Calls Tryz.prog 83 #[(.int .u8 c17)] c (post R fun v w1 =>
 ∃(d:Bool),v=(.bool d) ∧
 Br (!d)
 (J5 words wordsN wordsC at_ atN atC i w1)
 (∃J12:Int→Option Addr→Nat→Nat→World→Prop,(∀(i2:Int) (b:Option Addr) (bN:Nat) (bC:Nat) (a:World),J12 i2 b bN bC a→F49_j12 words wordsN wordsC at_ atN atC i J5 i2 b bN bC a R) ∧
 (∃(I:Int→Option Addr→Nat→Nat→World→Prop) (m:Int→Option Addr→Nat→Nat→World→Nat),I i none 0 0 w1 ∧
 ∀(i2:Int) (b:Option Addr) (bN:Nat) (bC:Nat) (a:World),I i2 b bN bC a→F49_l9 s J12 (fun i2' b' bN' bC' w2=>I i2' b' bN' bC' w2∧m i2' b' bN' bC' w2 < m i2 b bN bC a) i2 b bN bC a R)))))
 (R (.returned (.tuple #[(.slice words wordsN wordsC),(.slice at_ atN atC)])) c)
def F49 (s:ByteArray) (a:World) (R:Ending→World→Prop):Prop :=
 ∃(I:Option Addr→Nat→Nat→Option Addr→Nat→Nat→Int→World→Prop) (m:Option Addr→Nat→Nat→Option Addr→Nat→Nat→Int→World→Nat),I none 0 0 none 0 0 (0:Int) a ∧
 ∀(words:Option Addr) (wordsN:Nat) (wordsC:Nat) (at_:Option Addr) (atN:Nat) (atC:Nat) (i:Int) (w1:World),I words wordsN wordsC at_ atN atC i w1→F49_l4 s (fun words' wordsN' wordsC' at_' atN' atC' i' w2=>I words' wordsN' wordsC' at_' atN' atC' i' w2∧m words' wordsN' wordsC' at_' atN' atC' i' w2 < m words wordsN wordsC at_ atN atC i w1) words wordsN wordsC at_ atN atC i w1 R
theorem ok49 (s:ByteArray) {w:World}{R:Ending→World→Prop} (h:F49 s w R):Calls Tryz.prog 49 #[(.string s)] w R :=
 vc_calls (pl:=⟨51,⟨[]⟩,[(10,⟨[],[(21,31)]⟩),(12,⟨[(6,(.s (.int .i64))),(8,(.s .slice))],[(6,7),(8,40)]⟩),(5,⟨[(4,(.s .slice)),(5,(.s .slice)),(6,(.s (.int .i64)))],[(4,49)]⟩)],[(9,⟨[(6,(.s (.int .i64))),(8,(.s .slice))],[(6,7),(8,40)]⟩),(4,⟨[(4,(.s .slice)),(5,(.s .slice)),(6,(.s (.int .i64)))],[(4,49)]⟩)]⟩) Tryz.func49 (by kernel_rfl) (by kernel_rfl) (by kernel_rfl) (Eq.mp (by kernel_rfl) h)
def F85_j7 (L3:Int→World→Prop) (a:Int) (b:World) (R:Ending→World→Prop):Prop :=
 InR .i64 (a+(1:Int))∧L3 (a+(1:Int)) b
def F85_l3 (j:Option Addr) (b:Nat) (c:Nat) (L3:Int→World→Prop) (i:Int) (e:World) (R:Ending→World→Prop):Prop :=
 Br (decide (i < ((b:Nat):Int)))
 (∃J7:World→Prop,(∀ (a:World),J7 a→F85_j7 L3 i a R) ∧
 (IdxA j b i 1 fun h =>
 LdI .u8 (e.cell? h) fun d =>
 Br (decide (d≥(65:Int)))
 (Br (decide (d≤(90:Int)))
 (InR .u8 (d+(97:Int))∧InR .u8 ((d+(97:Int))-(65:Int))∧IdxA j b i 1 fun g =>
 St e g (.int .u8 ((d+(97:Int))-(65:Int))) fun a =>
 J7 a)
 (J7 e))
 (J7 e)))
 (Raw Tryz.prog (convert 175 9 (.slice j b c)) e fun v2 a =>
 ∃(f:ByteArray),v2=(.string f) ∧
 R (.returned (.string f)) a)
def F85 (s:ByteArray) (e:World) (R:Ending→World→Prop):Prop :=
 Raw Tryz.prog (convert 9 175 (.string s)) e fun v w1 =>
 ∃(f:Option Addr) (b:Nat) (c:Nat),v=(.slice f b c) ∧
 ∃(I:Int→World→Prop) (m:Int→World→Nat),I (0:Int) w1 ∧
 ∀(d:Int) (a:World),I d a→F85_l3 f b c (fun d' w2=>I d' w2∧m d' w2 < m d a) d a R
theorem ok85 (s:ByteArray) {w:World}{R:Ending→World→Prop} (h:F85 s w R):Calls Tryz.prog 85 #[(.string s)] w R :=
 vc_calls (pl:=⟨30,⟨[]⟩,[(7,⟨[],[(4,6),(12,27)]⟩)],[(3,⟨[(10,(.s (.int .i64)))],[(4,6),(10,28)]⟩)]⟩) Tryz.func85 (by kernel_rfl) (by kernel_rfl) (by kernel_rfl) (Eq.mp (by kernel_rfl) h)
def F57_j8 (s:ByteArray) (L4:Option Addr→Nat→Nat→Option Addr→Nat→Nat→Int→World→Prop) (l:Option Addr) (lN:Nat) (lC:Nat) (at_:Option Addr) (atN:Nat) (atC:Nat) (i:Int) (i2:Int) (n:World) (R:Ending→World→Prop):Prop :=
 Br (decide (i2 > i))
 (SlB i i2 ((s.size:Nat):Int)
 (Calls Tryz.prog 85 #[(.string (s.extract (i).toNat (i2).toNat))] n (post R fun v w1 =>
 ∃(j:ByteArray),v=(.string j) ∧
 Al w1 #[(.string j)] 9 fun g34 d =>
 Raw Tryz.prog (Builtin.append_ #[26,26] 26 #[(.slice l lN lC),(.slice (some g34) 1 1)]) d fun v2 f =>
 ∃(k:Option Addr) (g:Nat) (a:Nat),v2=(.slice k g a) ∧
 Al f #[(.int .i64 i)] 3 fun g38 e =>
 Raw Tryz.prog (Builtin.append_ #[87,87] 87 #[(.slice at_ atN atC),(.slice (some g38) 1 1)]) e fun v3 h =>
 ∃(m:Option Addr) (b:Nat) (c:Nat),v3=(.slice m b c) ∧
 L4 k g a m b c i2 h)))
 (InR .i64 (i2+(1:Int))∧L4 l lN lC at_ atN atC (i2+(1:Int)) n)
def F57_j7 (L6:Int→World→Prop) (i2:Int) (a:World) (R:Ending→World→Prop):Prop :=
 InR .i64 (i2+(1:Int))∧L6 (i2+(1:Int)) a
def F57_l6 (s:ByteArray) (J8:Int→World→Prop) (L6:Int→World→Prop) (i2:Int) (b:World) (R:Ending→World→Prop):Prop :=
 ∃J7:World→Prop,(∀ (w1:World),J7 w1→F57_j7 L6 i2 w1 R) ∧
 (Br (decide (i2 < ((s.size:Nat):Int)))
 (IdxS s i2 fun c20 =>
 Calls Tryz.prog 88 #[(.int .u8 c20)] b (post R fun v w1 =>
 ∃(a:Bool),v=(.bool a) ∧
 Br a
 (J7 w1)
 (J8 i2 w1)))
 (J8 i2 b))
def F57_l4 (s:ByteArray) (L4:Option Addr→Nat→Nat→Option Addr→Nat→Nat→Int→World→Prop) (l:Option Addr) (lN:Nat) (lC:Nat) (at_:Option Addr) (atN:Nat) (atC:Nat) (i:Int) (a:World) (R:Ending→World→Prop):Prop :=
 Br (decide (i < ((s.size:Nat):Int)))
 (∃J8:Int→World→Prop,(∀(i2:Int) (w1:World),J8 i2 w1→F57_j8 s L4 l lN lC at_ atN atC i i2 w1 R) ∧
 (∃(I:Int→World→Prop) (m:Int→World→Nat),I i a ∧
 ∀(i2:Int) (w1:World),I i2 w1→F57_l6 s J8 (fun i2' w2=>I i2' w2∧m i2' w2 < m i2 w1) i2 w1 R))
 (R (.returned (.tuple #[(.slice l lN lC),(.slice at_ atN atC)])) a)
def F57 (s:ByteArray) (a:World) (R:Ending→World→Prop):Prop :=
 ∃(I:Option Addr→Nat→Nat→Option Addr→Nat→Nat→Int→World→Prop) (m:Option Addr→Nat→Nat→Option Addr→Nat→Nat→Int→World→Nat),I none 0 0 none 0 0 (0:Int) a ∧
 ∀(l:Option Addr) (lN:Nat) (lC:Nat) (at_:Option Addr) (atN:Nat) (atC:Nat) (i:Int) (w1:World),I l lN lC at_ atN atC i w1→F57_l4 s (fun l' lN' lC' at_' atN' atC' i' w2=>I l' lN' lC' at_' atN' atC' i' w2∧m l' lN' lC' at_' atN' atC' i' w2 < m l lN lC at_ atN atC i w1) l lN lC at_ atN atC i w1 R
theorem ok57 (s:ByteArray) {w:World}{R:Ending→World→Prop} (h:F57 s w R):Calls Tryz.prog 57 #[(.string s)] w R :=
 vc_calls (pl:=⟨44,⟨[]⟩,[(7,⟨[],[(13,23)]⟩),(8,⟨[(6,(.s (.int .i64)))],[(6,7),(13,25)]⟩)],[(6,⟨[(6,(.s (.int .i64)))],[(6,7),(13,25)]⟩),(4,⟨[(4,(.s .slice)),(5,(.s .slice)),(6,(.s (.int .i64)))],[(4,42)]⟩)]⟩) Tryz.func57 (by kernel_rfl) (by kernel_rfl) (by kernel_rfl) (Eq.mp (by kernel_rfl) h)
end Go.Proofs.YtccplipiahdhiaaGreatDoor
namespace Go.Vc
open Go Go.RowKit
section
variable {P:Program}{w:World}
theorem bytes_at (s:ByteArray) (j:Nat) (hj:j < s.size):s.data.toList[j]'(by simpa using hj)=s[j]:=by simp;rfl
theorem s2b {src dst e:TypeId}{u:TypeDesc}{s:ByteArray}{K:Value→World→Prop} (hs:P.underlying src=some u) (hd:P.underlying dst=some (.slice e)) (he:P.underlying e=some (.int .u8))
  (h:∀cap w1,Below w.heap.size w w1→(∀j (hj:j < s.size),w1.cell? ⟨w.heap.size,j,none⟩=some (.int .u8 (s[j].toNat:Int)))→(∀j,j < s.size→w1.frozen? ⟨w.heap.size,j,none⟩=false) →
   w1.heap.size=w.heap.size+1→K (.slice (some ⟨w.heap.size,0,none⟩) s.size cap) w1):Raw P (convert src dst (.string s)) w K:=by
 refine⟨_,_,Lib.run_convert_string_bytes w src dst e s hs hd he,h _ _ ?_ ?_ ?_ ?_⟩
 ·refine⟨rfl,rfl,rfl,by simp [Lib.bytesWorld,World.freeze],fun k hk=>?_⟩
  simp only [Lib.bytesWorld,World.freeze]
  rw [if_neg (by omega)]
  simp only [Array.getElem?_modify]
  rw [if_neg (by omega)]
  exact Below.heap_alloc w.drew _ k hk
 ·intro j hj
  have hsz:s.size≤(Lib.bytesCells w e s).size:=by simp [Lib.bytesCells]
  have:(Lib.bytesCells w e s)[j]?=some (.int .u8 (s[j].toNat:Int)):=by
   unfold Lib.bytesCells
   rw [Array.getElem?_append_left (by simpa using hj)]
   simp [hj];rfl
  simp only [Lib.bytesWorld,World.freeze,World.cell?]
  rw [if_neg (by omega)]
  simp only [Array.getElem?_modify,if_true]
  simp [World.alloc,World.drew,-World.alloc_eq,-World.drew_eq,this]
 ·intro j hj
  have hsz:s.size≤(Lib.bytesCells w e s).size:=by simp [Lib.bytesCells]
  simp only [Lib.bytesWorld,World.freeze,World.frozen?]
  rw [if_neg (by omega)]
  simp only [Array.getElem?_modify,if_true]
  simp [World.alloc,World.drew,-World.alloc_eq,-World.drew_eq]
  omega
 ·simp [Lib.bytesWorld,World.freeze]
theorem b2s {src dst e:TypeId}{a:Option Addr}{n cap:Nat}{K:Value→World→Prop} (l:List UInt8) (hn:n=l.length) (hs:P.underlying src=some (.slice e)) (he:P.underlying e=some (.int .u8)) (hd:P.underlying dst=some .string)
  (hc:∀j (hj:j < l.length),∃b o,a=some ⟨b,o,none⟩∧w.cell? ⟨b,o+j,none⟩=some (.int .u8 (l[j].toNat:Int))) (h:K (.string ⟨l.toArray⟩) w):Raw P (convert src dst (.slice a n cap)) w K:=by
 subst hn
 cases a with
 | none =>
  cases l with
  | nil=>exact⟨_,w,(by show (convert src dst (.slice none 0 cap)).run P w=_;rw [run_convert_bytes_string w src dst e none 0 cap hs he hd];rfl),h⟩
  | cons x xs=>obtain⟨b,o,h0,_⟩:=hc 0 (by simp);cases h0
 | some q =>
  refine⟨_,w,run_convert_bytes_back w src dst e q cap l hs he hd fun j hj=>?_,h⟩
  obtain⟨b,o,h0,h1⟩:=hc j hj
  obtain rfl:q=⟨b,o,none⟩:=by simpa using h0
  rw [Addr.add_mk]
  exact h1
end
end Go.Vc
namespace Go.Proofs.YtccplipiahdhiaaGreatDoor
open Go.RowKit Go.Vc
set_option maxRecDepth 100000
theorem inR_u8 {z:Int} (h0:0≤z) (h1:z≤255):InR .u8 z:=⟨by simpa [IntKind.min,IntKind.signed] using h0,by simpa [IntKind.max,IntKind.signed,IntKind.bits] using h1⟩
theorem lower_calls (s:ByteArray) (hs:s.size≤140737488351232) {w:World}{R:Ending→World→Prop} (h:∀w',Below w.heap.size w w'→R (.returned (.string (lowB s))) w'):Calls Tryz.prog 85 #[.string s] w R:=by
 refine ok85 s ?_
 unfold F85
 refine s2b rfl Tryz.underlying175 rfl fun cap w1 hb hc hf hsz=>⟨_,_,_,rfl,?_⟩
 refine⟨fun i w2=>∃k:Nat,i=k∧k≤s.size∧Below w.heap.size w w2∧(∀j,j < s.size→w2.frozen? ⟨w.heap.size,j,none⟩=false) ∧
   ∀j (hj:j < s.size),w2.cell? ⟨w.heap.size,j,none⟩=some (.int .u8 (if j < k then (lowU s[j]).toNat else s[j].toNat:Nat)),fun i w2=>s.size-i.toNat,⟨0,rfl,by omega,hb,hf,fun j hj=>by simpa using hc j hj⟩,?_⟩
 rintro i w2 ⟨k,rfl,hk,hb,hf,hc⟩
 unfold F85_l3
 refine brd (fun hlt=>?_) (fun hge=>?_)
 ·have hlt':k < s.size:=by omega
  have hck:=hc k hlt'
  simp only [Nat.lt_irrefl,if_false] at hck
  have hbyte:=s[k].toNat_lt
  refine⟨fun w3=>Below w.heap.size w w3∧(∀j,j < s.size→w3.frozen? ⟨w.heap.size,j,none⟩=false) ∧
   ∀j (hj:j < s.size),w3.cell? ⟨w.heap.size,j,none⟩=some (.int .u8 (if j < k+1 then (lowU s[j]).toNat else s[j].toNat:Nat)),?_,?_⟩
  ·rintro w3 ⟨h1,h2,h3⟩
   unfold F85_j7
   exact⟨inR_i64 (by omega) (by omega),⟨k+1,by simp,by omega,h1,h2,h3⟩,by dsimp only;omega⟩
  ·have skip:¬(65≤s[k].toNat∧s[k].toNat≤90)→∀j (hj:j < s.size),w2.cell? ⟨w.heap.size,j,none⟩=some (.int .u8 (if j < k+1 then (lowU s[j]).toNat else s[j].toNat:Nat)):=by
    intro hn j hj
    rw [hc j hj]
    congr 3
    by_cases hjk:j=k
    ·subst hjk
     rw [if_neg (by omega),if_pos (by omega),lowU_nat]
     unfold lowW
     rw [if_neg hn]
    ·by_cases hj2:j < k
     ·rw [if_pos hj2,if_pos (by omega)]
     ·rw [if_neg hj2,if_neg (by omega)]
   rw [IdxA_some (by omega) (by omega),Addr.add_mk]
   simp only [Int.toNat_natCast,Nat.mul_one,Nat.zero_add,hck,LdI_some]
   refine brd (fun h65=>brd (fun h90=>?_) (fun h90=>?_)) (fun h65=>?_)
   ·refine⟨inR_u8 (by omega) (by omega),inR_u8 (by omega) (by omega),?_⟩
    rw [IdxA_some (by omega) (by omega),Addr.add_mk]
    simp only [Int.toNat_natCast,Nat.mul_one,Nat.zero_add]
    refine⟨⟨_,hck⟩,hf k hlt',hb.setCell (by simp) _,fun j hj=>by rw [World.frozen?_setCell];exact hf j hj,fun j hj=>?_⟩
    by_cases hjk:j=k
    ·subst hjk
     rw [World.cell?_setCell_same _ _ _ hck,if_pos (by omega),lowU_nat]
     unfold lowW
     rw [if_pos (by omega)]
     congr 2
     omega
    ·rw [World.cell?_setCell_other _ _ _ _ (by intro e;cases e;exact hjk rfl),hc j hj]
     congr 3
     by_cases hj2:j < k
     ·rw [if_pos hj2,if_pos (by omega)]
     ·rw [if_neg hj2,if_neg (by omega)]
   ·exact⟨hb,hf,skip (by omega)⟩
   ·exact⟨hb,hf,skip (by omega)⟩
 ·have hk':k=s.size:=by omega
  refine b2s (s.data.toList.map lowU) (by simp) Tryz.underlying175 rfl rfl (fun j hj=>⟨_,_,rfl,?_⟩) ⟨_,rfl,h _ hb⟩
  have hj':j < s.size:=by simpa using hj
  rw [Nat.zero_add,hc j hj',if_pos (by omega)]
  simp
  rfl
theorem part_k {c:Int}{n:Nat} (hc:c=n) {w:World}{R:Ending→World→Prop} (h:R (.returned (.bool (inW n))) w):Calls Tryz.prog 88 #[.int .u8 c] w R:=by
 subst hc;exact (part_calls n w).mono fun e w' ⟨he,hw⟩=>by rw [he,hw];exact h
theorem in_k {c:Int}{n:Nat} (hc:c=n) {w:World}{R:Ending→World→Prop} (h:R (.returned (.bool (inW n))) w):Calls Tryz.prog 83 #[.int .u8 c] w R:=by
 subst hc;exact (inW_calls n w).mono fun e w' ⟨he,hw⟩=>by rw [he,hw];exact h
theorem low_k {c:Int}{n:Nat} (hc:c=n) (hn:n < 256) {w:World}{R:Ending→World→Prop} (h:R (.returned (.int .u8 (lowW n))) w):Calls Tryz.prog 84 #[.int .u8 c] w R:=by
 subst hc;exact (low_calls n hn w).mono fun e w' ⟨he,hw⟩=>by rw [he,hw];exact h
theorem idxS {s:ByteArray}{i:Int}{k:Nat} (hi:i=k) (hk:k < s.size) {K:Int→Prop} (h:K (s[k].toNat:Nat)):IdxS s i K:=by
 subst hi
 exact⟨by omega,s[k],by simp [getElem?_pos s k hk],h⟩
structure WS (w0:World) (v u:Value) (l:List (ByteArray × Nat)) (w:World):Prop where
 below:Below w0.heap.size w0 w
 ws:Own LS w w0.heap.size 9 v (l.map (·.1))
 at_:Own LI w w0.heap.size 3 u (l.map fun p=>(p.2:Int))
 ap:Apart v u
theorem WS.keep {w0 w w1:World}{v u:Value}{l:List (ByteArray × Nat)} (h:WS w0 v u l w) (hb:Below w.heap.size w w1):WS w0 v u l w1:=⟨btr h.below h.below.size hb,h.ws.keep hb,h.at_.keep hb,h.ap⟩
theorem Apart.symm {v u:Value} (h:Apart v u):Apart u v:=by
 rcases h with h | h
 ·cases hu:rowOf u with
  | none=>exact .inl hu
  | some k=>exact .inr (by rw [h,hu];simp)
 ·exact .inr fun e=>h e.symm
theorem Apart.nil_r {v:Value}{n c:Nat}:Apart v (.slice none n c):=by
 cases h:rowOf v with
 | none=>exact .inl h
 | some k=>exact .inr (by rw [h];intro hc;cases c <;> cases hc)
theorem words_calls (s:ByteArray) (hs:s.size≤16384) {w:World}{R:Ending→World→Prop} (h:∀A n c A2 n2 c2 w',WS w (.slice A n c) (.slice A2 n2 c2) (wordsF s 0) w'→R (.returned (.tuple #[.slice A n c,.slice A2 n2 c2])) w'):Calls Tryz.prog 57 #[.string s] w R:=by
 refine ok57 s ?_
 unfold F57
 refine⟨fun l lN lC at_ atN atC i w1=>∃(k:Nat) (pre:List (ByteArray × Nat)),i=k∧k≤s.size∧WS w (.slice l lN lC) (.slice at_ atN atC) pre w1∧pre++wordsF s k=wordsF s 0,
  fun l lN lC at_ atN atC i w1=>s.size-i.toNat,⟨0,[],rfl,by omega,⟨Below.refl _ _,Own.nil _ _ _ _,Own.nil _ _ _ _,.inl rfl⟩,rfl⟩,?_⟩
 rintro l lN lC at_ atN atC i w1 ⟨k,pre,rfl,hk,hws,hpre⟩
 have hlen:pre.length≤16384:=by
  have h1:=wordsF_len s 0
  rw [←hpre,List.length_append] at h1
  omega
 unfold F57_l4
 refine brd (fun hlt=>?_) (fun hge=>?_)
 ·refine⟨fun i2 w2=>i2=(runE s k:Nat)∧WS w (.slice l lN lC) (.slice at_ atN atC) pre w2,?_,?_⟩
  ·rintro i2 w2 ⟨rfl,hws⟩
   have hle:=runE_le s k hk
   unfold F57_j8
   refine brd (fun hgt=>?_) (fun hngt=>?_)
   ·have hW:isW s k=true:=by
     cases hw:isW s k with
     | true=>rfl
     | false=>rw [runE_f hw] at hgt;omega
    refine⟨by omega,by omega,by omega,?_⟩
    have hx:(s.extract ((k:Int)).toNat ((runE s k:Nat):Int).toNat)=s.extract k (runE s k):=by simp
    rw [hx]
    refine lower_calls _ (by simp;omega) fun w3 hb3=>⟨_,rfl,?_⟩
    have h3:=hws.keep hb3
    refine ap1 (L:=LS) (base:=w.heap.size) (.string .empty) 16 rfl Tryz.underlying26 rfl rfl h3.ws h3.below.size (by simp;omega) (by simp [maxLen];omega) fun A' c' w4 ho hg=>⟨_,_,_,rfl,?_⟩
    obtain⟨hat,hap⟩:=hg.own h3.at_ h3.ap.symm
    refine ap1 (L:=LI) (base:=w.heap.size) (x:=(k:Int)) (.int .i64 0) 8 rfl Tryz.underlying87 rfl rfl hat (Nat.le_trans h3.below.size hg.lt) (by simp;omega) (by simp [maxLen];omega) fun A2' c2' w5 ho2 hg2=>⟨_,_,_,rfl,?_⟩
    obtain⟨how,hap2⟩:=hg2.own ho hap.symm
    refine⟨⟨runE s k,pre++[(lowB (s.extract k (runE s k)),k)],rfl,hle,⟨(h3.below.trans hg.below).trans hg2.below,?_,?_,?_⟩,?_⟩,by dsimp only;have:=runE_gt hW;omega⟩
    ·simpa using how
    ·simpa using ho2
    ·simpa using hap2
    ·rw [←hpre,wordsF_t hW];simp
   ·have hW:isW s k=false:=by
     cases hw:isW s k with
     | false=>rfl
     | true=>have:=runE_gt hw;omega
    have hk2:runE s k=k:=runE_f hW
    rw [hk2]
    exact⟨inR_i64 (by omega) (by omega),⟨k+1,pre,by simp,by omega,hws,by rw [←wordsF_f hW];exact hpre⟩,by dsimp only;omega⟩
  ·refine⟨fun i2 w2=>∃j:Nat,i2=j∧j≤s.size∧runE s j=runE s k∧WS w (.slice l lN lC) (.slice at_ atN atC) pre w2,fun i2 w2=>s.size-i2.toNat,⟨k,rfl,hk,rfl,hws⟩,?_⟩
   rintro i2 w2 ⟨j,rfl,hj,hr,hws⟩
   unfold F57_l6
   refine⟨fun w3=>isW s j=true∧WS w (.slice l lN lC) (.slice at_ atN atC) pre w3,?_,?_⟩
   ·rintro w3 ⟨hW,hws⟩
    have:=isW_lt hW
    unfold F57_j7
    exact⟨inR_i64 (by omega) (by omega),⟨j+1,by simp,by omega,by rw [←runE_t hW];exact hr,hws⟩,by dsimp only;omega⟩
   ·refine brd (fun hlt2=>?_) (fun hge2=>?_)
    ·have hj2:j < s.size:=by omega
     refine idxS rfl hj2 ?_
     refine part_k rfl ⟨_,rfl,?_⟩
     rw [←isW_at hj2]
     refine br (fun hW=>⟨hW,hws⟩) (fun hW=>⟨by rw [←hr,runE_f hW],hws⟩)
    ·have:isW s j=false:=by
      cases hw:isW s j with
      | false=>rfl
      | true=>have:=isW_lt hw;omega
     exact⟨by rw [←hr,runE_f this],hws⟩
 ·have:pre=wordsF s 0:=by rw [←hpre,wordsF_end (by omega)];simp
  rw [this] at hws
  exact h _ _ _ _ _ _ _ hws
def lowL (s:ByteArray) (i j:Nat):List Int:=((s.extract i j).data.toList.map fun b=>((lowU b).toNat:Int))
theorem ext_snoc (s:ByteArray) (i j:Nat) (hi:i≤j) (hj:j < s.size):(s.extract i (j+1)).data.toList=(s.extract i j).data.toList++[s[j]]:=by
 have hz:s.data.toList.length=s.size:=by simp
 rw [Lib.extract_data,Lib.extract_data]
 rw [show s[j]=(s.data.toList)[j]'(by omega) from (bytes_at s j hj).symm]
 rw [show j+1-i=(j-i)+1 by omega,List.take_succ_eq_append_getElem (by rw [List.length_drop];omega),List.getElem_drop]
 congr 2
 congr 1
 omega
theorem lowL_snoc (s:ByteArray) (i j:Nat) (hi:i≤j) (hj:j < s.size):lowL s i (j+1)=lowL s i j++[((lowU s[j]).toNat:Int)]:=by
 unfold lowL;rw [ext_snoc s i j hi hj,List.map_append];rfl
theorem split_calls (s:ByteArray) (hs:s.size≤16384) {w:World}{R:Ending→World→Prop} (h:∀A n c A2 n2 c2 w',WS w (.slice A n c) (.slice A2 n2 c2) (wordsF s 0) w'→R (.returned (.tuple #[.slice A n c,.slice A2 n2 c2])) w'):Calls Tryz.prog 49 #[.string s] w R:=by
 refine ok49 s ?_
 unfold F49
 refine⟨fun l lN lC at_ atN atC i w1=>∃(k:Nat) (pre:List (ByteArray × Nat)),i=k∧k≤s.size+1∧WS w (.slice l lN lC) (.slice at_ atN atC) pre w1∧pre++wordsF s k=wordsF s 0,
  fun l lN lC at_ atN atC i w1=>s.size+1-i.toNat,⟨0,[],rfl,by omega,⟨Below.refl _ _,Own.nil _ _ _ _,Own.nil _ _ _ _,.inl rfl⟩,rfl⟩,?_⟩
 rintro l lN lC at_ atN atC i w1 ⟨k,pre,rfl,hk,hws,hpre⟩
 have hlen:pre.length≤16384:=by
  have h1:=wordsF_len s 0
  rw [←hpre,List.length_append] at h1
  omega
 unfold F49_l4
 refine brd (fun hlt=>?_) (fun hge=>?_)
 ·have hk2:k < s.size:=by omega
  refine⟨fun l lN lC at_ atN atC i w1=>∃(k':Nat) (pre:List (ByteArray × Nat)),k≤k'∧i=k'∧k'≤s.size∧isW s k'=false∧WS w (.slice l lN lC) (.slice at_ atN atC) pre w1∧pre++wordsF s k'=wordsF s 0,?_,?_⟩
  ·rintro l' lN' lC' at' atN' atC' i' w2 ⟨k',pre',h1,rfl,h2,h3,h4,h5⟩
   unfold F49_j5
   exact⟨inR_i64 (by omega) (by omega),⟨k'+1,pre',by simp,by omega,h4,by rw [←wordsF_f h3];exact h5⟩,by dsimp only;omega⟩
  ·refine idxS rfl hk2 (in_k rfl ⟨_,rfl,?_⟩)
   rw [←isW_at hk2,brnot]
   refine br (fun hW=>?_) (fun hW=>?_)
   ·have hle:=runE_le s k (by omega)
    have hgt:=runE_gt hW
    refine⟨fun i2 b bN bC w2=>i2=(runE s k:Nat)∧WS w (.slice l lN lC) (.slice at_ atN atC) pre w2∧Own LU w2 w.heap.size 5 (.slice b bN bC) (lowL s k (runE s k)),?_,?_⟩
    ·rintro i2 b bN bC w2 ⟨rfl,hws,hob⟩
     unfold F49_j12
     obtain⟨hbn,hrd⟩:=hob.rd
     refine b2s ((s.extract k (runE s k)).data.toList.map lowU) (by rw [hbn];simp [lowL]) Tryz.underlying175 rfl rfl (fun j hj=>?_) ⟨_,rfl,?_⟩
     ·have hj':j < (lowL s k (runE s k)).length:=by simpa [lowL] using hj
      obtain⟨b',o',rfl,hc⟩:=hrd.at j hj'
      refine⟨b',o',rfl,?_⟩
      have:=hc 0 _ rfl
      simp only [LU,Nat.mul_one,Nat.add_zero] at this
      rw [this]
      simp [lowL]
     ·have hx:ByteArray.mk (List.map lowU (s.extract k (runE s k)).data.toList).toArray=lowB (s.extract k (runE s k)):=rfl
      rw [hx]
      refine ap1 (L:=LS) (base:=w.heap.size) (.string .empty) 16 rfl Tryz.underlying26 rfl rfl hws.ws hws.below.size (by simp;omega) (by simp [maxLen];omega) fun A' c' w4 ho hg=>⟨_,_,_,rfl,?_⟩
      obtain⟨hat,hap⟩:=hg.own hws.at_ hws.ap.symm
      refine ap1 (L:=LI) (base:=w.heap.size) (x:=(k:Int)) (.int .i64 0) 8 rfl Tryz.underlying87 rfl rfl hat (Nat.le_trans hws.below.size hg.lt) (by simp;omega) (by simp [maxLen];omega) fun A2' c2' w5 ho2 hg2=>⟨_,_,_,rfl,?_⟩
      obtain⟨how,hap2⟩:=hg2.own ho hap.symm
      refine⟨runE s k,pre++[(lowB (s.extract k (runE s k)),k)],by omega,rfl,hle,runE_end s k,⟨(hws.below.trans hg.below).trans hg2.below,?_,?_,?_⟩,?_⟩
      ·simpa using how
      ·simpa using ho2
      ·simpa using hap2
      ·rw [←hpre,wordsF_t hW];simp
    ·refine⟨fun i2 b bN bC w2=>∃j:Nat,i2=j∧k≤j∧j≤s.size∧runE s j=runE s k∧WS w (.slice l lN lC) (.slice at_ atN atC) pre w2∧Own LU w2 w.heap.size 5 (.slice b bN bC) (lowL s k j)∧Apart (.slice l lN lC) (.slice b bN bC)∧Apart (.slice at_ atN atC) (.slice b bN bC),
      fun i2 b bN bC w2=>s.size-i2.toNat,⟨k,rfl,Nat.le_refl _,by omega,rfl,hws,by simpa [lowL] using Own.nil LU _ _ _,Apart.nil_r,Apart.nil_r⟩,?_⟩
     rintro i2 b bN bC w2 ⟨j,rfl,hkj,hj,hr,hws,hob,ha1,ha2⟩
     unfold F49_l9
     refine⟨fun w3=>isW s j=true∧w3=w2,?_,?_⟩
     ·rintro w3 ⟨hW2,rfl⟩
      have hj2:=isW_lt hW2
      unfold F49_j10
      refine idxS rfl hj2 (low_k rfl s[j].toNat_lt ⟨_,rfl,?_⟩)
      have hln:(lowL s k j).length≤16384:=by simp [lowL];omega
      refine ap1 (L:=LU) (base:=w.heap.size) (x:=(lowW s[j].toNat:Nat)) (.int .u8 0) 1 rfl Tryz.underlying175 rfl rfl hob hws.below.size (by omega) (by simp [maxLen];omega) fun A' c' w4 ho hg=>⟨_,_,_,rfl,?_⟩
      obtain⟨h1,h2⟩:=hg.own hws.ws ha1
      obtain⟨h3,h4⟩:=hg.own hws.at_ ha2
      refine⟨inR_i64 (by omega) (by omega),⟨j+1,by simp,by omega,by omega,by rw [←runE_t hW2];exact hr,⟨hws.below.trans hg.below,h1,h3,hws.ap⟩,?_,h2,h4⟩,by dsimp only;omega⟩
      rw [lowL_snoc s k j hkj hj2,lowU_nat]
      exact (by simpa using ho)
     ·refine brd (fun hlt2=>?_) (fun hge2=>?_)
      ·have hj2:j < s.size:=by omega
       refine idxS rfl hj2 (in_k rfl ⟨_,rfl,?_⟩)
       rw [←isW_at hj2]
       refine br (fun hW2=>⟨hW2,rfl⟩) (fun hW2=>?_)
       have hjr:runE s k=j:=by rw [←hr,runE_f hW2]
       exact⟨by rw [hjr],hws,by rw [hjr];exact hob⟩
      ·have hW2:isW s j=false:=by
        cases hw:isW s j with
        | false=>rfl
        | true=>have:=isW_lt hw;omega
       have hjr:runE s k=j:=by rw [←hr,runE_f hW2]
       exact⟨by rw [hjr],hws,by rw [hjr];exact hob⟩
   ·exact⟨k,pre,Nat.le_refl _,rfl,by omega,hW,hws,hpre⟩
 ·have:pre=wordsF s 0:=by rw [←hpre,wordsF_end (by omega)];simp
  rw [this] at hws
  exact h _ _ _ _ _ _ _ hws
set_option linter.unusedVariables false
set_option linter.unusedSimpArgs false
set_option maxRecDepth 100000
def LHt:Lay Hit:=⟨3,fun h=>[.int .u64 (h.1:Nat),.int .i64 (h.2.1:Nat),.int .i64 (h.2.2:Nat)],fun _=>rfl,fun _=>by simp [Value.oneCell'],by decide⟩
theorem mapTypeT:Tryz.prog.underlying 133=some (.map 65 26):=by kernel_rfl
theorem mapTypeH:Tryz.prog.underlying 134=some (.map 9 42):=by kernel_rfl
theorem keyTypeN:Tryz.prog.underlying 65=some (.int .u64):=by kernel_rfl
theorem keyTypeS:Tryz.prog.underlying 9=some .string:=by kernel_rfl
theorem zeroT (w:World):(zeroValue 26).run Tryz.prog w=.ok (.slice none 0 0) w:=by kernel_rfl
theorem zeroH (w:World):(zeroValue 42).run Tryz.prog w=.ok (.slice none 0 0) w:=by kernel_rfl
def isT (A:Nat→Option Sl) (n:Nat):Bool:=match A n with | some s=>decide (s.kind=2) | none=>false
theorem wd_notT {A:Nat→Option Sl}{n:Nat} (h:isT A n=false):wdF A n=[]:=by
 unfold isT at h;unfold wdF
 cases hs:A n with
 | none=>rfl
 | some s =>
  rw [hs] at h
  have:¬s.kind=2:=by simpa using h
  show txF s=[]
  unfold txF;rw [if_neg this]
def mpTx (A:Nat→Option Sl) (N:List Nat) (tv:Nat→Sv) (k:Int):Option Value:=if 0≤k∧k.toNat∈N∧isT A k.toNat=true then some (slV (tv k.toNat)) else none
def mpHt (st:List (ByteArray × Hit)) (hv:ByteArray→Sv) (k:ByteArray):Option Value:=if hitF st k=[] then none else some (slV (hv k))
structure IxO (w6 w:World) (o:Nat→Nat) (mt mh:Nat) (A:Nat→Option Sl) (N:List Nat) (st:List (ByteArray × Hit)) (tv:Nat→Sv) (hv:ByteArray→Sv):Prop where
 fr:Fm (fun b=>b=mt∨b=mh) w6 w
 lt:∀b,o b≠0→w6.heap.size≤b∧b < w.heap.size
 ne:mt≠mh
 tl:mt < w6.heap.size
 hl:mh < w6.heap.size
 tm:Mp .u64 w mt (mpTx A N tv)
 to:∀n∈N,isT A n=true→Own LS w 0 9 (slV (tv n)) (wsF A n)∧∀x,rowOf (slV (tv n))=some x→o x=4
 hm:Ms w mh (mpHt st hv)
 ho:∀k,Own LHt w 0 67 (slV (hv k)) (hitF st k)
 hc:∀k x,rowOf (slV (hv k))=some x→o x=5
 ha:∀k k',k≠k'→Apart (slV (hv k)) (slV (hv k'))
section
variable {w w1 w6:World}{o:Nat→Nat}{mt mh:Nat}{A:Nat→Option Sl}{N:List Nat}{st:List (ByteArray × Hit)}{tv:Nat→Sv}{hv:ByteArray→Sv}{M:Nat→Prop}
theorem IxO.keep (h:IxO w6 w o mt mh A N st tv hv) (hf:Fm M w w1) (hm:∀b,b < w.heap.size→M b→o b=0∧w6.heap.size≤b):IxO w6 w1 o mt mh A N st tv hv:=by
 have hs:=h.fr.size
 have hM:∀x,o x≠0→¬M x:=fun x hx e=>hx (hm x (h.lt x hx).2 e).1
 have h6:∀x,x < w6.heap.size→¬M x:=fun x hx e=>by have:=(hm x (by omega) e).2;omega
 exact⟨h.fr.trans' hf h6,fun b hb=>⟨(h.lt b hb).1,Nat.lt_of_lt_of_le (h.lt b hb).2 hf.size⟩,h.ne,h.tl,h.hl,h.tm.fm hf (h6 mt h.tl),fun n hn ht=>⟨own_fm (h.to n hn ht).1 hf fun x hx=>hM x (by rw [(h.to n hn ht).2 x hx];decide),(h.to n hn ht).2⟩,
  h.hm.fm hf (h6 mh h.hl),fun k=>own_fm (h.ho k) hf fun x hx=>hM x (by rw [h.hc k x hx];decide),h.hc,h.ha⟩
theorem IxO.below (h:IxO w6 w o mt mh A N st tv hv) (hb:Below w.heap.size w w1):IxO w6 w1 o mt mh A N st tv hv:=h.keep (M:=fun _=>False) (.below hb) fun _ _ h=>h.elim
theorem IxO.text (h:IxO w6 w o mt mh A N st tv hv) {n:Nat} (hn:isT A n=true) (hnew:n∉N) {v:Sv} (hv':Own LS w w6.heap.size 9 (slV v) (wsF A n)) (hc:∀x,rowOf (slV v)=some x→o x=0) {K:World→Prop}
  (hK:∀w' o',IxO w6 w' o' mt mh A (N++[n]) st (fun m=>if m=n then v else tv m) hv→Fm (·=mt) w w'→(∀x,o x≠0→o' x=o x)→(∀x,rowOf (slV v)≠some x→o' x=o x)→K w') :
  Raw Tryz.prog (Instr.mapUpdate 133 (.map (some mt)) (.int .u64 (n:Nat)) (slV v)) w fun _ w'=>K w':=by
 refine h.tm.update mapTypeT keyTypeN n (slV v) fun w' hm hf=>?_
 have hs:=h.fr.size
 have hold:∀x,o x≠0→cl o (rowOf (slV v)) 4 x=o x:=fun x hx=>cl_old hx
 have hgt:∀x,o x≠0→x≠mt:=fun x hx e=>by have:=(h.lt x hx).1;have:=h.tl;omega
 have hrt:∀x,rowOf (slV v)=some x→x≠mt:=fun x hx e=>by have:=(hv'.lt x hx).1;have:=h.tl;omega
 refine hK w' (cl o (rowOf (slV v)) 4) ⟨h.fr.trans (hf.mono fun b _ e=>.inl e),fun b hb=>?_,h.ne,h.tl,h.hl,?_,fun m hm2 ht=>?_,h.hm.fm hf (fun e=>h.ne e.symm),fun k=>own_fm (h.ho k) hf fun x hx=>hgt x (by rw [h.hc k x hx];decide),fun k x hx=>?_,h.ha⟩ hf hold fun x hx=>?_
 ·by_cases e:o b=0
  ·unfold cl at hb
   by_cases e2:rowOf (slV v)=some b∧o b=0
   ·have q1:=hv'.lt b e2.1;have q2:=hf.size;exact⟨q1.1,by omega⟩
   ·rw [if_neg e2] at hb;exact absurd e hb
  ·have q1:=h.lt b e;have q2:=hf.size;exact⟨q1.1,by omega⟩
 ·have:mpTx A (N++[n]) (fun m=>if m=n then v else tv m)=upd (mpTx A N tv) (n:Nat) (some (slV v)):=by
   funext k
   unfold mpTx upd
   by_cases e:k=(n:Int)
   ·subst e
    rw [if_pos rfl,if_pos ⟨by omega,by simp,by simpa using hn⟩];simp
   ·rw [if_neg e]
    by_cases h0:0≤k
    ·have e2:k.toNat≠n:=by omega
     simp only [h0,true_and,List.mem_append,List.mem_singleton,e2,or_false,if_false]
    ·rw [if_neg (fun q=>h0 q.1)];show none=if _ then _ else _
     rw [if_neg (fun q=>h0 q.1)]
  rw [this];exact hm
 ·by_cases e:m=n
  ·subst e
   simp only [if_pos rfl]
   exact⟨(own_fm hv' hf hrt).rebase fun _ _=>Nat.zero_le _,fun x hx=>cl_row hx (.inl (hc x hx))⟩
  ·simp only [if_neg e]
   have hm3:m∈N:=by
    rcases List.mem_append.1 hm2 with q | q
    ·exact q
    ·exact absurd (List.mem_singleton.1 q) e
   obtain⟨q1,q2⟩:=h.to m hm3 ht
   exact⟨own_fm q1 hf fun x hx=>hgt x (by rw [q2 x hx];decide),fun x hx=>by rw [hold x (by rw [q2 x hx];decide)];exact q2 x hx⟩
 ·rw [hold x (by rw [h.hc k x hx];decide)];exact h.hc k x hx
 ·unfold cl;rw [if_neg (fun e=>hx e.1)]
theorem IxO.look (h:IxO w6 w o mt mh A N st tv hv) (k:ByteArray) {K:Value→World→Prop} (hK:∀v,Own LHt w 0 67 (slV v) (hitF st k)→(∀x,rowOf (slV v)=some x→o x=5)→(∀k',k'≠k→Apart (slV (hv k')) (slV v))→K (slV v) w) :
  Raw Tryz.prog (Instr.lookup 134 (.map (some mh)) (.string k) false) w K:=by
 refine h.hm.look mapTypeH keyTypeS (zeroH w) k false ?_
 unfold mpHt
 by_cases e:hitF st k=[]
 ·rw [if_pos e]
  exact hK (none,0,0) (by rw [e];exact Own.nil _ _ _ _) (fun x hx=>by cases hx) fun k' _=>Apart.nil_r
 ·rw [if_neg e]
  exact hK (hv k) (h.ho k) (h.hc k) fun k' hk=>h.ha k' k hk
theorem IxO.hit (h:IxO w6 w o mt mh A N st tv hv) {k:ByteArray}{x:Hit}{v v1:Sv} (hw:Own LHt w 0 67 (slV v) (hitF st k)) (hvc:∀x,rowOf (slV v)=some x→o x=5) (hva:∀k',k'≠k→Apart (slV (hv k')) (slV v))
  {w2:World} (g:Grew 0 w w2 (slV v) (slV v1)) (h1:Own LHt w2 0 67 (slV v1) (hitF st k++[x])) {K:World→Prop}
  (hK:∀w' o',IxO w6 w' o' mt mh A N (st++[(k,x)]) tv (fun k'=>if k'=k then v1 else hv k')→Fm (fun b=>b=mh∨rowOf (slV v)=some b) w w'→(∀x,o x≠0→o' x=o x)→(∀x,rowOf (slV v1)≠some x→o' x=o x)→K w') :
  Raw Tryz.prog (Instr.mapUpdate 134 (.map (some mh)) (.string k) (slV v1)) w2 fun _ w'=>K w':=by
 have hs:=h.fr.size
 have FG:Fm (fun b=>rowOf (slV v)=some b) w w2:=Fm.grown g.grown fun b hb=>hb
 have hmh:rowOf (slV v)≠some mh:=fun e=>by have:=(h.lt mh (by rw [hvc mh e];decide)).1;have:=h.hl;omega
 have hmt:rowOf (slV v)≠some mt:=fun e=>by have:=(h.lt mt (by rw [hvc mt e];decide)).1;have:=h.tl;omega
 refine (h.hm.fm FG hmh).update mapTypeH keyTypeS k (slV v1) fun w' hm hf=>?_
 have FF:Fm (fun b=>b=mh∨rowOf (slV v)=some b) w w':=(FG.mono fun b _ e=>.inr e).trans (hf.mono fun b _ e=>.inl e)
 have hold:∀x,o x≠0→cl o (rowOf (slV v1)) 5 x=o x:=fun x hx=>cl_old hx
 have hmem:∀x,rowOf (slV v1)=some x→rowOf (slV v)=some x∨w.heap.size≤x:=fun x hx=>by
  rcases g.row with e | e | ⟨q,e,e2⟩
  ·rw [e] at hx;exact .inl hx
  ·rw [e] at hx;cases hx
  ·rw [e] at hx;cases hx;exact .inr e2
 have hz:∀x,w.heap.size≤x→o x=0:=fun x hx=>Classical.byContradiction fun e=>by have:=(h.lt x e).2;omega
 have h5:∀x,rowOf (slV v1)=some x→o x=0∨o x=5:=fun x hx=>(hmem x hx).elim (fun e=>.inr (hvc x e)) fun e=>.inl (hz x e)
 have hit1:hitF (st++[(k,x)]) k=hitF st k++[x]:=by rw [hitF_app];congr 1;unfold hitF;simp
 have hit2:∀k',k'≠k→hitF (st++[(k,x)]) k'=hitF st k':=fun k' hk=>by
  rw [hitF_app]
  have:hitF [(k,x)] k'=[]:=by unfold hitF;rw [List.filter_cons_of_neg (by simpa using fun e=>hk e.symm)];rfl
  rw [this,List.append_nil]
 have hgt:∀x,o x≠0→x≠mh:=fun x hx e=>by have:=(h.lt x hx).1;have:=h.hl;omega
 have hm1:∀x,rowOf (slV v1)=some x→x≠mh:=fun x hx e=>by
  rcases hmem x hx with q | q
  ·rw [e] at q;exact hmh q
  ·have:=h.hl;omega
 refine hK w' (cl o (rowOf (slV v1)) 5) ⟨?_,fun b hb=>?_,h.ne,h.tl,h.hl,h.tm.fm FF (fun e=>?_),fun m hm2 ht=>?_,?_,fun k'=>?_,fun k' y hy=>?_,fun a b hab=>?_⟩ FF hold fun y hy=>?_
 ·refine⟨FF.os.trans h.fr.os,FF.tape.trans h.fr.tape,FF.output.trans h.fr.output,Nat.le_trans hs FF.size,fun b hb hm=>(FF.block b (by omega) fun e=>?_).trans (h.fr.block b hb hm)⟩
  rcases e with e | e
  ·exact hm (.inr e)
  ·have:=(h.lt b (by rw [hvc b e];decide)).1;omega
 ·have hsz:=FF.size
  by_cases e:o b=0
  ·unfold cl at hb
   by_cases e2:rowOf (slV v1)=some b∧o b=0
   ·have q1:=(h1.lt b e2.1).2
    have q2:=hf.size
    rcases hmem b e2.1 with q | q
    ·rw [hvc b q] at e;cases e
    ·exact⟨by omega,by omega⟩
   ·rw [if_neg e2] at hb;exact absurd e hb
  ·have q:=h.lt b e;exact⟨q.1,by omega⟩
 ·rcases e with e | e
  ·exact h.ne e
  ·exact hmt e
 ·obtain⟨q1,q2⟩:=h.to m hm2 ht
  refine⟨own_fm q1 FF fun y hy e=>?_,fun y hy=>by rw [hold y (by rw [q2 y hy];decide)];exact q2 y hy⟩
  have:=q2 y hy
  rcases e with e | e
  ·exact hgt y (by rw [this];decide) e
  ·rw [hvc y e] at this;cases this
 ·have:mpHt (st++[(k,x)]) (fun k'=>if k'=k then v1 else hv k')=updS (mpHt st hv) k (some (slV v1)):=by
   funext k'
   unfold mpHt updS
   by_cases e:k'=k
   ·subst e
    dsimp only
    rw [if_pos rfl,hit1,if_neg (by simp),if_pos rfl]
   ·dsimp only
    rw [if_neg e,hit2 k' e,if_neg e]
  rw [this];exact hm
 ·by_cases e:k'=k
  ·subst e
   simp only [if_pos rfl]
   rw [hit1]
   exact own_fm h1 hf hm1
  ·simp only [if_neg e]
   rw [hit2 k' e]
   refine own_fm (h.ho k') FF fun y hy q=>?_
   rcases q with q | q
   ·exact hgt y (by rw [h.hc k' y hy];decide) q
   ·rcases hva k' e with q2 | q2
    ·rw [q2] at hy;cases hy
    ·exact q2 (hy.trans q.symm)
 ·by_cases e:k'=k
  ·subst e
   simp only [if_pos rfl] at hy
   exact cl_row hy (h5 y hy)
  ·simp only [if_neg e] at hy
   rw [hold y (by rw [h.hc k' y hy];decide)];exact h.hc k' y hy
 ·have key:∀c,c≠k→Apart (slV (hv c)) (slV v1):=fun c hc=>by
   rcases g.row with q | q | ⟨z,q,q2⟩
   ·rcases hva c hc with p | p
    ·exact .inl p
    ·exact .inr (by rw [q];exact p)
   ·cases hr:rowOf (slV (hv c)) with
    | none=>exact .inl hr
    | some y=>exact .inr (by rw [hr,q];simp)
   ·cases hr:rowOf (slV (hv c)) with
    | none=>exact .inl hr
    | some y =>
     refine .inr ?_
     rw [hr,q]
     intro p
     have p:y=z:=by simpa using p
     have:=(h.lt y (by rw [h.hc c y hr];decide)).2
     omega
  by_cases ea:a=k
  ·have eb:b≠k:=fun e=>hab (ea.trans e.symm)
   simp only [if_pos ea,if_neg eb]
   exact (key b eb).symm
  ·by_cases eb:b=k
   ·simp only [if_neg ea,if_pos eb];exact key a ea
   ·simp only [if_neg ea,if_neg eb];exact h.ha a b hab
 ·unfold cl;rw [if_neg (fun e=>hy e.1)]
end
end Go.Proofs.YtccplipiahdhiaaGreatDoor
set_option linter.unusedVariables false
namespace Go.Proofs
open Go.Shelf
def Tryz.lays315_ren:Go.Shelf.Ren:=⟨fun | 315=>131 | n=>n,fun | 9=>9 | 40=>179 | 4=>4 | 3=>3 | 0=>0 | 21=>21 | n=>n,fun | n=>n⟩
theorem Tryz.lays315:Go.Proofs.Lays.n315 Tryz.prog Tryz.lays315_ren:={
 mixed:=by kernel_rfl
 f315:=Tryz.func131.trans (congrArg some (by kernel_rfl))
 t0:=Tryz.underlying0
 a0:=Tryz.isAgg0
 z0:=Tryz.sizeOf0
 v0:=Tryz.zeroValue0
 t3:=Tryz.underlying3
 a3:=Tryz.isAgg3
 z3:=Tryz.sizeOf3
 v3:=Tryz.zeroValue3
 t4:=Tryz.underlying4
 a4:=Tryz.isAgg4
 z4:=Tryz.sizeOf4
 v4:=Tryz.zeroValue4
 t9:=Tryz.underlying9
 a9:=Tryz.isAgg9
 z9:=Tryz.sizeOf9
 v9:=Tryz.zeroValue9
 t21:=Tryz.underlying21
 a21:=Tryz.isAgg21
 z21:=Tryz.sizeOf21
 v21:=Tryz.zeroValue21
 t40:=Tryz.underlying179
 a40:=Tryz.isAgg179
 z40:=Tryz.sizeOf179
 v40:=Tryz.zeroValue179 }
end Go.Proofs
namespace Go.Proofs.YtccplipiahdhiaaGreatDoor
open Go.RowKit Go.Vc
open Go.Shelf
set_option linter.unusedVariables false
set_option linter.unusedSimpArgs false
set_option maxRecDepth 100000
def badR (r:Nat):Bool:=decide (r < 128) && !inW r
def oneF (s:ByteArray):Bool:=decide ((textS s).2=0) && (!decide (s=ByteArray.mk #[]) && (decide (s=lowB s) && decide (Lib.idxFunc badR true s < 0)))
def canS (ws:List ByteArray):Bool:=decide (0 < ws.length) && (decide (ws.length≤16) && !(ws.any fun w=>!oneF w))
theorem textS_ok {s:ByteArray} (h:(textS s).2=0):s.size≤16384:=by
 unfold textS at h
 split at h
 ·cases h
 ·omega
section
variable {w:World}{R:Ending→World→Prop}
theorem textA_k (s:ByteArray) (hT:Tabs w) (h:∀w',Below w.heap.size w w'→R (.returned (.tuple #[.int .i64 (textS s).1,.int .i64 (textS s).2])) w'):Calls Tryz.prog 67 #[.string s] w R:=by
 refine ok67 s ?_
 unfold F67
 exact (text_calls s w hT).mono fun e w' ⟨he,hw⟩=>by rw [he];exact⟨_,_,rfl,h w' hw⟩
theorem oneC {n:Nat} (hn:n≤1114111) (h:R (.returned (.bool (badR n))) w):Calls Tryz.prog 87 #[.int .i32 (n:Nat)] w R:=by
 refine ok87 n ?_
 unfold F87
 unfold badR at h
 refine brd (fun hlt=>?_) (fun hge=>?_)
 ·rw [decide_eq_true (by omega),Bool.true_and] at h
  exact⟨inR_u8 (by omega) (by omega),part_k (n:=n) rfl ⟨_,rfl,h⟩⟩
 ·rw [decide_eq_false (by omega),Bool.false_and] at h
  exact h
theorem one_calls (s:ByteArray) (hT:Tabs w) (h:∀w',Below w.heap.size w w'→R (.returned (.bool (oneF s))) w'):Calls Tryz.prog 50 #[.string s] w R:=by
 refine ok50 s ?_
 unfold F50
 unfold oneF at h
 refine textA_k s hT fun w1 hb1=>⟨_,_,rfl,?_⟩
 refine bre (fun h0=>?_) (fun h0=>?_)
 ·have h0':(textS s).2=0:=by omega
  have hsz:=textS_ok h0'
  rw [decide_eq_true h0',Bool.true_and] at h
  rw [bytes_eq,brnot]
  refine brd (fun h2=>?_) (fun h2=>?_)
  ·have:=h w1 hb1
   rw [decide_eq_true h2] at this;exact this
  ·rw [decide_eq_false h2] at h
   refine lower_calls s (by omega) fun w2 hb2=>⟨_,rfl,?_⟩
   have B2:=btr hb1 hb1.size hb2
   rw [bytes_eq]
   refine brd (fun h3=>?_) (fun h3=>?_)
   ·rw [decide_eq_true h3] at h
    refine ok86 s (.func (.func 87) #[] #[]) ?_
    unfold F86
    refine (Any.strings_indexFunc_grows Tryz.lays315 87 #[] (fun args w=>by kernel_rfl) badR true s w2 fun W x hx hb=>oneC hx ⟨rfl,.refl _ _⟩).mono fun e w' ⟨he,hw⟩=>?_
    subst he
    exact⟨_,rfl,_,rfl,h w' (btr B2 B2.size hw)⟩
   ·have:=h w2 B2
    rw [decide_eq_false h3] at this;exact this
 ·have:=h w1 hb1
  rw [decide_eq_false (by omega)] at this;exact this
theorem all_calls (ws:List ByteArray) (v:Sv) (hT:Tabs w) (hl:RdV LS w ws v) (h:∀w',Below w.heap.size w w'→R (.returned (.bool (canS ws))) w'):Calls Tryz.prog 54 #[.slice v.1 v.2.1 v.2.2] w R:=by
 refine ok54 v.1 v.2.1 v.2.2 ?_
 unfold F54
 unfold canS at h
 have hn:=hl.1
 refine brd (fun h0=>?_) (fun h0=>?_)
 ·rw [decide_eq_true (by omega),Bool.true_and] at h
  refine brd (fun h1=>?_) (fun h1=>?_)
  ·rw [decide_eq_true (by omega),Bool.true_and] at h
   refine containsFS ws v _ (fun w=>!oneF w) hl (fun y hy w1 K R' hb hK=>⟨by kernel_rfl,?_⟩) fun w' hb=>⟨_,rfl,h w' hb⟩
   refine ok95 y ?_
   unfold F95
   exact one_calls y (hT.keep hb) fun w2 hb2=>⟨_,rfl,hK w2 hb2⟩
  ·have:=h w (.refl _ _)
   rw [decide_eq_false (by omega)] at this;exact this
 ·have:=h w (.refl _ _)
  rw [decide_eq_false (by omega)] at this;exact this
end
end Go.Proofs.YtccplipiahdhiaaGreatDoor
namespace Go.Proofs.YtccplipiahdhiaaGreatDoor
open Go.RowKit Go.Vc
set_option linter.unusedVariables false
set_option linter.unusedSimpArgs false
set_option maxRecDepth 100000
--PURE
section
variable {s:ByteArray}{i j k e f n:Nat}
theorem low_size:(lowB s).size=s.size:=by
 show ((s.data.toList.map lowU).toArray).size=s.data.size
 simp
theorem ext_size (he:e≤s.size):(lowB (s.extract i e)).size=e-i:=by
 rw [low_size,ByteArray.size_extract];omega
theorem low_get (he:e≤s.size) (hk:i+k < e):(lowB (s.extract i e)).get! k=lowU (s.get! (i+k)):=by
 have h0:s.data.size=s.size:=rfl
 have h1:k < (((s.extract i e).data.toList.map lowU).toArray).size:=by simp [ByteArray.data_extract];omega
 show ((((s.extract i e).data.toList.map lowU).toArray)[k]!)=lowU (s.data[i+k]!)
 rw [getElem!_pos (((s.extract i e).data.toList.map lowU).toArray) k h1,getElem!_pos s.data (i+k) (by omega)]
 simp [ByteArray.data_extract]
theorem lowW_hi {c:Nat} (h:128≤c):lowW c=c:=by unfold lowW;rw [if_neg (by omega)]
theorem lowU_hi {b:UInt8} (h:128≤b.toNat):lowU b=b:=by
 apply UInt8.toNat_inj.1;rw [lowU_nat,lowW_hi h]
theorem lowU_low (b:UInt8):lowU (lowU b)=lowU b:=by
 apply UInt8.toNat_inj.1;rw [lowU_nat,lowU_nat];unfold lowW;split <;> (try split) <;> omega
theorem lowB_low (s:ByteArray):lowB s=lowB (lowB s):=by
 unfold lowB
 simp [Function.comp_def,lowU_low]
theorem isW_get (h:isW s i=true):i < s.size∧inW (s.get! i).toNat=true:=by
 have hi:=isW_lt h
 rw [isW_at hi] at h
 refine⟨hi,?_⟩
 have:s.get! i=s[i]:=by show (s.data[i]!)=s.data[i];rw [getElem!_pos]
 rw [this];exact h
theorem isW_hi (hi:i < s.size) (h:128≤(s.get! i).toNat):isW s i=true:=by
 rw [isW_at hi]
 have:s.get! i=s[i]:=by show (s.data[i]!)=s.data[i];rw [getElem!_pos]
 rw [this] at h
 unfold inW
 rw [decide_eq_true_eq];omega
theorem runBy:∀{m i:Nat},s.size-i=m→∀{j},i≤j→j < runE s i→isW s j=true
 | m,i,hm,j,h1,h2=>by
  by_cases hw:isW s i=true
  ·have:=isW_lt hw
   by_cases e:j=i
   ·rw [e];exact hw
   ·rw [runE_t hw] at h2
    exact runBy (m:=s.size-(i+1)) rfl (by omega) h2
  ·have hw:isW s i=false:=by simpa using hw
   rw [runE_f hw] at h2;omega
termination_by m=>m
theorem cont_hi:∀(k j r:Nat) {x:Nat},contR s i k j r=some x→∀q,j≤q→q < j+k→128≤(s.get! (i+q)).toNat
 | 0,j,r,x,h,q,h1,h2=>by omega
 | k+1,j,r,x,h,q,h1,h2=>by
  rw [contR] at h
  split at h
  ·cases h
  ·by_cases e:q=j
   ·subst e;omega
   ·exact cont_hi k (j+1) _ h q (by omega) (by omega)
theorem at_facts (hn:(atR s i).2=n) (h0:n≠0):i+n≤s.size∧n=(sizeR (s.get! i).toNat).1∧(∀q,1≤q→q < n→128≤(s.get! (i+q)).toNat)∧(2≤n→128≤(s.get! i).toNat):=by
 unfold atR at hn
 split at hn
 ·exact absurd hn.symm h0
 ·rename_i hc
  split at hn
  ·exact absurd hn.symm h0
  ·rename_i r hr
   split at hn
   ·dsimp only at hn
    refine⟨by omega,hn.symm,fun q h1 h2=>cont_hi _ _ _ hr q h1 (by omega),fun h2=>?_⟩
    unfold sizeR at hn
    split at hn
    ·dsimp only at hn;omega
    ·omega
   ·exact absurd hn.symm h0
theorem cont_eq {v:ByteArray}:∀(k q r:Nat),(∀x,q≤x→x < q+k→v.get! (j+x)=s.get! (i+x))→contR v j k q r=contR s i k q r
 | 0,_,_,_=>rfl
 | k+1,q,r,h=>by
  rw [contR,contR,h q (Nat.le_refl _) (by omega)]
  split
  ·rfl
  ·exact cont_eq k (q+1) _ fun x h1 h2=>h x (by omega) (by omega)
theorem at_low (he:e≤s.size) (hn:(atR s (i+k)).2=n) (h0:n≠0) (hw:inW (s.get! (i+k)).toNat=true) (hk:i+k+n≤e):(atR (lowB (s.extract i e)) k).2=n:=by
 obtain⟨f1,f2,f3,f4⟩:=at_facts hn h0
 have hsz:=ext_size (i:=i) he
 have g0:=low_get (i:=i) (k:=k) he (by omega)
 by_cases h2:128≤(s.get! (i+k)).toNat
 ·have g1:(lowB (s.extract i e)).get! k=s.get! (i+k):=by rw [g0,lowU_hi h2]
  have key:atR (lowB (s.extract i e)) k=atR s (i+k):=by
   unfold atR
   rw [g1,hsz,if_neg (by omega),if_neg (by omega),cont_eq (i:=i+k) (j:=k) _ _ _ fun x h3 h4=>?_]
   have h5:=f3 x h3 (by omega)
   have:=low_get (i:=i) (k:=k+x) he (by omega)
   rw [←Nat.add_assoc] at this
   rw [this,lowU_hi h5]
  rw [key,hn]
 ·have hs1:sizeR (s.get! (i+k)).toNat=(1,(s.get! (i+k)).toNat):=by unfold sizeR;rw [if_pos (by omega)]
  rw [hs1] at f2
  dsimp only at f2
  subst f2
  unfold inW at hw
  rw [decide_eq_true_eq] at hw
  have g1:((lowB (s.extract i e)).get! k).toNat=lowW (s.get! (i+k)).toNat:=by rw [g0,lowU_nat]
  have hl:lowW (s.get! (i+k)).toNat < 128∧32≤lowW (s.get! (i+k)).toNat:=by unfold lowW;split <;> omega
  unfold atR
  rw [g1,hsz]
  generalize lowW (s.get! (i+k)).toNat=c at *
  have hs2:sizeR c=(1,c):=by unfold sizeR;rw [if_pos hl.1]
  rw [hs2]
  dsimp only
  rw [if_neg (by omega)]
  simp only [Nat.sub_self,contR]
  rw [if_pos ⟨by unfold canR;rw [decide_eq_true_eq];omega,by unfold lenR;rw [if_pos hl.1]⟩]
theorem bad_reach:∀(f i:Nat),(badF s f i).2=0→s.size < i+f→i≤j→j≤s.size→(i < j→(s.get! (j-1)).toNat < 128)→∃f',(badF s f' j).2=0∧s.size < j+f'
 | 0,i,_,h1,h2,h3,_=>by omega
 | f+1,i,h,h1,h2,h3,h4=>by
  by_cases e:j=i
  ·subst e;exact⟨f+1,h,h1⟩
  ·rw [badF,if_neg (by omega)] at h
   split at h
   ·cases h
   ·rename_i hn
    obtain⟨f1,f2,f3,f4⟩:=at_facts rfl hn
    by_cases h5:i+(atR s i).2≤j
    ·exact bad_reach f _ h (by omega) h5 h3 fun _=>h4 (by omega)
    ·exfalso
     have h6:=h4 (by omega)
     by_cases h7:j=i+1
     ·have:=f4 (by omega)
      rw [h7,Nat.add_sub_cancel] at h6;omega
     ·have:=f3 (j-1-i) (by omega) (by omega)
      rw [show i+(j-1-i)=j-1 by omega] at this;omega
theorem bad_low (he:e≤s.size) (hin:∀q,i≤q→q < e→isW s q=true) (hend:e < s.size→isW s e=false):∀(g f k:Nat),(badF s f (i+k)).2=0→s.size < i+k+f→i+k≤e→(badF (lowB (s.extract i e)) g k).2=0
 | 0,_,_,_,_,_=>rfl
 | g+1,0,_,_,h1,h2=>by omega
 | g+1,f+1,k,h,h1,h2=>by
  have hsz:=ext_size (i:=i) he
  rw [badF,hsz]
  by_cases h3:e-i≤k
  ·rw [if_pos h3]
  ·rw [if_neg h3]
   rw [badF,if_neg (by omega)] at h
   split at h
   ·cases h
   ·rename_i hn
    obtain⟨f1,f2,f3,f4⟩:=at_facts rfl hn
    have h4:i+k+(atR s (i+k)).2≤e:=by
     rcases Nat.lt_or_ge e (i+k+(atR s (i+k)).2) with h5 | h5
     ·exfalso
      have h6:=hend (by omega)
      have h7:=f3 (e-(i+k)) (by omega) (by omega)
      rw [show i+k+(e-(i+k))=e by omega] at h7
      rw [isW_hi (by omega) h7] at h6;cases h6
     ·exact h5
    have h5:=at_low he rfl hn (isW_get (hin (i+k) (by omega) (by omega))).2 h4
    rw [h5,if_neg hn]
    exact bad_low he hin hend g f (k+(atR s (i+k)).2) (by rw [←Nat.add_assoc];exact h) (by omega) (by omega)
theorem words_mem:∀{m i:Nat},s.size-i=m→∀{v:ByteArray}{a:Nat},(v,a)∈wordsF s i→(i=0∨isW s (i-1)=false∨isW s i=false)→isW s a=true∧v=lowB (s.extract a (runE s a))∧(a=0∨isW s (a-1)=false)
 | m,i,hm,v,a,h,hi=>by
  by_cases hw:isW s i=true
  ·have hlt:=isW_lt hw
   rw [wordsF_t hw] at h
   rcases List.mem_cons.1 h with h | h
   ·cases h
    refine⟨hw,rfl,?_⟩
    rcases hi with hi | hi | hi
    ·exact .inl hi
    ·exact .inr hi
    ·rw [hi] at hw;cases hw
   ·have:=runE_gt hw
    exact words_mem (m:=s.size-runE s i) rfl h (.inr (.inr (runE_end s i)))
  ·have hw:isW s i=false:=by simpa using hw
   by_cases hlt:i < s.size
   ·rw [wordsF_f hw] at h
    exact words_mem (m:=s.size-(i+1)) rfl h (.inr (.inl hw))
   ·rw [wordsF_end (by omega)] at h;cases h
termination_by m=>m
theorem isW_off (hi:i < s.size) (h:isW s i=false):(s.get! i).toNat < 128:=by
 rcases Nat.lt_or_ge (s.get! i).toNat 128 with h2 | h2
 ·exact h2
 ·rw [isW_hi hi h2] at h;cases h
theorem dec_low {n b0 b1 b2 b3:Nat}:b0 < 128∧(Lib.decodeN n b0 b1 b2 b3).1=b0∨128≤(Lib.decodeN n b0 b1 b2 b3).1:=by
 unfold Lib.decodeN
 by_cases h:b0 < 128
 ·rw [if_pos h];exact .inl ⟨h,rfl⟩
 ·rw [if_neg h]
  right
  repeat' split
  all_goals simp only
  all_goals omega
theorem idx_none {v:ByteArray} (h:∀q,q < v.size→inW (v.get! q).toNat=true):∀(f p:Nat),Lib.idxFuncFrom badR true v f p=-1
 | 0,_=>rfl
 | f+1,p=>by
  rw [Lib.idxFuncFrom]
  split
  ·rename_i hp
   have hq:=h p hp
   have:badR (Utf8.decode v p).1=false:=by
    rw [Lib.decode_at]
    unfold badR
    rcases dec_low (n:=v.size-p) (b0:=(v.get! p).toNat) (b1:=(v.get! (p+1)).toNat) (b2:=(v.get! (p+2)).toNat) (b3:=(v.get! (p+3)).toNat) with ⟨h1,h2⟩ | h1
    ·rw [h2,hq];simp
    ·rw [decide_eq_false (by omega)];rfl
   rw [this,if_neg (by decide)]
   exact idx_none h f _
  ·rfl
theorem inW_low {c:Nat} (h:inW c=true):inW (lowW c)=true:=by
 unfold inW lowW at *
 rw [decide_eq_true_eq] at *
 split <;> omega
theorem word_one {v:ByteArray}{a:Nat} (hs:(textS s).2=0) (h:(v,a)∈wordsF s 0):oneF v=true:=by
 have hsz:=textS_ok hs
 obtain⟨h1,rfl,h2⟩:=words_mem rfl h (.inl rfl)
 have hlt:=isW_lt h1
 have hgt:=runE_gt h1
 have hle:=runE_le s a (by omega)
 have hend:=runE_end s a
 have hin:∀q,a≤q→q < runE s a→isW s q=true:=fun q=>runBy rfl
 generalize runE s a=e at *
 have hb:(badF s (s.size+1) 0).2=0:=by unfold textS at hs;rwa [if_neg (by omega)] at hs
 obtain⟨f,hf1,hf2⟩:=bad_reach (j:=a) (s.size+1) 0 hb (by omega) (by omega) (by omega) fun h0=>isW_off (by omega) (h2.resolve_left (by omega))
 have es:=ext_size (i:=a) hle
 have ht:(textS (lowB (s.extract a e))).2=0:=by
  unfold textS
  rw [if_neg (by omega)]
  exact bad_low hle hin (fun _=>hend) _ f 0 hf1 hf2 (by omega)
 unfold oneF
 rw [Bool.and_eq_true,Bool.and_eq_true,Bool.and_eq_true,decide_eq_true_eq,decide_eq_true_eq,decide_eq_true_eq,Bool.not_eq_true',decide_eq_false_iff_not]
 refine⟨ht,fun h0=>?_,lowB_low _,?_⟩
 ·have:=congrArg ByteArray.size h0
  rw [es] at this
  have h9:(ByteArray.mk #[]).size=0:=rfl
  omega
 ·unfold Lib.idxFunc
  rw [idx_none fun q hq=>?_]
  ·decide
  ·rw [es] at hq
   rw [low_get hle (by omega),lowU_nat]
   exact inW_low (isW_get (hin (a+q) (by omega) (by omega))).2
end
set_option maxRecDepth 100000
section
variable {s v:ByteArray}
theorem dec_step {n b0 b1 b2 b3:Nat}:1≤(Lib.decodeN n b0 b1 b2 b3).2∧(Lib.decodeN n b0 b1 b2 b3).2≤4∧(2≤(Lib.decodeN n b0 b1 b2 b3).2→128≤b1)∧(3≤(Lib.decodeN n b0 b1 b2 b3).2→128≤b2)∧(4≤(Lib.decodeN n b0 b1 b2 b3).2→128≤b3):=by
 unfold Lib.decodeN
 repeat' split
 all_goals dsimp only
 all_goals omega
theorem idx_all:∀(f p:Nat),v.size≤p+f→Lib.idxFuncFrom badR true v f p=-1→∀q,p≤q→q < v.size→inW (v.get! q).toNat=true
 | 0,p,h,_,q,h1,h2=>by omega
 | f+1,p,h,hi,q,h1,h2=>by
  have h128:∀c:Nat,128≤c→c < 256→inW c=true:=fun c hc hc2=>by unfold inW;rw [decide_eq_true_eq];omega
  have hlt:∀j,(v.get! j).toNat < 256:=fun j=>(v.get! j).toNat_lt
  rw [Lib.idxFuncFrom,if_pos (by omega)] at hi
  split at hi
  ·omega
  ·rename_i hb
   rw [Lib.decode_at] at hi hb
   obtain⟨d1,d2,d3,d4,d5⟩:=dec_step (n:=v.size-p) (b0:=(v.get! p).toNat) (b1:=(v.get! (p+1)).toNat) (b2:=(v.get! (p+2)).toNat) (b3:=(v.get! (p+3)).toNat)
   by_cases hq:p+(Lib.decodeN (v.size-p) (v.get! p).toNat (v.get! (p+1)).toNat (v.get! (p+2)).toNat (v.get! (p+3)).toNat).2≤q
   ·exact idx_all f _ (by omega) hi q hq h2
   ·by_cases e0:q=p
    ·subst e0
     by_cases hlow:(v.get! q).toNat < 128
     ·have he:(Lib.decodeN (v.size-q) (v.get! q).toNat (v.get! (q+1)).toNat (v.get! (q+2)).toNat (v.get! (q+3)).toNat).1=(v.get! q).toNat:=by unfold Lib.decodeN;rw [if_pos hlow]
      rw [he] at hb
      unfold badR at hb
      rw [decide_eq_true hlow,Bool.true_and] at hb
      simpa using hb
     ·exact h128 _ (by omega) (hlt q)
    ·rcases (show q=p+1∨q=p+2∨q=p+3 by omega) with e | e | e
     ·subst e;exact h128 _ (d3 (by omega)) (hlt _)
     ·subst e;exact h128 _ (d4 (by omega)) (hlt _)
     ·subst e;exact h128 _ (d5 (by omega)) (hlt _)
theorem one_words (h:oneF s=true):(textS s).2=0∧wordsF s 0=[(s,0)]:=by
 unfold oneF at h
 rw [Bool.and_eq_true,Bool.and_eq_true,Bool.and_eq_true,decide_eq_true_eq,decide_eq_true_eq,decide_eq_true_eq,Bool.not_eq_true',decide_eq_false_iff_not] at h
 obtain⟨h1,h2,h3,h4⟩:=h
 have hi:Lib.idxFuncFrom badR true s s.size 0=-1:=by
  rcases Lib.idxFuncFrom_range badR true s s.size 0 with q | ⟨q,_⟩
  ·exact q
  ·unfold Lib.idxFunc at h4;omega
 have hall:=idx_all s.size 0 (by omega) hi
 have hpos:0 < s.size:=by
  refine Nat.pos_of_ne_zero fun e=>h2 ?_
  have h0:s.data.size=0:=e
  exact ByteArray.ext (Array.eq_empty_of_size_eq_zero h0)
 have hW:∀q,q < s.size→isW s q=true:=fun q hq=>by
  rw [isW_at hq]
  have:s.get! q=s[q]:=by show (s.data[q]!)=s.data[q];rw [getElem!_pos]
  rw [←this];exact hall q (Nat.zero_le _) hq
 have he:runE s 0=s.size:=by
  have h5:=runE_le s 0 (by omega)
  rcases Nat.lt_or_ge (runE s 0) s.size with h6 | h6
  ·have:=runE_end s 0
   rw [hW _ h6] at this;cases this
  ·omega
 refine⟨h1,?_⟩
 rw [wordsF_t (hW 0 hpos),he,wordsF_end (Nat.le_refl _)]
 have:s.extract 0 s.size=s:=by
  apply ByteArray.ext
  rw [ByteArray.data_extract]
  exact Array.extract_size
 rw [this,←h3]
theorem one_iff:oneF s=true↔(textS s).2=0∧∃a,wordsF s 0=[(s,a)] :=
 ⟨fun h=>⟨(one_words h).1,_,(one_words h).2⟩,fun⟨h1,a,h2⟩=>word_one (a:=a) h1 (by rw [h2];simp)⟩
end
set_option maxRecDepth 100000
end Go.Proofs.YtccplipiahdhiaaGreatDoor
