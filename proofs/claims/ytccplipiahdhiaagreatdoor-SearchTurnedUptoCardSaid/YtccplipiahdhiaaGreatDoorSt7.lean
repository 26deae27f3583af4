/- SearchTurned: the order of the words does not matter. -/
import Derived.Test.YtccplipiahdhiaaGreatDoorProg
import Derived.Deep.Slices
import Derived.SizedLaws
import Derived.DataReads
import Derived.WideShapes
import Derived.Test.YtccplipiahdhiaaGreatDoorRows
import Derived.Lib.SmallJoins
import Derived.Test.YtccplipiahdhiaaGreatDoorCards
import Derived.Test.YtccplipiahdhiaaGreatDoorTie
import Derived.WalkKit
import Derived.RowKit3
import Derived.ProofKit
import Derived.OpenShut
import Derived.ShutString
import Derived.ChangeOld
import Derived.Below
import Derived.Carry
import Derived.LaidMore
import Derived.PinnedBridge
import Derived.Lib.LaidIn
import Derived.Lib.LaidU8T
import Derived.SevenTiedAt
import Derived.Stop.Joined
import Derived.Deep.DeepHandedRow
import Derived.JoinedCond
import Derived.Deep.CondSized
import Derived.Test.YtccplipiahdhiaaGreatDoorSt6
namespace Go.Proofs.YtccplipiahdhiaaGreatDoor
open Go.RowKit Go.Vc
set_option linter.unusedVariables false
set_option linter.unusedSimpArgs false
set_option maxRecDepth 100000
section
variable {w:World}{g:Nat}
def S0:PS:=⟨⟨[],[]⟩,[],0,0,0⟩
theorem pm_zero {ty:TypeId}{tl:List Value} (hB:Blk w g (docC (none,0,0) (none,0,0) 0 0 0 tl) ty):PM w (fun b=>if b=g then 1 else 0) ⟨g,ty,tl⟩ S0:=by
 refine⟨if_pos rfl,fun b hb=>?_,rfl,by decide,fun i b hb=>(by cases hb),⟨(none,0,0),(none,0,0),hB,.inl ⟨rfl,rfl⟩,fun x hx=>(by cases hx),.inl ⟨rfl,rfl⟩,fun x hx=>(by cases hx)⟩,fun i b s hb=>(by cases hb),fun s hs=>(by cases hs),⟨fun h hh=>(by cases hh),by decide⟩,by decide⟩
 have hb:(if b=g then 1 else 0)≠0:=hb
 by_cases e:b=g
 ·rw [e];exact hB.lt
 ·rw [if_neg e] at hb;exact absurd rfl hb
theorem pi_zero:PI S0:=⟨rfl,rfl,by decide,fun j t hj ht=>(by cases ht)⟩
theorem ld_zero (hB:Blk w g #[.slice none 0 0,.slice none 0 0,.int .i64 0,.int .i64 0,.int .i64 0,.map none,.pointer none,.int .u64 0,.int .u64 0,.map none] 105):LD 0 g 105 w (fun b=>if b=g then 1 else 0) ⟨[],[]⟩:=by
 have hn:∀y,slA ([]:List Sl) y=none:=fun y=>by
  cases h:slA ([]:List Sl) y with
  | none=>rfl
  | some s =>
   obtain⟨k,_,h2,_⟩:=slA_iff.1 h
   cases h2
 refine⟨S0,[0],0,fun _=>none,rfl,⟨.inr ⟨⟨pm_zero hB⟩,rfl,rfl,fun _=>rfl⟩,pi_zero,rfl,fun y hy=>absurd rfl hy,fun y s hs=>?_,by decide⟩⟩
 have hs:slA ([]:List Sl) y=some s:=hs
 rw [hn] at hs;cases hs
theorem rm_zero {ok:Nat→Bool} (hB:Blk w g #[.slice none 0 0,.slice none 0 0] 107):RM ok w g ⟨[],[]⟩ (none,0,0) (none,0,0) :=
 ⟨hB,⟨by decide,⟨[],rfl,Rd.nil _ _,rfl⟩,rr_none _ _,fun s hs=>(by cases hs),fun h hh=>(by cases hh)⟩,by decide⟩
end
end Go.Proofs.YtccplipiahdhiaaGreatDoor
set_option linter.unusedVariables false
set_option maxRecDepth 100000
namespace Go.Proofs.YtccplipiahdhiaaGreatDoor
open Go.Vc
def F6_j16 (words:Option Addr) (wordsN:Nat) (wordsC:Nat) (t:Option Addr) (other2:Option Addr) (otherN2:Nat) (otherC2:Nat) (ra:World) (R:Ending→World→Prop):Prop :=
 Calls Tryz.prog 11 #[(.pointer t),(.slice words wordsN wordsC)] ra (post R fun v4 ha =>
 ∃(ea:Option Addr) (n:Nat) (k:Nat) (v:Int),v4=(.tuple #[(.slice ea n k),(.int .i64 v)]) ∧
 Calls Tryz.prog 11 #[(.pointer t),(.slice other2 otherN2 otherC2)] ha (post R fun v5 qa =>
 ∃(u:Option Addr) (j:Nat) (p:Nat) (da:Int),v5=(.tuple #[(.slice u j p),(.int .i64 da)]) ∧
 Calls Tryz.prog 12 #[(.pointer t),(.slice words wordsN wordsC)] qa (post R fun v6 ga =>
 ∃(aa:Option Addr) (i:Nat) (g:Nat) (z:Int),v6=(.tuple #[(.slice aa i g),(.int .i64 z)]) ∧
 Calls Tryz.prog 12 #[(.pointer t),(.slice other2 otherN2 otherC2)] ga (post R fun v7 ka =>
 ∃(y:Option Addr) (f:Nat) (r:Nat) (ca:Int),v7=(.tuple #[(.slice y f r),(.int .i64 ca)]) ∧
 Calls Tryz.prog 13 #[(.pointer t),(.slice words wordsN wordsC)] ka (post R fun v8 ja =>
 ∃(q:Option Addr) (c:Nat) (d:Nat) (h:Int),v8=(.tuple #[(.slice q c d),(.int .i64 h)]) ∧
 Calls Tryz.prog 13 #[(.pointer t),(.slice other2 otherN2 otherC2)] ja (post R fun v9 na =>
 ∃(e:Option Addr) (a:Nat) (b:Nat) (m:Int),v9=(.tuple #[(.slice e a b),(.int .i64 m)]) ∧
 Br (v == da)
 (Br (z == ca)
 (Br (h == m)
 (Calls Tryz.prog 30 #[(.slice ea n k),(.slice u j p)] na (post R fun v10 fa =>
 ∃(ia:Bool),v10=(.bool ia) ∧
 Br ia
 (Calls Tryz.prog 30 #[(.slice aa i g),(.slice y f r)] fa (post R fun v11 s =>
 ∃(ma:Bool),v11=(.bool ma) ∧
 Br ma
 (Calls Tryz.prog 30 #[(.slice q c d),(.slice e a b)] s (post R fun v12 ba =>
 ∃(pa:Bool),v12=(.bool pa) ∧
 R (.returned (.bool pa)) ba))
 (R (.returned (.bool false)) s)))
 (R (.returned (.bool false)) fa)))
 (R (.returned (.bool false)) na))
 (R (.returned (.bool false)) na))
 (R (.returned (.bool false)) na)))))))
def F6_l11 (words:Option Addr) (wordsN:Nat) (wordsC:Nat) (which:Int) (a:Option Addr) (L11:Option Addr→Nat→Nat→Int→World→Prop) (other:Option Addr) (otherN:Nat) (otherC:Nat) (i:Int) (h:World) (R:Ending→World→Prop):Prop :=
 Br (decide (i≥(0:Int)))
 (IdxA words wordsN i 1 fun j =>
 LdStr (h.cell? j) fun p =>
 Al h #[(.string p)] 9 fun g53 c =>
 Raw Tryz.prog (Builtin.append_ #[26,26] 26 #[(.slice other otherN otherC),(.slice (some g53) 1 1)]) c fun v4 f =>
 ∃(k:Option Addr) (d:Nat) (g:Nat),v4=(.slice k d g) ∧
 InR .i64 (i-(1:Int))∧L11 k d g (i-(1:Int)) f)
 (∃J16:Option Addr→Nat→Nat→World→Prop,(∀(other2:Option Addr) (otherN2:Nat) (otherC2:Nat) (c:World),J16 other2 otherN2 otherC2 c→F6_j16 words wordsN wordsC a other2 otherN2 otherC2 c R) ∧
 (Br (decide (((wordsN:Nat):Int) > (0:Int)))
 (Br (decide (((wordsN:Nat):Int) < (16:Int)))
 (InR .i64 (which)∧((wordsN:Nat):Int)≠0∧IdxA words wordsN ((which).tmod ((wordsN:Nat):Int)) 1 fun n =>
 LdStr (h.cell? n) fun q =>
 Al h #[(.string q)] 9 fun g72 c =>
 Raw Tryz.prog (Builtin.append_ #[26,26] 26 #[(.slice other otherN otherC),(.slice (some g72) 1 1)]) c fun v4 f =>
 ∃(m:Option Addr) (b:Nat) (e:Nat),v4=(.slice m b e) ∧
 J16 m b e f)
 (J16 other otherN otherC h))
 (J16 other otherN otherC h)))
def F6_j9 (words:Option Addr) (wordsN:Nat) (wordsC:Nat) (which:Int) (a:Option Addr) (c:World) (R:Ending→World→Prop):Prop :=
 InR .i64 (((wordsN:Nat):Int)-(1:Int))∧∃(I:Option Addr→Nat→Nat→Int→World→Prop) (m:Option Addr→Nat→Nat→Int→World→Nat),I none 0 0 (((wordsN:Nat):Int)-(1:Int)) c ∧
 ∀(other:Option Addr) (otherN:Nat) (otherC:Nat) (i:Int) (b:World),I other otherN otherC i b→F6_l11 words wordsN wordsC which a (fun other' otherN' otherC' i' w2=>I other' otherN' otherC' i' w2∧m other' otherN' otherC' i' w2 < m other otherN otherC i b) other otherN otherC i b R
def F6 (acts:Option Addr) (actsN:Nat) (actsC:Nat) (words:Option Addr) (wordsN:Nat) (wordsC:Nat) (which:Int) (h:World) (R:Ending→World→Prop):Prop :=
 Calls Tryz.prog 27 #[] h (post R fun v w1 =>
 ∃(f:Bool),v=(.bool f) ∧
 Br (!f)
 (R (.returned (.bool false)) w1)
 (Calls Tryz.prog 28 #[(.slice acts actsN actsC)] w1 (post R fun v2 e =>
 ∃(g:Option Addr),v2=(.pointer g) ∧
 Br (g).isNone
 (R (.returned (.bool false)) e)
 (Calls Tryz.prog 26 #[(.pointer g)] e (post R fun v3 c =>
 ∃(a:Option Addr) (b:Int),v3=(.tuple #[(.pointer a),(.int .i64 b)]) ∧
 ∃J9:World→Prop,(∀ (d:World),J9 d→F6_j9 words wordsN wordsC which a d R) ∧
 (Br (b != (0:Int))
 (R (.returned (.bool false)) c)
 (Br (a).isNone
 (R (.returned (.bool false)) c)
 (J9 c))))))))
theorem ok6 (acts:Option Addr) (actsN:Nat) (actsC:Nat) (words:Option Addr) (wordsN:Nat) (wordsC:Nat) (which:Int) {w:World}{R:Ending→World→Prop} (h:F6 acts actsN actsC words wordsN wordsC which w R):Calls Tryz.prog 6 #[(.slice acts actsN actsC),(.slice words wordsN wordsC),(.int .u8 which)] w R :=
 vc_calls (pl:=⟨138,⟨[]⟩,[(16,⟨[(10,(.s .slice))],[(10,74)]⟩),(9,⟨[],[(6,7),(35,41)]⟩)],[(11,⟨[(10,(.s .slice)),(11,(.s (.int .i64)))],[(10,55)]⟩)]⟩) Tryz.func6 (by kernel_rfl) (by kernel_rfl) (by kernel_rfl) (Eq.mp (by kernel_rfl) h)
def F27_j8 (z:Option Addr) (ha:World) (R:Ending→World→Prop):Prop :=
 Al ha #[(.string (ByteArray.mk #[120])),(.string (ByteArray.mk #[121]))] 9 fun g59 v =>
 Calls Tryz.prog 11 #[(.pointer z),(.slice (some g59) 2 2)] v (post R fun v10 s =>
 ∃(da:Option Addr) (b:Nat) (f:Nat) (ea:Int),v10=(.tuple #[(.slice da b f),(.int .i64 ea)]) ∧
 Al s #[(.string (ByteArray.mk #[120])),(.string (ByteArray.mk #[121]))] 9 fun g65 k =>
 Calls Tryz.prog 12 #[(.pointer z),(.slice (some g65) 2 2)] k (post R fun v11 y =>
 ∃(p:Option Addr) (g:Nat) (i:Nat) (q:Int),v11=(.tuple #[(.slice p g i),(.int .i64 q)]) ∧
 Al y #[(.string (ByteArray.mk #[120])),(.string (ByteArray.mk #[121]))] 9 fun g71 t =>
 Calls Tryz.prog 20 #[(.pointer z),(.slice (some g71) 2 2)] t (post R fun v12 m =>
 ∃(aa:Option Addr) (a:Nat) (e:Nat) (r:Int),v12=(.tuple #[(.slice aa a e),(.int .i64 r)]) ∧
 Calls Tryz.prog 36 #[(.string (ByteArray.mk #[65,98,45,99]))] m (post R fun v13 ba =>
 ∃(ca:Option Addr) (c:Nat) (h:Nat) (u:Option Addr) (j:Nat) (d:Nat) (n:Int),v13=(.tuple #[(.slice ca c h),(.slice u j d),(.int .i64 n)]) ∧
 Br (ea == (0:Int))
 (Br (((b:Nat):Int) == (3:Int))
 (Br (q == (0:Int))
 (Br (((g:Nat):Int) == (2:Int))
 (Br (r == (0:Int))
 (Br (((a:Nat):Int) == (1:Int))
 (Br (n == (0:Int))
 (Br (((c:Nat):Int) == (2:Int))
 (IdxA ca c (0:Int) 1 fun ga =>
 LdStr (ba.cell? ga) fun fa =>
 R (.returned (.bool (fa.toList == (ByteArray.mk #[97,98]).toList))) ba)
 (R (.returned (.bool false)) ba))
 (R (.returned (.bool false)) ba))
 (R (.returned (.bool false)) ba))
 (R (.returned (.bool false)) ba))
 (R (.returned (.bool false)) ba))
 (R (.returned (.bool false)) ba))
 (R (.returned (.bool false)) ba))
 (R (.returned (.bool false)) ba)))))
def F27  (w_:World) (R:Ending→World→Prop):Prop :=
 Al w_ #[(.slice none 0 0),(.slice none 0 0),(.int .i64 0),(.int .i64 0),(.int .i64 0),(.map none),(.pointer none),(.int .u64 0),(.int .u64 0),(.map none)] 105 fun g18 w1 =>
 CallV Tryz.prog (.func (.func 58) #[] #[]) #[(.string (ByteArray.mk #[120,32,121]))] w1 R (fun v rc =>
 ∃(fc:Int) (sb:ByteArray) (cb:Option Addr) (fa:Nat) (b:Nat) (hc:ByteArray) (eb:Option Addr) (s:Nat) (a:Nat),v=(.agg #[(.int .i64 fc),(.string sb),(.slice cb fa b),(.string hc),(.slice eb s a)]) ∧
 Al rc #[(.int .i64 fc),(.string sb),(.slice cb fa b),(.string hc),(.slice eb s a)] 84 fun g25 kc =>
 CallV Tryz.prog (.func (.func 59) #[] #[]) #[(.string (ByteArray.mk #[98])),(.slice (some g25) 1 1)] kc R (fun v2 pc =>
 ∃(nb:Int) (sa:ByteArray) (db:Option Addr) (ba:Nat) (j:Nat) (gc:ByteArray) (va:Option Addr) (i:Nat) (g:Nat),v2=(.agg #[(.int .i64 nb),(.string sa),(.slice db ba j),(.string gc),(.slice va i g)]) ∧
 CallV Tryz.prog (.func (.func 58) #[] #[]) #[(.string (ByteArray.mk #[121,32]))] pc R (fun v3 mc =>
 ∃(jb:Int) (ja:ByteArray) (vb:Option Addr) (t:Nat) (f:Nat) (cc:ByteArray) (ta:Option Addr) (h:Nat) (u:Nat),v3=(.agg #[(.int .i64 jb),(.string ja),(.slice vb t f),(.string cc),(.slice ta h u)]) ∧
 CallV Tryz.prog (.func (.func 58) #[] #[]) #[(.string (ByteArray.mk #[120]))] mc R (fun v4 nc =>
 ∃(za:Int) (ub:ByteArray) (ec:Option Addr) (e:Nat) (m:Nat) (rb:ByteArray) (dc:Option Addr) (ga:Nat) (n:Nat),v4=(.agg #[(.int .i64 za),(.string ub),(.slice ec e m),(.string rb),(.slice dc ga n)]) ∧
 Al nc #[(.int .i64 za),(.string ub),(.slice ec e m),(.string rb),(.slice dc ga n)] 84 fun g33 ic =>
 CallV Tryz.prog (.func (.func 59) #[] #[]) #[(.string (ByteArray.mk #[100])),(.slice (some g33) 1 1)] ic R (fun v5 qc =>
 ∃(ac:Int) (na:ByteArray) (kb:Option Addr) (aa:Nat) (ca:Nat) (bb:ByteArray) (ua:Option Addr) (y:Nat) (p:Nat),v5=(.agg #[(.int .i64 ac),(.string na),(.slice kb aa ca),(.string bb),(.slice ua y p)]) ∧
 Al qc #[(.int .i64 jb),(.string ja),(.slice vb t f),(.string cc),(.slice ta h u),(.int .i64 ac),(.string na),(.slice kb aa ca),(.string bb),(.slice ua y p)] 84 fun g35 jc =>
 CallV Tryz.prog (.func (.func 59) #[] #[]) #[(.string (ByteArray.mk #[99])),(.slice (some g35) 2 2)] jc R (fun v6 gb =>
 ∃(bc:Int) (ra:ByteArray) (tb:Option Addr) (q:Nat) (c:Nat) (ib:ByteArray) (mb:Option Addr) (ea:Nat) (r:Nat),v6=(.agg #[(.int .i64 bc),(.string ra),(.slice tb q c),(.string ib),(.slice mb ea r)]) ∧
 Al gb #[(.int .i64 nb),(.string sa),(.slice db ba j),(.string gc),(.slice va i g),(.int .i64 bc),(.string ra),(.slice tb q c),(.string ib),(.slice mb ea r)] 84 fun g37 ya =>
 CallV Tryz.prog (.func (.func 59) #[] #[]) #[(.string (ByteArray.mk #[97])),(.slice (some g37) 2 2)] ya R (fun v7 pb =>
 ∃(hb:Int) (zb:ByteArray) (ka:Option Addr) (d:Nat) (k:Nat) (qb:ByteArray) (qa:Option Addr) (da:Nat) (z:Nat),v7=(.agg #[(.int .i64 hb),(.string zb),(.slice ka d k),(.string qb),(.slice qa da z)]) ∧
 Calls Tryz.prog 40 #[(.pointer (some g18)),(.int .i64 2),(.int .u64 0),(.agg #[(.int .i64 hb),(.string zb),(.slice ka d k),(.string qb),(.slice qa da z)])] pb (post R fun v8 fb =>
 ∃(ha:Int) (ia:Int),v8=(.tuple #[(.int .u64 ha),(.int .i64 ia)]) ∧
 Calls Tryz.prog 26 #[(.pointer (some g18))] fb (post R fun v9 ma =>
 ∃(pa:Option Addr) (ab:Int),v9=(.tuple #[(.pointer pa),(.int .i64 ab)]) ∧
 ∃J8:World→Prop,(∀ (yb:World),J8 yb→F27_j8 pa yb R) ∧
 (Br (ia != (0:Int))
 (R (.returned (.bool false)) ma)
 (Br (ab != (0:Int))
 (R (.returned (.bool false)) ma)
 (Br (pa).isNone
 (R (.returned (.bool false)) ma)
 (J8 ma)))))))))))))
theorem ok27  {w:World}{R:Ending→World→Prop} (h:F27  w R):Calls Tryz.prog 27 #[] w R :=
 vc_calls (pl:=⟨120,⟨[]⟩,[(8,⟨[],[(0,1),(47,57)]⟩)],[]⟩) Tryz.func27 (by kernel_rfl) (by kernel_rfl) (by kernel_rfl) (Eq.mp (by kernel_rfl) h)
def F58 (s:ByteArray) (f:World) (R:Ending→World→Prop):Prop :=
 Al f #[(.int .i64 0),(.string (ByteArray.mk #[])),(.slice none 0 0),(.string (ByteArray.mk #[])),(.slice none 0 0)] 84 fun g2 w1 =>
 St w1 g2 (.int .i64 2) fun e =>
 St e (g2.add 1) (.string (ByteArray.mk #[])) fun a =>
 St a (g2.add 2) (.slice none 0 0) fun c =>
 St c (g2.add 3) (.string s) fun d =>
 St d (g2.add 4) (.slice none 0 0) fun b =>
 LdI .i64 (b.cell? g2) fun res0_0 =>
 LdStr (b.cell? (g2.add 1)) fun res0_1 =>
 LdSl (b.cell? (g2.add 2)) fun res0_2 res0_2N res0_2C =>
 LdStr (b.cell? (g2.add 3)) fun res0_3 =>
 LdSl (b.cell? (g2.add 4)) fun res0_4 res0_4N res0_4C =>
 R (.returned (.agg #[(.int .i64 res0_0),(.string res0_1),(.slice res0_2 res0_2N res0_2C),(.string res0_3),(.slice res0_4 res0_4N res0_4C)])) b
theorem ok58 (s:ByteArray) {w:World}{R:Ending→World→Prop} (h:F58 s w R):Calls Tryz.prog 58 #[(.string s)] w R :=
 vc_calls (pl:=⟨5,⟨[]⟩,[],[]⟩) Tryz.func58 (by kernel_rfl) (by kernel_rfl) (by kernel_rfl) (Eq.mp (by kernel_rfl) h)
def F59 (name:ByteArray) (kids:Option Addr) (kidsN:Nat) (kidsC:Nat) (f:World) (R:Ending→World→Prop):Prop :=
 Al f #[(.int .i64 0),(.string (ByteArray.mk #[])),(.slice none 0 0),(.string (ByteArray.mk #[])),(.slice none 0 0)] 84 fun g4 w1 =>
 St w1 g4 (.int .i64 1) fun e =>
 St e (g4.add 1) (.string name) fun a =>
 St a (g4.add 2) (.slice none 0 0) fun c =>
 St c (g4.add 3) (.string (ByteArray.mk #[])) fun d =>
 St d (g4.add 4) (.slice kids kidsN kidsC) fun b =>
 LdI .i64 (b.cell? g4) fun res0_0 =>
 LdStr (b.cell? (g4.add 1)) fun res0_1 =>
 LdSl (b.cell? (g4.add 2)) fun res0_2 res0_2N res0_2C =>
 LdStr (b.cell? (g4.add 3)) fun res0_3 =>
 LdSl (b.cell? (g4.add 4)) fun res0_4 res0_4N res0_4C =>
 R (.returned (.agg #[(.int .i64 res0_0),(.string res0_1),(.slice res0_2 res0_2N res0_2C),(.string res0_3),(.slice res0_4 res0_4N res0_4C)])) b
theorem ok59 (name:ByteArray) (kids:Option Addr) (kidsN:Nat) (kidsC:Nat) {w:World}{R:Ending→World→Prop} (h:F59 name kids kidsN kidsC w R):Calls Tryz.prog 59 #[(.string name),(.slice kids kidsN kidsC)] w R :=
 vc_calls (pl:=⟨8,⟨[]⟩,[],[]⟩) Tryz.func59 (by kernel_rfl) (by kernel_rfl) (by kernel_rfl) (Eq.mp (by kernel_rfl) h)
def F28_l3 (acts:Option Addr) (actsN:Nat) (g7:Addr) (g9:Addr) (L3:Int→World→Prop) (i:Int) (u:World) (R:Ending→World→Prop):Prop :=
 Br (decide (i < ((actsN:Nat):Int)))
 (IdxA acts actsN i 12 fun z =>
 LdI .i64 (u.cell? z) fun k =>
 LdI .i64 (u.cell? (z.add 1)) fun h =>
 LdB (u.cell? (z.add 2)) fun g =>
 LdI .u64 (u.cell? (z.add 3)) fun n =>
 LdI .u64 (u.cell? (z.add 4)) fun q =>
 LdStr (u.cell? (z.add 5)) fun m =>
 LdStr (u.cell? (z.add 6)) fun r =>
 LdI .i64 (u.cell? (z.add 7)) fun s =>
 LdStr (u.cell? (z.add 8)) fun p =>
 LdSl (u.cell? (z.add 9)) fun j c f =>
 LdStr (u.cell? (z.add 10)) fun d =>
 LdSl (u.cell? (z.add 11)) fun e b a =>
 Calls Tryz.prog 60 #[(.iface 61 (.pointer (some g7))),(.pointer (some g9)),(.agg #[(.int .i64 k),(.int .i64 h),(.bool g),(.int .u64 n),(.int .u64 q),(.string m),(.string r),(.int .i64 s),(.string p),(.slice j c f),(.string d),(.slice e b a)])] u (post R fun v t =>
 ∃(y:Bool),v=(.bool y) ∧
 Br (!y)
 (R (.returned (.pointer none)) t)
 (InR .i64 (i+(1:Int))∧L3 (i+(1:Int)) t)))
 (R (.returned (.pointer (some g7))) u)
def F28 (acts:Option Addr) (actsN:Nat) (actsC:Nat) (c:World) (R:Ending→World→Prop):Prop :=
 Al c #[(.slice none 0 0),(.slice none 0 0),(.int .i64 0),(.int .i64 0),(.int .i64 0),(.map none),(.pointer none),(.int .u64 0),(.int .u64 0),(.map none)] 105 fun g7 w1 =>
 Al w1 #[(.slice none 0 0),(.slice none 0 0)] 107 fun g9 b =>
 ∃(I:Int→World→Prop) (m:Int→World→Nat),I (0:Int) b ∧
 ∀(i:Int) (a:World),I i a→F28_l3 acts actsN g7 g9 (fun i' w2=>I i' w2∧m i' w2 < m i a) i a R
theorem ok28 (acts:Option Addr) (actsN:Nat) (actsC:Nat) {w:World}{R:Ending→World→Prop} (h:F28 acts actsN actsC w R):Calls Tryz.prog 28 #[(.slice acts actsN actsC)] w R :=
 vc_calls (pl:=⟨26,⟨[]⟩,[],[(3,⟨[(5,(.s (.int .i64)))],[(2,3),(5,25)]⟩)]⟩) Tryz.func28 (by kernel_rfl) (by kernel_rfl) (by kernel_rfl) (Eq.mp (by kernel_rfl) h)
end Go.Proofs.YtccplipiahdhiaaGreatDoor
namespace Go.Proofs.YtccplipiahdhiaaGreatDoor
open Go.RowKit Go.Vc
set_option linter.unusedVariables false
set_option linter.unusedSimpArgs false
set_option maxRecDepth 100000
def exX (s:ByteArray):Tr:=.mk 2 noB [] s []
def exE (s:ByteArray) (l:List Tr):Tr:=.mk 1 s [] noB l
def exT:Tr:=exE (ByteArray.mk #[97]) [exE (ByteArray.mk #[98]) [exX (ByteArray.mk #[120,32,121])],exE (ByteArray.mk #[99]) [exX (ByteArray.mk #[121,32]),exE (ByteArray.mk #[100]) [exX (ByteArray.mk #[120])]]]
def exD:Im:=(insF ⟨[],[]⟩ 2 0 exT).1
def exW:List ByteArray:=[ByteArray.mk #[120],ByteArray.mk #[121]]
theorem ex_ins:(insF ⟨[],[]⟩ 2 0 exT).2.2=0:=by decide +kernel
theorem ex_all:(AllS exD exW).length=3:=by decide +kernel
theorem ex_small:(SmallS exD exW).length=2:=by decide +kernel
theorem ex_phr:(phrF (slA exD.sl) (stD exD) exW).length=1:=by decide +kernel
theorem ex_can:canS exW=true:=by decide +kernel
theorem ex_text:(textS (ByteArray.mk #[65,98,45,99])).2=0:=by decide +kernel
theorem ex_words:(wordsF (ByteArray.mk #[65,98,45,99]) 0).map (·.1)=[ByteArray.mk #[97,98],ByteArray.mk #[99]]:=by decide +kernel
def eX (s:ByteArray):E5:=⟨2,noB,(none,0,0),s,(none,0,0)⟩
def eE (s:ByteArray) (v:Sv):E5:=⟨1,s,(none,0,0),noB,v⟩
section
variable {w w1:World}{R:Ending→World→Prop}
theorem rd_blk {α:Type}{L:Lay α}{g:Nat}{cs:Array Value}{t:TypeId}{xs:List α} (h:Blk w g cs t) (hc:cs.toList=L.all xs) (hm:xs.length≤maxLen):Rd L w (some ⟨g,0,none⟩) xs.length xs :=
 ⟨Nat.le_refl _,hm,(fun h=>by cases h),fun _=>⟨g,0,rfl,fun j u hj=>by rw [h.cell,Nat.zero_add,←Array.getElem?_toList,hc];exact hj⟩⟩
theorem exX_rd (s:ByteArray):RTr w (exX s) (eX s):=by
 unfold exX eX
 simp only [RTr]
 exact⟨trivial,trivial,trivial,rr_nil,by simp,[],rfl,Rd.nil _ _,by simp only [RTl]⟩
theorem exE_rd {s:ByteArray}{l:List Tr}{v:Sv}{es:List E5} (hl:l.length≤1048576) (hn:v.2.1=es.length) (hr:Rd LE5 w v.1 v.2.2 es) (ht:RTl w l es):RTr w (exE s l) (eE s v):=by
 unfold exE eE
 simp only [RTr]
 exact⟨trivial,trivial,trivial,rr_nil,hl,es,hn,hr,ht⟩
theorem exX_call {K:Value→World→Prop}{R':Ending→World→Prop} (s:ByteArray) (h:∀w',Below w.heap.size w w'→K (.agg #[.int .i64 2,.string noB,.slice none 0 0,.string s,.slice none 0 0]) w'):CallV Tryz.prog (.func (.func 58) #[] #[]) #[.string s] w R' K:=by
 refine⟨by kernel_rfl,?_⟩
 refine ok58 s ?_
 unfold F58
 refine al fun g w1 hb1 b1 hge=>?_
 simp only [Addr.add_mk,Nat.zero_add]
 refine st_blk b1 (by simp) fun w2 b2 f2=>?_
 refine st_blk b2 (by simp) fun w3 b3 f3=>?_
 refine st_blk b3 (by simp) fun w4 b4 f4=>?_
 refine st_blk b4 (by simp) fun w5 b5 f5=>?_
 refine st_blk b5 (by simp) fun w6 b6 f6=>?_
 have b7:Blk w6 g #[.int .i64 2,.string noB,.slice none 0 0,.string s,.slice none 0 0] 84:=b6
 simp only [b7.cell,lds]
 refine h w6 ?_
 exact (hb1.trans (((((f2.trans f3).trans f4).trans f5).trans f6).toBelow hb1.size fun x hx e=>by have e:x=g:=e;omega))
theorem exE_call {K:Value→World→Prop}{R':Ending→World→Prop} (s:ByteArray) (v:Sv) (h:∀w',Below w.heap.size w w'→K (.agg #[.int .i64 1,.string s,.slice none 0 0,.string noB,.slice v.1 v.2.1 v.2.2]) w'):CallV Tryz.prog (.func (.func 59) #[] #[]) #[.string s,.slice v.1 v.2.1 v.2.2] w R' K:=by
 refine⟨by kernel_rfl,?_⟩
 refine ok59 s v.1 v.2.1 v.2.2 ?_
 unfold F59
 refine al fun g w1 hb1 b1 hge=>?_
 simp only [Addr.add_mk,Nat.zero_add]
 refine st_blk b1 (by simp) fun w2 b2 f2=>?_
 refine st_blk b2 (by simp) fun w3 b3 f3=>?_
 refine st_blk b3 (by simp) fun w4 b4 f4=>?_
 refine st_blk b4 (by simp) fun w5 b5 f5=>?_
 refine st_blk b5 (by simp) fun w6 b6 f6=>?_
 have b7:Blk w6 g #[.int .i64 1,.string s,.slice none 0 0,.string noB,.slice v.1 v.2.1 v.2.2] 84:=b6
 simp only [b7.cell,lds]
 refine h w6 ?_
 exact (hb1.trans (((((f2.trans f3).trans f4).trans f5).trans f6).toBelow hb1.size fun x hx e=>by have e:x=g:=e;omega))
end
set_option maxRecDepth 100000
section
variable {w w1:World}{R:Ending→World→Prop}
theorem exW_rd {g:Nat} (h:Blk w g #[.string (ByteArray.mk #[120]),.string (ByteArray.mk #[121])] 9):RdV LS w exW (some ⟨g,0,none⟩,2,2) :=
 ⟨rfl,by decide,rd_blk (xs:=exW) h rfl (by decide)⟩
theorem lives_calls (hT:Tabs w) (hK:∀w',Below w.heap.size w w'→R (.returned (.bool true)) w'):Calls Tryz.prog 27 #[] w R:=by
 refine ok27 ?_
 unfold F27
 refine al fun gp w1 hb1 b1 hge=>?_
 refine exX_call _ fun w2 hb2=>⟨_,_,_,_,_,_,_,_,_,rfl,?_⟩
 refine al fun g25 w3 hb3 b25 hge25=>?_
 refine exE_call _ (some ⟨g25,0,none⟩,1,1) fun w4 hb4=>⟨_,_,_,_,_,_,_,_,_,rfl,?_⟩
 refine exX_call _ fun w5 hb5=>⟨_,_,_,_,_,_,_,_,_,rfl,?_⟩
 refine exX_call _ fun w6 hb6=>⟨_,_,_,_,_,_,_,_,_,rfl,?_⟩
 refine al fun g33 w7 hb7 b33 hge33=>?_
 refine exE_call _ (some ⟨g33,0,none⟩,1,1) fun w8 hb8=>⟨_,_,_,_,_,_,_,_,_,rfl,?_⟩
 refine al fun g35 w9 hb9 b35 hge35=>?_
 refine exE_call _ (some ⟨g35,0,none⟩,2,2) fun w10 hb10=>⟨_,_,_,_,_,_,_,_,_,rfl,?_⟩
 refine al fun g37 w11 hb11 b37 hge37=>?_
 refine exE_call _ (some ⟨g37,0,none⟩,2,2) fun w12 hb12=>⟨_,_,_,_,_,_,_,_,_,rfl,?_⟩
 have hs1:=hb1.size
 have hs2:=hb2.size
 have hs3:=hb3.size
 have hs4:=hb4.size
 have hs5:=hb5.size
 have hs6:=hb6.size
 have hs7:=hb7.size
 have hs8:=hb8.size
 have hs9:=hb9.size
 have hs10:=hb10.size
 have hs11:=hb11.size
 have hgp:=b1.lt
 have c11:=btr hb11 hb11.size hb12
 have c10:=btr hb10 hb10.size c11
 have c9:=btr hb9 hb9.size c10
 have c8:=btr hb8 hb8.size c9
 have c7:=btr hb7 hb7.size c8
 have c6:=btr hb6 hb6.size c7
 have c5:=btr hb5 hb5.size c6
 have c4:=btr hb4 hb4.size c5
 have c3:=btr hb3 hb3.size c4
 have c2:=btr hb2 hb2.size c3
 have c1:=btr hb1 hb1.size c2
 have p1:=b1.keep c2
 have p25:=b25.keep c4
 have p33:=b33.keep c8
 have p35:=b35.keep c10
 have p37:=b37.keep hb12
 have hL:=ld_zero p1
 generalize ho:(fun b=>if b=gp then 1 else 0)=o at hL
 have hoc:∀b,b≠gp→(o b).beq 0=true:=fun b hb=>by rw [←ho];simp only [if_neg hb];rfl
 have hW:∀{g:Nat}{c:Array Value}{t:TypeId},g≠gp→Blk w12 g c t→Blk (wc o w12) g c t:=fun hne hh=>cells_only (ok:=fun b=>Nat.beq (o b) 0) (hoc _ hne) hh
 have hsub:Sub w (wc o w12):=fun b c t fr hb=>by
  have hlt:=(Array.getElem?_eq_some_iff.1 hb).1
  refine cells_only (hoc b (by omega)) ?_
  rw [c1.block b hlt];exact hb
 have hx:RTr (wc o w12) exT (eE (ByteArray.mk #[97]) (some ⟨g37,0,none⟩,2,2)):=by
  have r25:RTr (wc o w12) (exE (ByteArray.mk #[98]) [exX (ByteArray.mk #[120,32,121])]) (eE (ByteArray.mk #[98]) (some ⟨g25,0,none⟩,1,1)) :=
   exE_rd (by decide) rfl (rd_blk (xs:=[eX (ByteArray.mk #[120,32,121])]) (hW (by omega) p25) rfl (by decide)) (by simp only [RTl];exact⟨_,_,rfl,exX_rd _,rfl⟩)
  have r33:RTr (wc o w12) (exE (ByteArray.mk #[100]) [exX (ByteArray.mk #[120])]) (eE (ByteArray.mk #[100]) (some ⟨g33,0,none⟩,1,1)) :=
   exE_rd (by decide) rfl (rd_blk (xs:=[eX (ByteArray.mk #[120])]) (hW (by omega) p33) rfl (by decide)) (by simp only [RTl];exact⟨_,_,rfl,exX_rd _,rfl⟩)
  have r35:RTr (wc o w12) (exE (ByteArray.mk #[99]) [exX (ByteArray.mk #[121,32]),exE (ByteArray.mk #[100]) [exX (ByteArray.mk #[120])]]) (eE (ByteArray.mk #[99]) (some ⟨g35,0,none⟩,2,2)) :=
   exE_rd (by decide) rfl (rd_blk (xs:=[eX (ByteArray.mk #[121,32]),eE (ByteArray.mk #[100]) (some ⟨g33,0,none⟩,1,1)]) (hW (by omega) p35) rfl (by simp [maxLen])) (by simp only [RTl];exact⟨_,_,rfl,exX_rd _,_,_,rfl,r33,rfl⟩)
  exact exE_rd (by decide) rfl (rd_blk (xs:=[eE (ByteArray.mk #[98]) (some ⟨g25,0,none⟩,1,1),eE (ByteArray.mk #[99]) (some ⟨g35,0,none⟩,2,2)]) (hW (by omega) p37) rfl (by simp [maxLen])) (by simp only [RTl];exact⟨_,_,rfl,r25,_,_,rfl,r35,rfl⟩)
 refine insertL_calls (a:=0) (e:=eE (ByteArray.mk #[97]) (some ⟨g37,0,none⟩,2,2)) hL (by decide) nil_wf (hT.sub hsub) hx (by decide) fun w13 o13 hL13 ev=>⟨_,_,rfl,?_⟩
 have B13:Below w.heap.size w w13:=c1.trans (ev.fm.toBelow c1.size fun b hb e=>e (by rw [←ho];exact if_neg (by omega)))
 refine New_calls hL13 (ins_wf nil_wf 2 0 exT) fun gx w14 hb14 hix=>⟨_,_,rfl,?_⟩
 have B14:=btr B13 B13.size hb14
 have hix:Ix w14 gx exD:=hix
 obtain⟨gd,mt,mh,o',S,nv,tv,hv,hix⟩:=hix
 refine⟨fun w'=>w'=w14,?_,?_⟩
 rotate_left
 ·refine brn (fun h=>absurd ex_ins h) fun _=>brn (fun h=>absurd rfl h) fun _=>?_
  rw [Option.isNone_some,Br_f]
 rintro w15 rfl
 unfold F27_j8
 have nc:canS exW=false→False:=fun h=>by rw [ex_can] at h;cases h
 refine al fun ga w16 hb16 b16 _=>?_
 have B16:=btr B14 B14.size hb16
 refine All_calls (vw:=(some ⟨ga,0,none⟩,2,2)) (hix.keep hb16) (hT.keep B16) (exW_rd b16) (fun _ va w17 hb17 oa=>⟨_,_,_,_,rfl,?_⟩) fun h=>(nc h).elim
 have B17:=btr B16 B16.size hb17
 refine al fun gb w18 hb18 b18 _=>?_
 have B18:=btr B17 B17.size hb18
 have C18:=btr hb16 hb16.size (btr hb17 hb17.size hb18)
 refine Smallest_calls (vw:=(some ⟨gb,0,none⟩,2,2)) (hix.keep C18) (hT.keep B18) (exW_rd b18) (fun _ vb w19 hb19 ob=>⟨_,_,_,_,rfl,?_⟩) fun h=>(nc h).elim
 have B19:=btr B18 B18.size hb19
 refine al fun gc w20 hb20 b20 _=>?_
 have B20:=btr B19 B19.size hb20
 have C20:=btr C18 C18.size (btr hb19 hb19.size hb20)
 refine Phrase_calls (v:=(some ⟨gc,0,none⟩,2,2)) (hix.keep C20) (hT.keep B20) (exW_rd b20) (fun _ vc w21 hb21 oc=>⟨_,_,_,_,rfl,?_⟩) fun h=>(nc h).elim
 have B21:=btr B20 B20.size hb21
 refine wordsA_k _ (hT.keep B21) fun v w22 ⟨A,n,c,A2,n2,c2,hv,hw⟩=>⟨_,_,_,_,_,_,_,hv,?_⟩
 have B22:=btr B21 B21.size hw.below
 have ea:=(rdO oa).1
 have eb:=(rdO ob).1
 have ec:=(rdO oc).1
 rw [ex_all] at ea
 rw [ex_small] at eb
 rw [ex_phr] at ec
 have hws:=hw.ws
 rw [if_pos ex_text,ex_words] at hws
 obtain⟨q1,q2⟩:=hws.rd
 rw [ea,eb,ec,ex_text,q1]
 refine bre (fun _=>?_) fun h=>absurd rfl h
 refine bre (fun _=>?_) fun h=>absurd rfl h
 refine bre (fun _=>?_) fun h=>absurd rfl h
 refine bre (fun _=>?_) fun h=>absurd rfl h
 refine bre (fun _=>?_) fun h=>absurd rfl h
 refine bre (fun _=>?_) fun h=>absurd rfl h
 refine bre (fun _=>?_) fun h=>absurd rfl h
 refine bre (fun _=>?_) fun h=>absurd rfl h
 refine q2.str rfl rfl (k:=0) (by decide) fun b oo cs=>?_
 simp only [cs,lds]
 rw [bytes_eq]
 exact hK w22 B22
end
set_option maxRecDepth 100000
structure E12 where
 a:Ac
 e:E5
def E12.cells (x:E12):List Value:=[.int .i64 x.a.kind,.int .i64 x.a.wh,.bool x.a.how,.int .u64 (x.a.n:Nat),.int .u64 (x.a.at_:Nat),.string x.a.nm,.string x.a.val,.int .i64 x.e.kind,.string x.e.nm,.slice x.e.ats.1 x.e.ats.2.1 x.e.ats.2.2,.string x.e.text,.slice x.e.kids.1 x.e.kids.2.1 x.e.kids.2.2]
def LAc:Lay E12:=⟨12,E12.cells,fun _=>rfl,fun _=>by simp [E12.cells,Value.oneCell'],by decide⟩
def RAc (w:World) (x:E12):Prop:=AcOk x.a∧RTr w x.a.x x.e
theorem RAc.sub {w w1:World}{x:E12} (h:RAc w x) (hs:Sub w w1):RAc w1 x:=⟨h.1,RTr.sub hs _ _ h.2⟩
structure Both (p:Value) (P:Nat→World→(Nat→Nat)→Im→Prop) (w0:World) (g k:Nat) (w:World) (o:Nat→Nat) (D:Im) (vs vr:Sv):Prop where
 p:P k w o D
 wf:Wf D
 r:RM (okc o) w g D vs vr
 og:o g=0
 old:Below w0.heap.size w0 w
 col:∀b,b < w0.heap.size→o b=0
 gne:w0.heap.size≤g
section
variable {p:Value}{P:Nat→World→(Nat→Nat)→Im→Prop}{k:Nat}{w w0 w1:World}{o:Nat→Nat}{g:Nat}{D:Im}{vs vr:Sv}{R:Ending→World→Prop}
theorem Both.sub (h:Both p P w0 g k w o D vs vr):Sub w0 (vw (okc o) g w):=fun b c t fr hb=>by
 have hlt:=(Array.getElem?_eq_some_iff.1 hb).1
 refine cells_only (vw_iff.2 ⟨okc_iff.2 (h.col b hlt),by have:=h.gne;omega⟩) ?_
 rw [h.old.block b hlt];exact hb
theorem Both.keep (E:Edr p P) (h:Both p P w0 g k w o D vs vr) (hb:Below w.heap.size w w1):Both p P w0 g k w1 o D vs vr :=
 ⟨E.keep (M:=fun _=>False) h.p (.below hb) fun _ _ h=>h.elim,h.wf,h.r.keep hb,h.og,btr h.old h.old.size hb,h.col,h.gne⟩
theorem both_does (E:Edr p P) (h:Both p P w0 g k w o D vs vr) (hk:k < 1099511627776) (hT:Tabs w0) {x:E12} (hx:RAc w0 x)
  (hK:∀w' o' vs' vr',Both p P w0 g (k+1) w' o' (doF D x.a) vs' vr'→R (.returned (.bool true)) w'):Calls Tryz.prog 60 #[p,.pointer (some ⟨g,0,none⟩),acV x.a x.e] w R:=by
 have hs:=h.sub
 refine does_calls E h.p hk h.wf h.r h.og (hT.sub hs) hx.1 (RTr.sub hs _ _ hx.2) fun w' o' vs' vr' hp hr hf ho=>hK w' o' vs' vr' ⟨hp,do_wf h.wf _,hr,?_,?_,fun b hb=>ho b (Nat.lt_of_lt_of_le hb h.old.size) (h.col b hb),h.gne⟩
 ·exact ho g h.r.blk.lt h.og
 ·refine h.old.trans (hf.toBelow h.old.size fun b hb e=>?_)
  rcases e with e | e
  ·exact e (h.col b hb)
  ·have:=h.gne;omega
end
set_option maxRecDepth 100000
section
variable {w w1:World}{R:Ending→World→Prop}
abbrev LBoth (gp:Nat) (w0:World) (g k:Nat) (w:World) (o:Nat→Nat) (D:Im) (vs vr:Sv):Prop:=Both (.iface 61 (.pointer (some ⟨gp,0,none⟩))) (fun k w o D=>LD k gp 105 w o D) w0 g k w o D vs vr
theorem played_calls {A:Option Addr}{c:Nat}{xs:List E12} (hT:Tabs w) (hr:Rd LAc w A c xs) (hx:∀x∈xs,RAc w x) (hl:xs.length≤1048576)
  (hK:∀gp gd w' o D vs vr k,k≤1048576→LBoth gp w gd k w' o D vs vr→R (.returned (.pointer (some ⟨gp,0,none⟩))) w'):Calls Tryz.prog 28 #[.slice A xs.length c] w R:=by
 refine ok28 A xs.length c ?_
 unfold F28
 refine al fun gp w1 hb1 b1 hge1=>al fun gd w2 hb2 b2 hge2=>?_
 have B2:=btr hb1 hb1.size hb2
 have hs1:=hb1.size
 have hb1l:=b1.lt
 have b12:=b1.keep hb2
 have h0:LBoth gp w gd 0 w2 (fun b=>if b=gp then 1 else 0) ⟨[],[]⟩ (none,0,0) (none,0,0) :=
  ⟨ld_zero b12,nil_wf,rm_zero b2,if_neg (by omega),B2,fun b hb=>if_neg (by omega),by omega⟩
 refine⟨fun i w'=>∃(m:Nat) (o:Nat→Nat) (D:Im) (vs vr:Sv),i=m∧m≤xs.length∧LBoth gp w gd m w' o D vs vr,fun i _=>xs.length-i.toNat,⟨0,_,_,_,_,rfl,by omega,h0⟩,?_⟩
 rintro _ w3 ⟨m,o,D,vs,vr,rfl,hm,h3⟩
 unfold F28_l3
 refine brd (fun hlt=>?_) (fun hge=>?_)
 ·have hml:m < xs.length:=by omega
  refine (hr.keep h3.old).idx rfl (by omega) (by omega) rfl fun b oo hc=>?_
  simp only [Int.toNat_natCast] at hc
  have k0:=hc 0 _ rfl
  have k1:=hc 1 _ rfl
  have k2:=hc 2 _ rfl
  have k3:=hc 3 _ rfl
  have k4:=hc 4 _ rfl
  have k5:=hc 5 _ rfl
  have k6:=hc 6 _ rfl
  have k7:=hc 7 _ rfl
  have k8:=hc 8 _ rfl
  have k9:=hc 9 _ rfl
  have k10:=hc 10 _ rfl
  have k11:=hc 11 _ rfl
  simp only [Nat.add_zero] at k0
  simp only [k0,k1,k2,k3,k4,k5,k6,k7,k8,k9,k10,k11,lds]
  refine both_does label_edr h3 (by omega) hT (hx _ (List.getElem_mem hml)) fun w4 o4 vs4 vr4 h4=>⟨_,rfl,?_⟩
  rw [brnot,Br_t]
  exact⟨inR_i64 (by omega) (by omega),⟨m+1,o4,_,vs4,vr4,by simp,by omega,h4⟩,(by first | omega | (dsimp only;omega))⟩
 ·exact hK gp gd w3 o D vs vr m (by omega) h3
theorem handlesL {l:List Nat}{v u:Sv} (hl:RdV LHn w l v) (hm:RdV LHn w l u) (hK:∀w',Below w.heap.size w w'→R (.returned (.bool true)) w'):Calls Tryz.prog 30 #[.slice v.1 v.2.1 v.2.2,.slice u.1 u.2.1 u.2.2] w R:=by
 obtain⟨z1,z0,z2⟩:=hl
 obtain⟨y1,y0,y2⟩:=hm
 refine ok30 v.1 v.2.1 v.2.2 u.1 u.2.1 u.2.2 ?_
 unfold F30
 refine brn (fun hne=>absurd (by rw [z1,y1]) hne) (fun he=>?_)
 refine⟨fun i w'=>∃k:Nat,i=k∧k≤l.length∧Below w.heap.size w w',fun i _=>l.length-i.toNat,⟨0,rfl,by omega,.refl _ _⟩,?_⟩
 rintro i w1 ⟨k,rfl,hk,hb1⟩
 unfold F30_l4
 refine brd (fun hlt=>?_) (fun hge=>hK w1 hb1)
 have hk2:k < l.length:=by omega
 refine dr fun w2 hb2 _=>?_
 have B2:=btr hb1 hb1.size hb2
 refine (z2.keep B2).hn z1 rfl (k:=k) hk2 fun b o c0=>?_
 simp only [c0,lds]
 refine (y2.keep B2).hn y1 rfl (k:=k) hk2 fun b2 o2 c2=>?_
 simp only [c2,lds]
 exact brn (fun hne=>absurd rfl hne) fun _=>⟨inR_i64 (by omega) (by omega),⟨k+1,by simp,by omega,B2⟩,(by first | omega | (dsimp only;omega))⟩
end
set_option maxRecDepth 100000
theorem canS_turn {ws vs:List ByteArray} (h:∀w,w∈vs↔w∈ws) (h0:0 < vs.length↔0 < ws.length) (h1:vs.length≤16↔ws.length≤16):canS vs=canS ws:=by
 have e:(vs.any fun w=>!oneF w)=ws.any fun w=>!oneF w:=by
  rw [Bool.eq_iff_iff,List.any_eq_true,List.any_eq_true]
  exact⟨fun⟨x,a,b⟩=>⟨x,(h x).1 a,b⟩,fun⟨x,a,b⟩=>⟨x,(h x).2 a,b⟩⟩
 unfold canS
 rw [e,decide_eq_decide.2 h0,decide_eq_decide.2 h1]
section
variable {W:World}{R:Ending→World→Prop}{A:Option Addr}{c:Nat}{xs:List E12}{ws:List ByteArray}{vw:Sv}
theorem turnS_calls {w:World}{gx:Nat}{D:Im}{vs:List ByteArray}{vu:Sv} (hx:Ix w gx D) (hT:Tabs w) (hw:RdV LS w ws vw) (hu:RdV LS w vs vu) (h:∀w,w∈vs↔w∈ws) (hc:canS vs=canS ws) (hK:∀w',Below w.heap.size w w'→R (.returned (.bool true)) w') :
  F6_j16 vw.1 vw.2.1 vw.2.2 (some ⟨gx,0,none⟩) vu.1 vu.2.1 vu.2.2 w R:=by
 unfold F6_j16
 obtain⟨gd,mt,mh,o,S,nv,tv,hv,hx⟩:=hx
 obtain⟨t1,t2,t3⟩:=turned_same (D:=D) h
 have hfew:(allD' D).length≤4096:=rootsAll_few hx.wf.s hx.wf.a
 have few:∀q,(fndF D ws q).length≤4096:=fun q=>Nat.le_trans (List.length_filter_le _ _) hfew
 by_cases ho:canS ws=true
 ·have no:canS ws=false→False:=fun e=>by rw [ho] at e;cases e
  have no2:canS vs=false→False:=fun e=>by rw [hc] at e;exact no e
  refine All_calls hx hT hw (fun _ v1 w1 hb1 o1=>⟨_,_,_,_,rfl,?_⟩) fun e=>(no e).elim
  refine All_calls (hx.keep hb1) (hT.keep hb1) (hu.keep hb1) (fun _ v2 w2 hb2 o2=>⟨_,_,_,_,rfl,?_⟩) fun e=>(no2 e).elim
  have B2:=btr hb1 hb1.size hb2
  refine Smallest_calls (hx.keep B2) (hT.keep B2) (hw.keep B2) (fun _ v3 w3 hb3 o3=>⟨_,_,_,_,rfl,?_⟩) fun e=>(no e).elim
  have B3:=btr B2 B2.size hb3
  refine Smallest_calls (hx.keep B3) (hT.keep B3) (hu.keep B3) (fun _ v4 w4 hb4 o4=>⟨_,_,_,_,rfl,?_⟩) fun e=>(no2 e).elim
  have B4:=btr B3 B3.size hb4
  refine Best_calls (hx.keep B4) (hT.keep B4) (hw.keep B4) (fun _ v5 w5 hb5 o5=>⟨_,_,_,_,rfl,?_⟩) fun e=>(no e).elim
  have B5:=btr B4 B4.size hb5
  refine Best_calls (hx.keep B5) (hT.keep B5) (hu.keep B5) (fun _ v6 w6 hb6 o6=>⟨_,_,_,_,rfl,?_⟩) fun e=>(no2 e).elim
  have B6:=btr B5 B5.size hb6
  rw [t1] at o2
  rw [t2] at o4
  rw [t3] at o6
  have k5:=hb6
  have k4:=btr hb5 hb5.size k5
  have k3:=btr hb4 hb4.size k4
  have k2:=btr hb3 hb3.size k3
  have k1:=btr hb2 hb2.size k2
  have r1:=rdV_own (o1.keep k1) (Nat.lt_of_le_of_lt (few _) (by decide))
  have r2:=rdV_own (o2.keep k2) (Nat.lt_of_le_of_lt (few _) (by decide))
  have r3:=rdV_own (o3.keep k3) (Nat.lt_of_le_of_lt (few _) (by decide))
  have r4:=rdV_own (o4.keep k4) (Nat.lt_of_le_of_lt (few _) (by decide))
  have r5:=rdV_own (o5.keep k5) (Nat.lt_of_le_of_lt (few _) (by decide))
  have r6:=rdV_own o6 (Nat.lt_of_le_of_lt (few _) (by decide))
  refine bre (fun _=>?_) fun h=>absurd rfl h
  refine bre (fun _=>?_) fun h=>absurd rfl h
  refine bre (fun _=>?_) fun h=>absurd rfl h
  refine handlesL r1 r2 fun w7 hb7=>⟨_,rfl,?_⟩
  rw [Br_t]
  refine handlesL (r3.keep hb7) (r4.keep hb7) fun w8 hb8=>⟨_,rfl,?_⟩
  rw [Br_t]
  have B8:=btr hb7 hb7.size hb8
  refine handlesL (r5.keep B8) (r6.keep B8) fun w9 hb9=>⟨_,rfl,?_⟩
  exact hK w9 (btr B6 B6.size (btr B8 B8.size hb9))
 ·have ho:canS ws=false:=by simpa using ho
  have no:canS ws=true→False:=fun e=>by rw [ho] at e;cases e
  have no2:canS vs=true→False:=fun e=>by rw [hc] at e;exact no e
  refine All_calls hx hT hw (fun e=>(no e).elim) fun _ w1 hb1=>⟨_,_,_,_,rfl,?_⟩
  refine All_calls (hx.keep hb1) (hT.keep hb1) (hu.keep hb1) (fun e=>(no2 e).elim) fun _ w2 hb2=>⟨_,_,_,_,rfl,?_⟩
  have B2:=btr hb1 hb1.size hb2
  refine Smallest_calls (hx.keep B2) (hT.keep B2) (hw.keep B2) (fun e=>(no e).elim) fun _ w3 hb3=>⟨_,_,_,_,rfl,?_⟩
  have B3:=btr B2 B2.size hb3
  refine Smallest_calls (hx.keep B3) (hT.keep B3) (hu.keep B3) (fun e=>(no2 e).elim) fun _ w4 hb4=>⟨_,_,_,_,rfl,?_⟩
  have B4:=btr B3 B3.size hb4
  refine Best_calls (hx.keep B4) (hT.keep B4) (hw.keep B4) (fun e=>(no e).elim) fun _ w5 hb5=>⟨_,_,_,_,rfl,?_⟩
  have B5:=btr B4 B4.size hb5
  refine Best_calls (hx.keep B5) (hT.keep B5) (hu.keep B5) (fun e=>(no2 e).elim) fun _ w6 hb6=>⟨_,_,_,_,rfl,?_⟩
  have B6:=btr B5 B5.size hb6
  refine bre (fun _=>?_) fun h=>absurd rfl h
  refine bre (fun _=>?_) fun h=>absurd rfl h
  refine bre (fun _=>?_) fun h=>absurd rfl h
  refine handlesL (v:=(none,0,0)) (u:=(none,0,0)) (rdV_nil LHn _) (rdV_nil LHn _) fun w7 hb7=>⟨_,rfl,?_⟩
  rw [Br_t]
  refine handlesL (v:=(none,0,0)) (u:=(none,0,0)) (rdV_nil LHn _) (rdV_nil LHn _) fun w8 hb8=>⟨_,rfl,?_⟩
  rw [Br_t]
  refine handlesL (v:=(none,0,0)) (u:=(none,0,0)) (rdV_nil LHn _) (rdV_nil LHn _) fun w9 hb9=>⟨_,rfl,?_⟩
  exact hK w9 (btr B6 B6.size (btr hb7 hb7.size (btr hb8 hb8.size hb9)))
theorem turnedS_calls (hT:Tabs W) (hr:Rd LAc W A c xs) (hx:∀x∈xs,RAc W x) (hl:xs.length≤1048576) (hw:RdV LS W ws vw) (hn:ws.length≤1048576) {wh:Int} (h0:0≤wh) (h1:wh < 256)
  (hK:∀w',Below W.heap.size W w'→R (.returned (.bool true)) w'):Calls Tryz.prog 6 #[.slice A xs.length c,.slice vw.1 vw.2.1 vw.2.2,.int .u8 wh] W R:=by
 refine ok6 A xs.length c vw.1 vw.2.1 vw.2.2 wh ?_
 unfold F6
 refine lives_calls hT fun w1 hb1=>⟨_,rfl,?_⟩
 rw [brnot,Br_t]
 refine played_calls (hT.keep hb1) (hr.keep hb1) (fun x h=>(hx x h).sub (sub_below hb1)) hl fun gp gd w2 o D vs vr kk hkk h2=>⟨_,rfl,?_⟩
 rw [Option.isNone_some,Br_f]
 refine New_calls h2.p h2.wf fun gx w3 hb3 hix=>⟨_,_,rfl,?_⟩
 have B2:=btr hb1 hb1.size h2.old
 have B3:=btr B2 B2.size hb3
 have h3:=h2.keep label_edr hb3
 refine⟨fun w'=>w'=w3,?_,brn (fun h=>absurd rfl h) fun _=>by rw [Option.isNone_some,Br_f]⟩
 rintro w4 rfl
 unfold F6_j9
 obtain⟨z1,z0,z2⟩:=hw.keep B3
 refine⟨inR_i64 (by omega) (by omega),?_⟩
 refine⟨fun A' n' c' i w'=>∃k:Nat,i=(k:Int)-1∧k≤ws.length∧Below w4.heap.size w4 w'∧Own LS w' w4.heap.size 9 (.slice A' n' c') (ws.drop k).reverse,fun _ _ _ i _=>(i+1).toNat,
  ⟨ws.length,by omega,by omega,.refl _ _,by simpa using Own.nil _ _ _ _⟩,?_⟩
 rintro A' n' c' _ w5 ⟨k,rfl,hk,hb5,o5⟩
 unfold F6_l11
 obtain⟨q1,q2⟩:=o5.rd
 rw [List.length_reverse,List.length_drop] at q1
 refine brd (fun hge=>?_) (fun hlt=>?_)
 ·obtain⟨k,rfl⟩:∃k',k=k'+1:=⟨k-1,by omega⟩
  have hk2:k < ws.length:=by omega
  refine (z2.keep hb5).str z1 (i:=((k+1:Nat):Int)-1) (k:=k) (by omega) hk2 fun b oo cs=>?_
  simp only [cs,lds]
  refine ap1 (L:=LS) (x:=ws[k]) (base:=w4.heap.size) (.string (ByteArray.mk #[])) 16 rfl (by kernel_rfl) (by kernel_rfl) (by kernel_rfl) o5 hb5.size (by rw [List.length_reverse,List.length_drop];omega) (by rw [List.length_reverse,List.length_drop];unfold maxLen;omega) fun A2 c2 w6 o6 g6=>⟨A2,_,c2,rfl,?_⟩
  refine⟨inR_i64 (by omega) (by omega),⟨k,by omega,by omega,hb5.trans g6.below,?_⟩,by omega⟩
  rw [List.drop_eq_getElem_cons hk2,List.reverse_cons]
  exact o6
 ·obtain rfl:k=0:=by omega
  rw [List.drop_zero] at o5
  have fin:∀{vs:List ByteArray}{A2:Option Addr}{n2 c2:Nat}{w6:World},Below w4.heap.size w4 w6→Own LS w6 w4.heap.size 9 (.slice A2 n2 c2) vs→vs.length≤1048577→(∀w,w∈vs↔w∈ws)→(0 < vs.length↔0 < ws.length)→(vs.length≤16↔ws.length≤16) →
    F6_j16 vw.1 vw.2.1 vw.2.2 (some ⟨gx,0,none⟩) A2 n2 c2 w6 R:=fun {vs A2 n2 c2 w6} hb6 o6 e1 e2 e3 e4 =>
   turnS_calls (vu:=(A2,n2,c2)) (hix.keep hb6) (hT.keep (btr B3 B3.size hb6)) (hw.keep (btr B3 B3.size hb6)) (rdV_own o6 (by omega)) e2 (canS_turn e2 e3 e4) fun w7 hb7=>hK w7 (btr B3 B3.size (btr hb6 hb6.size hb7))
  refine⟨fun A2 n2 c2 w6=>∃vs,Below w4.heap.size w4 w6∧Own LS w6 w4.heap.size 9 (.slice A2 n2 c2) vs∧vs.length≤1048577∧(∀w,w∈vs↔w∈ws)∧(0 < vs.length↔0 < ws.length)∧(vs.length≤16↔ws.length≤16),fun A2 n2 c2 w6 ⟨vs,p1,p2,p3,p4,p5,p6⟩=>fin p1 p2 p3 p4 p5 p6,?_⟩
  have pl:∃vs,Below w4.heap.size w4 w5∧Own LS w5 w4.heap.size 9 (.slice A' n' c') vs∧vs.length≤1048577∧(∀w,w∈vs↔w∈ws)∧(0 < vs.length↔0 < ws.length)∧(vs.length≤16↔ws.length≤16) :=
   ⟨_,hb5,o5,by rw [List.length_reverse];omega,fun w=>List.mem_reverse,by rw [List.length_reverse],by rw [List.length_reverse]⟩
  refine brd (fun hpos=>?_) (fun _=>pl)
  refine brd (fun h16=>?_) (fun _=>pl)
  refine⟨inR_i64 (by omega) (by omega),by omega,?_⟩
  have hmod:wh.tmod ((vw.2.1:Nat):Int)=((wh.toNat % vw.2.1:Nat):Int):=by
   rw [Int.tmod_eq_emod_of_nonneg h0,Int.natCast_emod,Int.toNat_of_nonneg h0]
  have hk2:wh.toNat % vw.2.1 < ws.length:=by rw [z1];exact Nat.mod_lt _ (by omega)
  refine (z2.keep hb5).str z1 hmod hk2 fun b oo cs=>?_
  simp only [cs,lds]
  refine ap1 (L:=LS) (x:=ws[wh.toNat % vw.2.1]) (base:=w4.heap.size) (.string (ByteArray.mk #[])) 16 rfl (by kernel_rfl) (by kernel_rfl) (by kernel_rfl) o5 hb5.size (by rw [List.length_reverse];omega) (by rw [List.length_reverse];unfold maxLen;omega) fun A2 c2 w6 o6 g6=>⟨A2,_,c2,rfl,?_⟩
  refine⟨_,hb5.trans g6.below,o6,by simp;omega,fun w=>?_,by simp;omega,by simp;omega⟩
  rw [List.mem_append,List.mem_reverse,List.mem_singleton]
  exact⟨fun h=>by rcases h with h | h;exact h;rw [h];exact List.getElem_mem hk2,.inl⟩
end
end Go.Proofs.YtccplipiahdhiaaGreatDoor
namespace Go.Proofs.YtccplipiahdhiaaGreatDoor
open Go.RowKit Go.Deep Go.WideShapes Go.ChangeShapes
section
variable {H:Type}{enc:TypeId × Value→H}{P:Program}{W:World}{α:Type}
theorem cells_of_rows {L:Lay α}{w:World}{b o:Nat}:∀(xs:List α),(∀i (h:i < xs.length),∀j u,(L.cells xs[i])[j]?=some u→w.cell? ⟨b,o+i*L.n+j,none⟩=some u) →
  ∀j u,(L.all xs)[j]?=some u→w.cell? ⟨b,o+j,none⟩=some u:=by
 intro xs h j u hj
 have hlt:j < xs.length*L.n:=by rw [←L.all_length];exact (List.getElem?_eq_some_iff.1 hj).1
 have hi:j / L.n < xs.length:=(Nat.div_lt_iff_lt_mul L.pos).2 hlt
 have hr:j % L.n < L.n:=Nat.mod_lt _ L.pos
 have hd:j / L.n*L.n+j % L.n=j:=by rw [Nat.mul_comm];exact Nat.div_add_mod j L.n
 have:=h (j / L.n) hi (j % L.n) u (by rw [←L.all_at xs _ hi _ hr,hd];exact hj)
 rwa [Nat.add_assoc,hd] at this
end
end Go.Proofs.YtccplipiahdhiaaGreatDoor
namespace Go.Proofs.YtccplipiahdhiaaGreatDoor
open Go.RowKit Go.Deep Go.WideShapes Go.ChangeShapes Go.Vc
set_option linter.unusedSimpArgs false
set_option linter.unusedVariables false
set_option maxRecDepth 100000
theorem upto_one {H:Type} (d:DataW H):1≤Rows.uptoBulk d:=by
 cases d with
 | lit l=>cases l <;> simp only [Rows.uptoBulk] <;> omega
 | _=>simp only [Rows.uptoBulk];omega
theorem upto_len {H:Type}:∀(l:List (DataW H)),l.length≤Rows.uptoBulkAll l
 | []=>by simp
 | d :: l=>by
  have:=upto_len l
  have:=upto_one d
  simp only [Rows.uptoBulkAll,List.length_cons];omega
theorem upto_part {H:Type}{d:DataW H}:∀{l:List (DataW H)},d∈l→Rows.uptoBulk d≤Rows.uptoBulkAll l
 | e :: l,h=>by
  simp only [Rows.uptoBulkAll]
  rcases List.mem_cons.1 h with rfl | h
  ·omega
  ·have:=upto_part h;omega
theorem upto_small {H:Type}{d:DataW H}{l:List (DataW H)} (hk:Rows.uptoSmall H l=true) (h:d∈l):Rows.uptoBulk d≤1048576 :=
 Nat.le_trans (upto_part h) (of_decide_eq_true hk)
section
variable {H:Type}{enc:TypeId × Value→H}{P:Program}{W:World}{α:Type}
theorem trod_parts {t:TypeId}{fs:Array Field}{fuel:Nat}{cs:List Value}{x:DataW H × List MemPlace} (ht:P.underlying t=some (.struct fs)) (h:DataW.trod enc P W 0 (fun _=>true) true fuel t cs=some x) :
  cs.length=P.cellsOf t∧∀(i:Nat) (f:Field),fs[i]?=some f→∃n y,DataW.trod enc P W 0 (fun _=>true) true n f.type ((cs.drop f.offset).take (P.cellsOf f.type))=some y∧Rows.uptoBulk y.1 < Rows.uptoBulk x.1:=by
 obtain⟨xs,n,_,rfl,hl,hlen,hf⟩:=DataW.trod_struct ht h
 refine⟨hl,fun i f hi=>?_⟩
 have hlt:i < xs.length:=by rw [hlen];exact (Array.getElem?_eq_some_iff.1 hi).1
 refine⟨n,xs[i],?_,?_⟩
 ·rw [hf i f hi,List.getElem?_eq_getElem hlt]
 ·have:=upto_part (List.mem_map.2 ⟨xs[i],List.getElem_mem hlt,rfl⟩:xs[i].1∈xs.map (·.1))
  simp only [Rows.uptoBulk];omega
theorem open_bk [Inhabited α] (L:Lay α) (Q:α→Prop) {t e:TypeId}{fuel:Nat}{cs:List Value}{x:DataW H × List MemPlace} (h:DataW.trod enc P W 0 (fun _=>true) true fuel t cs=some x) (ht:P.underlying t=some (.slice e)) (hC:P.cellsOf e=L.n)
  (hel:∀(n:Nat) (cs:List Value) (y:DataW H × List MemPlace),DataW.trod enc P W 0 (fun _=>true) true n e cs=some y→Rows.uptoBulk y.1 < Rows.uptoBulk x.1→∃z:α,cs=L.cells z∧Q z) :
  ∃A c xs,cs=[.slice A xs.length c]∧Rd L W A c xs∧(∀y∈xs,Q y)∧xs.length≤Rows.uptoBulk x.1:=by
 rcases open_slice ht h with ⟨hcs,_⟩ | ⟨a,len,cap,m,n,D,Pl,hcs,_,hl,hm,hmm,hx,hi⟩
 ·exact⟨none,0,[],hcs,Rd.nil _ _,by simp,by simp⟩
 ·have hlm:len≤m:=by rw [hmm];simp;exact hl
  have hx1:=(Prod.mk.inj hx).1
  rw [hx1] at hel ⊢
  have hbulk:∀i,i < len→Rows.uptoBulk (D i) < Rows.uptoBulk (.slice ((List.range len).map D) ((List.range (m-len)).map fun j=>D (len+j))):=fun i hi=>by
   have:=upto_part (List.mem_map.2 ⟨i,List.mem_range.2 hi,rfl⟩:D i∈(List.range len).map D)
   simp only [Rows.uptoBulk];omega
  obtain⟨f,hfx⟩:=choose_lt (α:=α) (n:=len) (p:=fun i y=>(∀j u,(L.cells y)[j]?=some u→W.cell? ((a.add (i*L.n)).add j)=some u)∧Q y) (fun i hil=>by
   obtain⟨cs',h1,h2⟩:=hi i (by omega)
   obtain⟨y,rfl,hq⟩:=hel _ _ _ h2 (hbulk i hil)
   obtain⟨_,hlen,hat⟩:=World.cells?_some h1
   refine⟨y,fun j u hj=>?_,hq⟩
   rw [hC] at hat hlen
   rw [hat j (by rw [←L.len y];exact (List.getElem?_eq_some_iff.1 hj).1)]
   exact hj)
  refine⟨some a,cap,(List.range len).map f,by simpa using hcs,⟨by simpa using hl,hm,(fun h=>by cases h),fun h0=>?_⟩,fun y hy=>?_,?_⟩
  ·simp at h0
   have hspot:a.spot=Option.none:=by
    have hy:=(hfx 0 h0).1
    have hn:0 < (L.cells (f 0)).length:=by rw [L.len];exact L.pos
    have:=hy 0 _ (List.getElem?_eq_getElem hn)
    simp only [Nat.zero_mul,Addr.add,if_true] at this
    unfold World.cell? at this
    cases hs:a.spot with
    | none=>rfl
    | some q =>
     split at this
     ·rw [hs] at this;simp at this
     ·cases this
   obtain⟨b,o,s⟩:=a
   simp only at hspot
   subst hspot
   refine⟨b,o,rfl,cells_of_rows _ (fun i hi j u hj=>?_)⟩
   simp at hi hj
   have:=(hfx i hi).1 j u hj
   rw [Addr.add_lit,Addr.add_lit] at this
   exact this
  ·obtain⟨i,hi,rfl⟩:=List.mem_map.1 hy
   exact (hfx i (List.mem_range.1 hi)).2
  ·have:=upto_len ((List.range len).map D)
   simp only [Rows.uptoBulk,List.length_map,List.length_range] at this ⊢
   omega
theorem list2 {α:Type}{l:List α} (h:l.length=2):∃a b,l=[a,b]:=by
 match l,h with
 | [a,b],_=>exact⟨a,b,rfl⟩
theorem list5 {α:Type}{l:List α} (h:l.length=5):∃a b c d e,l=[a,b,c,d,e]:=by
 match l,h with
 | [a,b,c,d,e],_=>exact⟨a,b,c,d,e,rfl⟩
theorem list12 {α:Type}{l:List α} (h:l.length=12):∃a b c d e f g i j k m n,l=[a,b,c,d,e,f,g,i,j,k,m,n]:=by
 match l,h with
 | [a,b,c,d,e,f,g,i,j,k,m,n],_=>exact⟨a,b,c,d,e,f,g,i,j,k,m,n,rfl⟩
end
instance:Inhabited E5:=⟨⟨0,noB,(none,0,0),noB,(none,0,0)⟩⟩
instance:Inhabited At:=⟨⟨noB,noB⟩⟩
instance:Inhabited Ac:=⟨⟨0,0,false,0,0,noB,noB,.mk 0 noB [] noB []⟩⟩
instance:Inhabited E12:=⟨⟨default,default⟩⟩
theorem rtl_of {w:World}:∀(es:List E5),(∀e∈es,∃t,RTr w t e)→∃ts,RTl w ts es
 | [],_=>⟨[],by simp only [RTl]⟩
 | e :: es,h=>by
  obtain⟨t,ht⟩:=h e (by simp)
  obtain⟨ts,hts⟩:=rtl_of es fun x hx=>h x (by simp [hx])
  exact⟨t :: ts,by simp only [RTl];exact⟨e,es,rfl,ht,hts⟩⟩
section
variable {H:Type}{enc:TypeId × Value→H}{W:World}
theorem kStr:(Tryz.prog).cellsOf 9=1:=by kernel_rfl
theorem kInt:(Tryz.prog).cellsOf 3=1:=by kernel_rfl
theorem kBool:(Tryz.prog).cellsOf 4=1:=by kernel_rfl
theorem kHn:(Tryz.prog).cellsOf 65=1:=by kernel_rfl
theorem kAts:(Tryz.prog).cellsOf 81=1:=by kernel_rfl
theorem kTrs:(Tryz.prog).cellsOf 82=1:=by kernel_rfl
theorem kTr:(Tryz.prog).cellsOf 84=5:=by kernel_rfl
theorem kAt:(Tryz.prog).cellsOf 205=2:=by kernel_rfl
theorem at_cells (n:Nat) (cs:List Value) (x:DataW H × List MemPlace) (h:DataW.trod enc Tryz.prog W 0 (fun _=>true) true n 205 cs=some x):∃y:At,cs=LAt.cells y:=by
 obtain⟨hl,hp⟩:=trod_parts Tryz.underlying205 h
 obtain⟨a,b,rfl⟩:=list2 (hl.trans kAt)
 obtain⟨_,_,h0,-⟩:=hp 0 _ rfl
 obtain⟨_,_,h1,-⟩:=hp 1 _ rfl
 simp only [List.getElem_toArray,List.getElem_cons_zero,List.getElem_cons_succ,kStr,List.drop_zero,List.drop_succ_cons,List.take_succ_cons,List.take_zero] at h0 h1
 obtain⟨s,e0,-,-⟩:=DataW.trod_string Tryz.underlying9 h0
 obtain⟨t,e1,-,-⟩:=DataW.trod_string Tryz.underlying9 h1
 simp only [List.cons.injEq,and_true] at e0 e1
 subst e0 e1
 exact⟨⟨s,t⟩,rfl⟩
theorem ats_cells {n:Nat}{cs:List Value}{x:DataW H × List MemPlace} (h:DataW.trod enc Tryz.prog W 0 (fun _=>true) true n 81 cs=some x) (hx:Rows.uptoBulk x.1≤1048576):∃(v:Sv) (l:List At),cs=[.slice v.1 v.2.1 v.2.2]∧RR LAt W l v:=by
 obtain⟨A,c,l,e,hr,-,hlen⟩:=open_bk LAt (fun _=>True) h Tryz.underlying81 kAt fun n cs y hy _=>by
  obtain⟨z,hz⟩:=at_cells n cs y hy
  exact⟨z,hz,trivial⟩
 exact⟨(A,l.length,c),l,e,Nat.le_trans hlen hx,rfl,hr⟩
theorem tr_cells:∀(B:Nat),B≤1048576→∀(n:Nat) (cs:List Value) (x:DataW H × List MemPlace),DataW.trod enc Tryz.prog W 0 (fun _=>true) true n 84 cs=some x→Rows.uptoBulk x.1≤B →
  ∃(e:E5),cs=e.cells∧∃t,RTr W t e:=by
 intro B
 induction B using Nat.strongRecOn with
 | _ B ih =>
  intro hB n cs x h hx
  obtain⟨hl,hp⟩:=trod_parts Tryz.underlying84 h
  obtain⟨a,b,c,d,e,rfl⟩:=list5 (hl.trans kTr)
  obtain⟨_,_,h0,b0⟩:=hp 0 _ rfl
  obtain⟨_,_,h1,b1⟩:=hp 1 _ rfl
  obtain⟨_,_,h2,b2⟩:=hp 2 _ rfl
  obtain⟨_,_,h3,b3⟩:=hp 3 _ rfl
  obtain⟨_,y4,h4,b4⟩:=hp 4 _ rfl
  simp only [List.getElem_toArray,List.getElem_cons_zero,List.getElem_cons_succ,kInt,kStr,kAts,kTrs,List.drop_zero,List.drop_succ_cons,List.take_succ_cons,List.take_zero] at h0 h1 h2 h3 h4
  obtain⟨kd,e0,-,-⟩:=DataW.trod_int Tryz.underlying3 h0
  obtain⟨nm,e1,-,-⟩:=DataW.trod_string Tryz.underlying9 h1
  obtain⟨va,la,e2,ha⟩:=ats_cells h2 (by omega)
  obtain⟨tx,e3,-,-⟩:=DataW.trod_string Tryz.underlying9 h3
  obtain⟨A,c',es,e4,hr,hq,hlen⟩:=open_bk LE5 (fun e=>∃t,RTr W t e) h4 Tryz.underlying82 kTr fun n cs y hy hby=>ih (Rows.uptoBulk y.1) (by omega) (by omega) n cs y hy (Nat.le_refl _)
  simp only [List.cons.injEq,and_true] at e0 e1 e2 e3 e4
  subst e0 e1 e2 e3 e4
  obtain⟨ts,hts⟩:=rtl_of es hq
  refine⟨⟨kd,nm,va,tx,(A,es.length,c')⟩,rfl,.mk kd nm la tx ts,?_⟩
  simp only [RTr]
  exact⟨by trivial,by trivial,by trivial,ha,by rw [←hts.len];omega,es,rfl,hr,hts⟩
theorem hn_cells {n:Nat}{cs:List Value}{x:DataW H × List MemPlace} (h:DataW.trod enc Tryz.prog W 0 (fun _=>true) true n 65 cs=some x):∃k:Nat,k < 18446744073709551616∧cs=[.int .u64 (k:Nat)]:=by
 obtain⟨k,rfl,-,hw⟩:=DataW.trod_int Tryz.underlying65 h
 have hx:0≤k∧k≤18446744073709551615:=by simpa [Lit.wf,IntKind.min,IntKind.max,IntKind.signed,IntKind.bits] using hw
 exact⟨k.toNat,by omega,by rw [Int.toNat_of_nonneg hx.1]⟩
theorem ac_cells {n:Nat}{cs:List Value}{x:DataW H × List MemPlace} (h:DataW.trod enc Tryz.prog W 0 (fun _=>true) true n 143 cs=some x) (hx:Rows.uptoBulk x.1≤1048576):∃y:E12,cs=LAc.cells y∧RAc W y:=by
 obtain⟨hl,hp⟩:=trod_parts Tryz.underlying143 h
 have kAc:(Tryz.prog).cellsOf 143=12:=by kernel_rfl
 obtain⟨a,b,c,d,e,f,g,i,j,k,m,o,rfl⟩:=list12 (hl.trans kAc)
 obtain⟨_,_,h0,b0⟩:=hp 0 _ rfl
 obtain⟨_,_,h1,b1⟩:=hp 1 _ rfl
 obtain⟨_,_,h2,b2⟩:=hp 2 _ rfl
 obtain⟨_,_,h3,b3⟩:=hp 3 _ rfl
 obtain⟨_,_,h4,b4⟩:=hp 4 _ rfl
 obtain⟨_,_,h5,b5⟩:=hp 5 _ rfl
 obtain⟨_,_,h6,b6⟩:=hp 6 _ rfl
 obtain⟨_,_,h7,b7⟩:=hp 7 _ rfl
 simp only [List.getElem_toArray,List.getElem_cons_zero,List.getElem_cons_succ,kInt,kStr,kBool,kHn,kTr,List.drop_zero,List.drop_succ_cons,List.take_succ_cons,List.take_zero] at h0 h1 h2 h3 h4 h5 h6 h7
 obtain⟨q0,e0,-,-⟩:=DataW.trod_int Tryz.underlying3 h0
 obtain⟨q1,e1,-,-⟩:=DataW.trod_int Tryz.underlying3 h1
 obtain⟨q2,e2,-⟩:=DataW.trod_bool Tryz.underlying4 h2
 obtain⟨q3,l3,e3⟩:=hn_cells h3
 obtain⟨q4,l4,e4⟩:=hn_cells h4
 obtain⟨q5,e5,-,-⟩:=DataW.trod_string Tryz.underlying9 h5
 obtain⟨q6,e6,-,-⟩:=DataW.trod_string Tryz.underlying9 h6
 obtain⟨q7,e7,t,ht⟩:=tr_cells 1048576 (Nat.le_refl _) _ _ _ h7 (by omega)
 simp only [E5.cells,List.cons.injEq,and_true] at e0 e1 e2 e3 e4 e5 e6 e7
 obtain⟨e7,e8,e9,e10,e11⟩:=e7
 subst e0 e1 e2 e3 e4 e5 e6 e7 e8 e9 e10 e11
 exact⟨⟨⟨q0,q1,q2,q3,q4,q5,q6,t⟩,q7⟩,rfl,⟨l3,l4⟩,ht⟩
theorem acs_open {n:Nat}{cs:List Value}{x:DataW H × List MemPlace} (h:DataW.trod enc Tryz.prog W 0 (fun _=>true) true n 59 cs=some x) (hx:Rows.uptoBulk x.1≤1048576) :
  ∃(A:Option Addr) (c:Nat) (xs:List E12),cs=[.slice A xs.length c]∧Rd LAc W A c xs∧(∀y∈xs,RAc W y)∧xs.length≤1048576:=by
 obtain⟨A,c,l,e,hr,hq,hlen⟩:=open_bk LAc (RAc W) h Tryz.underlying59 (by kernel_rfl) fun n cs y hy hb=>ac_cells hy (by omega)
 exact⟨A,c,l,e,hr,hq,Nat.le_trans hlen hx⟩
end
set_option maxRecDepth 100000
section
variable {H:Type}{enc:TypeId × Value→H}{W:World}
theorem strs_open {n:Nat}{cs:List Value}{x:DataW H × List MemPlace} (h:DataW.trod enc Tryz.prog W 0 (fun _=>true) true n 26 cs=some x) (hx:Rows.uptoBulk x.1≤1048576) :
  ∃(v:Sv) (l:List ByteArray),cs=[slV v]∧RdV LS W l v∧l.length≤1048576:=by
 obtain⟨A,c,l,e,hr,hq,hlen⟩:=open_bk LS (fun _=>True) h Tryz.underlying26 kStr fun n cs y hy hb=>by
  obtain⟨s,rfl,-,-⟩:=DataW.trod_string Tryz.underlying9 hy
  exact⟨s,rfl,trivial⟩
 exact⟨(A,l.length,c),l,e,⟨rfl,by omega,hr⟩,Nat.le_trans hlen hx⟩
end
end Go.Proofs.YtccplipiahdhiaaGreatDoor
/- SearchTurned: the order of the words does not matter. -/
namespace Go.Proofs.YtccplipiahdhiaaGreatDoor.searchTurned
open Go.ChangeShapes Go.WideShapes Go.ChangeAt Go.RowKit Go.Joins Go.Lib Go.Vc
open Go.ChangeMaps (open_string shut_string)
set_option maxRecDepth 100000
set_option linter.unusedVariables false
set_option linter.unusedSimpArgs false
theorem own : ownKnob Tryz.prog.godebug = none := by kernel_rfl
theorem laidOut : laidOutB Tryz.prog = true := by kernel_rfl
/-- A world in which the tables are laid. -/
noncomputable def laidWorld (os : Os) : World :=
  let w0 := World.holding Tryz.prog os ⟨#[], #[], []⟩
  let put (h : Array Obj) (g : Nat) (cs : Array Value) : Array Obj := h.modify g fun
    | .cells _ t frozen => .cells cs t frozen
    | o => o
  let h1 := put w0.heap 1 (Lib.firstTab.map fun z => Value.int .u8 z).toArray
  let h2 := put h1 2 ((List.range 16).flatMap fun i => [Value.int .u8 (Lib.accLo i), Value.int .u8 (Lib.accHi i)]).toArray
  { w0 with heap := h2 }
theorem laid_met (os : Os) : laidMet Tryz.prog Rows.searchTurnedUptoRow.laid ((laidWorld os).forCall (fun _ _ => 0) ⟨#[], #[.slice none 0 0, .slice none 0 0, .int .u8 0], []⟩).memory :=
  (LaidIn.of_run (l := Rows.searchTurnedUptoRow.laid) [2, 1] 8 (by kernel_rfl) (by kernel_rfl) (by kernel_rfl) (by kernel_rfl)).met
theorem u8Types : U8Types Tryz.prog decRen := { decLays with }
theorem tabs_of {W : World} (h : laidMet Tryz.prog Rows.searchTurnedUptoRow.laid W) : Tabs W :=
  utf8Tabs_of_readsT (ρ := decRen) u8Types ⟨by kernel_rfl, by kernel_rfl, by kernel_rfl, by kernel_rfl, by kernel_rfl, by kernel_rfl, by kernel_rfl⟩
    (by rw [← Pinned.utf8First_eq]; exact Lib.laidMet.reads h (.tail _ (.head _))) (Lib.laidMet.reads h (.head _))
theorem reads (os : Os) {H : Type} (enc : TypeId × Value → H) : ∃ places, DataW.whole enc Tryz.prog ((laidWorld os).forCall (fun _ _ => 0) ⟨#[], #[.slice none 0 0, .slice none 0 0, .int .u8 0], []⟩).memory Tryz.f6.params.toList Rows.searchTurnedSpec.vars false (#[.slice none 0 0, .slice none 0 0, .int .u8 0] : Array Value).toList 8 = some ([.nil, .nil, .lit (.int .u8 0)], [], places) :=
  ⟨[], by kernel_rfl⟩
theorem lifted (os : Os) (started : os.Started) (H : Type) (enc : TypeId × Value → H) (F : Stop.Interp) :
    ReturnsInHanded {} Tryz.checked os 6 .any ((Rows.OpenSpec.upto Rows.searchTurnedSpec).preRow enc Tryz.prog Tryz.f6 Rows.searchTurnedUptoRow.domain false Rows.searchTurnedUptoRow.laid) (((Rows.OpenSpec.upto Rows.searchTurnedSpec).at F).post enc Tryz.prog Tryz.f6 false true false false) := by
  obtain ⟨places, hx⟩ := reads os enc
  refine returnsInHanded_of_row (C := Tryz.checked) (s := Rows.OpenSpec.upto Rows.searchTurnedSpec) own started (by kernel_rfl) Tryz.func6
    (witness_row_at (enc := enc) (C := Tryz.checked) false (laidWorld os) #[.slice none 0 0, .slice none 0 0, .int .u8 0] rfl (by kernel_rfl) (by kernel_rfl) (by kernel_rfl)
      (OpenSpec.preRow_of_cond 8 hx (by kernel_rfl) (fun k hk => by cases hk; kernel_rfl) (by kernel_rfl) (laid_met os))) ?_
  intro W base args ds gs before hval0 hW _ hcond hsz0 hL _ _
  rw [MakeChecks.laidMetH_plain _ _ _ (by kernel_rfl)] at hL
  have hT : Tabs W := tabs_of hL
  have hk : Rows.uptoSmall H (ds ++ gs) = true := hcond _ rfl
  have hval : ∀ (j : Nat) t v, Tryz.f6.params[j]? = some t → args[j]? = some v → Value.okWide Tryz.prog W .any base t v := hval0
  have hWw : DataW.Whole enc Tryz.prog Tryz.f6.params.toList Rows.searchTurnedSpec.vars false W args.toList ds gs before := hW
  clear hW
  have hW := hWw
  obtain ⟨p, q, hA0, hV, rfl, hfz, hnd⟩ := hW
  have hW' := hWw
  have hA : DataW.TrodAll enc Tryz.prog W 0 (fun _ => true) true Tryz.f6.params.toList args.toList ds p := hA0
  rw [Tryz.params6] at hA hval
  obtain ⟨v0, vs0, d0, ds0, p0, q0, hargs, rfl, rfl, h0, r0⟩ := trodAll_cons hA
  obtain ⟨v1, vs1, d1, ds1, p1, q1, rfl, rfl, rfl, h1, r1⟩ := trodAll_cons r0
  obtain ⟨v2, vs2, d2, ds2, p2, q2, rfl, rfl, rfl, h2, r2⟩ := trodAll_cons r1
  obtain ⟨rfl, rfl, rfl⟩ := trodAll_nil r2
  obtain rfl : args = #[v0, v1, v2] := by cases args; simp_all
  obtain ⟨rfl, rfl⟩ := trodVars_none hV
  have k0 := h0
  have lt0 : ∀ x ∈ p0, x.block < W.heap.size := by obtain ⟨m, hm⟩ := k0; exact DataW.trod_lt m _ _ _ hm
  have k1 := h1
  have lt1 : ∀ x ∈ p1, x.block < W.heap.size := by obtain ⟨m, hm⟩ := k1; exact DataW.trod_lt m _ _ _ hm
  have k2 := h2
  have lt2 : ∀ x ∈ p2, x.block < W.heap.size := by obtain ⟨m, hm⟩ := k2; exact DataW.trod_lt m _ _ _ hm
  clear hA0 hval0
  obtain ⟨la, ln, lc, rfl⟩ := okWide_slice Tryz.underlying59 (hval 0 59 _ rfl rfl)
  obtain ⟨lb, lm, ld, rfl⟩ := okWide_slice Tryz.underlying26 (hval 1 26 _ rfl rfl)
  obtain ⟨wh, rfl, rfl, rfl, hwf⟩ := open_int Tryz.underlying5 (hval 2 5 _ rfl rfl) h2
  have hr : 0 ≤ wh ∧ wh ≤ 255 := by simpa [Lit.wf, IntKind.min, IntKind.max, IntKind.signed, IntKind.bits] using hwf
  obtain ⟨fl, hfl⟩ := h0
  obtain ⟨A, c, xs, hle, hR, hQ, hlen⟩ := acs_open hfl (upto_small hk (by simp))
  obtain ⟨fm, hfm⟩ := h1
  obtain ⟨vw, ws, hlf, hW2, hwl⟩ := strs_open hfm (upto_small hk (by simp))
  unfold slV at hlf
  simp [Value.cells] at hle hlf
  obtain ⟨rfl, rfl, rfl⟩ := hle
  obtain ⟨rfl, rfl, rfl⟩ := hlf
  refine (turnedS_calls (R := fun e W' => e = .returned (.bool true) ∧ Below W.heap.size W W') hT hR hQ hlen hW2 hwl hr.1 (by omega) fun w' hb => ⟨rfl, hb⟩).mono fun e W' ⟨he, bel⟩ => ?_
  subst he
  exact ⟨_, rfl, _, _, _, [], _, [], hW', trodAll_mk1 (shut_bool Tryz.underlying4 _), (trodAll_cons_mk (Below.trod laidOut (by kernel_rfl) (of_decide_eq_true (by kernel_rfl)) k0 bel lt0) (trodAll_cons_mk (Below.trod laidOut (by kernel_rfl) (of_decide_eq_true (by kernel_rfl)) k1 bel lt1) (trodAll_cons_mk (Below.trod laidOut (by kernel_rfl) (of_decide_eq_true (by kernel_rfl)) k2 bel lt2) trodAll_mk0))), rfl, bel.frame _, fun h => by cases h⟩
theorem said : Rows.SearchTurnedUptoSaid :=
  OpenClaim.holds_of_cond 6 Tryz.f6 rfl rfl rfl rfl rfl rfl rfl ⟨rfl, rfl, rfl, rfl, rfl⟩ rfl rfl rfl rfl rfl (by kernel_rfl) Tryz.func6 (by kernel_rfl)
    (of_decide_eq_true (by kernel_rfl)) (by unfold Func.isWrapper; first | (rw [if_neg (of_decide_eq_false (by kernel_rfl))]; exact ⟨rfl, rfl⟩) | (rw [if_pos (of_decide_eq_true (by kernel_rfl))]; kernel_rfl))
    (fun os started H enc _ F => by rw [OpenClaim.pre_eq_preRow]; exact lifted os started H enc F)
theorem plain (f : FuncId) (fn : Func) (hf : Tryz.pinned.checked.prog.funcNamed "espalier/espalierlaw26.SearchTurned" = some f) (hfn : Tryz.pinned.checked.prog.funcs[f]? = some fn) :
    false = Tryz.pinned.checked.prog.looks [] ∧ ∀ (j : Nat) t, fn.params[j]? = some t → Tryz.pinned.checked.prog.wantsStandIn t = false := by
  obtain rfl : f = 6 := Option.some.inj ((show Tryz.prog.funcNamed "espalier/espalierlaw26.SearchTurned" = some 6 by kernel_rfl).symm.trans hf) |>.symm
  obtain rfl : fn = Tryz.f6 := (Option.some.inj (Tryz.func6.symm.trans hfn)).symm
  refine ⟨by kernel_rfl, fun j t ht => ?_⟩
  have hm : t ∈ Tryz.f6.params.toList := by simpa using Array.mem_of_getElem? ht
  have hall : (Tryz.f6.params.toList.all fun u => !Tryz.prog.wantsStandIn u) = true := by kernel_rfl
  exact (show Tryz.prog.wantsStandIn t = false by simpa using List.all_eq_true.1 hall t hm)
end Go.Proofs.YtccplipiahdhiaaGreatDoor.searchTurned
namespace Go.Proofs.YtccplipiahdhiaaGreatDoor
open Go.ChangeShapes Go.WideShapes Go.ChangeAt Go.RowKit Go.Joins Go.Lib
theorem searchTurned_holds : Rows.SearchTurnedUptoCardSaid :=
  Claim7.holds_tied_plain_at .later [] _ _ _ _ searchTurned.said (fun _ h => by cases h) (by kernel_rfl) (fun _ h => by cases h) searchTurnedUpto_row_tie rfl ⟨rfl, rfl⟩ (by kernel_rfl) rfl searchTurned.plain (by kernel_rfl)
#print axioms searchTurned_holds
end Go.Proofs.YtccplipiahdhiaaGreatDoor
