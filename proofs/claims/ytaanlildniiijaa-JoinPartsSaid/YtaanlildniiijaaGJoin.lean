import Derived.Test.YtaanlildniiijaaVcSnd9
import Derived.Test.YtaanlildniiijaaProg
set_option linter.unusedVariables false
set_option maxRecDepth 100000
namespace Go.Proofs.Ytaanlildniiijaa
open Go.Vc
-- join.one
def F79_j9 (L2 : Int → World → Prop) (x9 : Int) (w_3 : World) (R : Ending → World → Prop) : Prop :=
 InR .i64 (x9 + (1 : Int)) ∧ L2 (x9 + (1 : Int)) w_3

def F79_l2 (l : Option Addr) (lN : Nat) (L2 : Int → World → Prop) (x9 : Int) (w_2 : World) (R : Ending → World → Prop) : Prop :=
 Br (decide (x9 < ((lN : Nat) : Int)))
 (∃ J9 : World → Prop, (∀  (w1 : World), J9 w1 → F79_j9 L2 x9 w1 R) ∧
 (IdxA l lN x9 4 fun q12 =>
 LdI .u64 (w_2.cell? q12) fun x13_0 =>
 LdI .u64 (w_2.cell? (q12.add 1)) fun x13_1 =>
 LdI .u64 (w_2.cell? (q12.add 2)) fun x13_2 =>
 LdI .i64 (w_2.cell? (q12.add 3)) fun x13_3 =>
 Al w_2 #[(.int .u64 0), (.int .u64 0), (.int .u64 0), (.int .i64 0)] 51 fun p w1 =>
 St w1 p (.int .u64 x13_0) fun w1_2 =>
 St w1_2 (p.add 1) (.int .u64 x13_1) fun w1_3 =>
 St w1_3 (p.add 2) (.int .u64 x13_2) fun w1_4 =>
 St w1_4 (p.add 3) (.int .i64 x13_3) fun w1_5 =>
 LdI .u64 (w1_5.cell? (p.add 1)) fun x16_0 =>
 LdI .u64 (w1_5.cell? ((p.add 1).add 1)) fun x16_1 =>
 LdI .i64 (w1_5.cell? ((p.add 1).add 2)) fun x16_2 =>
 LdI .u64 (w1_5.cell? (p.add 1)) fun x18_0 =>
 LdI .u64 (w1_5.cell? ((p.add 1).add 1)) fun x18_1 =>
 LdI .i64 (w1_5.cell? ((p.add 1).add 2)) fun x18_2 =>
 Calls Try.prog 29 #[(.agg #[(.int .u64 x16_0), (.int .u64 x16_1), (.int .i64 x16_2)]), (.agg #[(.int .u64 x18_0), (.int .u64 x18_1), (.int .i64 x18_2)])] w1_5 (post R fun v w1_6 =>
 ∃ (x19_0 : Int) (x19_1 : Int), v = (.tuple #[(.int .i64 x19_0), (.int .i64 x19_1)]) ∧
 Br (x19_1 != (0 : Int))
 (R (.returned (.int .i64 110)) w1_6)
 (Dr w1_6 fun w1_7 =>
 Br (decide (x9 > (0 : Int)))
 (LdI .u64 (w1_7.cell? (p.add 1)) fun x29 =>
 InR .i64 (x9 - (1 : Int)) ∧ IdxA l lN (x9 - (1 : Int)) 4 fun q33 =>
 LdI .u64 (w1_7.cell? (q33.add 1)) fun x36 =>
 Br (decide (x29 ≤ x36))
 (R (.returned (.int .i64 71)) w1_7)
 (J9 w1_7))
 (J9 w1_7)))))
 (R (.returned (.int .i64 0)) w_2)

def F79 (l : Option Addr) (lN : Nat) (lC : Nat) (w_ : World) (R : Ending → World → Prop) : Prop :=
 ∃ (I : Int → World → Prop) (m : Int → World → Nat), I (0 : Int) w_ ∧
 ∀ (x9 : Int) (w1 : World), I x9 w1 → F79_l2 l lN (fun x9' w2 => I x9' w2 ∧ m x9' w2 < m x9 w1) x9 w1 R

def pl79 : Plan := ⟨40, ⟨[]⟩, [(9, ⟨[], [(2, 7), (11, 39)]⟩)], [(2, ⟨[(9, (.s (.int .i64)))], [(2, 7), (9, 40)]⟩)]⟩

theorem eq79 (l : Option Addr) (lN : Nat) (lC : Nat) (w : World) (R : Ending → World → Prop) : F79 l lN lC w R = vc Try.prog Try.f79 pl79 R 100000 [.code (bodyOf Try.f79)] (argEnv 0 #[(.slice l lN lC)].toList) w := by kernel_rfl

theorem ok79 (l : Option Addr) (lN : Nat) (lC : Nat) {w : World} {R : Ending → World → Prop} (h : F79 l lN lC w R) : Calls Try.prog 79 #[(.slice l lN lC)] w R :=
  vc_calls (pl := pl79) Try.func79 (by kernel_rfl) (by kernel_rfl) (by kernel_rfl) (Eq.mp (eq79 l lN lC w R) h)

-- join.merged
def F81_l2 (L2 : Option Addr → Nat → Nat → Option Addr → Nat → Nat → Option Addr → Nat → Nat → World → Prop) (a2 : Option Addr) (aN2 : Nat) (aC2 : Nat) (d2 : Option Addr) (dN2 : Nat) (dC2 : Nat) (out : Option Addr) (outN : Nat) (outC : Nat) (w_2 : World) (R : Ending → World → Prop) : Prop :=
 InR .i64 (((aN2 : Nat) : Int) + ((dN2 : Nat) : Int)) ∧ Br (decide ((((aN2 : Nat) : Int) + ((dN2 : Nat) : Int)) > (0 : Int)))
 (Dr w_2 fun w1_2 =>
 Br (((dN2 : Nat) : Int) == (0 : Int))
 (∃ S : World → Prop, S w1_2.drew ∧ IdxA a2 aN2 (0 : Int) 4 fun q41 =>
 ∃ (x43_0 : Int), Held S (q41.add 1) (.int .u64 x43_0) ∧ ∃ (x43_1 : Int), Held S ((q41.add 1).add 1) (.int .u64 x43_1) ∧ ∃ (x43_2 : Int), Held S ((q41.add 1).add 2) (.int .i64 x43_2) ∧ SlB (1 : Int) ((aN2 : Nat) : Int) ((aC2 : Nat) : Int)
 (Al w1_2.drew #[(.int .u64 x43_0), (.int .u64 x43_1), (.int .i64 x43_2)] 29 fun g44 w1_4 =>
 Raw Try.prog (Builtin.append_ #[22, 22] 22 #[(.slice out outN outC), (.slice (some g44) 1 1)]) w1_4 fun v w1_5 =>
 ∃ (x45 : Option Addr) (x45N : Nat) (x45C : Nat), v = (.slice x45 x45N x45C) ∧
 L2 (SlA a2 aC2 ((1 : Int)).toNat 4) ((((aN2 : Nat) : Int)).toNat - ((1 : Int)).toNat) (aC2 - ((1 : Int)).toNat) d2 dN2 dC2 x45 x45N x45C w1_5))
 (Br (decide (((aN2 : Nat) : Int) > (0 : Int)))
 (IdxA a2 aN2 (0 : Int) 4 fun q27 =>
 LdI .u64 (w1_2.cell? (q27.add 1)) fun x30 =>
 IdxA d2 dN2 (0 : Int) 4 fun q32 =>
 LdI .u64 (w1_2.cell? (q32.add 1)) fun x35 =>
 Br (decide (x30 ≤ x35))
 (∃ S : World → Prop, S w1_2.drew ∧ IdxA a2 aN2 (0 : Int) 4 fun q41 =>
 ∃ (x43_0 : Int), Held S (q41.add 1) (.int .u64 x43_0) ∧ ∃ (x43_1 : Int), Held S ((q41.add 1).add 1) (.int .u64 x43_1) ∧ ∃ (x43_2 : Int), Held S ((q41.add 1).add 2) (.int .i64 x43_2) ∧ SlB (1 : Int) ((aN2 : Nat) : Int) ((aC2 : Nat) : Int)
 (Al w1_2.drew #[(.int .u64 x43_0), (.int .u64 x43_1), (.int .i64 x43_2)] 29 fun g44 w1_4 =>
 Raw Try.prog (Builtin.append_ #[22, 22] 22 #[(.slice out outN outC), (.slice (some g44) 1 1)]) w1_4 fun v w1_5 =>
 ∃ (x45 : Option Addr) (x45N : Nat) (x45C : Nat), v = (.slice x45 x45N x45C) ∧
 L2 (SlA a2 aC2 ((1 : Int)).toNat 4) ((((aN2 : Nat) : Int)).toNat - ((1 : Int)).toNat) (aC2 - ((1 : Int)).toNat) d2 dN2 dC2 x45 x45N x45C w1_5))
 (∃ S : World → Prop, S w1_2.drew ∧ IdxA d2 dN2 (0 : Int) 4 fun q50 =>
 ∃ (x52_0 : Int), Held S (q50.add 1) (.int .u64 x52_0) ∧ ∃ (x52_1 : Int), Held S ((q50.add 1).add 1) (.int .u64 x52_1) ∧ ∃ (x52_2 : Int), Held S ((q50.add 1).add 2) (.int .i64 x52_2) ∧ SlB (1 : Int) ((dN2 : Nat) : Int) ((dC2 : Nat) : Int)
 (Al w1_2.drew #[(.int .u64 x52_0), (.int .u64 x52_1), (.int .i64 x52_2)] 29 fun g53 w1_4 =>
 Raw Try.prog (Builtin.append_ #[22, 22] 22 #[(.slice out outN outC), (.slice (some g53) 1 1)]) w1_4 fun v w1_5 =>
 ∃ (x54 : Option Addr) (x54N : Nat) (x54C : Nat), v = (.slice x54 x54N x54C) ∧
 L2 a2 aN2 aC2 (SlA d2 dC2 ((1 : Int)).toNat 4) ((((dN2 : Nat) : Int)).toNat - ((1 : Int)).toNat) (dC2 - ((1 : Int)).toNat) x54 x54N x54C w1_5)))
 (∃ S : World → Prop, S w1_2.drew ∧ IdxA d2 dN2 (0 : Int) 4 fun q50 =>
 ∃ (x52_0 : Int), Held S (q50.add 1) (.int .u64 x52_0) ∧ ∃ (x52_1 : Int), Held S ((q50.add 1).add 1) (.int .u64 x52_1) ∧ ∃ (x52_2 : Int), Held S ((q50.add 1).add 2) (.int .i64 x52_2) ∧ SlB (1 : Int) ((dN2 : Nat) : Int) ((dC2 : Nat) : Int)
 (Al w1_2.drew #[(.int .u64 x52_0), (.int .u64 x52_1), (.int .i64 x52_2)] 29 fun g53 w1_4 =>
 Raw Try.prog (Builtin.append_ #[22, 22] 22 #[(.slice out outN outC), (.slice (some g53) 1 1)]) w1_4 fun v w1_5 =>
 ∃ (x54 : Option Addr) (x54N : Nat) (x54C : Nat), v = (.slice x54 x54N x54C) ∧
 L2 a2 aN2 aC2 (SlA d2 dC2 ((1 : Int)).toNat 4) ((((dN2 : Nat) : Int)).toNat - ((1 : Int)).toNat) (dC2 - ((1 : Int)).toNat) x54 x54N x54C w1_5))))
 (R (.returned (.slice out outN outC)) w_2)

def F81 (a : Option Addr) (aN : Nat) (aC : Nat) (d : Option Addr) (dN : Nat) (dC : Nat) (w_ : World) (R : Ending → World → Prop) : Prop :=
 InR .i64 (((aN : Nat) : Int) + ((dN : Nat) : Int)) ∧ 0 ≤ (0 : Int) ∧ (0 : Int) ≤ (((aN : Nat) : Int) + ((dN : Nat) : Int)) ∧ ((24 : Nat) : Int) * (((aN : Nat) : Int) + ((dN : Nat) : Int)) ≤ 281474976710656 ∧ Al w_ (zrow #[(.int .u64 0), (.int .u64 0), (.int .i64 0)] (((((aN : Nat) : Int) + ((dN : Nat) : Int))).toNat * 3)) 29 fun g11 w1 =>
 ∃ (I : Option Addr → Nat → Nat → Option Addr → Nat → Nat → Option Addr → Nat → Nat → World → Prop) (m : Option Addr → Nat → Nat → Option Addr → Nat → Nat → Option Addr → Nat → Nat → World → Nat), I a aN aC d dN dC (some g11) ((0 : Int)).toNat ((((aN : Nat) : Int) + ((dN : Nat) : Int))).toNat w1 ∧
 ∀ (a2 : Option Addr) (aN2 : Nat) (aC2 : Nat) (d2 : Option Addr) (dN2 : Nat) (dC2 : Nat) (out : Option Addr) (outN : Nat) (outC : Nat) (w1_2 : World), I a2 aN2 aC2 d2 dN2 dC2 out outN outC w1_2 → F81_l2 (fun a2' aN2' aC2' d2' dN2' dC2' out' outN' outC' w2 => I a2' aN2' aC2' d2' dN2' dC2' out' outN' outC' w2 ∧ m a2' aN2' aC2' d2' dN2' dC2' out' outN' outC' w2 < m a2 aN2 aC2 d2 dN2 dC2 out outN outC w1_2) a2 aN2 aC2 d2 dN2 dC2 out outN outC w1_2 R

def pl81 : Plan := ⟨58, ⟨[]⟩, [], [(2, ⟨[(0, (.s .slice)), (1, (.s .slice)), (5, (.s .slice))], [(0, 57)]⟩)]⟩

theorem eq81 (a : Option Addr) (aN : Nat) (aC : Nat) (d : Option Addr) (dN : Nat) (dC : Nat) (w : World) (R : Ending → World → Prop) : F81 a aN aC d dN dC w R = vc Try.prog Try.f81 pl81 R 100000 [.code (bodyOf Try.f81)] (argEnv 0 #[(.slice a aN aC), (.slice d dN dC)].toList) w := by kernel_rfl

theorem ok81 (a : Option Addr) (aN : Nat) (aC : Nat) (d : Option Addr) (dN : Nat) (dC : Nat) {w : World} {R : Ending → World → Prop} (h : F81 a aN aC d dN dC w R) : Calls Try.prog 81 #[(.slice a aN aC), (.slice d dN dC)] w R :=
  vc_calls (pl := pl81) Try.func81 (by kernel_rfl) (by kernel_rfl) (by kernel_rfl) (Eq.mp (eq81 a aN aC d dN dC w R) h)

-- join.crossed
def F80_j13 (L3 : Option Addr → Nat → Nat → Int → World → Prop) (x9 : Int) (open_2 : Option Addr) (openN2 : Nat) (openC2 : Nat) (w_3 : World) (R : Ending → World → Prop) : Prop :=
 InR .i64 (x9 + (1 : Int)) ∧ L3 open_2 openN2 openC2 (x9 + (1 : Int)) w_3

def F80_j12 (J13 : Option Addr → Nat → Nat → World → Prop) (s : Addr) (open_2 : Option Addr) (openN2 : Nat) (openC2 : Nat) (w_4 : World) (R : Ending → World → Prop) : Prop :=
 LdI .u64 (w_4.cell? s) fun x50_0 =>
 LdI .u64 (w_4.cell? (s.add 1)) fun x50_1 =>
 LdI .i64 (w_4.cell? (s.add 2)) fun x50_2 =>
 Al w_4 #[(.int .u64 x50_0), (.int .u64 x50_1), (.int .i64 x50_2)] 29 fun g51 w1_5 =>
 Raw Try.prog (Builtin.append_ #[22, 22] 22 #[(.slice open_2 openN2 openC2), (.slice (some g51) 1 1)]) w1_5 fun v w1_6 =>
 ∃ (x52 : Option Addr) (x52N : Nat) (x52C : Nat), v = (.slice x52 x52N x52C) ∧
 J13 x52 x52N x52C w1_6

def F80_j7 (J13 : Option Addr → Nat → Nat → World → Prop) (s : Addr) (open_2 : Option Addr) (openN2 : Nat) (openC2 : Nat) (w_3 : World) (R : Ending → World → Prop) : Prop :=
 ∃ J12 : World → Prop, (∀  (w1_5 : World), J12 w1_5 → F80_j12 J13 s open_2 openN2 openC2 w1_5 R) ∧
 (Br (decide (((openN2 : Nat) : Int) > (0 : Int)))
 (InR .i64 (((openN2 : Nat) : Int) - (1 : Int)) ∧ IdxA open_2 openN2 (((openN2 : Nat) : Int) - (1 : Int)) 3 fun q40 =>
 LdI .u64 (w_3.cell? q40) fun x41_0 =>
 LdI .u64 (w_3.cell? (q40.add 1)) fun x41_1 =>
 LdI .i64 (w_3.cell? (q40.add 2)) fun x41_2 =>
 Al w_3 #[(.int .u64 0), (.int .u64 0), (.int .i64 0)] 29 fun top w1_5 =>
 St w1_5 top (.int .u64 x41_0) fun w1_6 =>
 St w1_6 (top.add 1) (.int .u64 x41_1) fun w1_7 =>
 St w1_7 (top.add 2) (.int .i64 x41_2) fun w1_8 =>
 LdI .u64 (w1_8.cell? top) fun x42_0 =>
 LdI .u64 (w1_8.cell? (top.add 1)) fun x42_1 =>
 LdI .i64 (w1_8.cell? (top.add 2)) fun x42_2 =>
 LdI .u64 (w1_8.cell? s) fun x43_0 =>
 LdI .u64 (w1_8.cell? (s.add 1)) fun x43_1 =>
 LdI .i64 (w1_8.cell? (s.add 2)) fun x43_2 =>
 Br ((x42_0 == x43_0) && ((x42_1 == x43_1) && ((x42_2 == x43_2) && true)))
 (J13 open_2 openN2 openC2 w1_8)
 (LdI .u64 (w1_8.cell? top) fun x45_0 =>
 LdI .u64 (w1_8.cell? (top.add 1)) fun x45_1 =>
 LdI .i64 (w1_8.cell? (top.add 2)) fun x45_2 =>
 LdI .u64 (w1_8.cell? s) fun x46_0 =>
 LdI .u64 (w1_8.cell? (s.add 1)) fun x46_1 =>
 LdI .i64 (w1_8.cell? (s.add 2)) fun x46_2 =>
 Calls Try.prog 12 #[(.agg #[(.int .u64 x45_0), (.int .u64 x45_1), (.int .i64 x45_2)]), (.agg #[(.int .u64 x46_0), (.int .u64 x46_1), (.int .i64 x46_2)])] w1_8 (post R fun v w1_9 =>
 ∃ (x47 : Bool), v = (.bool x47) ∧
 Br (!x47)
 (R (.returned (.bool true)) w1_9)
 (J12 w1_9))))
 (J12 w_3))

def F80_j6 (L5 : Option Addr → Nat → Nat → World → Prop) (open_2 : Option Addr) (openN2 : Nat) (openC2 : Nat) (w_4 : World) (R : Ending → World → Prop) : Prop :=
 InR .i64 (((openN2 : Nat) : Int) - (1 : Int)) ∧ SlB 0 (((openN2 : Nat) : Int) - (1 : Int)) ((openC2 : Nat) : Int)
 (L5 open_2 ((((openN2 : Nat) : Int) - (1 : Int))).toNat openC2 w_4)

def F80_l5 (s : Addr) (J7 : Option Addr → Nat → Nat → World → Prop) (L5 : Option Addr → Nat → Nat → World → Prop) (open_2 : Option Addr) (openN2 : Nat) (openC2 : Nat) (w_3 : World) (R : Ending → World → Prop) : Prop :=
 ∃ J6 : World → Prop, (∀  (w1_5 : World), J6 w1_5 → F80_j6 L5 open_2 openN2 openC2 w1_5 R) ∧
 (Dr w_3 fun w1_5 =>
 Br (decide (((openN2 : Nat) : Int) > (0 : Int)))
 (InR .i64 (((openN2 : Nat) : Int) - (1 : Int)) ∧ IdxA open_2 openN2 (((openN2 : Nat) : Int) - (1 : Int)) 3 fun q21 =>
 LdI .u64 (w1_5.cell? (q21.add 1)) fun x23 =>
 LdI .u64 (w1_5.cell? s) fun x25 =>
 Br (decide (x23 < x25))
 (J6 w1_5)
 (J7 open_2 openN2 openC2 w1_5))
 (J7 open_2 openN2 openC2 w1_5))

def F80_l3 (l : Option Addr) (lN : Nat) (L3 : Option Addr → Nat → Nat → Int → World → Prop) (open_ : Option Addr) (openN : Nat) (openC : Nat) (x9 : Int) (w_2 : World) (R : Ending → World → Prop) : Prop :=
 Br (decide (x9 < ((lN : Nat) : Int)))
 (∃ J13 : Option Addr → Nat → Nat → World → Prop, (∀ (open_2 : Option Addr) (openN2 : Nat) (openC2 : Nat) (w1 : World), J13 open_2 openN2 openC2 w1 → F80_j13 L3 x9 open_2 openN2 openC2 w1 R) ∧
 (IdxA l lN x9 3 fun q11 =>
 LdI .u64 (w_2.cell? q11) fun x12_0 =>
 LdI .u64 (w_2.cell? (q11.add 1)) fun x12_1 =>
 LdI .i64 (w_2.cell? (q11.add 2)) fun x12_2 =>
 Al w_2 #[(.int .u64 0), (.int .u64 0), (.int .i64 0)] 29 fun s w1 =>
 St w1 s (.int .u64 x12_0) fun w1_2 =>
 St w1_2 (s.add 1) (.int .u64 x12_1) fun w1_3 =>
 St w1_3 (s.add 2) (.int .i64 x12_2) fun w1_4 =>
 ∃ J7 : Option Addr → Nat → Nat → World → Prop, (∀ (open_2 : Option Addr) (openN2 : Nat) (openC2 : Nat) (w1_5 : World), J7 open_2 openN2 openC2 w1_5 → F80_j7 J13 s open_2 openN2 openC2 w1_5 R) ∧
 (∃ (I : Option Addr → Nat → Nat → World → Prop) (m : Option Addr → Nat → Nat → World → Nat), I open_ openN openC w1_4 ∧
 ∀ (open_2 : Option Addr) (openN2 : Nat) (openC2 : Nat) (w1_5 : World), I open_2 openN2 openC2 w1_5 → F80_l5 s J7 (fun open_2' openN2' openC2' w2 => I open_2' openN2' openC2' w2 ∧ m open_2' openN2' openC2' w2 < m open_2 openN2 openC2 w1_5) open_2 openN2 openC2 w1_5 R)))
 (R (.returned (.bool false)) w_2)

def F80 (l : Option Addr) (lN : Nat) (lC : Nat) (w_ : World) (R : Ending → World → Prop) : Prop :=
 ∃ (I : Option Addr → Nat → Nat → Int → World → Prop) (m : Option Addr → Nat → Nat → Int → World → Nat), I none 0 0 (0 : Int) w_ ∧
 ∀ (open_ : Option Addr) (openN : Nat) (openC : Nat) (x9 : Int) (w1 : World), I open_ openN openC x9 w1 → F80_l3 l lN (fun open_' openN' openC' x9' w2 => I open_' openN' openC' x9' w2 ∧ m open_' openN' openC' x9' w2 < m open_ openN openC x9 w1) open_ openN openC x9 w1 R

def pl80 : Plan := ⟨54, ⟨[]⟩, [(6, ⟨[], [(13, 28)]⟩), (12, ⟨[], [(2, 3), (6, 7), (33, 49)]⟩), (7, ⟨[(3, (.s .slice))], [(3, 4), (13, 33)]⟩), (13, ⟨[(3, (.s .slice))], [(2, 7), (11, 53)]⟩)], [(5, ⟨[(3, (.s .slice))], [(3, 4), (13, 33)]⟩), (3, ⟨[(3, (.s .slice)), (9, (.s (.int .i64)))], [(2, 7), (9, 54)]⟩)]⟩

theorem eq80 (l : Option Addr) (lN : Nat) (lC : Nat) (w : World) (R : Ending → World → Prop) : F80 l lN lC w R = vc Try.prog Try.f80 pl80 R 100000 [.code (bodyOf Try.f80)] (argEnv 0 #[(.slice l lN lC)].toList) w := by kernel_rfl

theorem ok80 (l : Option Addr) (lN : Nat) (lC : Nat) {w : World} {R : Ending → World → Prop} (h : F80 l lN lC w R) : Calls Try.prog 80 #[(.slice l lN lC)] w R :=
  vc_calls (pl := pl80) Try.func80 (by kernel_rfl) (by kernel_rfl) (by kernel_rfl) (Eq.mp (eq80 l lN lC w R) h)

-- join.fits
def F59_j3 (a : Option Addr) (aN : Nat) (aC : Nat) (d : Option Addr) (dN : Nat) (dC : Nat) (w_2 : World) (R : Ending → World → Prop) : Prop :=
 Calls Try.prog 79 #[(.slice a aN aC)] w_2 (post R fun v w1 =>
 ∃ (x16 : Int), v = (.int .i64 x16) ∧
 Br (x16 != (0 : Int))
 (R (.returned (.int .i64 x16)) w1)
 (Calls Try.prog 79 #[(.slice d dN dC)] w1 (post R fun v2 w1_2 =>
 ∃ (x21 : Int), v2 = (.int .i64 x21) ∧
 Br (x21 != (0 : Int))
 (R (.returned (.int .i64 x21)) w1_2)
 (Calls Try.prog 81 #[(.slice a aN aC), (.slice d dN dC)] w1_2 (post R fun v3 w1_3 =>
 ∃ (x27 : Option Addr) (x27N : Nat) (x27C : Nat), v3 = (.slice x27 x27N x27C) ∧
 Calls Try.prog 80 #[(.slice x27 x27N x27C)] w1_3 (post R fun v4 w1_4 =>
 ∃ (x28 : Bool), v4 = (.bool x28) ∧
 Br x28
 (R (.returned (.int .i64 111)) w1_4)
 (R (.returned (.int .i64 0)) w1_4)))))))

def F59 (a : Option Addr) (aN : Nat) (aC : Nat) (d : Option Addr) (dN : Nat) (dC : Nat) (w_ : World) (R : Ending → World → Prop) : Prop :=
 ∃ J3 : World → Prop, (∀  (w1 : World), J3 w1 → F59_j3 a aN aC d dN dC w1 R) ∧
 (Br (decide (((aN : Nat) : Int) > (8192 : Int)))
 (R (.returned (.int .i64 2)) w_)
 (Br (decide (((dN : Nat) : Int) > (8192 : Int)))
 (R (.returned (.int .i64 2)) w_)
 (J3 w_)))

def pl59 : Plan := ⟨29, ⟨[]⟩, [(3, ⟨[], [(4, 15)]⟩)], []⟩

theorem eq59 (a : Option Addr) (aN : Nat) (aC : Nat) (d : Option Addr) (dN : Nat) (dC : Nat) (w : World) (R : Ending → World → Prop) : F59 a aN aC d dN dC w R = vc Try.prog Try.f59 pl59 R 100000 [.code (bodyOf Try.f59)] (argEnv 0 #[(.slice a aN aC), (.slice d dN dC)].toList) w := by kernel_rfl

theorem ok59 (a : Option Addr) (aN : Nat) (aC : Nat) (d : Option Addr) (dN : Nat) (dC : Nat) {w : World} {R : Ending → World → Prop} (h : F59 a aN aC d dN dC w R) : Calls Try.prog 59 #[(.slice a aN aC), (.slice d dN dC)] w R :=
  vc_calls (pl := pl59) Try.func59 (by kernel_rfl) (by kernel_rfl) (by kernel_rfl) (Eq.mp (eq59 a aN aC d dN dC w R) h)

-- join.walk
def F60_j12 (each : Value) (L3 : Option Addr → Nat → Nat → Int → Int → World → Prop) (x12 : Int) (k2 : Int) (open_3 : Option Addr) (openN3 : Nat) (openC3 : Nat) (w_4 : World) (R : Ending → World → Prop) : Prop :=
 CallV Try.prog each #[(.int .i64 x12), (.slice open_3 openN3 openC3)] w_4 R (fun v w1_6 =>
 ∃ (x95 : Bool), v = (.bool x95) ∧
 Br (!x95)
 (R (.returned (.tuple #[])) w1_6)
 (InR .i64 (x12 + (1 : Int)) ∧ L3 open_3 openN3 openC3 k2 (x12 + (1 : Int)) w1_6))

def F60_j11 (L10 : Option Addr → Nat → Nat → World → Prop) (open_3 : Option Addr) (openN3 : Nat) (openC3 : Nat) (w_5 : World) (R : Ending → World → Prop) : Prop :=
 InR .i64 (((openN3 : Nat) : Int) - (1 : Int)) ∧ SlB 0 (((openN3 : Nat) : Int) - (1 : Int)) ((openC3 : Nat) : Int)
 (L10 open_3 ((((openN3 : Nat) : Int) - (1 : Int))).toNat openC3 w_5)

def F60_l10 (a : Option Addr) (aN : Nat) (g9 : Addr) (J12 : Option Addr → Nat → Nat → World → Prop) (L10 : Option Addr → Nat → Nat → World → Prop) (open_3 : Option Addr) (openN3 : Nat) (openC3 : Nat) (w_4 : World) (R : Ending → World → Prop) : Prop :=
 ∃ J11 : World → Prop, (∀  (w1_6 : World), J11 w1_6 → F60_j11 L10 open_3 openN3 openC3 w1_6 R) ∧
 (Dr w_4 fun w1_6 =>
 Br (decide (((openN3 : Nat) : Int) > (0 : Int)))
 (InR .i64 (((openN3 : Nat) : Int) - (1 : Int)) ∧ IdxA open_3 openN3 (((openN3 : Nat) : Int) - (1 : Int)) 1 fun q76 =>
 LdI .i64 (w1_6.cell? q76) fun x77 =>
 IdxA a aN x77 4 fun q78 =>
 LdI .u64 (w1_6.cell? ((q78.add 1).add 1)) fun x81 =>
 LdI .u64 (w1_6.cell? (g9.add 1)) fun x84 =>
 Br (decide (x81 < x84))
 (J11 w1_6)
 (J12 open_3 openN3 openC3 w1_6))
 (J12 open_3 openN3 openC3 w1_6))

def F60_j10 (a : Option Addr) (aN : Nat) (each : Value) (L3 : Option Addr → Nat → Nat → Int → Int → World → Prop) (x12 : Int) (g9 : Addr) (open_2 : Option Addr) (openN2 : Nat) (openC2 : Nat) (k2 : Int) (w_3 : World) (R : Ending → World → Prop) : Prop :=
 ∃ J12 : Option Addr → Nat → Nat → World → Prop, (∀ (open_3 : Option Addr) (openN3 : Nat) (openC3 : Nat) (w1_6 : World), J12 open_3 openN3 openC3 w1_6 → F60_j12 each L3 x12 k2 open_3 openN3 openC3 w1_6 R) ∧
 (∃ (I : Option Addr → Nat → Nat → World → Prop) (m : Option Addr → Nat → Nat → World → Nat), I open_2 openN2 openC2 w_3 ∧
 ∀ (open_3 : Option Addr) (openN3 : Nat) (openC3 : Nat) (w1_6 : World), I open_3 openN3 openC3 w1_6 → F60_l10 a aN g9 J12 (fun open_3' openN3' openC3' w2 => I open_3' openN3' openC3' w2 ∧ m open_3' openN3' openC3' w2 < m open_3 openN3 openC3 w1_6) open_3 openN3 openC3 w1_6 R)

def F60_j8 (L5 : Option Addr → Nat → Nat → Int → World → Prop) (k2 : Int) (open_3 : Option Addr) (openN3 : Nat) (openC3 : Nat) (w_5 : World) (R : Ending → World → Prop) : Prop :=
 Al w_5 #[(.int .i64 k2)] 3 fun g63 w1_6 =>
 Raw Try.prog (Builtin.append_ #[44, 44] 44 #[(.slice open_3 openN3 openC3), (.slice (some g63) 1 1)]) w1_6 fun v w1_7 =>
 ∃ (x64 : Option Addr) (x64N : Nat) (x64C : Nat), v = (.slice x64 x64N x64C) ∧
 InR .i64 (k2 + (1 : Int)) ∧ L5 x64 x64N x64C (k2 + (1 : Int)) w1_7

def F60_j7 (L6 : Option Addr → Nat → Nat → World → Prop) (open_3 : Option Addr) (openN3 : Nat) (openC3 : Nat) (w_6 : World) (R : Ending → World → Prop) : Prop :=
 InR .i64 (((openN3 : Nat) : Int) - (1 : Int)) ∧ SlB 0 (((openN3 : Nat) : Int) - (1 : Int)) ((openC3 : Nat) : Int)
 (L6 open_3 ((((openN3 : Nat) : Int) - (1 : Int))).toNat openC3 w_6)

def F60_l6 (a : Option Addr) (aN : Nat) (k2 : Int) (J8 : Option Addr → Nat → Nat → World → Prop) (L6 : Option Addr → Nat → Nat → World → Prop) (open_3 : Option Addr) (openN3 : Nat) (openC3 : Nat) (w_5 : World) (R : Ending → World → Prop) : Prop :=
 ∃ J7 : World → Prop, (∀  (w1_6 : World), J7 w1_6 → F60_j7 L6 open_3 openN3 openC3 w1_6 R) ∧
 (Dr w_5 fun w1_6 =>
 Br (decide (((openN3 : Nat) : Int) > (0 : Int)))
 (InR .i64 (((openN3 : Nat) : Int) - (1 : Int)) ∧ IdxA open_3 openN3 (((openN3 : Nat) : Int) - (1 : Int)) 1 fun q42 =>
 LdI .i64 (w1_6.cell? q42) fun x43 =>
 IdxA a aN x43 4 fun q44 =>
 LdI .u64 (w1_6.cell? ((q44.add 1).add 1)) fun x47 =>
 IdxA a aN k2 4 fun q50 =>
 LdI .u64 (w1_6.cell? (q50.add 1)) fun x53 =>
 Br (decide (x47 < x53))
 (J7 w1_6)
 (J8 open_3 openN3 openC3 w1_6))
 (J8 open_3 openN3 openC3 w1_6))

def F60_j6 (a : Option Addr) (aN : Nat) (L5 : Option Addr → Nat → Nat → Int → World → Prop) (open_2 : Option Addr) (openN2 : Nat) (openC2 : Nat) (k2 : Int) (w_4 : World) (R : Ending → World → Prop) : Prop :=
 ∃ J8 : Option Addr → Nat → Nat → World → Prop, (∀ (open_3 : Option Addr) (openN3 : Nat) (openC3 : Nat) (w1_6 : World), J8 open_3 openN3 openC3 w1_6 → F60_j8 L5 k2 open_3 openN3 openC3 w1_6 R) ∧
 (∃ (I : Option Addr → Nat → Nat → World → Prop) (m : Option Addr → Nat → Nat → World → Nat), I open_2 openN2 openC2 w_4 ∧
 ∀ (open_3 : Option Addr) (openN3 : Nat) (openC3 : Nat) (w1_6 : World), I open_3 openN3 openC3 w1_6 → F60_l6 a aN k2 J8 (fun open_3' openN3' openC3' w2 => I open_3' openN3' openC3' w2 ∧ m open_3' openN3' openC3' w2 < m open_3 openN3 openC3 w1_6) open_3 openN3 openC3 w1_6 R)

def F60_l5 (a : Option Addr) (aN : Nat) (g9 : Addr) (J10 : Option Addr → Nat → Nat → Int → World → Prop) (L5 : Option Addr → Nat → Nat → Int → World → Prop) (open_2 : Option Addr) (openN2 : Nat) (openC2 : Nat) (k2 : Int) (w_3 : World) (R : Ending → World → Prop) : Prop :=
 ∃ J6 : World → Prop, (∀  (w1_6 : World), J6 w1_6 → F60_j6 a aN L5 open_2 openN2 openC2 k2 w1_6 R) ∧
 (Dr w_3 fun w1_6 =>
 Br (decide (k2 < ((aN : Nat) : Int)))
 (IdxA a aN k2 4 fun q24 =>
 LdI .u64 (w1_6.cell? (q24.add 1)) fun x27 =>
 LdI .u64 (w1_6.cell? (g9.add 1)) fun x30 =>
 Br (decide (x27 < x30))
 (J6 w1_6)
 (J10 open_2 openN2 openC2 k2 w1_6))
 (J10 open_2 openN2 openC2 k2 w1_6))

def F60_l3 (a : Option Addr) (aN : Nat) (d : Option Addr) (dN : Nat) (each : Value) (L3 : Option Addr → Nat → Nat → Int → Int → World → Prop) (open_ : Option Addr) (openN : Nat) (openC : Nat) (k : Int) (x12 : Int) (w_2 : World) (R : Ending → World → Prop) : Prop :=
 Br (decide (x12 < ((dN : Nat) : Int)))
 (IdxA d dN x12 4 fun q15 =>
 LdI .u64 (w_2.cell? q15) fun x16_0 =>
 LdI .u64 (w_2.cell? (q15.add 1)) fun x16_1 =>
 LdI .u64 (w_2.cell? (q15.add 2)) fun x16_2 =>
 LdI .i64 (w_2.cell? (q15.add 3)) fun x16_3 =>
 Al w_2 #[(.int .u64 0), (.int .u64 0), (.int .u64 0), (.int .i64 0)] 51 fun g9 w1 =>
 St w1 g9 (.int .u64 x16_0) fun w1_2 =>
 St w1_2 (g9.add 1) (.int .u64 x16_1) fun w1_3 =>
 St w1_3 (g9.add 2) (.int .u64 x16_2) fun w1_4 =>
 St w1_4 (g9.add 3) (.int .i64 x16_3) fun w1_5 =>
 ∃ J10 : Option Addr → Nat → Nat → Int → World → Prop, (∀ (open_2 : Option Addr) (openN2 : Nat) (openC2 : Nat) (k2 : Int) (w1_6 : World), J10 open_2 openN2 openC2 k2 w1_6 → F60_j10 a aN each L3 x12 g9 open_2 openN2 openC2 k2 w1_6 R) ∧
 (∃ (I : Option Addr → Nat → Nat → Int → World → Prop) (m : Option Addr → Nat → Nat → Int → World → Nat), I open_ openN openC k w1_5 ∧
 ∀ (open_2 : Option Addr) (openN2 : Nat) (openC2 : Nat) (k2 : Int) (w1_6 : World), I open_2 openN2 openC2 k2 w1_6 → F60_l5 a aN g9 J10 (fun open_2' openN2' openC2' k2' w2 => I open_2' openN2' openC2' k2' w2 ∧ m open_2' openN2' openC2' k2' w2 < m open_2 openN2 openC2 k2 w1_6) open_2 openN2 openC2 k2 w1_6 R))
 (R (.returned (.tuple #[])) w_2)

def F60 (a : Option Addr) (aN : Nat) (aC : Nat) (d : Option Addr) (dN : Nat) (dC : Nat) (each : Value) (w_ : World) (R : Ending → World → Prop) : Prop :=
 ∃ (I : Option Addr → Nat → Nat → Int → Int → World → Prop) (m : Option Addr → Nat → Nat → Int → Int → World → Nat), I none 0 0 (0 : Int) (0 : Int) w_ ∧
 ∀ (open_ : Option Addr) (openN : Nat) (openC : Nat) (k : Int) (x12 : Int) (w1 : World), I open_ openN openC k x12 w1 → F60_l3 a aN d dN each (fun open_' openN' openC' k' x12' w2 => I open_' openN' openC' k' x12' w2 ∧ m open_' openN' openC' k' x12' w2 < m open_ openN openC k x12 w1) open_ openN openC k x12 w1 R

def pl60 : Plan := ⟨98, ⟨[]⟩, [(7, ⟨[], [(33, 56)]⟩), (8, ⟨[(6, (.s .slice))], [(6, 7), (33, 61)]⟩), (6, ⟨[], [(17, 33)]⟩), (11, ⟨[], [(67, 87)]⟩), (12, ⟨[(6, (.s .slice))], [(6, 7), (67, 92)]⟩), (10, ⟨[(6, (.s .slice)), (7, (.s (.int .i64)))], [(6, 8), (17, 67)]⟩)], [(6, ⟨[(6, (.s .slice))], [(6, 7), (33, 61)]⟩), (5, ⟨[(6, (.s .slice)), (7, (.s (.int .i64)))], [(6, 8), (17, 67)]⟩), (10, ⟨[(6, (.s .slice))], [(6, 7), (67, 92)]⟩), (3, ⟨[(6, (.s .slice)), (7, (.s (.int .i64))), (12, (.s (.int .i64)))], [(6, 10), (12, 98)]⟩)]⟩

theorem eq60 (a : Option Addr) (aN : Nat) (aC : Nat) (d : Option Addr) (dN : Nat) (dC : Nat) (each : Value) (w : World) (R : Ending → World → Prop) : F60 a aN aC d dN dC each w R = vc Try.prog Try.f60 pl60 R 100000 [.code (bodyOf Try.f60)] (argEnv 0 #[(.slice a aN aC), (.slice d dN dC), each].toList) w := by kernel_rfl

theorem ok60 (a : Option Addr) (aN : Nat) (aC : Nat) (d : Option Addr) (dN : Nat) (dC : Nat) (each : Value) {w : World} {R : Ending → World → Prop} (h : F60 a aN aC d dN dC each w R) : Calls Try.prog 60 #[(.slice a aN aC), (.slice d dN dC), each] w R :=
  vc_calls (pl := pl60) Try.func60 (by kernel_rfl) (by kernel_rfl) (by kernel_rfl) (Eq.mp (eq60 a aN aC d dN dC each w R) h)

-- join.joins
def F62_j9 (L5 : Option Addr → Nat → Nat → Int → World → Prop) (x17 : Int) (out2 : Option Addr) (outN2 : Nat) (outC2 : Nat) (w_3 : World) (R : Ending → World → Prop) : Prop :=
 InR .i64 (x17 + (1 : Int)) ∧ L5 out2 outN2 outC2 (x17 + (1 : Int)) w_3

def F62_l5 (a : Option Addr) (aN : Nat) (open_ : Option Addr) (openN : Nat) (g6 : Addr) (L5 : Option Addr → Nat → Nat → Int → World → Prop) (out : Option Addr) (outN : Nat) (outC : Nat) (x17 : Int) (w_2 : World) (R : Ending → World → Prop) : Prop :=
 Br (decide (x17 < ((openN : Nat) : Int)))
 (∃ J9 : Option Addr → Nat → Nat → World → Prop, (∀ (out2 : Option Addr) (outN2 : Nat) (outC2 : Nat) (w1_2 : World), J9 out2 outN2 outC2 w1_2 → F62_j9 L5 x17 out2 outN2 outC2 w1_2 R) ∧
 (IdxA open_ openN x17 1 fun q19 =>
 LdI .i64 (w_2.cell? q19) fun x20 =>
 ∃ S : World → Prop, S w_2.drew ∧ IdxA a aN x20 4 fun q23 =>
 ∃ (x25_0 : Int), Held S (q23.add 1) (.int .u64 x25_0) ∧ ∃ (x25_1 : Int), Held S ((q23.add 1).add 1) (.int .u64 x25_1) ∧ ∃ (x25_2 : Int), Held S ((q23.add 1).add 2) (.int .i64 x25_2) ∧ ∃ (x27_0 : Int), Held S (g6.add 1) (.int .u64 x27_0) ∧ ∃ (x27_1 : Int), Held S ((g6.add 1).add 1) (.int .u64 x27_1) ∧ ∃ (x27_2 : Int), Held S ((g6.add 1).add 2) (.int .i64 x27_2) ∧ Calls Try.prog 22 #[(.agg #[(.int .u64 x25_0), (.int .u64 x25_1), (.int .i64 x25_2)]), (.agg #[(.int .u64 x27_0), (.int .u64 x27_1), (.int .i64 x27_2)])] w_2.drew (post R fun v w1_3 =>
 ∃ (x28 : Bool), v = (.bool x28) ∧
 Br x28
 (Al w1_3 #[(.int .i64 x20)] 3 fun g31 w1_4 =>
 Raw Try.prog (Builtin.append_ #[44, 44] 44 #[(.slice out outN outC), (.slice (some g31) 1 1)]) w1_4 fun v2 w1_5 =>
 ∃ (x32 : Option Addr) (x32N : Nat) (x32C : Nat), v2 = (.slice x32 x32N x32C) ∧
 J9 x32 x32N x32C w1_5)
 (J9 out outN outC w1_3))))
 (R (.returned (.slice out outN outC)) w_2)

def F62 (a : Option Addr) (aN : Nat) (aC : Nat) (open_ : Option Addr) (openN : Nat) (openC : Nat) (x_0 : Int) (x_1 : Int) (x_2 : Int) (x_3 : Int) (direct : Bool) (w_ : World) (R : Ending → World → Prop) : Prop :=
 Al w_ #[(.int .u64 x_0), (.int .u64 x_1), (.int .u64 x_2), (.int .i64 x_3)] 51 fun g6 w1 =>
 Br (!direct)
 (R (.returned (.slice open_ openN openC)) w1)
 (∃ (I : Option Addr → Nat → Nat → Int → World → Prop) (m : Option Addr → Nat → Nat → Int → World → Nat), I none 0 0 (0 : Int) w1 ∧
 ∀ (out : Option Addr) (outN : Nat) (outC : Nat) (x17 : Int) (w1_2 : World), I out outN outC x17 w1_2 → F62_l5 a aN open_ openN g6 (fun out' outN' outC' x17' w2 => I out' outN' outC' x17' w2 ∧ m out' outN' outC' x17' w2 < m out outN outC x17 w1_2) out outN outC x17 w1_2 R)

def pl62 : Plan := ⟨35, ⟨[]⟩, [(9, ⟨[(9, (.s .slice))], [(9, 12), (19, 33)]⟩)], [(5, ⟨[(9, (.s .slice)), (17, (.s (.int .i64)))], [(9, 12), (17, 34)]⟩)]⟩

theorem eq62 (a : Option Addr) (aN : Nat) (aC : Nat) (open_ : Option Addr) (openN : Nat) (openC : Nat) (x_0 : Int) (x_1 : Int) (x_2 : Int) (x_3 : Int) (direct : Bool) (w : World) (R : Ending → World → Prop) : F62 a aN aC open_ openN openC x_0 x_1 x_2 x_3 direct w R = vc Try.prog Try.f62 pl62 R 100000 [.code (bodyOf Try.f62)] (argEnv 0 #[(.slice a aN aC), (.slice open_ openN openC), (.agg #[(.int .u64 x_0), (.int .u64 x_1), (.int .u64 x_2), (.int .i64 x_3)]), (.bool direct)].toList) w := by kernel_rfl

theorem ok62 (a : Option Addr) (aN : Nat) (aC : Nat) (open_ : Option Addr) (openN : Nat) (openC : Nat) (x_0 : Int) (x_1 : Int) (x_2 : Int) (x_3 : Int) (direct : Bool) {w : World} {R : Ending → World → Prop} (h : F62 a aN aC open_ openN openC x_0 x_1 x_2 x_3 direct w R) : Calls Try.prog 62 #[(.slice a aN aC), (.slice open_ openN openC), (.agg #[(.int .u64 x_0), (.int .u64 x_1), (.int .u64 x_2), (.int .i64 x_3)]), (.bool direct)] w R :=
  vc_calls (pl := pl62) Try.func62 (by kernel_rfl) (by kernel_rfl) (by kernel_rfl) (Eq.mp (eq62 a aN aC open_ openN openC x_0 x_1 x_2 x_3 direct w R) h)

-- join.Pairs
def F31 (a : Option Addr) (aN : Nat) (aC : Nat) (d : Option Addr) (dN : Nat) (dC : Nat) (direct : Bool) (w_ : World) (R : Ending → World → Prop) : Prop :=
 Al w_ #[(.slice a aN aC)] 37 fun a2 w1 =>
 Al w1 #[(.slice d dN dC)] 37 fun d2 w1_2 =>
 Al w1_2 #[(.bool direct)] 4 fun direct2 w1_3 =>
 LdSl (w1_3.cell? a2) fun x10 x10N x10C =>
 LdSl (w1_3.cell? d2) fun x11 x11N x11C =>
 Calls Try.prog 59 #[(.slice x10 x10N x10C), (.slice x11 x11N x11C)] w1_3 (post R fun v w1_4 =>
 ∃ (x12 : Int), v = (.int .i64 x12) ∧
 Br (x12 != (0 : Int))
 (R (.returned (.tuple #[(.slice none 0 0), (.int .i64 x12)])) w1_4)
 (Al w1_4 #[(.slice none 0 0)] 38 fun out w1_5 =>
 LdSl (w1_5.cell? a2) fun x16 x16N x16C =>
 LdSl (w1_5.cell? d2) fun x17 x17N x17C =>
 Calls Try.prog 60 #[(.slice x16 x16N x16C), (.slice x17 x17N x17C), (.func (.func 61) #[] #[(.pointer (some a2)), (.pointer (some d2)), (.pointer (some direct2)), (.pointer (some out))])] w1_5 (post R fun v2 w1_6 =>
 v2 = (.tuple #[]) ∧
 LdSl (w1_6.cell? out) fun x20 x20N x20C =>
 Br (decide (((x20N : Nat) : Int) > (16384 : Int)))
 (R (.returned (.tuple #[(.slice none 0 0), (.int .i64 2)])) w1_6)
 (LdSl (w1_6.cell? out) fun x23 x23N x23C =>
 R (.returned (.tuple #[(.slice x23 x23N x23C), (.int .i64 0)])) w1_6))))

def pl31 : Plan := ⟨24, ⟨[]⟩, [], []⟩

theorem eq31 (a : Option Addr) (aN : Nat) (aC : Nat) (d : Option Addr) (dN : Nat) (dC : Nat) (direct : Bool) (w : World) (R : Ending → World → Prop) : F31 a aN aC d dN dC direct w R = vc Try.prog Try.f31 pl31 R 100000 [.code (bodyOf Try.f31)] (argEnv 0 #[(.slice a aN aC), (.slice d dN dC), (.bool direct)].toList) w := by kernel_rfl

theorem ok31 (a : Option Addr) (aN : Nat) (aC : Nat) (d : Option Addr) (dN : Nat) (dC : Nat) (direct : Bool) {w : World} {R : Ending → World → Prop} (h : F31 a aN aC d dN dC direct w R) : Calls Try.prog 31 #[(.slice a aN aC), (.slice d dN dC), (.bool direct)] w R :=
  vc_calls (pl := pl31) Try.func31 (by kernel_rfl) (by kernel_rfl) (by kernel_rfl) (Eq.mp (eq31 a aN aC d dN dC direct w R) h)

-- join.Pairs$1
def F61_l2 (i : Int) (cap0 : Addr) (cap1 : Addr) (cap3 : Addr) (x18 : Option Addr) (x18N : Nat) (L2 : Int → World → Prop) (x20 : Int) (w_2 : World) (R : Ending → World → Prop) : Prop :=
 Br (decide (x20 < ((x18N : Nat) : Int)))
 (IdxA x18 x18N x20 1 fun q22 =>
 LdI .i64 (w_2.cell? q22) fun x23 =>
 ∃ S2 : World → Prop, S2 w_2.drew ∧ ∃ (x24 : Option Addr) (x24N : Nat) (x24C : Nat), Held S2 cap3 (.slice x24 x24N x24C) ∧ ∃ (x25 : Option Addr) (x25N : Nat) (x25C : Nat), Held S2 cap0 (.slice x25 x25N x25C) ∧ IdxA x25 x25N x23 4 fun q27 =>
 ∃ (x29 : Int), Held S2 q27 (.int .u64 x29) ∧ ∃ (x30 : Option Addr) (x30N : Nat) (x30C : Nat), Held S2 cap1 (.slice x30 x30N x30C) ∧ IdxA x30 x30N i 4 fun q32 =>
 ∃ (x34 : Int), Held S2 q32 (.int .u64 x34) ∧ Al w_2.drew #[(.int .u64 x29), (.int .u64 x34)] 53 fun g36 w1_4 =>
 S2 w1_4 ∧ Raw Try.prog (Builtin.append_ #[38, 38] 38 #[(.slice x24 x24N x24C), (.slice (some g36) 1 1)]) w1_4 fun v2 w1_5 =>
 ∃ (x37 : Option Addr) (x37N : Nat) (x37C : Nat), v2 = (.slice x37 x37N x37C) ∧
 St w1_5 cap3 (.slice x37 x37N x37C) fun w1_6 =>
 LdSl (w1_6.cell? cap3) fun x38 x38N x38C =>
 Br (decide (((x38N : Nat) : Int) > (16384 : Int)))
 (R (.returned (.bool false)) w1_6)
 (InR .i64 (x20 + (1 : Int)) ∧ L2 (x20 + (1 : Int)) w1_6))
 (R (.returned (.bool true)) w_2)

def F61 (i : Int) (open_ : Option Addr) (openN : Nat) (openC : Nat) (cap0 : Addr) (cap1 : Addr) (cap2 : Addr) (cap3 : Addr) (w_ : World) (R : Ending → World → Prop) : Prop :=
 ∃ S : World → Prop, S w_.drew ∧ ∃ (x11 : Option Addr) (x11N : Nat) (x11C : Nat), Held S cap0 (.slice x11 x11N x11C) ∧ ∃ (x13 : Option Addr) (x13N : Nat) (x13C : Nat), Held S cap1 (.slice x13 x13N x13C) ∧ IdxA x13 x13N i 4 fun q15 =>
 ∃ (x16_0 : Int), Held S q15 (.int .u64 x16_0) ∧ ∃ (x16_1 : Int), Held S (q15.add 1) (.int .u64 x16_1) ∧ ∃ (x16_2 : Int), Held S (q15.add 2) (.int .u64 x16_2) ∧ ∃ (x16_3 : Int), Held S (q15.add 3) (.int .i64 x16_3) ∧ ∃ (x17 : Bool), Held S cap2 (.bool x17) ∧ Calls Try.prog 62 #[(.slice x11 x11N x11C), (.slice open_ openN openC), (.agg #[(.int .u64 x16_0), (.int .u64 x16_1), (.int .u64 x16_2), (.int .i64 x16_3)]), (.bool x17)] w_.drew (post R fun v w1_2 =>
 ∃ (x18 : Option Addr) (x18N : Nat) (x18C : Nat), v = (.slice x18 x18N x18C) ∧
 ∃ (I : Int → World → Prop) (m : Int → World → Nat), I (0 : Int) w1_2 ∧
 ∀ (x20 : Int) (w1_3 : World), I x20 w1_3 → F61_l2 i cap0 cap1 cap3 x18 x18N (fun x20' w2 => I x20' w2 ∧ m x20' w2 < m x20 w1_3) x20 w1_3 R)

def pl61 : Plan := ⟨42, ⟨[]⟩, [], [(2, ⟨[(20, (.s (.int .i64)))], [(8, 11), (20, 42)]⟩)]⟩

theorem eq61 (i : Int) (open_ : Option Addr) (openN : Nat) (openC : Nat) (cap0 : Addr) (cap1 : Addr) (cap2 : Addr) (cap3 : Addr) (w : World) (R : Ending → World → Prop) : F61 i open_ openN openC cap0 cap1 cap2 cap3 w R = vc Try.prog Try.f61 pl61 R 100000 [.code (bodyOf Try.f61)] (argEnv 0 #[(.int .i64 i), (.slice open_ openN openC), (.pointer (some cap0)), (.pointer (some cap1)), (.pointer (some cap2)), (.pointer (some cap3))].toList) w := by kernel_rfl

theorem ok61 (i : Int) (open_ : Option Addr) (openN : Nat) (openC : Nat) (cap0 : Addr) (cap1 : Addr) (cap2 : Addr) (cap3 : Addr) {w : World} {R : Ending → World → Prop} (h : F61 i open_ openN openC cap0 cap1 cap2 cap3 w R) : Calls Try.prog 61 #[(.int .i64 i), (.slice open_ openN openC), (.pointer (some cap0)), (.pointer (some cap1)), (.pointer (some cap2)), (.pointer (some cap3))] w R :=
  vc_calls (pl := pl61) Try.func61 (by kernel_rfl) (by kernel_rfl) (by kernel_rfl) (Eq.mp (eq61 i open_ openN openC cap0 cap1 cap2 cap3 w R) h)

-- join.counts
def F63_j5 (a2 : Addr) (d2 : Addr) (direct2 : Addr) (x : Addr) (y : Addr) (w_2 : World) (R : Ending → World → Prop) : Prop :=
 LdSl (w_2.cell? a2) fun x24 x24N x24C =>
 LdSl (w_2.cell? d2) fun x25 x25N x25C =>
 Calls Try.prog 60 #[(.slice x24 x24N x24C), (.slice x25 x25N x25C), (.func (.func 82) #[] #[(.pointer (some a2)), (.pointer (some d2)), (.pointer (some direct2)), (.pointer (some y)), (.pointer (some x))])] w_2 (post R fun v2 w1_5 =>
 v2 = (.tuple #[]) ∧
 Dr w1_5 fun w1_6 =>
 LdSl (w1_6.cell? x) fun x28 x28N x28C =>
 LdSl (w1_6.cell? y) fun x29 x29N x29C =>
 R (.returned (.tuple #[(.slice x28 x28N x28C), (.slice x29 x29N x29C), (.int .i64 0)])) w1_6)

def F63 (a : Option Addr) (aN : Nat) (aC : Nat) (d : Option Addr) (dN : Nat) (dC : Nat) (direct : Bool) (w_ : World) (R : Ending → World → Prop) : Prop :=
 Al w_ #[(.slice a aN aC)] 37 fun a2 w1 =>
 Al w1 #[(.slice d dN dC)] 37 fun d2 w1_2 =>
 Al w1_2 #[(.bool direct)] 4 fun direct2 w1_3 =>
 LdSl (w1_3.cell? a2) fun x12 x12N x12C =>
 LdSl (w1_3.cell? d2) fun x13 x13N x13C =>
 Calls Try.prog 59 #[(.slice x12 x12N x12C), (.slice x13 x13N x13C)] w1_3 (post R fun v w1_4 =>
 ∃ (x14 : Int), v = (.int .i64 x14) ∧
 Br (x14 != (0 : Int))
 (R (.returned (.tuple #[(.slice none 0 0), (.slice none 0 0), (.int .i64 x14)])) w1_4)
 (∃ J5 : Addr → Addr → World → Prop, (∀ (x : Addr) (y : Addr) (w1_5 : World), J5 x y w1_5 → F63_j5 a2 d2 direct2 x y w1_5 R) ∧
 (∃ S : World → Prop, S w1_4.drew ∧ ∃ (x18 : Option Addr) (x18N : Nat) (x18C : Nat), Held S a2 (.slice x18 x18N x18C) ∧ ∃ (x21 : Option Addr) (x21N : Nat) (x21C : Nat), Held S d2 (.slice x21 x21N x21C) ∧ (0 ≤ ((x18N : Nat) : Int) ∧ ((x18N : Nat) : Int) ≤ ((x18N : Nat) : Int) ∧ ((8 : Nat) : Int) * ((x18N : Nat) : Int) ≤ 281474976710656 ∧ Al w1_4.drew (zrow #[(.int .i64 0)] ((((x18N : Nat) : Int)).toNat * 1)) 3 fun g20 w1_6 =>
 S w1_6 ∧ (0 ≤ ((x21N : Nat) : Int) ∧ ((x21N : Nat) : Int) ≤ ((x21N : Nat) : Int) ∧ ((8 : Nat) : Int) * ((x21N : Nat) : Int) ≤ 281474976710656 ∧ Al w1_6 (zrow #[(.int .i64 0)] ((((x21N : Nat) : Int)).toNat * 1)) 3 fun g23 w1_7 =>
 S w1_7 ∧ (Al w1_7 #[(.slice none 0 0)] 44 fun g10 w1_8 =>
 S w1_8 ∧ Al w1_8 #[(.slice none 0 0)] 44 fun y w1_9 =>
 S w1_9 ∧ St w1_9 g10 (.slice (some g20) (((x18N : Nat) : Int)).toNat (((x18N : Nat) : Int)).toNat) fun w1_10 =>
 S w1_10 ∧ St w1_10 y (.slice (some g23) (((x21N : Nat) : Int)).toNat (((x21N : Nat) : Int)).toNat) fun w1_11 =>
 J5 g10 y w1_11)
 ∧ (Al w1_7 #[(.slice none 0 0)] 44 fun y w1_8 =>
 S w1_8 ∧ Al w1_8 #[(.slice none 0 0)] 44 fun g10 w1_9 =>
 S w1_9 ∧ St w1_9 g10 (.slice (some g20) (((x18N : Nat) : Int)).toNat (((x18N : Nat) : Int)).toNat) fun w1_10 =>
 S w1_10 ∧ St w1_10 y (.slice (some g23) (((x21N : Nat) : Int)).toNat (((x21N : Nat) : Int)).toNat) fun w1_11 =>
 J5 g10 y w1_11))
 ∧ (Al w1_6 #[(.slice none 0 0)] 44 fun g10 w1_7 =>
 S w1_7 ∧ (0 ≤ ((x21N : Nat) : Int) ∧ ((x21N : Nat) : Int) ≤ ((x21N : Nat) : Int) ∧ ((8 : Nat) : Int) * ((x21N : Nat) : Int) ≤ 281474976710656 ∧ Al w1_7 (zrow #[(.int .i64 0)] ((((x21N : Nat) : Int)).toNat * 1)) 3 fun g23 w1_8 =>
 S w1_8 ∧ Al w1_8 #[(.slice none 0 0)] 44 fun y w1_9 =>
 S w1_9 ∧ St w1_9 g10 (.slice (some g20) (((x18N : Nat) : Int)).toNat (((x18N : Nat) : Int)).toNat) fun w1_10 =>
 S w1_10 ∧ St w1_10 y (.slice (some g23) (((x21N : Nat) : Int)).toNat (((x21N : Nat) : Int)).toNat) fun w1_11 =>
 J5 g10 y w1_11)
 ∧ (Al w1_7 #[(.slice none 0 0)] 44 fun y w1_8 =>
 S w1_8 ∧ (0 ≤ ((x21N : Nat) : Int) ∧ ((x21N : Nat) : Int) ≤ ((x21N : Nat) : Int) ∧ ((8 : Nat) : Int) * ((x21N : Nat) : Int) ≤ 281474976710656 ∧ Al w1_8 (zrow #[(.int .i64 0)] ((((x21N : Nat) : Int)).toNat * 1)) 3 fun g23 w1_9 =>
 S w1_9 ∧ St w1_9 g10 (.slice (some g20) (((x18N : Nat) : Int)).toNat (((x18N : Nat) : Int)).toNat) fun w1_10 =>
 S w1_10 ∧ St w1_10 y (.slice (some g23) (((x21N : Nat) : Int)).toNat (((x21N : Nat) : Int)).toNat) fun w1_11 =>
 J5 g10 y w1_11)
 ∧ (St w1_8 g10 (.slice (some g20) (((x18N : Nat) : Int)).toNat (((x18N : Nat) : Int)).toNat) fun w1_9 =>
 S w1_9 ∧ 0 ≤ ((x21N : Nat) : Int) ∧ ((x21N : Nat) : Int) ≤ ((x21N : Nat) : Int) ∧ ((8 : Nat) : Int) * ((x21N : Nat) : Int) ≤ 281474976710656 ∧ Al w1_9 (zrow #[(.int .i64 0)] ((((x21N : Nat) : Int)).toNat * 1)) 3 fun g23 w1_10 =>
 S w1_10 ∧ St w1_10 y (.slice (some g23) (((x21N : Nat) : Int)).toNat (((x21N : Nat) : Int)).toNat) fun w1_11 =>
 J5 g10 y w1_11)))
 ∧ (Al w1_6 #[(.slice none 0 0)] 44 fun y w1_7 =>
 S w1_7 ∧ (0 ≤ ((x21N : Nat) : Int) ∧ ((x21N : Nat) : Int) ≤ ((x21N : Nat) : Int) ∧ ((8 : Nat) : Int) * ((x21N : Nat) : Int) ≤ 281474976710656 ∧ Al w1_7 (zrow #[(.int .i64 0)] ((((x21N : Nat) : Int)).toNat * 1)) 3 fun g23 w1_8 =>
 S w1_8 ∧ Al w1_8 #[(.slice none 0 0)] 44 fun g10 w1_9 =>
 S w1_9 ∧ St w1_9 g10 (.slice (some g20) (((x18N : Nat) : Int)).toNat (((x18N : Nat) : Int)).toNat) fun w1_10 =>
 S w1_10 ∧ St w1_10 y (.slice (some g23) (((x21N : Nat) : Int)).toNat (((x21N : Nat) : Int)).toNat) fun w1_11 =>
 J5 g10 y w1_11)
 ∧ (Al w1_7 #[(.slice none 0 0)] 44 fun g10 w1_8 =>
 S w1_8 ∧ (0 ≤ ((x21N : Nat) : Int) ∧ ((x21N : Nat) : Int) ≤ ((x21N : Nat) : Int) ∧ ((8 : Nat) : Int) * ((x21N : Nat) : Int) ≤ 281474976710656 ∧ Al w1_8 (zrow #[(.int .i64 0)] ((((x21N : Nat) : Int)).toNat * 1)) 3 fun g23 w1_9 =>
 S w1_9 ∧ St w1_9 g10 (.slice (some g20) (((x18N : Nat) : Int)).toNat (((x18N : Nat) : Int)).toNat) fun w1_10 =>
 S w1_10 ∧ St w1_10 y (.slice (some g23) (((x21N : Nat) : Int)).toNat (((x21N : Nat) : Int)).toNat) fun w1_11 =>
 J5 g10 y w1_11)
 ∧ (St w1_8 g10 (.slice (some g20) (((x18N : Nat) : Int)).toNat (((x18N : Nat) : Int)).toNat) fun w1_9 =>
 S w1_9 ∧ 0 ≤ ((x21N : Nat) : Int) ∧ ((x21N : Nat) : Int) ≤ ((x21N : Nat) : Int) ∧ ((8 : Nat) : Int) * ((x21N : Nat) : Int) ≤ 281474976710656 ∧ Al w1_9 (zrow #[(.int .i64 0)] ((((x21N : Nat) : Int)).toNat * 1)) 3 fun g23 w1_10 =>
 S w1_10 ∧ St w1_10 y (.slice (some g23) (((x21N : Nat) : Int)).toNat (((x21N : Nat) : Int)).toNat) fun w1_11 =>
 J5 g10 y w1_11))))
 ∧ (0 ≤ ((x21N : Nat) : Int) ∧ ((x21N : Nat) : Int) ≤ ((x21N : Nat) : Int) ∧ ((8 : Nat) : Int) * ((x21N : Nat) : Int) ≤ 281474976710656 ∧ Al w1_4.drew (zrow #[(.int .i64 0)] ((((x21N : Nat) : Int)).toNat * 1)) 3 fun g23 w1_6 =>
 S w1_6 ∧ (0 ≤ ((x18N : Nat) : Int) ∧ ((x18N : Nat) : Int) ≤ ((x18N : Nat) : Int) ∧ ((8 : Nat) : Int) * ((x18N : Nat) : Int) ≤ 281474976710656 ∧ Al w1_6 (zrow #[(.int .i64 0)] ((((x18N : Nat) : Int)).toNat * 1)) 3 fun g20 w1_7 =>
 S w1_7 ∧ (Al w1_7 #[(.slice none 0 0)] 44 fun g10 w1_8 =>
 S w1_8 ∧ Al w1_8 #[(.slice none 0 0)] 44 fun y w1_9 =>
 S w1_9 ∧ St w1_9 g10 (.slice (some g20) (((x18N : Nat) : Int)).toNat (((x18N : Nat) : Int)).toNat) fun w1_10 =>
 S w1_10 ∧ St w1_10 y (.slice (some g23) (((x21N : Nat) : Int)).toNat (((x21N : Nat) : Int)).toNat) fun w1_11 =>
 J5 g10 y w1_11)
 ∧ (Al w1_7 #[(.slice none 0 0)] 44 fun y w1_8 =>
 S w1_8 ∧ Al w1_8 #[(.slice none 0 0)] 44 fun g10 w1_9 =>
 S w1_9 ∧ St w1_9 g10 (.slice (some g20) (((x18N : Nat) : Int)).toNat (((x18N : Nat) : Int)).toNat) fun w1_10 =>
 S w1_10 ∧ St w1_10 y (.slice (some g23) (((x21N : Nat) : Int)).toNat (((x21N : Nat) : Int)).toNat) fun w1_11 =>
 J5 g10 y w1_11))
 ∧ (Al w1_6 #[(.slice none 0 0)] 44 fun g10 w1_7 =>
 S w1_7 ∧ (0 ≤ ((x18N : Nat) : Int) ∧ ((x18N : Nat) : Int) ≤ ((x18N : Nat) : Int) ∧ ((8 : Nat) : Int) * ((x18N : Nat) : Int) ≤ 281474976710656 ∧ Al w1_7 (zrow #[(.int .i64 0)] ((((x18N : Nat) : Int)).toNat * 1)) 3 fun g20 w1_8 =>
 S w1_8 ∧ Al w1_8 #[(.slice none 0 0)] 44 fun y w1_9 =>
 S w1_9 ∧ St w1_9 g10 (.slice (some g20) (((x18N : Nat) : Int)).toNat (((x18N : Nat) : Int)).toNat) fun w1_10 =>
 S w1_10 ∧ St w1_10 y (.slice (some g23) (((x21N : Nat) : Int)).toNat (((x21N : Nat) : Int)).toNat) fun w1_11 =>
 J5 g10 y w1_11)
 ∧ (Al w1_7 #[(.slice none 0 0)] 44 fun y w1_8 =>
 S w1_8 ∧ 0 ≤ ((x18N : Nat) : Int) ∧ ((x18N : Nat) : Int) ≤ ((x18N : Nat) : Int) ∧ ((8 : Nat) : Int) * ((x18N : Nat) : Int) ≤ 281474976710656 ∧ Al w1_8 (zrow #[(.int .i64 0)] ((((x18N : Nat) : Int)).toNat * 1)) 3 fun g20 w1_9 =>
 S w1_9 ∧ St w1_9 g10 (.slice (some g20) (((x18N : Nat) : Int)).toNat (((x18N : Nat) : Int)).toNat) fun w1_10 =>
 S w1_10 ∧ St w1_10 y (.slice (some g23) (((x21N : Nat) : Int)).toNat (((x21N : Nat) : Int)).toNat) fun w1_11 =>
 J5 g10 y w1_11))
 ∧ (Al w1_6 #[(.slice none 0 0)] 44 fun y w1_7 =>
 S w1_7 ∧ (0 ≤ ((x18N : Nat) : Int) ∧ ((x18N : Nat) : Int) ≤ ((x18N : Nat) : Int) ∧ ((8 : Nat) : Int) * ((x18N : Nat) : Int) ≤ 281474976710656 ∧ Al w1_7 (zrow #[(.int .i64 0)] ((((x18N : Nat) : Int)).toNat * 1)) 3 fun g20 w1_8 =>
 S w1_8 ∧ Al w1_8 #[(.slice none 0 0)] 44 fun g10 w1_9 =>
 S w1_9 ∧ St w1_9 g10 (.slice (some g20) (((x18N : Nat) : Int)).toNat (((x18N : Nat) : Int)).toNat) fun w1_10 =>
 S w1_10 ∧ St w1_10 y (.slice (some g23) (((x21N : Nat) : Int)).toNat (((x21N : Nat) : Int)).toNat) fun w1_11 =>
 J5 g10 y w1_11)
 ∧ (Al w1_7 #[(.slice none 0 0)] 44 fun g10 w1_8 =>
 S w1_8 ∧ 0 ≤ ((x18N : Nat) : Int) ∧ ((x18N : Nat) : Int) ≤ ((x18N : Nat) : Int) ∧ ((8 : Nat) : Int) * ((x18N : Nat) : Int) ≤ 281474976710656 ∧ Al w1_8 (zrow #[(.int .i64 0)] ((((x18N : Nat) : Int)).toNat * 1)) 3 fun g20 w1_9 =>
 S w1_9 ∧ St w1_9 g10 (.slice (some g20) (((x18N : Nat) : Int)).toNat (((x18N : Nat) : Int)).toNat) fun w1_10 =>
 S w1_10 ∧ St w1_10 y (.slice (some g23) (((x21N : Nat) : Int)).toNat (((x21N : Nat) : Int)).toNat) fun w1_11 =>
 J5 g10 y w1_11)))
 ∧ (Al w1_4.drew #[(.slice none 0 0)] 44 fun g10 w1_6 =>
 S w1_6 ∧ (0 ≤ ((x18N : Nat) : Int) ∧ ((x18N : Nat) : Int) ≤ ((x18N : Nat) : Int) ∧ ((8 : Nat) : Int) * ((x18N : Nat) : Int) ≤ 281474976710656 ∧ Al w1_6 (zrow #[(.int .i64 0)] ((((x18N : Nat) : Int)).toNat * 1)) 3 fun g20 w1_7 =>
 S w1_7 ∧ (0 ≤ ((x21N : Nat) : Int) ∧ ((x21N : Nat) : Int) ≤ ((x21N : Nat) : Int) ∧ ((8 : Nat) : Int) * ((x21N : Nat) : Int) ≤ 281474976710656 ∧ Al w1_7 (zrow #[(.int .i64 0)] ((((x21N : Nat) : Int)).toNat * 1)) 3 fun g23 w1_8 =>
 S w1_8 ∧ Al w1_8 #[(.slice none 0 0)] 44 fun y w1_9 =>
 S w1_9 ∧ St w1_9 g10 (.slice (some g20) (((x18N : Nat) : Int)).toNat (((x18N : Nat) : Int)).toNat) fun w1_10 =>
 S w1_10 ∧ St w1_10 y (.slice (some g23) (((x21N : Nat) : Int)).toNat (((x21N : Nat) : Int)).toNat) fun w1_11 =>
 J5 g10 y w1_11)
 ∧ (Al w1_7 #[(.slice none 0 0)] 44 fun y w1_8 =>
 S w1_8 ∧ (0 ≤ ((x21N : Nat) : Int) ∧ ((x21N : Nat) : Int) ≤ ((x21N : Nat) : Int) ∧ ((8 : Nat) : Int) * ((x21N : Nat) : Int) ≤ 281474976710656 ∧ Al w1_8 (zrow #[(.int .i64 0)] ((((x21N : Nat) : Int)).toNat * 1)) 3 fun g23 w1_9 =>
 S w1_9 ∧ St w1_9 g10 (.slice (some g20) (((x18N : Nat) : Int)).toNat (((x18N : Nat) : Int)).toNat) fun w1_10 =>
 S w1_10 ∧ St w1_10 y (.slice (some g23) (((x21N : Nat) : Int)).toNat (((x21N : Nat) : Int)).toNat) fun w1_11 =>
 J5 g10 y w1_11)
 ∧ (St w1_8 g10 (.slice (some g20) (((x18N : Nat) : Int)).toNat (((x18N : Nat) : Int)).toNat) fun w1_9 =>
 S w1_9 ∧ 0 ≤ ((x21N : Nat) : Int) ∧ ((x21N : Nat) : Int) ≤ ((x21N : Nat) : Int) ∧ ((8 : Nat) : Int) * ((x21N : Nat) : Int) ≤ 281474976710656 ∧ Al w1_9 (zrow #[(.int .i64 0)] ((((x21N : Nat) : Int)).toNat * 1)) 3 fun g23 w1_10 =>
 S w1_10 ∧ St w1_10 y (.slice (some g23) (((x21N : Nat) : Int)).toNat (((x21N : Nat) : Int)).toNat) fun w1_11 =>
 J5 g10 y w1_11)))
 ∧ (0 ≤ ((x21N : Nat) : Int) ∧ ((x21N : Nat) : Int) ≤ ((x21N : Nat) : Int) ∧ ((8 : Nat) : Int) * ((x21N : Nat) : Int) ≤ 281474976710656 ∧ Al w1_6 (zrow #[(.int .i64 0)] ((((x21N : Nat) : Int)).toNat * 1)) 3 fun g23 w1_7 =>
 S w1_7 ∧ (0 ≤ ((x18N : Nat) : Int) ∧ ((x18N : Nat) : Int) ≤ ((x18N : Nat) : Int) ∧ ((8 : Nat) : Int) * ((x18N : Nat) : Int) ≤ 281474976710656 ∧ Al w1_7 (zrow #[(.int .i64 0)] ((((x18N : Nat) : Int)).toNat * 1)) 3 fun g20 w1_8 =>
 S w1_8 ∧ Al w1_8 #[(.slice none 0 0)] 44 fun y w1_9 =>
 S w1_9 ∧ St w1_9 g10 (.slice (some g20) (((x18N : Nat) : Int)).toNat (((x18N : Nat) : Int)).toNat) fun w1_10 =>
 S w1_10 ∧ St w1_10 y (.slice (some g23) (((x21N : Nat) : Int)).toNat (((x21N : Nat) : Int)).toNat) fun w1_11 =>
 J5 g10 y w1_11)
 ∧ (Al w1_7 #[(.slice none 0 0)] 44 fun y w1_8 =>
 S w1_8 ∧ 0 ≤ ((x18N : Nat) : Int) ∧ ((x18N : Nat) : Int) ≤ ((x18N : Nat) : Int) ∧ ((8 : Nat) : Int) * ((x18N : Nat) : Int) ≤ 281474976710656 ∧ Al w1_8 (zrow #[(.int .i64 0)] ((((x18N : Nat) : Int)).toNat * 1)) 3 fun g20 w1_9 =>
 S w1_9 ∧ St w1_9 g10 (.slice (some g20) (((x18N : Nat) : Int)).toNat (((x18N : Nat) : Int)).toNat) fun w1_10 =>
 S w1_10 ∧ St w1_10 y (.slice (some g23) (((x21N : Nat) : Int)).toNat (((x21N : Nat) : Int)).toNat) fun w1_11 =>
 J5 g10 y w1_11))
 ∧ (Al w1_6 #[(.slice none 0 0)] 44 fun y w1_7 =>
 S w1_7 ∧ (0 ≤ ((x18N : Nat) : Int) ∧ ((x18N : Nat) : Int) ≤ ((x18N : Nat) : Int) ∧ ((8 : Nat) : Int) * ((x18N : Nat) : Int) ≤ 281474976710656 ∧ Al w1_7 (zrow #[(.int .i64 0)] ((((x18N : Nat) : Int)).toNat * 1)) 3 fun g20 w1_8 =>
 S w1_8 ∧ (0 ≤ ((x21N : Nat) : Int) ∧ ((x21N : Nat) : Int) ≤ ((x21N : Nat) : Int) ∧ ((8 : Nat) : Int) * ((x21N : Nat) : Int) ≤ 281474976710656 ∧ Al w1_8 (zrow #[(.int .i64 0)] ((((x21N : Nat) : Int)).toNat * 1)) 3 fun g23 w1_9 =>
 S w1_9 ∧ St w1_9 g10 (.slice (some g20) (((x18N : Nat) : Int)).toNat (((x18N : Nat) : Int)).toNat) fun w1_10 =>
 S w1_10 ∧ St w1_10 y (.slice (some g23) (((x21N : Nat) : Int)).toNat (((x21N : Nat) : Int)).toNat) fun w1_11 =>
 J5 g10 y w1_11)
 ∧ (St w1_8 g10 (.slice (some g20) (((x18N : Nat) : Int)).toNat (((x18N : Nat) : Int)).toNat) fun w1_9 =>
 S w1_9 ∧ 0 ≤ ((x21N : Nat) : Int) ∧ ((x21N : Nat) : Int) ≤ ((x21N : Nat) : Int) ∧ ((8 : Nat) : Int) * ((x21N : Nat) : Int) ≤ 281474976710656 ∧ Al w1_9 (zrow #[(.int .i64 0)] ((((x21N : Nat) : Int)).toNat * 1)) 3 fun g23 w1_10 =>
 S w1_10 ∧ St w1_10 y (.slice (some g23) (((x21N : Nat) : Int)).toNat (((x21N : Nat) : Int)).toNat) fun w1_11 =>
 J5 g10 y w1_11))
 ∧ (0 ≤ ((x21N : Nat) : Int) ∧ ((x21N : Nat) : Int) ≤ ((x21N : Nat) : Int) ∧ ((8 : Nat) : Int) * ((x21N : Nat) : Int) ≤ 281474976710656 ∧ Al w1_7 (zrow #[(.int .i64 0)] ((((x21N : Nat) : Int)).toNat * 1)) 3 fun g23 w1_8 =>
 S w1_8 ∧ 0 ≤ ((x18N : Nat) : Int) ∧ ((x18N : Nat) : Int) ≤ ((x18N : Nat) : Int) ∧ ((8 : Nat) : Int) * ((x18N : Nat) : Int) ≤ 281474976710656 ∧ Al w1_8 (zrow #[(.int .i64 0)] ((((x18N : Nat) : Int)).toNat * 1)) 3 fun g20 w1_9 =>
 S w1_9 ∧ St w1_9 g10 (.slice (some g20) (((x18N : Nat) : Int)).toNat (((x18N : Nat) : Int)).toNat) fun w1_10 =>
 S w1_10 ∧ St w1_10 y (.slice (some g23) (((x21N : Nat) : Int)).toNat (((x21N : Nat) : Int)).toNat) fun w1_11 =>
 J5 g10 y w1_11)))
 ∧ (Al w1_4.drew #[(.slice none 0 0)] 44 fun y w1_6 =>
 S w1_6 ∧ (0 ≤ ((x18N : Nat) : Int) ∧ ((x18N : Nat) : Int) ≤ ((x18N : Nat) : Int) ∧ ((8 : Nat) : Int) * ((x18N : Nat) : Int) ≤ 281474976710656 ∧ Al w1_6 (zrow #[(.int .i64 0)] ((((x18N : Nat) : Int)).toNat * 1)) 3 fun g20 w1_7 =>
 S w1_7 ∧ (0 ≤ ((x21N : Nat) : Int) ∧ ((x21N : Nat) : Int) ≤ ((x21N : Nat) : Int) ∧ ((8 : Nat) : Int) * ((x21N : Nat) : Int) ≤ 281474976710656 ∧ Al w1_7 (zrow #[(.int .i64 0)] ((((x21N : Nat) : Int)).toNat * 1)) 3 fun g23 w1_8 =>
 S w1_8 ∧ Al w1_8 #[(.slice none 0 0)] 44 fun g10 w1_9 =>
 S w1_9 ∧ St w1_9 g10 (.slice (some g20) (((x18N : Nat) : Int)).toNat (((x18N : Nat) : Int)).toNat) fun w1_10 =>
 S w1_10 ∧ St w1_10 y (.slice (some g23) (((x21N : Nat) : Int)).toNat (((x21N : Nat) : Int)).toNat) fun w1_11 =>
 J5 g10 y w1_11)
 ∧ (Al w1_7 #[(.slice none 0 0)] 44 fun g10 w1_8 =>
 S w1_8 ∧ (0 ≤ ((x21N : Nat) : Int) ∧ ((x21N : Nat) : Int) ≤ ((x21N : Nat) : Int) ∧ ((8 : Nat) : Int) * ((x21N : Nat) : Int) ≤ 281474976710656 ∧ Al w1_8 (zrow #[(.int .i64 0)] ((((x21N : Nat) : Int)).toNat * 1)) 3 fun g23 w1_9 =>
 S w1_9 ∧ St w1_9 g10 (.slice (some g20) (((x18N : Nat) : Int)).toNat (((x18N : Nat) : Int)).toNat) fun w1_10 =>
 S w1_10 ∧ St w1_10 y (.slice (some g23) (((x21N : Nat) : Int)).toNat (((x21N : Nat) : Int)).toNat) fun w1_11 =>
 J5 g10 y w1_11)
 ∧ (St w1_8 g10 (.slice (some g20) (((x18N : Nat) : Int)).toNat (((x18N : Nat) : Int)).toNat) fun w1_9 =>
 S w1_9 ∧ 0 ≤ ((x21N : Nat) : Int) ∧ ((x21N : Nat) : Int) ≤ ((x21N : Nat) : Int) ∧ ((8 : Nat) : Int) * ((x21N : Nat) : Int) ≤ 281474976710656 ∧ Al w1_9 (zrow #[(.int .i64 0)] ((((x21N : Nat) : Int)).toNat * 1)) 3 fun g23 w1_10 =>
 S w1_10 ∧ St w1_10 y (.slice (some g23) (((x21N : Nat) : Int)).toNat (((x21N : Nat) : Int)).toNat) fun w1_11 =>
 J5 g10 y w1_11)))
 ∧ (0 ≤ ((x21N : Nat) : Int) ∧ ((x21N : Nat) : Int) ≤ ((x21N : Nat) : Int) ∧ ((8 : Nat) : Int) * ((x21N : Nat) : Int) ≤ 281474976710656 ∧ Al w1_6 (zrow #[(.int .i64 0)] ((((x21N : Nat) : Int)).toNat * 1)) 3 fun g23 w1_7 =>
 S w1_7 ∧ (0 ≤ ((x18N : Nat) : Int) ∧ ((x18N : Nat) : Int) ≤ ((x18N : Nat) : Int) ∧ ((8 : Nat) : Int) * ((x18N : Nat) : Int) ≤ 281474976710656 ∧ Al w1_7 (zrow #[(.int .i64 0)] ((((x18N : Nat) : Int)).toNat * 1)) 3 fun g20 w1_8 =>
 S w1_8 ∧ Al w1_8 #[(.slice none 0 0)] 44 fun g10 w1_9 =>
 S w1_9 ∧ St w1_9 g10 (.slice (some g20) (((x18N : Nat) : Int)).toNat (((x18N : Nat) : Int)).toNat) fun w1_10 =>
 S w1_10 ∧ St w1_10 y (.slice (some g23) (((x21N : Nat) : Int)).toNat (((x21N : Nat) : Int)).toNat) fun w1_11 =>
 J5 g10 y w1_11)
 ∧ (Al w1_7 #[(.slice none 0 0)] 44 fun g10 w1_8 =>
 S w1_8 ∧ 0 ≤ ((x18N : Nat) : Int) ∧ ((x18N : Nat) : Int) ≤ ((x18N : Nat) : Int) ∧ ((8 : Nat) : Int) * ((x18N : Nat) : Int) ≤ 281474976710656 ∧ Al w1_8 (zrow #[(.int .i64 0)] ((((x18N : Nat) : Int)).toNat * 1)) 3 fun g20 w1_9 =>
 S w1_9 ∧ St w1_9 g10 (.slice (some g20) (((x18N : Nat) : Int)).toNat (((x18N : Nat) : Int)).toNat) fun w1_10 =>
 S w1_10 ∧ St w1_10 y (.slice (some g23) (((x21N : Nat) : Int)).toNat (((x21N : Nat) : Int)).toNat) fun w1_11 =>
 J5 g10 y w1_11))
 ∧ (Al w1_6 #[(.slice none 0 0)] 44 fun g10 w1_7 =>
 S w1_7 ∧ (0 ≤ ((x18N : Nat) : Int) ∧ ((x18N : Nat) : Int) ≤ ((x18N : Nat) : Int) ∧ ((8 : Nat) : Int) * ((x18N : Nat) : Int) ≤ 281474976710656 ∧ Al w1_7 (zrow #[(.int .i64 0)] ((((x18N : Nat) : Int)).toNat * 1)) 3 fun g20 w1_8 =>
 S w1_8 ∧ (0 ≤ ((x21N : Nat) : Int) ∧ ((x21N : Nat) : Int) ≤ ((x21N : Nat) : Int) ∧ ((8 : Nat) : Int) * ((x21N : Nat) : Int) ≤ 281474976710656 ∧ Al w1_8 (zrow #[(.int .i64 0)] ((((x21N : Nat) : Int)).toNat * 1)) 3 fun g23 w1_9 =>
 S w1_9 ∧ St w1_9 g10 (.slice (some g20) (((x18N : Nat) : Int)).toNat (((x18N : Nat) : Int)).toNat) fun w1_10 =>
 S w1_10 ∧ St w1_10 y (.slice (some g23) (((x21N : Nat) : Int)).toNat (((x21N : Nat) : Int)).toNat) fun w1_11 =>
 J5 g10 y w1_11)
 ∧ (St w1_8 g10 (.slice (some g20) (((x18N : Nat) : Int)).toNat (((x18N : Nat) : Int)).toNat) fun w1_9 =>
 S w1_9 ∧ 0 ≤ ((x21N : Nat) : Int) ∧ ((x21N : Nat) : Int) ≤ ((x21N : Nat) : Int) ∧ ((8 : Nat) : Int) * ((x21N : Nat) : Int) ≤ 281474976710656 ∧ Al w1_9 (zrow #[(.int .i64 0)] ((((x21N : Nat) : Int)).toNat * 1)) 3 fun g23 w1_10 =>
 S w1_10 ∧ St w1_10 y (.slice (some g23) (((x21N : Nat) : Int)).toNat (((x21N : Nat) : Int)).toNat) fun w1_11 =>
 J5 g10 y w1_11))
 ∧ (0 ≤ ((x21N : Nat) : Int) ∧ ((x21N : Nat) : Int) ≤ ((x21N : Nat) : Int) ∧ ((8 : Nat) : Int) * ((x21N : Nat) : Int) ≤ 281474976710656 ∧ Al w1_7 (zrow #[(.int .i64 0)] ((((x21N : Nat) : Int)).toNat * 1)) 3 fun g23 w1_8 =>
 S w1_8 ∧ 0 ≤ ((x18N : Nat) : Int) ∧ ((x18N : Nat) : Int) ≤ ((x18N : Nat) : Int) ∧ ((8 : Nat) : Int) * ((x18N : Nat) : Int) ≤ 281474976710656 ∧ Al w1_8 (zrow #[(.int .i64 0)] ((((x18N : Nat) : Int)).toNat * 1)) 3 fun g20 w1_9 =>
 S w1_9 ∧ St w1_9 g10 (.slice (some g20) (((x18N : Nat) : Int)).toNat (((x18N : Nat) : Int)).toNat) fun w1_10 =>
 S w1_10 ∧ St w1_10 y (.slice (some g23) (((x21N : Nat) : Int)).toNat (((x21N : Nat) : Int)).toNat) fun w1_11 =>
 J5 g10 y w1_11))))))

def pl63 : Plan := ⟨30, ⟨[]⟩, [(5, ⟨[(10, (.s .addr)), (11, (.s .addr))], [(10, 24)]⟩)], []⟩

theorem eq63 (a : Option Addr) (aN : Nat) (aC : Nat) (d : Option Addr) (dN : Nat) (dC : Nat) (direct : Bool) (w : World) (R : Ending → World → Prop) : F63 a aN aC d dN dC direct w R = vc Try.prog Try.f63 pl63 R 100000 [.code (bodyOf Try.f63)] (argEnv 0 #[(.slice a aN aC), (.slice d dN dC), (.bool direct)].toList) w := by kernel_rfl

theorem ok63 (a : Option Addr) (aN : Nat) (aC : Nat) (d : Option Addr) (dN : Nat) (dC : Nat) (direct : Bool) {w : World} {R : Ending → World → Prop} (h : F63 a aN aC d dN dC direct w R) : Calls Try.prog 63 #[(.slice a aN aC), (.slice d dN dC), (.bool direct)] w R :=
  vc_calls (pl := pl63) Try.func63 (by kernel_rfl) (by kernel_rfl) (by kernel_rfl) (Eq.mp (eq63 a aN aC d dN dC direct w R) h)

-- join.counts$1
def F82_l4 (cap4 : Addr) (x20 : Option Addr) (x20N : Nat) (L4 : Int → World → Prop) (x28 : Int) (w_2 : World) (R : Ending → World → Prop) : Prop :=
 Br (decide (x28 < ((x20N : Nat) : Int)))
 (IdxA x20 x20N x28 1 fun q30 =>
 LdI .i64 (w_2.cell? q30) fun x31 =>
 LdSl (w_2.cell? cap4) fun x32 x32N x32C =>
 IdxA x32 x32N x31 1 fun q34 =>
 LdI .i64 (w_2.cell? q34) fun x35 =>
 InR .i64 (x35 + (1 : Int)) ∧ IdxA x32 x32N x31 1 fun q37 =>
 St w_2 q37 (.int .i64 (x35 + (1 : Int))) fun w1_4 =>
 InR .i64 (x28 + (1 : Int)) ∧ L4 (x28 + (1 : Int)) w1_4)
 (R (.returned (.bool true)) w_2)

def F82 (i : Int) (open_ : Option Addr) (openN : Nat) (openC : Nat) (cap0 : Addr) (cap1 : Addr) (cap2 : Addr) (cap3 : Addr) (cap4 : Addr) (w_ : World) (R : Ending → World → Prop) : Prop :=
 ∃ S : World → Prop, S w_.drew ∧ ∃ (x13 : Option Addr) (x13N : Nat) (x13C : Nat), Held S cap0 (.slice x13 x13N x13C) ∧ ∃ (x15 : Option Addr) (x15N : Nat) (x15C : Nat), Held S cap1 (.slice x15 x15N x15C) ∧ IdxA x15 x15N i 4 fun q17 =>
 ∃ (x18_0 : Int), Held S q17 (.int .u64 x18_0) ∧ ∃ (x18_1 : Int), Held S (q17.add 1) (.int .u64 x18_1) ∧ ∃ (x18_2 : Int), Held S (q17.add 2) (.int .u64 x18_2) ∧ ∃ (x18_3 : Int), Held S (q17.add 3) (.int .i64 x18_3) ∧ ∃ (x19 : Bool), Held S cap2 (.bool x19) ∧ Calls Try.prog 62 #[(.slice x13 x13N x13C), (.slice open_ openN openC), (.agg #[(.int .u64 x18_0), (.int .u64 x18_1), (.int .u64 x18_2), (.int .i64 x18_3)]), (.bool x19)] w_.drew (post R fun v w1_2 =>
 ∃ (x20 : Option Addr) (x20N : Nat) (x20C : Nat), v = (.slice x20 x20N x20C) ∧
 LdSl (w1_2.cell? cap3) fun x21 x21N x21C =>
 IdxA x21 x21N i 1 fun q25 =>
 St w1_2 q25 (.int .i64 ((x20N : Nat) : Int)) fun w1_3 =>
 ∃ (I : Int → World → Prop) (m : Int → World → Nat), I (0 : Int) w1_3 ∧
 ∀ (x28 : Int) (w1_4 : World), I x28 w1_4 → F82_l4 cap4 x20 x20N (fun x28' w2 => I x28' w2 ∧ m x28' w2 < m x28 w1_4) x28 w1_4 R)

def pl82 : Plan := ⟨39, ⟨[]⟩, [], [(4, ⟨[(28, (.s (.int .i64)))], [(12, 13), (28, 39)]⟩)]⟩

theorem eq82 (i : Int) (open_ : Option Addr) (openN : Nat) (openC : Nat) (cap0 : Addr) (cap1 : Addr) (cap2 : Addr) (cap3 : Addr) (cap4 : Addr) (w : World) (R : Ending → World → Prop) : F82 i open_ openN openC cap0 cap1 cap2 cap3 cap4 w R = vc Try.prog Try.f82 pl82 R 100000 [.code (bodyOf Try.f82)] (argEnv 0 #[(.int .i64 i), (.slice open_ openN openC), (.pointer (some cap0)), (.pointer (some cap1)), (.pointer (some cap2)), (.pointer (some cap3)), (.pointer (some cap4))].toList) w := by kernel_rfl

theorem ok82 (i : Int) (open_ : Option Addr) (openN : Nat) (openC : Nat) (cap0 : Addr) (cap1 : Addr) (cap2 : Addr) (cap3 : Addr) (cap4 : Addr) {w : World} {R : Ending → World → Prop} (h : F82 i open_ openN openC cap0 cap1 cap2 cap3 cap4 w R) : Calls Try.prog 82 #[(.int .i64 i), (.slice open_ openN openC), (.pointer (some cap0)), (.pointer (some cap1)), (.pointer (some cap2)), (.pointer (some cap3)), (.pointer (some cap4))] w R :=
  vc_calls (pl := pl82) Try.func82 (by kernel_rfl) (by kernel_rfl) (by kernel_rfl) (Eq.mp (eq82 i open_ openN openC cap0 cap1 cap2 cap3 cap4 w R) h)

-- join.kept
def F64_j7 (L3 : Option Addr → Nat → Nat → Int → World → Prop) (x12 : Int) (out2 : Option Addr) (outN2 : Nat) (outC2 : Nat) (w_3 : World) (R : Ending → World → Prop) : Prop :=
 InR .i64 (x12 + (1 : Int)) ∧ L3 out2 outN2 outC2 (x12 + (1 : Int)) w_3

def F64_l3 (l : Option Addr) (lN : Nat) (n : Option Addr) (nN : Nat) (is : Bool) (L3 : Option Addr → Nat → Nat → Int → World → Prop) (out : Option Addr) (outN : Nat) (outC : Nat) (x12 : Int) (w_2 : World) (R : Ending → World → Prop) : Prop :=
 Br (decide (x12 < ((lN : Nat) : Int)))
 (∃ J7 : Option Addr → Nat → Nat → World → Prop, (∀ (out2 : Option Addr) (outN2 : Nat) (outC2 : Nat) (w1 : World), J7 out2 outN2 outC2 w1 → F64_j7 L3 x12 out2 outN2 outC2 w1 R) ∧
 (IdxA l lN x12 4 fun q15 =>
 LdI .u64 (w_2.cell? q15) fun x16_0 =>
 LdI .u64 (w_2.cell? (q15.add 1)) fun x16_1 =>
 LdI .u64 (w_2.cell? (q15.add 2)) fun x16_2 =>
 LdI .i64 (w_2.cell? (q15.add 3)) fun x16_3 =>
 Al w_2 #[(.int .u64 0), (.int .u64 0), (.int .u64 0), (.int .i64 0)] 51 fun p w1 =>
 St w1 p (.int .u64 x16_0) fun w1_2 =>
 St w1_2 (p.add 1) (.int .u64 x16_1) fun w1_3 =>
 St w1_3 (p.add 2) (.int .u64 x16_2) fun w1_4 =>
 St w1_4 (p.add 3) (.int .i64 x16_3) fun w1_5 =>
 IdxA n nN x12 1 fun q19 =>
 LdI .i64 (w1_5.cell? q19) fun x20 =>
 Br ((decide (x20 > (0 : Int))) == is)
 (LdI .u64 (w1_5.cell? p) fun x25_0 =>
 LdI .u64 (w1_5.cell? (p.add 1)) fun x25_1 =>
 LdI .u64 (w1_5.cell? (p.add 2)) fun x25_2 =>
 LdI .i64 (w1_5.cell? (p.add 3)) fun x25_3 =>
 Al w1_5 #[(.int .u64 x25_0), (.int .u64 x25_1), (.int .u64 x25_2), (.int .i64 x25_3)] 51 fun g26 w1_6 =>
 Raw Try.prog (Builtin.append_ #[37, 37] 37 #[(.slice out outN outC), (.slice (some g26) 1 1)]) w1_6 fun v w1_7 =>
 ∃ (x27 : Option Addr) (x27N : Nat) (x27C : Nat), v = (.slice x27 x27N x27C) ∧
 J7 x27 x27N x27C w1_7)
 (J7 out outN outC w1_5)))
 (R (.returned (.slice out outN outC)) w_2)

def F64 (l : Option Addr) (lN : Nat) (lC : Nat) (n : Option Addr) (nN : Nat) (nC : Nat) (is : Bool) (w_ : World) (R : Ending → World → Prop) : Prop :=
 ∃ (I : Option Addr → Nat → Nat → Int → World → Prop) (m : Option Addr → Nat → Nat → Int → World → Nat), I none 0 0 (0 : Int) w_ ∧
 ∀ (out : Option Addr) (outN : Nat) (outC : Nat) (x12 : Int) (w1 : World), I out outN outC x12 w1 → F64_l3 l lN n nN is (fun out' outN' outC' x12' w2 => I out' outN' outC' x12' w2 ∧ m out' outN' outC' x12' w2 < m out outN outC x12 w1) out outN outC x12 w1 R

def pl64 : Plan := ⟨30, ⟨[]⟩, [(7, ⟨[(7, (.s .slice))], [(7, 10), (14, 28)]⟩)], [(3, ⟨[(7, (.s .slice)), (12, (.s (.int .i64)))], [(7, 10), (12, 29)]⟩)]⟩

theorem eq64 (l : Option Addr) (lN : Nat) (lC : Nat) (n : Option Addr) (nN : Nat) (nC : Nat) (is : Bool) (w : World) (R : Ending → World → Prop) : F64 l lN lC n nN nC is w R = vc Try.prog Try.f64 pl64 R 100000 [.code (bodyOf Try.f64)] (argEnv 0 #[(.slice l lN lC), (.slice n nN nC), (.bool is)].toList) w := by kernel_rfl

theorem ok64 (l : Option Addr) (lN : Nat) (lC : Nat) (n : Option Addr) (nN : Nat) (nC : Nat) (is : Bool) {w : World} {R : Ending → World → Prop} (h : F64 l lN lC n nN nC is w R) : Calls Try.prog 64 #[(.slice l lN lC), (.slice n nN nC), (.bool is)] w R :=
  vc_calls (pl := pl64) Try.func64 (by kernel_rfl) (by kernel_rfl) (by kernel_rfl) (Eq.mp (eq64 l lN lC n nN nC is w R) h)

-- join.Outer
def F40 (a : Option Addr) (aN : Nat) (aC : Nat) (d : Option Addr) (dN : Nat) (dC : Nat) (direct : Bool) (w_ : World) (R : Ending → World → Prop) : Prop :=
 Calls Try.prog 63 #[(.slice a aN aC), (.slice d dN dC), (.bool direct)] w_ (post R fun v w1 =>
 ∃ (x15_0 : Option Addr) (x15_0N : Nat) (x15_0C : Nat) (x15_1 : Option Addr) (x15_1N : Nat) (x15_1C : Nat) (x15_2 : Int), v = (.tuple #[(.slice x15_0 x15_0N x15_0C), (.slice x15_1 x15_1N x15_1C), (.int .i64 x15_2)]) ∧
 Br (x15_2 != (0 : Int))
 (R (.returned (.tuple #[(.slice none 0 0), (.int .i64 x15_2)])) w1)
 (Calls Try.prog 64 #[(.slice a aN aC), (.slice x15_0 x15_0N x15_0C), (.bool true)] w1 (post R fun v2 w1_2 =>
 ∃ (x24 : Option Addr) (x24N : Nat) (x24C : Nat), v2 = (.slice x24 x24N x24C) ∧
 R (.returned (.tuple #[(.slice x24 x24N x24C), (.int .i64 0)])) w1_2)))

def pl40 : Plan := ⟨25, ⟨[]⟩, [], []⟩

theorem eq40 (a : Option Addr) (aN : Nat) (aC : Nat) (d : Option Addr) (dN : Nat) (dC : Nat) (direct : Bool) (w : World) (R : Ending → World → Prop) : F40 a aN aC d dN dC direct w R = vc Try.prog Try.f40 pl40 R 100000 [.code (bodyOf Try.f40)] (argEnv 0 #[(.slice a aN aC), (.slice d dN dC), (.bool direct)].toList) w := by kernel_rfl

theorem ok40 (a : Option Addr) (aN : Nat) (aC : Nat) (d : Option Addr) (dN : Nat) (dC : Nat) (direct : Bool) {w : World} {R : Ending → World → Prop} (h : F40 a aN aC d dN dC direct w R) : Calls Try.prog 40 #[(.slice a aN aC), (.slice d dN dC), (.bool direct)] w R :=
  vc_calls (pl := pl40) Try.func40 (by kernel_rfl) (by kernel_rfl) (by kernel_rfl) (Eq.mp (eq40 a aN aC d dN dC direct w R) h)

-- join.Inner
def F33 (a : Option Addr) (aN : Nat) (aC : Nat) (d : Option Addr) (dN : Nat) (dC : Nat) (direct : Bool) (w_ : World) (R : Ending → World → Prop) : Prop :=
 Calls Try.prog 63 #[(.slice a aN aC), (.slice d dN dC), (.bool direct)] w_ (post R fun v w1 =>
 ∃ (x15_0 : Option Addr) (x15_0N : Nat) (x15_0C : Nat) (x15_1 : Option Addr) (x15_1N : Nat) (x15_1C : Nat) (x15_2 : Int), v = (.tuple #[(.slice x15_0 x15_0N x15_0C), (.slice x15_1 x15_1N x15_1C), (.int .i64 x15_2)]) ∧
 Br (x15_2 != (0 : Int))
 (R (.returned (.tuple #[(.slice none 0 0), (.int .i64 x15_2)])) w1)
 (Calls Try.prog 64 #[(.slice d dN dC), (.slice x15_1 x15_1N x15_1C), (.bool true)] w1 (post R fun v2 w1_2 =>
 ∃ (x24 : Option Addr) (x24N : Nat) (x24C : Nat), v2 = (.slice x24 x24N x24C) ∧
 R (.returned (.tuple #[(.slice x24 x24N x24C), (.int .i64 0)])) w1_2)))

def pl33 : Plan := ⟨25, ⟨[]⟩, [], []⟩

theorem eq33 (a : Option Addr) (aN : Nat) (aC : Nat) (d : Option Addr) (dN : Nat) (dC : Nat) (direct : Bool) (w : World) (R : Ending → World → Prop) : F33 a aN aC d dN dC direct w R = vc Try.prog Try.f33 pl33 R 100000 [.code (bodyOf Try.f33)] (argEnv 0 #[(.slice a aN aC), (.slice d dN dC), (.bool direct)].toList) w := by kernel_rfl

theorem ok33 (a : Option Addr) (aN : Nat) (aC : Nat) (d : Option Addr) (dN : Nat) (dC : Nat) (direct : Bool) {w : World} {R : Ending → World → Prop} (h : F33 a aN aC d dN dC direct w R) : Calls Try.prog 33 #[(.slice a aN aC), (.slice d dN dC), (.bool direct)] w R :=
  vc_calls (pl := pl33) Try.func33 (by kernel_rfl) (by kernel_rfl) (by kernel_rfl) (Eq.mp (eq33 a aN aC d dN dC direct w R) h)

-- join.Without
def F34 (a : Option Addr) (aN : Nat) (aC : Nat) (d : Option Addr) (dN : Nat) (dC : Nat) (direct : Bool) (w_ : World) (R : Ending → World → Prop) : Prop :=
 Calls Try.prog 63 #[(.slice a aN aC), (.slice d dN dC), (.bool direct)] w_ (post R fun v w1 =>
 ∃ (x15_0 : Option Addr) (x15_0N : Nat) (x15_0C : Nat) (x15_1 : Option Addr) (x15_1N : Nat) (x15_1C : Nat) (x15_2 : Int), v = (.tuple #[(.slice x15_0 x15_0N x15_0C), (.slice x15_1 x15_1N x15_1C), (.int .i64 x15_2)]) ∧
 Br (x15_2 != (0 : Int))
 (R (.returned (.tuple #[(.slice none 0 0), (.int .i64 x15_2)])) w1)
 (Calls Try.prog 64 #[(.slice d dN dC), (.slice x15_1 x15_1N x15_1C), (.bool false)] w1 (post R fun v2 w1_2 =>
 ∃ (x24 : Option Addr) (x24N : Nat) (x24C : Nat), v2 = (.slice x24 x24N x24C) ∧
 R (.returned (.tuple #[(.slice x24 x24N x24C), (.int .i64 0)])) w1_2)))

def pl34 : Plan := ⟨25, ⟨[]⟩, [], []⟩

theorem eq34 (a : Option Addr) (aN : Nat) (aC : Nat) (d : Option Addr) (dN : Nat) (dC : Nat) (direct : Bool) (w : World) (R : Ending → World → Prop) : F34 a aN aC d dN dC direct w R = vc Try.prog Try.f34 pl34 R 100000 [.code (bodyOf Try.f34)] (argEnv 0 #[(.slice a aN aC), (.slice d dN dC), (.bool direct)].toList) w := by kernel_rfl

theorem ok34 (a : Option Addr) (aN : Nat) (aC : Nat) (d : Option Addr) (dN : Nat) (dC : Nat) (direct : Bool) {w : World} {R : Ending → World → Prop} (h : F34 a aN aC d dN dC direct w R) : Calls Try.prog 34 #[(.slice a aN aC), (.slice d dN dC), (.bool direct)] w R :=
  vc_calls (pl := pl34) Try.func34 (by kernel_rfl) (by kernel_rfl) (by kernel_rfl) (Eq.mp (eq34 a aN aC d dN dC direct w R) h)

-- join.Count
def F35 (a : Option Addr) (aN : Nat) (aC : Nat) (d : Option Addr) (dN : Nat) (dC : Nat) (direct : Bool) (w_ : World) (R : Ending → World → Prop) : Prop :=
 Calls Try.prog 63 #[(.slice a aN aC), (.slice d dN dC), (.bool direct)] w_ (post R fun v w1 =>
 ∃ (x15_0 : Option Addr) (x15_0N : Nat) (x15_0C : Nat) (x15_1 : Option Addr) (x15_1N : Nat) (x15_1C : Nat) (x15_2 : Int), v = (.tuple #[(.slice x15_0 x15_0N x15_0C), (.slice x15_1 x15_1N x15_1C), (.int .i64 x15_2)]) ∧
 R (.returned (.tuple #[(.slice x15_0 x15_0N x15_0C), (.int .i64 x15_2)])) w1)

def pl35 : Plan := ⟨21, ⟨[]⟩, [], []⟩

theorem eq35 (a : Option Addr) (aN : Nat) (aC : Nat) (d : Option Addr) (dN : Nat) (dC : Nat) (direct : Bool) (w : World) (R : Ending → World → Prop) : F35 a aN aC d dN dC direct w R = vc Try.prog Try.f35 pl35 R 100000 [.code (bodyOf Try.f35)] (argEnv 0 #[(.slice a aN aC), (.slice d dN dC), (.bool direct)].toList) w := by kernel_rfl

theorem ok35 (a : Option Addr) (aN : Nat) (aC : Nat) (d : Option Addr) (dN : Nat) (dC : Nat) (direct : Bool) {w : World} {R : Ending → World → Prop} (h : F35 a aN aC d dN dC direct w R) : Calls Try.prog 35 #[(.slice a aN aC), (.slice d dN dC), (.bool direct)] w R :=
  vc_calls (pl := pl35) Try.func35 (by kernel_rfl) (by kernel_rfl) (by kernel_rfl) (Eq.mp (eq35 a aN aC d dN dC direct w R) h)

-- join.Nearest
def F46 (a : Option Addr) (aN : Nat) (aC : Nat) (d : Option Addr) (dN : Nat) (dC : Nat) (w_ : World) (R : Ending → World → Prop) : Prop :=
 Al w_ #[(.slice a aN aC)] 37 fun a2 w1 =>
 Al w1 #[(.slice d dN dC)] 37 fun d2 w1_2 =>
 LdSl (w1_2.cell? a2) fun x8 x8N x8C =>
 LdSl (w1_2.cell? d2) fun x9 x9N x9C =>
 Calls Try.prog 59 #[(.slice x8 x8N x8C), (.slice x9 x9N x9C)] w1_2 (post R fun v w1_3 =>
 ∃ (x10 : Int), v = (.int .i64 x10) ∧
 Br (x10 != (0 : Int))
 (R (.returned (.tuple #[(.slice none 0 0), (.int .i64 x10)])) w1_3)
 (Al w1_3 #[(.slice none 0 0)] 38 fun out w1_4 =>
 LdSl (w1_4.cell? a2) fun x14 x14N x14C =>
 LdSl (w1_4.cell? d2) fun x15 x15N x15C =>
 Calls Try.prog 60 #[(.slice x14 x14N x14C), (.slice x15 x15N x15C), (.func (.func 69) #[] #[(.pointer (some out)), (.pointer (some a2)), (.pointer (some d2))])] w1_4 (post R fun v2 w1_5 =>
 v2 = (.tuple #[]) ∧
 LdSl (w1_5.cell? out) fun x18 x18N x18C =>
 R (.returned (.tuple #[(.slice x18 x18N x18C), (.int .i64 0)])) w1_5)))

def pl46 : Plan := ⟨19, ⟨[]⟩, [], []⟩

theorem eq46 (a : Option Addr) (aN : Nat) (aC : Nat) (d : Option Addr) (dN : Nat) (dC : Nat) (w : World) (R : Ending → World → Prop) : F46 a aN aC d dN dC w R = vc Try.prog Try.f46 pl46 R 100000 [.code (bodyOf Try.f46)] (argEnv 0 #[(.slice a aN aC), (.slice d dN dC)].toList) w := by kernel_rfl

theorem ok46 (a : Option Addr) (aN : Nat) (aC : Nat) (d : Option Addr) (dN : Nat) (dC : Nat) {w : World} {R : Ending → World → Prop} (h : F46 a aN aC d dN dC w R) : Calls Try.prog 46 #[(.slice a aN aC), (.slice d dN dC)] w R :=
  vc_calls (pl := pl46) Try.func46 (by kernel_rfl) (by kernel_rfl) (by kernel_rfl) (Eq.mp (eq46 a aN aC d dN dC w R) h)

-- join.Nearest$1
def F69_j4  (w_2 : World) (R : Ending → World → Prop) : Prop :=
 R (.returned (.bool true)) w_2

def F69 (i : Int) (open_ : Option Addr) (openN : Nat) (openC : Nat) (cap0 : Addr) (cap1 : Addr) (cap2 : Addr) (w_ : World) (R : Ending → World → Prop) : Prop :=
 ∃ J4 : World → Prop, (∀  (w1 : World), J4 w1 → F69_j4 w1 R) ∧
 (Br (decide (((openN : Nat) : Int) > (0 : Int)))
 (∃ S : World → Prop, S w_.drew ∧ ∃ (x13 : Option Addr) (x13N : Nat) (x13C : Nat), Held S cap0 (.slice x13 x13N x13C) ∧ ∃ (x14 : Option Addr) (x14N : Nat) (x14C : Nat), Held S cap1 (.slice x14 x14N x14C) ∧ InR .i64 (((openN : Nat) : Int) - (1 : Int)) ∧ IdxA open_ openN (((openN : Nat) : Int) - (1 : Int)) 1 fun q18 =>
 ∃ (x19 : Int), Held S q18 (.int .i64 x19) ∧ IdxA x14 x14N x19 4 fun q20 =>
 ∃ (x22 : Int), Held S q20 (.int .u64 x22) ∧ ∃ (x23 : Option Addr) (x23N : Nat) (x23C : Nat), Held S cap2 (.slice x23 x23N x23C) ∧ IdxA x23 x23N i 4 fun q25 =>
 ∃ (x27 : Int), Held S q25 (.int .u64 x27) ∧ Al w_.drew #[(.int .u64 x22), (.int .u64 x27)] 53 fun g29 w1_2 =>
 S w1_2 ∧ Raw Try.prog (Builtin.append_ #[38, 38] 38 #[(.slice x13 x13N x13C), (.slice (some g29) 1 1)]) w1_2 fun v w1_3 =>
 ∃ (x30 : Option Addr) (x30N : Nat) (x30C : Nat), v = (.slice x30 x30N x30C) ∧
 St w1_3 cap0 (.slice x30 x30N x30C) fun w1_4 =>
 J4 w1_4)
 (J4 w_))

def pl69 : Plan := ⟨31, ⟨[]⟩, [(4, ⟨[], [(8, 31)]⟩)], []⟩

theorem eq69 (i : Int) (open_ : Option Addr) (openN : Nat) (openC : Nat) (cap0 : Addr) (cap1 : Addr) (cap2 : Addr) (w : World) (R : Ending → World → Prop) : F69 i open_ openN openC cap0 cap1 cap2 w R = vc Try.prog Try.f69 pl69 R 100000 [.code (bodyOf Try.f69)] (argEnv 0 #[(.int .i64 i), (.slice open_ openN openC), (.pointer (some cap0)), (.pointer (some cap1)), (.pointer (some cap2))].toList) w := by kernel_rfl

theorem ok69 (i : Int) (open_ : Option Addr) (openN : Nat) (openC : Nat) (cap0 : Addr) (cap1 : Addr) (cap2 : Addr) {w : World} {R : Ending → World → Prop} (h : F69 i open_ openN openC cap0 cap1 cap2 w R) : Calls Try.prog 69 #[(.int .i64 i), (.slice open_ openN openC), (.pointer (some cap0)), (.pointer (some cap1)), (.pointer (some cap2))] w R :=
  vc_calls (pl := pl69) Try.func69 (by kernel_rfl) (by kernel_rfl) (by kernel_rfl) (Eq.mp (eq69 i open_ openN openC cap0 cap1 cap2 w R) h)

end Go.Proofs.Ytaanlildniiijaa
