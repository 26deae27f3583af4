import Derived.Test.YtaanlildniiijaaVcSnd9
import Derived.Test.YtaanlildniiijaaProg
set_option linter.unusedVariables false
set_option maxRecDepth 100000
namespace Go.Proofs.Ytaanlildniiijaa
open Go.Vc
-- espalierref11.one
def F65_j3 (L2 : Int → World → Prop) (i : Int) (w_3 : World) (R : Ending → World → Prop) : Prop :=
 InR .i64 (i + (1 : Int)) ∧ L2 (i + (1 : Int)) w_3

def F65_l2 (l : Option Addr) (lN : Nat) (L2 : Int → World → Prop) (i : Int) (w_2 : World) (R : Ending → World → Prop) : Prop :=
 Br (decide (i < ((lN : Nat) : Int)))
 (∃ J3 : World → Prop, (∀  (w1 : World), J3 w1 → F65_j3 L2 i w1 R) ∧
 (IdxA l lN i 4 fun q12 =>
 LdI .u64 (w_2.cell? (q12.add 1)) fun x14_0 =>
 LdI .u64 (w_2.cell? ((q12.add 1).add 1)) fun x14_1 =>
 LdI .i64 (w_2.cell? ((q12.add 1).add 2)) fun x14_2 =>
 Calls Try.prog 53 #[(.agg #[(.int .u64 x14_0), (.int .u64 x14_1), (.int .i64 x14_2)])] w_2 (post R fun v w1 =>
 ∃ (x15 : Bool), v = (.bool x15) ∧
 Br (!x15)
 (R (.returned (.int .i64 110)) w1)
 (Dr w1 fun w1_2 =>
 Br (decide (i > (0 : Int)))
 (IdxA l lN i 4 fun q22 =>
 LdI .u64 (w1_2.cell? (q22.add 1)) fun x25 =>
 InR .i64 (i - (1 : Int)) ∧ IdxA l lN (i - (1 : Int)) 4 fun q29 =>
 LdI .u64 (w1_2.cell? (q29.add 1)) fun x32 =>
 Br (decide (x25 ≤ x32))
 (R (.returned (.int .i64 71)) w1_2)
 (J3 w1_2))
 (J3 w1_2)))))
 (R (.returned (.int .i64 0)) w_2)

def F65 (l : Option Addr) (lN : Nat) (lC : Nat) (w_ : World) (R : Ending → World → Prop) : Prop :=
 ∃ (I : Int → World → Prop) (m : Int → World → Nat), I (0 : Int) w_ ∧
 ∀ (i : Int) (w1 : World), I i w1 → F65_l2 l lN (fun i' w2 => I i' w2 ∧ m i' w2 < m i w1) i w1 R

def pl65 : Plan := ⟨35, ⟨[]⟩, [(3, ⟨[], [(2, 3), (10, 35)]⟩)], [(2, ⟨[(3, (.s (.int .i64)))], [(2, 35)]⟩)]⟩

theorem eq65 (l : Option Addr) (lN : Nat) (lC : Nat) (w : World) (R : Ending → World → Prop) : F65 l lN lC w R = vc Try.prog Try.f65 pl65 R 100000 [.code (bodyOf Try.f65)] (argEnv 0 #[(.slice l lN lC)].toList) w := by kernel_rfl

theorem ok65 (l : Option Addr) (lN : Nat) (lC : Nat) {w : World} {R : Ending → World → Prop} (h : F65 l lN lC w R) : Calls Try.prog 65 #[(.slice l lN lC)] w R :=
  vc_calls (pl := pl65) Try.func65 (by kernel_rfl) (by kernel_rfl) (by kernel_rfl) (Eq.mp (eq65 l lN lC w R) h)

-- espalierref11.both
def F66_j8 (l : Option Addr) (lN : Nat) (lC : Nat) (w_2 : World) (R : Ending → World → Prop) : Prop :=
 R (.returned (.slice l lN lC)) w_2

def F66_j3 (L2 : Option Addr → Nat → Nat → Option Addr → Nat → Nat → Option Addr → Nat → Nat → World → Prop) (a2 : Option Addr) (aN2 : Nat) (aC2 : Nat) (d2 : Option Addr) (dN2 : Nat) (dC2 : Nat) (l : Option Addr) (lN : Nat) (lC : Nat) (w_3 : World) (R : Ending → World → Prop) : Prop :=
 Dr w_3 fun w1_2 =>
 Br (((dN2 : Nat) : Int) == (0 : Int))
 (IdxA a2 aN2 (0 : Int) 4 fun q38 =>
 LdI .u64 (w1_2.cell? (q38.add 1)) fun x40_0 =>
 LdI .u64 (w1_2.cell? ((q38.add 1).add 1)) fun x40_1 =>
 LdI .i64 (w1_2.cell? ((q38.add 1).add 2)) fun x40_2 =>
 Al w1_2 #[(.int .u64 x40_0), (.int .u64 x40_1), (.int .i64 x40_2)] 29 fun g41 w1_3 =>
 Raw Try.prog (Builtin.append_ #[22, 22] 22 #[(.slice l lN lC), (.slice (some g41) 1 1)]) w1_3 fun v w1_4 =>
 ∃ (x42 : Option Addr) (x42N : Nat) (x42C : Nat), v = (.slice x42 x42N x42C) ∧
 SlB (1 : Int) ((aN2 : Nat) : Int) ((aC2 : Nat) : Int)
 (L2 (SlA a2 aC2 ((1 : Int)).toNat 4) ((((aN2 : Nat) : Int)).toNat - ((1 : Int)).toNat) (aC2 - ((1 : Int)).toNat) d2 dN2 dC2 x42 x42N x42C w1_4))
 (Br (decide (((aN2 : Nat) : Int) > (0 : Int)))
 (IdxA a2 aN2 (0 : Int) 4 fun q24 =>
 LdI .u64 (w1_2.cell? (q24.add 1)) fun x27 =>
 IdxA d2 dN2 (0 : Int) 4 fun q29 =>
 LdI .u64 (w1_2.cell? (q29.add 1)) fun x32 =>
 Br (decide (x27 ≤ x32))
 (IdxA a2 aN2 (0 : Int) 4 fun q38 =>
 LdI .u64 (w1_2.cell? (q38.add 1)) fun x40_0 =>
 LdI .u64 (w1_2.cell? ((q38.add 1).add 1)) fun x40_1 =>
 LdI .i64 (w1_2.cell? ((q38.add 1).add 2)) fun x40_2 =>
 Al w1_2 #[(.int .u64 x40_0), (.int .u64 x40_1), (.int .i64 x40_2)] 29 fun g41 w1_3 =>
 Raw Try.prog (Builtin.append_ #[22, 22] 22 #[(.slice l lN lC), (.slice (some g41) 1 1)]) w1_3 fun v w1_4 =>
 ∃ (x42 : Option Addr) (x42N : Nat) (x42C : Nat), v = (.slice x42 x42N x42C) ∧
 SlB (1 : Int) ((aN2 : Nat) : Int) ((aC2 : Nat) : Int)
 (L2 (SlA a2 aC2 ((1 : Int)).toNat 4) ((((aN2 : Nat) : Int)).toNat - ((1 : Int)).toNat) (aC2 - ((1 : Int)).toNat) d2 dN2 dC2 x42 x42N x42C w1_4))
 (IdxA d2 dN2 (0 : Int) 4 fun q47 =>
 LdI .u64 (w1_2.cell? (q47.add 1)) fun x49_0 =>
 LdI .u64 (w1_2.cell? ((q47.add 1).add 1)) fun x49_1 =>
 LdI .i64 (w1_2.cell? ((q47.add 1).add 2)) fun x49_2 =>
 Al w1_2 #[(.int .u64 x49_0), (.int .u64 x49_1), (.int .i64 x49_2)] 29 fun g50 w1_3 =>
 Raw Try.prog (Builtin.append_ #[22, 22] 22 #[(.slice l lN lC), (.slice (some g50) 1 1)]) w1_3 fun v w1_4 =>
 ∃ (x51 : Option Addr) (x51N : Nat) (x51C : Nat), v = (.slice x51 x51N x51C) ∧
 SlB (1 : Int) ((dN2 : Nat) : Int) ((dC2 : Nat) : Int)
 (L2 a2 aN2 aC2 (SlA d2 dC2 ((1 : Int)).toNat 4) ((((dN2 : Nat) : Int)).toNat - ((1 : Int)).toNat) (dC2 - ((1 : Int)).toNat) x51 x51N x51C w1_4)))
 (IdxA d2 dN2 (0 : Int) 4 fun q47 =>
 LdI .u64 (w1_2.cell? (q47.add 1)) fun x49_0 =>
 LdI .u64 (w1_2.cell? ((q47.add 1).add 1)) fun x49_1 =>
 LdI .i64 (w1_2.cell? ((q47.add 1).add 2)) fun x49_2 =>
 Al w1_2 #[(.int .u64 x49_0), (.int .u64 x49_1), (.int .i64 x49_2)] 29 fun g50 w1_3 =>
 Raw Try.prog (Builtin.append_ #[22, 22] 22 #[(.slice l lN lC), (.slice (some g50) 1 1)]) w1_3 fun v w1_4 =>
 ∃ (x51 : Option Addr) (x51N : Nat) (x51C : Nat), v = (.slice x51 x51N x51C) ∧
 SlB (1 : Int) ((dN2 : Nat) : Int) ((dC2 : Nat) : Int)
 (L2 a2 aN2 aC2 (SlA d2 dC2 ((1 : Int)).toNat 4) ((((dN2 : Nat) : Int)).toNat - ((1 : Int)).toNat) (dC2 - ((1 : Int)).toNat) x51 x51N x51C w1_4)))

def F66_l2 (J8 : Option Addr → Nat → Nat → World → Prop) (L2 : Option Addr → Nat → Nat → Option Addr → Nat → Nat → Option Addr → Nat → Nat → World → Prop) (a2 : Option Addr) (aN2 : Nat) (aC2 : Nat) (d2 : Option Addr) (dN2 : Nat) (dC2 : Nat) (l : Option Addr) (lN : Nat) (lC : Nat) (w_2 : World) (R : Ending → World → Prop) : Prop :=
 ∃ J3 : World → Prop, (∀  (w1_2 : World), J3 w1_2 → F66_j3 L2 a2 aN2 aC2 d2 dN2 dC2 l lN lC w1_2 R) ∧
 (Br (decide (((aN2 : Nat) : Int) > (0 : Int)))
 (J3 w_2)
 (Br (decide (((dN2 : Nat) : Int) > (0 : Int)))
 (J3 w_2)
 (J8 l lN lC w_2)))

def F66 (a : Option Addr) (aN : Nat) (aC : Nat) (d : Option Addr) (dN : Nat) (dC : Nat) (w_ : World) (R : Ending → World → Prop) : Prop :=
 Al w_ #[] 29 fun g6 w1 =>
 ∃ J8 : Option Addr → Nat → Nat → World → Prop, (∀ (l : Option Addr) (lN : Nat) (lC : Nat) (w1_2 : World), J8 l lN lC w1_2 → F66_j8 l lN lC w1_2 R) ∧
 (∃ (I : Option Addr → Nat → Nat → Option Addr → Nat → Nat → Option Addr → Nat → Nat → World → Prop) (m : Option Addr → Nat → Nat → Option Addr → Nat → Nat → Option Addr → Nat → Nat → World → Nat), I a aN aC d dN dC (some g6) 0 0 w1 ∧
 ∀ (a2 : Option Addr) (aN2 : Nat) (aC2 : Nat) (d2 : Option Addr) (dN2 : Nat) (dC2 : Nat) (l : Option Addr) (lN : Nat) (lC : Nat) (w1_2 : World), I a2 aN2 aC2 d2 dN2 dC2 l lN lC w1_2 → F66_l2 J8 (fun a2' aN2' aC2' d2' dN2' dC2' l' lN' lC' w2 => I a2' aN2' aC2' d2' dN2' dC2' l' lN' lC' w2 ∧ m a2' aN2' aC2' d2' dN2' dC2' l' lN' lC' w2 < m a2 aN2 aC2 d2 dN2 dC2 l lN lC w1_2) a2 aN2 aC2 d2 dN2 dC2 l lN lC w1_2 R)

def pl66 : Plan := ⟨55, ⟨[]⟩, [(3, ⟨[], [(7, 15)]⟩), (8, ⟨[(5, (.s .slice))], [(0, 54)]⟩)], [(2, ⟨[(0, (.s .slice)), (1, (.s .slice)), (5, (.s .slice))], [(0, 54)]⟩)]⟩

theorem eq66 (a : Option Addr) (aN : Nat) (aC : Nat) (d : Option Addr) (dN : Nat) (dC : Nat) (w : World) (R : Ending → World → Prop) : F66 a aN aC d dN dC w R = vc Try.prog Try.f66 pl66 R 100000 [.code (bodyOf Try.f66)] (argEnv 0 #[(.slice a aN aC), (.slice d dN dC)].toList) w := by kernel_rfl

theorem ok66 (a : Option Addr) (aN : Nat) (aC : Nat) (d : Option Addr) (dN : Nat) (dC : Nat) {w : World} {R : Ending → World → Prop} (h : F66 a aN aC d dN dC w R) : Calls Try.prog 66 #[(.slice a aN aC), (.slice d dN dC)] w R :=
  vc_calls (pl := pl66) Try.func66 (by kernel_rfl) (by kernel_rfl) (by kernel_rfl) (Eq.mp (eq66 a aN aC d dN dC w R) h)

-- espalierref11.Fits
def F36_j12 (L11 : Option Addr → Nat → Nat → Int → World → Prop) (i : Int) (around2 : Option Addr) (aroundN2 : Nat) (aroundC2 : Nat) (w_4 : World) (R : Ending → World → Prop) : Prop :=
 InR .i64 (i + (1 : Int)) ∧ L11 around2 aroundN2 aroundC2 (i + (1 : Int)) w_4

def F36_j23 (J12 : Option Addr → Nat → Nat → World → Prop) (g10 : Addr) (around2 : Option Addr) (aroundN2 : Nat) (aroundC2 : Nat) (w_5 : World) (R : Ending → World → Prop) : Prop :=
 LdI .u64 (w_5.cell? g10) fun x86_0 =>
 LdI .u64 (w_5.cell? (g10.add 1)) fun x86_1 =>
 LdI .i64 (w_5.cell? (g10.add 2)) fun x86_2 =>
 Al w_5 #[(.int .u64 x86_0), (.int .u64 x86_1), (.int .i64 x86_2)] 29 fun g87 w1_9 =>
 Raw Try.prog (Builtin.append_ #[22, 22] 22 #[(.slice around2 aroundN2 aroundC2), (.slice (some g87) 1 1)]) w1_9 fun v4 w1_10 =>
 ∃ (x88 : Option Addr) (x88N : Nat) (x88C : Nat), v4 = (.slice x88 x88N x88C) ∧
 J12 x88 x88N x88C w1_10

def F36_j16 (J12 : Option Addr → Nat → Nat → World → Prop) (g10 : Addr) (around2 : Option Addr) (aroundN2 : Nat) (aroundC2 : Nat) (w_4 : World) (R : Ending → World → Prop) : Prop :=
 ∃ J23 : World → Prop, (∀  (w1_9 : World), J23 w1_9 → F36_j23 J12 g10 around2 aroundN2 aroundC2 w1_9 R) ∧
 (Br (decide (((aroundN2 : Nat) : Int) > (0 : Int)))
 (InR .i64 (((aroundN2 : Nat) : Int) - (1 : Int)) ∧ IdxA around2 aroundN2 (((aroundN2 : Nat) : Int) - (1 : Int)) 3 fun q71 =>
 LdI .u64 (w_4.cell? q71) fun x72_0 =>
 LdI .u64 (w_4.cell? (q71.add 1)) fun x72_1 =>
 LdI .i64 (w_4.cell? (q71.add 2)) fun x72_2 =>
 Al w_4 #[(.int .u64 0), (.int .u64 0), (.int .i64 0)] 29 fun y w1_9 =>
 St w1_9 y (.int .u64 x72_0) fun w1_10 =>
 St w1_10 (y.add 1) (.int .u64 x72_1) fun w1_11 =>
 St w1_11 (y.add 2) (.int .i64 x72_2) fun w1_12 =>
 LdI .u64 (w1_12.cell? g10) fun x73_0 =>
 LdI .u64 (w1_12.cell? (g10.add 1)) fun x73_1 =>
 LdI .i64 (w1_12.cell? (g10.add 2)) fun x73_2 =>
 LdI .u64 (w1_12.cell? y) fun x74_0 =>
 LdI .u64 (w1_12.cell? (y.add 1)) fun x74_1 =>
 LdI .i64 (w1_12.cell? (y.add 2)) fun x74_2 =>
 Calls Try.prog 20 #[(.agg #[(.int .u64 x73_0), (.int .u64 x73_1), (.int .i64 x73_2)]), (.agg #[(.int .u64 x74_0), (.int .u64 x74_1), (.int .i64 x74_2)])] w1_12 (post R fun v4 w1_13 =>
 ∃ (x75 : Bool), v4 = (.bool x75) ∧
 Br x75
 (LdI .i64 (w1_13.cell? (g10.add 2)) fun x77 =>
 LdI .i64 (w1_13.cell? (y.add 2)) fun x79 =>
 Br (x77 != x79)
 (R (.returned (.int .i64 111)) w1_13)
 (J12 around2 aroundN2 aroundC2 w1_13))
 (LdI .u64 (w1_13.cell? y) fun x81_0 =>
 LdI .u64 (w1_13.cell? (y.add 1)) fun x81_1 =>
 LdI .i64 (w1_13.cell? (y.add 2)) fun x81_2 =>
 LdI .u64 (w1_13.cell? g10) fun x82_0 =>
 LdI .u64 (w1_13.cell? (g10.add 1)) fun x82_1 =>
 LdI .i64 (w1_13.cell? (g10.add 2)) fun x82_2 =>
 Calls Try.prog 21 #[(.agg #[(.int .u64 x81_0), (.int .u64 x81_1), (.int .i64 x81_2)]), (.agg #[(.int .u64 x82_0), (.int .u64 x82_1), (.int .i64 x82_2)])] w1_13 (post R fun v5 w1_14 =>
 ∃ (x83 : Bool), v5 = (.bool x83) ∧
 Br (!x83)
 (R (.returned (.int .i64 111)) w1_14)
 (J23 w1_14)))))
 (J23 w_4))

def F36_j15 (L14 : Option Addr → Nat → Nat → World → Prop) (around2 : Option Addr) (aroundN2 : Nat) (aroundC2 : Nat) (w_5 : World) (R : Ending → World → Prop) : Prop :=
 InR .i64 (((aroundN2 : Nat) : Int) - (1 : Int)) ∧ SlB 0 (((aroundN2 : Nat) : Int) - (1 : Int)) ((aroundC2 : Nat) : Int)
 (L14 around2 ((((aroundN2 : Nat) : Int) - (1 : Int))).toNat aroundC2 w_5)

def F36_l14 (g10 : Addr) (J16 : Option Addr → Nat → Nat → World → Prop) (L14 : Option Addr → Nat → Nat → World → Prop) (around2 : Option Addr) (aroundN2 : Nat) (aroundC2 : Nat) (w_4 : World) (R : Ending → World → Prop) : Prop :=
 ∃ J15 : World → Prop, (∀  (w1_9 : World), J15 w1_9 → F36_j15 L14 around2 aroundN2 aroundC2 w1_9 R) ∧
 (Dr w_4 fun w1_9 =>
 Br (decide (((aroundN2 : Nat) : Int) > (0 : Int)))
 (InR .i64 (((aroundN2 : Nat) : Int) - (1 : Int)) ∧ IdxA around2 aroundN2 (((aroundN2 : Nat) : Int) - (1 : Int)) 3 fun q52 =>
 LdI .u64 (w1_9.cell? (q52.add 1)) fun x54 =>
 LdI .u64 (w1_9.cell? g10) fun x56 =>
 Br (decide (x54 < x56))
 (J15 w1_9)
 (J16 around2 aroundN2 aroundC2 w1_9))
 (J16 around2 aroundN2 aroundC2 w1_9))

def F36_l11 (x32 : Option Addr) (x32N : Nat) (L11 : Option Addr → Nat → Nat → Int → World → Prop) (around : Option Addr) (aroundN : Nat) (aroundC : Nat) (i : Int) (w_3 : World) (R : Ending → World → Prop) : Prop :=
 Br (decide (i < ((x32N : Nat) : Int)))
 (∃ J12 : Option Addr → Nat → Nat → World → Prop, (∀ (around2 : Option Addr) (aroundN2 : Nat) (aroundC2 : Nat) (w1_5 : World), J12 around2 aroundN2 aroundC2 w1_5 → F36_j12 L11 i around2 aroundN2 aroundC2 w1_5 R) ∧
 (IdxA x32 x32N i 3 fun q42 =>
 LdI .u64 (w_3.cell? q42) fun x43_0 =>
 LdI .u64 (w_3.cell? (q42.add 1)) fun x43_1 =>
 LdI .i64 (w_3.cell? (q42.add 2)) fun x43_2 =>
 Al w_3 #[(.int .u64 0), (.int .u64 0), (.int .i64 0)] 29 fun g10 w1_5 =>
 St w1_5 g10 (.int .u64 x43_0) fun w1_6 =>
 St w1_6 (g10.add 1) (.int .u64 x43_1) fun w1_7 =>
 St w1_7 (g10.add 2) (.int .i64 x43_2) fun w1_8 =>
 ∃ J16 : Option Addr → Nat → Nat → World → Prop, (∀ (around2 : Option Addr) (aroundN2 : Nat) (aroundC2 : Nat) (w1_9 : World), J16 around2 aroundN2 aroundC2 w1_9 → F36_j16 J12 g10 around2 aroundN2 aroundC2 w1_9 R) ∧
 (∃ (I : Option Addr → Nat → Nat → World → Prop) (m : Option Addr → Nat → Nat → World → Nat), I around aroundN aroundC w1_8 ∧
 ∀ (around2 : Option Addr) (aroundN2 : Nat) (aroundC2 : Nat) (w1_9 : World), I around2 aroundN2 aroundC2 w1_9 → F36_l14 g10 J16 (fun around2' aroundN2' aroundC2' w2 => I around2' aroundN2' aroundC2' w2 ∧ m around2' aroundN2' aroundC2' w2 < m around2 aroundN2 aroundC2 w1_9) around2 aroundN2 aroundC2 w1_9 R)))
 (R (.returned (.int .i64 0)) w_3)

def F36_j3 (a : Option Addr) (aN : Nat) (aC : Nat) (d : Option Addr) (dN : Nat) (dC : Nat) (w_2 : World) (R : Ending → World → Prop) : Prop :=
 Calls Try.prog 65 #[(.slice a aN aC)] w_2 (post R fun v w1 =>
 ∃ (x21 : Int), v = (.int .i64 x21) ∧
 Br (x21 != (0 : Int))
 (R (.returned (.int .i64 x21)) w1)
 (Calls Try.prog 65 #[(.slice d dN dC)] w1 (post R fun v2 w1_2 =>
 ∃ (x26 : Int), v2 = (.int .i64 x26) ∧
 Br (x26 != (0 : Int))
 (R (.returned (.int .i64 x26)) w1_2)
 (Calls Try.prog 66 #[(.slice a aN aC), (.slice d dN dC)] w1_2 (post R fun v3 w1_3 =>
 ∃ (x32 : Option Addr) (x32N : Nat) (x32C : Nat), v3 = (.slice x32 x32N x32C) ∧
 Al w1_3 #[] 29 fun g33 w1_4 =>
 ∃ (I : Option Addr → Nat → Nat → Int → World → Prop) (m : Option Addr → Nat → Nat → Int → World → Nat), I (some g33) 0 0 (0 : Int) w1_4 ∧
 ∀ (around : Option Addr) (aroundN : Nat) (aroundC : Nat) (i : Int) (w1_5 : World), I around aroundN aroundC i w1_5 → F36_l11 x32 x32N (fun around' aroundN' aroundC' i' w2 => I around' aroundN' aroundC' i' w2 ∧ m around' aroundN' aroundC' i' w2 < m around aroundN aroundC i w1_5) around aroundN aroundC i w1_5 R)))))

def F36 (a : Option Addr) (aN : Nat) (aC : Nat) (d : Option Addr) (dN : Nat) (dC : Nat) (w_ : World) (R : Ending → World → Prop) : Prop :=
 ∃ J3 : World → Prop, (∀  (w1 : World), J3 w1 → F36_j3 a aN aC d dN dC w1 R) ∧
 (Br (decide (((aN : Nat) : Int) > (8192 : Int)))
 (R (.returned (.int .i64 2)) w_)
 (Br (decide (((dN : Nat) : Int) > (8192 : Int)))
 (R (.returned (.int .i64 2)) w_)
 (J3 w_)))

def pl36 : Plan := ⟨89, ⟨[]⟩, [(15, ⟨[], [(44, 59)]⟩), (23, ⟨[], [(4, 5), (11, 85)]⟩), (16, ⟨[(8, (.s .slice))], [(8, 9), (44, 64)]⟩), (12, ⟨[(8, (.s .slice))], [(4, 5), (8, 9), (10, 89)]⟩), (3, ⟨[], [(4, 20)]⟩)], [(14, ⟨[(8, (.s .slice))], [(8, 9), (44, 64)]⟩), (11, ⟨[(8, (.s .slice)), (9, (.s (.int .i64)))], [(4, 5), (8, 89)]⟩)]⟩

theorem eq36 (a : Option Addr) (aN : Nat) (aC : Nat) (d : Option Addr) (dN : Nat) (dC : Nat) (w : World) (R : Ending → World → Prop) : F36 a aN aC d dN dC w R = vc Try.prog Try.f36 pl36 R 100000 [.code (bodyOf Try.f36)] (argEnv 0 #[(.slice a aN aC), (.slice d dN dC)].toList) w := by kernel_rfl

theorem ok36 (a : Option Addr) (aN : Nat) (aC : Nat) (d : Option Addr) (dN : Nat) (dC : Nat) {w : World} {R : Ending → World → Prop} (h : F36 a aN aC d dN dC w R) : Calls Try.prog 36 #[(.slice a aN aC), (.slice d dN dC)] w R :=
  vc_calls (pl := pl36) Try.func36 (by kernel_rfl) (by kernel_rfl) (by kernel_rfl) (Eq.mp (eq36 a aN aC d dN dC w R) h)

-- espalierref11.Joins
def F67 (a_0 : Int) (a_1 : Int) (a_2 : Int) (d_0 : Int) (d_1 : Int) (d_2 : Int) (direct : Bool) (w_ : World) (R : Ending → World → Prop) : Prop :=
 Al w_ #[(.int .u64 a_0), (.int .u64 a_1), (.int .i64 a_2)] 29 fun a w1 =>
 Al w1 #[(.int .u64 d_0), (.int .u64 d_1), (.int .i64 d_2)] 29 fun d w1_2 =>
 LdI .u64 (w1_2.cell? a) fun x7_0 =>
 LdI .u64 (w1_2.cell? (a.add 1)) fun x7_1 =>
 LdI .i64 (w1_2.cell? (a.add 2)) fun x7_2 =>
 LdI .u64 (w1_2.cell? d) fun x8_0 =>
 LdI .u64 (w1_2.cell? (d.add 1)) fun x8_1 =>
 LdI .i64 (w1_2.cell? (d.add 2)) fun x8_2 =>
 Calls Try.prog 21 #[(.agg #[(.int .u64 x7_0), (.int .u64 x7_1), (.int .i64 x7_2)]), (.agg #[(.int .u64 x8_0), (.int .u64 x8_1), (.int .i64 x8_2)])] w1_2 (post R fun v w1_3 =>
 ∃ (x9 : Bool), v = (.bool x9) ∧
 Br x9
 (Br (!direct)
 (R (.returned (.bool true)) w1_3)
 (LdI .u64 (w1_3.cell? a) fun x14_0 =>
 LdI .u64 (w1_3.cell? (a.add 1)) fun x14_1 =>
 LdI .i64 (w1_3.cell? (a.add 2)) fun x14_2 =>
 LdI .u64 (w1_3.cell? d) fun x15_0 =>
 LdI .u64 (w1_3.cell? (d.add 1)) fun x15_1 =>
 LdI .i64 (w1_3.cell? (d.add 2)) fun x15_2 =>
 Calls Try.prog 23 #[(.agg #[(.int .u64 x14_0), (.int .u64 x14_1), (.int .i64 x14_2)]), (.agg #[(.int .u64 x15_0), (.int .u64 x15_1), (.int .i64 x15_2)])] w1_3 (post R fun v2 w1_4 =>
 ∃ (x16 : Bool), v2 = (.bool x16) ∧
 R (.returned (.bool x16)) w1_4)))
 (R (.returned (.bool false)) w1_3))

def pl67 : Plan := ⟨19, ⟨[]⟩, [], []⟩

theorem eq67 (a_0 : Int) (a_1 : Int) (a_2 : Int) (d_0 : Int) (d_1 : Int) (d_2 : Int) (direct : Bool) (w : World) (R : Ending → World → Prop) : F67 a_0 a_1 a_2 d_0 d_1 d_2 direct w R = vc Try.prog Try.f67 pl67 R 100000 [.code (bodyOf Try.f67)] (argEnv 0 #[(.agg #[(.int .u64 a_0), (.int .u64 a_1), (.int .i64 a_2)]), (.agg #[(.int .u64 d_0), (.int .u64 d_1), (.int .i64 d_2)]), (.bool direct)].toList) w := by kernel_rfl

theorem ok67 (a_0 : Int) (a_1 : Int) (a_2 : Int) (d_0 : Int) (d_1 : Int) (d_2 : Int) (direct : Bool) {w : World} {R : Ending → World → Prop} (h : F67 a_0 a_1 a_2 d_0 d_1 d_2 direct w R) : Calls Try.prog 67 #[(.agg #[(.int .u64 a_0), (.int .u64 a_1), (.int .i64 a_2)]), (.agg #[(.int .u64 d_0), (.int .u64 d_1), (.int .i64 d_2)]), (.bool direct)] w R :=
  vc_calls (pl := pl67) Try.func67 (by kernel_rfl) (by kernel_rfl) (by kernel_rfl) (Eq.mp (eq67 a_0 a_1 a_2 d_0 d_1 d_2 direct w R) h)

-- espalierref11.Pairs
def F38_j7 (L6 : Option Addr → Nat → Nat → Int → World → Prop) (i : Int) (l2 : Option Addr) (lN2 : Nat) (lC2 : Nat) (w_3 : World) (R : Ending → World → Prop) : Prop :=
 InR .i64 (i + (1 : Int)) ∧ L6 l2 lN2 lC2 (i + (1 : Int)) w_3

def F38_j10 (L9 : Option Addr → Nat → Nat → Int → World → Prop) (k : Int) (l3 : Option Addr) (lN3 : Nat) (lC3 : Nat) (w_5 : World) (R : Ending → World → Prop) : Prop :=
 InR .i64 (k + (1 : Int)) ∧ L9 l3 lN3 lC3 (k + (1 : Int)) w_5

def F38_j11 (a : Option Addr) (aN : Nat) (d : Option Addr) (dN : Nat) (direct : Bool) (i : Int) (L9 : Option Addr → Nat → Nat → Int → World → Prop) (l2 : Option Addr) (lN2 : Nat) (lC2 : Nat) (k : Int) (w_4 : World) (R : Ending → World → Prop) : Prop :=
 ∃ J10 : Option Addr → Nat → Nat → World → Prop, (∀ (l3 : Option Addr) (lN3 : Nat) (lC3 : Nat) (w1_3 : World), J10 l3 lN3 lC3 w1_3 → F38_j10 L9 k l3 lN3 lC3 w1_3 R) ∧
 (∃ S : World → Prop, S w_4.drew ∧ IdxA a aN k 4 fun q48 =>
 ∃ (x50_0 : Int), Held S (q48.add 1) (.int .u64 x50_0) ∧ ∃ (x50_1 : Int), Held S ((q48.add 1).add 1) (.int .u64 x50_1) ∧ ∃ (x50_2 : Int), Held S ((q48.add 1).add 2) (.int .i64 x50_2) ∧ IdxA d dN i 4 fun q53 =>
 ∃ (x55_0 : Int), Held S (q53.add 1) (.int .u64 x55_0) ∧ ∃ (x55_1 : Int), Held S ((q53.add 1).add 1) (.int .u64 x55_1) ∧ ∃ (x55_2 : Int), Held S ((q53.add 1).add 2) (.int .i64 x55_2) ∧ Calls Try.prog 67 #[(.agg #[(.int .u64 x50_0), (.int .u64 x50_1), (.int .i64 x50_2)]), (.agg #[(.int .u64 x55_0), (.int .u64 x55_1), (.int .i64 x55_2)]), (.bool direct)] w_4.drew (post R fun v2 w1_4 =>
 ∃ (x57 : Bool), v2 = (.bool x57) ∧
 Br x57
 (Br (decide (((lN2 : Nat) : Int) ≥ (16384 : Int)))
 (R (.returned (.tuple #[(.slice none 0 0), (.int .i64 2)])) w1_4)
 (∃ S2 : World → Prop, S2 w1_4.drew ∧ IdxA a aN k 4 fun q64 =>
 ∃ (x66 : Int), Held S2 q64 (.int .u64 x66) ∧ IdxA d dN i 4 fun q69 =>
 ∃ (x71 : Int), Held S2 q69 (.int .u64 x71) ∧ Al w1_4.drew #[(.int .u64 x66), (.int .u64 x71)] 53 fun g73 w1_6 =>
 Raw Try.prog (Builtin.append_ #[38, 38] 38 #[(.slice l2 lN2 lC2), (.slice (some g73) 1 1)]) w1_6 fun v3 w1_7 =>
 ∃ (x74 : Option Addr) (x74N : Nat) (x74C : Nat), v3 = (.slice x74 x74N x74C) ∧
 J10 x74 x74N x74C w1_7))
 (J10 l2 lN2 lC2 w1_4)))

def F38_l9 (a : Option Addr) (aN : Nat) (d : Option Addr) (dN : Nat) (direct : Bool) (i : Int) (J7 : Option Addr → Nat → Nat → World → Prop) (L9 : Option Addr → Nat → Nat → Int → World → Prop) (l2 : Option Addr) (lN2 : Nat) (lC2 : Nat) (k : Int) (w_3 : World) (R : Ending → World → Prop) : Prop :=
 ∃ J11 : World → Prop, (∀  (w1_3 : World), J11 w1_3 → F38_j11 a aN d dN direct i L9 l2 lN2 lC2 k w1_3 R) ∧
 (Dr w_3 fun w1_3 =>
 Br (decide (k < ((aN : Nat) : Int)))
 (IdxA a aN k 4 fun q32 =>
 LdI .u64 (w1_3.cell? (q32.add 1)) fun x35 =>
 IdxA d dN i 4 fun q38 =>
 LdI .u64 (w1_3.cell? (q38.add 1)) fun x41 =>
 Br (decide (x35 < x41))
 (J11 w1_3)
 (J7 l2 lN2 lC2 w1_3))
 (J7 l2 lN2 lC2 w1_3))

def F38_l6 (a : Option Addr) (aN : Nat) (d : Option Addr) (dN : Nat) (direct : Bool) (L6 : Option Addr → Nat → Nat → Int → World → Prop) (l : Option Addr) (lN : Nat) (lC : Nat) (i : Int) (w_2 : World) (R : Ending → World → Prop) : Prop :=
 Br (decide (i < ((dN : Nat) : Int)))
 (∃ J7 : Option Addr → Nat → Nat → World → Prop, (∀ (l2 : Option Addr) (lN2 : Nat) (lC2 : Nat) (w1_3 : World), J7 l2 lN2 lC2 w1_3 → F38_j7 L6 i l2 lN2 lC2 w1_3 R) ∧
 (∃ (I : Option Addr → Nat → Nat → Int → World → Prop) (m : Option Addr → Nat → Nat → Int → World → Nat), I l lN lC (0 : Int) w_2 ∧
 ∀ (l2 : Option Addr) (lN2 : Nat) (lC2 : Nat) (k : Int) (w1_3 : World), I l2 lN2 lC2 k w1_3 → F38_l9 a aN d dN direct i J7 (fun l2' lN2' lC2' k' w2 => I l2' lN2' lC2' k' w2 ∧ m l2' lN2' lC2' k' w2 < m l2 lN2 lC2 k w1_3) l2 lN2 lC2 k w1_3 R))
 (R (.returned (.tuple #[(.slice l lN lC), (.int .i64 0)])) w_2)

def F38 (a : Option Addr) (aN : Nat) (aC : Nat) (d : Option Addr) (dN : Nat) (dC : Nat) (direct : Bool) (w_ : World) (R : Ending → World → Prop) : Prop :=
 Calls Try.prog 36 #[(.slice a aN aC), (.slice d dN dC)] w_ (post R fun v w1 =>
 ∃ (x14 : Int), v = (.int .i64 x14) ∧
 Br (x14 != (0 : Int))
 (R (.returned (.tuple #[(.slice none 0 0), (.int .i64 x14)])) w1)
 (Al w1 #[] 53 fun g18 w1_2 =>
 ∃ (I : Option Addr → Nat → Nat → Int → World → Prop) (m : Option Addr → Nat → Nat → Int → World → Nat), I (some g18) 0 0 (0 : Int) w1_2 ∧
 ∀ (l : Option Addr) (lN : Nat) (lC : Nat) (i : Int) (w1_3 : World), I l lN lC i w1_3 → F38_l6 a aN d dN direct (fun l' lN' lC' i' w2 => I l' lN' lC' i' w2 ∧ m l' lN' lC' i' w2 < m l lN lC i w1_3) l lN lC i w1_3 R))

def pl38 : Plan := ⟨76, ⟨[]⟩, [(10, ⟨[(9, (.s .slice))], [(6, 10), (46, 75)]⟩), (11, ⟨[], [(25, 44)]⟩), (7, ⟨[(9, (.s .slice))], [(6, 10), (11, 75)]⟩)], [(9, ⟨[(9, (.s .slice)), (11, (.s (.int .i64)))], [(6, 10), (11, 75)]⟩), (6, ⟨[(9, (.s .slice)), (10, (.s (.int .i64)))], [(6, 75)]⟩)]⟩

theorem eq38 (a : Option Addr) (aN : Nat) (aC : Nat) (d : Option Addr) (dN : Nat) (dC : Nat) (direct : Bool) (w : World) (R : Ending → World → Prop) : F38 a aN aC d dN dC direct w R = vc Try.prog Try.f38 pl38 R 100000 [.code (bodyOf Try.f38)] (argEnv 0 #[(.slice a aN aC), (.slice d dN dC), (.bool direct)].toList) w := by kernel_rfl

theorem ok38 (a : Option Addr) (aN : Nat) (aC : Nat) (d : Option Addr) (dN : Nat) (dC : Nat) (direct : Bool) {w : World} {R : Ending → World → Prop} (h : F38 a aN aC d dN dC direct w R) : Calls Try.prog 38 #[(.slice a aN aC), (.slice d dN dC), (.bool direct)] w R :=
  vc_calls (pl := pl38) Try.func38 (by kernel_rfl) (by kernel_rfl) (by kernel_rfl) (Eq.mp (eq38 a aN aC d dN dC direct w R) h)

-- espalierref11.Count
def F45_j11 (L10 : Int → Int → World → Prop) (k : Int) (n2 : Int) (w_4 : World) (R : Ending → World → Prop) : Prop :=
 InR .i64 (k + (1 : Int)) ∧ L10 n2 (k + (1 : Int)) w_4

def F45_l10 (a : Option Addr) (aN : Nat) (d : Option Addr) (dN : Nat) (direct : Bool) (L6 : Option Addr → Nat → Nat → Int → World → Prop) (l : Option Addr) (lN : Nat) (lC : Nat) (i : Int) (L10 : Int → Int → World → Prop) (n : Int) (k : Int) (w_3 : World) (R : Ending → World → Prop) : Prop :=
 Br (decide (k < ((dN : Nat) : Int)))
 (∃ J11 : Int → World → Prop, (∀ (n2 : Int) (w1_3 : World), J11 n2 w1_3 → F45_j11 L10 k n2 w1_3 R) ∧
 (∃ S : World → Prop, S w_3.drew ∧ IdxA a aN i 4 fun q34 =>
 ∃ (x36_0 : Int), Held S (q34.add 1) (.int .u64 x36_0) ∧ ∃ (x36_1 : Int), Held S ((q34.add 1).add 1) (.int .u64 x36_1) ∧ ∃ (x36_2 : Int), Held S ((q34.add 1).add 2) (.int .i64 x36_2) ∧ IdxA d dN k 4 fun q39 =>
 ∃ (x41_0 : Int), Held S (q39.add 1) (.int .u64 x41_0) ∧ ∃ (x41_1 : Int), Held S ((q39.add 1).add 1) (.int .u64 x41_1) ∧ ∃ (x41_2 : Int), Held S ((q39.add 1).add 2) (.int .i64 x41_2) ∧ Calls Try.prog 67 #[(.agg #[(.int .u64 x36_0), (.int .u64 x36_1), (.int .i64 x36_2)]), (.agg #[(.int .u64 x41_0), (.int .u64 x41_1), (.int .i64 x41_2)]), (.bool direct)] w_3.drew (post R fun v2 w1_4 =>
 ∃ (x43 : Bool), v2 = (.bool x43) ∧
 Br x43
 (InR .i64 (n + (1 : Int)) ∧ J11 (n + (1 : Int)) w1_4)
 (J11 n w1_4))))
 (Al w_3 #[(.int .i64 n)] 3 fun g48 w1_3 =>
 Raw Try.prog (Builtin.append_ #[44, 44] 44 #[(.slice l lN lC), (.slice (some g48) 1 1)]) w1_3 fun v2 w1_4 =>
 ∃ (x49 : Option Addr) (x49N : Nat) (x49C : Nat), v2 = (.slice x49 x49N x49C) ∧
 InR .i64 (i + (1 : Int)) ∧ L6 x49 x49N x49C (i + (1 : Int)) w1_4)

def F45_l6 (a : Option Addr) (aN : Nat) (d : Option Addr) (dN : Nat) (direct : Bool) (L6 : Option Addr → Nat → Nat → Int → World → Prop) (l : Option Addr) (lN : Nat) (lC : Nat) (i : Int) (w_2 : World) (R : Ending → World → Prop) : Prop :=
 Br (decide (i < ((aN : Nat) : Int)))
 (∃ (I : Int → Int → World → Prop) (m : Int → Int → World → Nat), I (0 : Int) (0 : Int) w_2 ∧
 ∀ (n : Int) (k : Int) (w1_3 : World), I n k w1_3 → F45_l10 a aN d dN direct L6 l lN lC i (fun n' k' w2 => I n' k' w2 ∧ m n' k' w2 < m n k w1_3) n k w1_3 R)
 (R (.returned (.tuple #[(.slice l lN lC), (.int .i64 0)])) w_2)

def F45 (a : Option Addr) (aN : Nat) (aC : Nat) (d : Option Addr) (dN : Nat) (dC : Nat) (direct : Bool) (w_ : World) (R : Ending → World → Prop) : Prop :=
 Calls Try.prog 36 #[(.slice a aN aC), (.slice d dN dC)] w_ (post R fun v w1 =>
 ∃ (x15 : Int), v = (.int .i64 x15) ∧
 Br (x15 != (0 : Int))
 (R (.returned (.tuple #[(.slice none 0 0), (.int .i64 x15)])) w1)
 (Al w1 #[] 3 fun g19 w1_2 =>
 ∃ (I : Option Addr → Nat → Nat → Int → World → Prop) (m : Option Addr → Nat → Nat → Int → World → Nat), I (some g19) 0 0 (0 : Int) w1_2 ∧
 ∀ (l : Option Addr) (lN : Nat) (lC : Nat) (i : Int) (w1_3 : World), I l lN lC i w1_3 → F45_l6 a aN d dN direct (fun l' lN' lC' i' w2 => I l' lN' lC' i' w2 ∧ m l' lN' lC' i' w2 < m l lN lC i w1_3) l lN lC i w1_3 R))

def pl45 : Plan := ⟨51, ⟨[]⟩, [(11, ⟨[(11, (.s (.int .i64)))], [(11, 12), (32, 46)]⟩)], [(10, ⟨[(11, (.s (.int .i64))), (12, (.s (.int .i64)))], [(11, 46)]⟩), (6, ⟨[(9, (.s .slice)), (10, (.s (.int .i64)))], [(9, 50)]⟩)]⟩

theorem eq45 (a : Option Addr) (aN : Nat) (aC : Nat) (d : Option Addr) (dN : Nat) (dC : Nat) (direct : Bool) (w : World) (R : Ending → World → Prop) : F45 a aN aC d dN dC direct w R = vc Try.prog Try.f45 pl45 R 100000 [.code (bodyOf Try.f45)] (argEnv 0 #[(.slice a aN aC), (.slice d dN dC), (.bool direct)].toList) w := by kernel_rfl

theorem ok45 (a : Option Addr) (aN : Nat) (aC : Nat) (d : Option Addr) (dN : Nat) (dC : Nat) (direct : Bool) {w : World} {R : Ending → World → Prop} (h : F45 a aN aC d dN dC direct w R) : Calls Try.prog 45 #[(.slice a aN aC), (.slice d dN dC), (.bool direct)] w R :=
  vc_calls (pl := pl45) Try.func45 (by kernel_rfl) (by kernel_rfl) (by kernel_rfl) (Eq.mp (eq45 a aN aC d dN dC direct w R) h)

-- espalierref11.Outer
def F41_j7 (L6 : Option Addr → Nat → Nat → Int → World → Prop) (i : Int) (l2 : Option Addr) (lN2 : Nat) (lC2 : Nat) (w_3 : World) (R : Ending → World → Prop) : Prop :=
 InR .i64 (i + (1 : Int)) ∧ L6 l2 lN2 lC2 (i + (1 : Int)) w_3

def F41_l6 (a : Option Addr) (aN : Nat) (x16_0 : Option Addr) (x16_0N : Nat) (L6 : Option Addr → Nat → Nat → Int → World → Prop) (l : Option Addr) (lN : Nat) (lC : Nat) (i : Int) (w_2 : World) (R : Ending → World → Prop) : Prop :=
 Br (decide (i < ((aN : Nat) : Int)))
 (∃ J7 : Option Addr → Nat → Nat → World → Prop, (∀ (l2 : Option Addr) (lN2 : Nat) (lC2 : Nat) (w1_3 : World), J7 l2 lN2 lC2 w1_3 → F41_j7 L6 i l2 lN2 lC2 w1_3 R) ∧
 (IdxA x16_0 x16_0N i 1 fun q31 =>
 LdI .i64 (w_2.cell? q31) fun x32 =>
 Br (decide (x32 > (0 : Int)))
 (IdxA a aN i 4 fun q37 =>
 LdI .u64 (w_2.cell? q37) fun x38_0 =>
 LdI .u64 (w_2.cell? (q37.add 1)) fun x38_1 =>
 LdI .u64 (w_2.cell? (q37.add 2)) fun x38_2 =>
 LdI .i64 (w_2.cell? (q37.add 3)) fun x38_3 =>
 Al w_2 #[(.int .u64 x38_0), (.int .u64 x38_1), (.int .u64 x38_2), (.int .i64 x38_3)] 51 fun g39 w1_3 =>
 Raw Try.prog (Builtin.append_ #[37, 37] 37 #[(.slice l lN lC), (.slice (some g39) 1 1)]) w1_3 fun v2 w1_4 =>
 ∃ (x40 : Option Addr) (x40N : Nat) (x40C : Nat), v2 = (.slice x40 x40N x40C) ∧
 J7 x40 x40N x40C w1_4)
 (J7 l lN lC w_2)))
 (R (.returned (.tuple #[(.slice l lN lC), (.int .i64 0)])) w_2)

def F41 (a : Option Addr) (aN : Nat) (aC : Nat) (d : Option Addr) (dN : Nat) (dC : Nat) (direct : Bool) (w_ : World) (R : Ending → World → Prop) : Prop :=
 Calls Try.prog 45 #[(.slice a aN aC), (.slice d dN dC), (.bool direct)] w_ (post R fun v w1 =>
 ∃ (x16_0 : Option Addr) (x16_0N : Nat) (x16_0C : Nat) (x16_1 : Int), v = (.tuple #[(.slice x16_0 x16_0N x16_0C), (.int .i64 x16_1)]) ∧
 Br (x16_1 != (0 : Int))
 (R (.returned (.tuple #[(.slice none 0 0), (.int .i64 x16_1)])) w1)
 (Al w1 #[] 51 fun g22 w1_2 =>
 ∃ (I : Option Addr → Nat → Nat → Int → World → Prop) (m : Option Addr → Nat → Nat → Int → World → Nat), I (some g22) 0 0 (0 : Int) w1_2 ∧
 ∀ (l : Option Addr) (lN : Nat) (lC : Nat) (i : Int) (w1_3 : World), I l lN lC i w1_3 → F41_l6 a aN x16_0 x16_0N (fun l' lN' lC' i' w2 => I l' lN' lC' i' w2 ∧ m l' lN' lC' i' w2 < m l lN lC i w1_3) l lN lC i w1_3 R))

def pl41 : Plan := ⟨42, ⟨[]⟩, [(7, ⟨[(10, (.s .slice))], [(10, 11), (29, 41)]⟩)], [(6, ⟨[(10, (.s .slice)), (11, (.s (.int .i64)))], [(10, 41)]⟩)]⟩

theorem eq41 (a : Option Addr) (aN : Nat) (aC : Nat) (d : Option Addr) (dN : Nat) (dC : Nat) (direct : Bool) (w : World) (R : Ending → World → Prop) : F41 a aN aC d dN dC direct w R = vc Try.prog Try.f41 pl41 R 100000 [.code (bodyOf Try.f41)] (argEnv 0 #[(.slice a aN aC), (.slice d dN dC), (.bool direct)].toList) w := by kernel_rfl

theorem ok41 (a : Option Addr) (aN : Nat) (aC : Nat) (d : Option Addr) (dN : Nat) (dC : Nat) (direct : Bool) {w : World} {R : Ending → World → Prop} (h : F41 a aN aC d dN dC direct w R) : Calls Try.prog 41 #[(.slice a aN aC), (.slice d dN dC), (.bool direct)] w R :=
  vc_calls (pl := pl41) Try.func41 (by kernel_rfl) (by kernel_rfl) (by kernel_rfl) (Eq.mp (eq41 a aN aC d dN dC direct w R) h)

-- espalierref11.within
def F68_j7 (L6 : Option Addr → Nat → Nat → Int → World → Prop) (i : Int) (l2 : Option Addr) (lN2 : Nat) (lC2 : Nat) (w_3 : World) (R : Ending → World → Prop) : Prop :=
 InR .i64 (i + (1 : Int)) ∧ L6 l2 lN2 lC2 (i + (1 : Int)) w_3

def F68_j13 (d : Option Addr) (dN : Nat) (is : Bool) (l : Option Addr) (lN : Nat) (lC : Nat) (i : Int) (J7 : Option Addr → Nat → Nat → World → Prop) (joins : Bool) (w_3 : World) (R : Ending → World → Prop) : Prop :=
 Br (joins == is)
 (IdxA d dN i 4 fun q56 =>
 LdI .u64 (w_3.cell? q56) fun x57_0 =>
 LdI .u64 (w_3.cell? (q56.add 1)) fun x57_1 =>
 LdI .u64 (w_3.cell? (q56.add 2)) fun x57_2 =>
 LdI .i64 (w_3.cell? (q56.add 3)) fun x57_3 =>
 Al w_3 #[(.int .u64 x57_0), (.int .u64 x57_1), (.int .u64 x57_2), (.int .i64 x57_3)] 51 fun g58 w1_3 =>
 Raw Try.prog (Builtin.append_ #[37, 37] 37 #[(.slice l lN lC), (.slice (some g58) 1 1)]) w1_3 fun v2 w1_4 =>
 ∃ (x59 : Option Addr) (x59N : Nat) (x59C : Nat), v2 = (.slice x59 x59N x59C) ∧
 J7 x59 x59N x59C w1_4)
 (J7 l lN lC w_3)

def F68_j12 (a : Option Addr) (aN : Nat) (d : Option Addr) (dN : Nat) (direct : Bool) (i : Int) (L10 : Bool → Int → World → Prop) (k : Int) (w_4 : World) (R : Ending → World → Prop) : Prop :=
 ∃ S : World → Prop, S w_4.drew ∧ IdxA a aN k 4 fun q40 =>
 ∃ (x42_0 : Int), Held S (q40.add 1) (.int .u64 x42_0) ∧ ∃ (x42_1 : Int), Held S ((q40.add 1).add 1) (.int .u64 x42_1) ∧ ∃ (x42_2 : Int), Held S ((q40.add 1).add 2) (.int .i64 x42_2) ∧ IdxA d dN i 4 fun q45 =>
 ∃ (x47_0 : Int), Held S (q45.add 1) (.int .u64 x47_0) ∧ ∃ (x47_1 : Int), Held S ((q45.add 1).add 1) (.int .u64 x47_1) ∧ ∃ (x47_2 : Int), Held S ((q45.add 1).add 2) (.int .i64 x47_2) ∧ Calls Try.prog 67 #[(.agg #[(.int .u64 x42_0), (.int .u64 x42_1), (.int .i64 x42_2)]), (.agg #[(.int .u64 x47_0), (.int .u64 x47_1), (.int .i64 x47_2)]), (.bool direct)] w_4.drew (post R fun v2 w1_4 =>
 ∃ (x49 : Bool), v2 = (.bool x49) ∧
 InR .i64 (k + (1 : Int)) ∧ L10 x49 (k + (1 : Int)) w1_4)

def F68_l10 (a : Option Addr) (aN : Nat) (d : Option Addr) (dN : Nat) (direct : Bool) (i : Int) (J13 : Bool → World → Prop) (L10 : Bool → Int → World → Prop) (joins : Bool) (k : Int) (w_3 : World) (R : Ending → World → Prop) : Prop :=
 ∃ J12 : World → Prop, (∀  (w1_3 : World), J12 w1_3 → F68_j12 a aN d dN direct i L10 k w1_3 R) ∧
 (Br (decide (k < ((aN : Nat) : Int)))
 (Br (!joins)
 (J12 w_3)
 (J13 joins w_3))
 (J13 joins w_3))

def F68_l6 (a : Option Addr) (aN : Nat) (d : Option Addr) (dN : Nat) (direct : Bool) (is : Bool) (L6 : Option Addr → Nat → Nat → Int → World → Prop) (l : Option Addr) (lN : Nat) (lC : Nat) (i : Int) (w_2 : World) (R : Ending → World → Prop) : Prop :=
 Br (decide (i < ((dN : Nat) : Int)))
 (∃ J7 : Option Addr → Nat → Nat → World → Prop, (∀ (l2 : Option Addr) (lN2 : Nat) (lC2 : Nat) (w1_3 : World), J7 l2 lN2 lC2 w1_3 → F68_j7 L6 i l2 lN2 lC2 w1_3 R) ∧
 (∃ J13 : Bool → World → Prop, (∀ (joins : Bool) (w1_3 : World), J13 joins w1_3 → F68_j13 d dN is l lN lC i J7 joins w1_3 R) ∧
 (∃ (I : Bool → Int → World → Prop) (m : Bool → Int → World → Nat), I false (0 : Int) w_2 ∧
 ∀ (joins : Bool) (k : Int) (w1_3 : World), I joins k w1_3 → F68_l10 a aN d dN direct i J13 (fun joins' k' w2 => I joins' k' w2 ∧ m joins' k' w2 < m joins k w1_3) joins k w1_3 R)))
 (R (.returned (.tuple #[(.slice l lN lC), (.int .i64 0)])) w_2)

def F68 (a : Option Addr) (aN : Nat) (aC : Nat) (d : Option Addr) (dN : Nat) (dC : Nat) (direct : Bool) (is : Bool) (w_ : World) (R : Ending → World → Prop) : Prop :=
 Calls Try.prog 36 #[(.slice a aN aC), (.slice d dN dC)] w_ (post R fun v w1 =>
 ∃ (x17 : Int), v = (.int .i64 x17) ∧
 Br (x17 != (0 : Int))
 (R (.returned (.tuple #[(.slice none 0 0), (.int .i64 x17)])) w1)
 (Al w1 #[] 51 fun g21 w1_2 =>
 ∃ (I : Option Addr → Nat → Nat → Int → World → Prop) (m : Option Addr → Nat → Nat → Int → World → Nat), I (some g21) 0 0 (0 : Int) w1_2 ∧
 ∀ (l : Option Addr) (lN : Nat) (lC : Nat) (i : Int) (w1_3 : World), I l lN lC i w1_3 → F68_l6 a aN d dN direct is (fun l' lN' lC' i' w2 => I l' lN' lC' i' w2 ∧ m l' lN' lC' i' w2 < m l lN lC i w1_3) l lN lC i w1_3 R))

def pl68 : Plan := ⟨61, ⟨[]⟩, [(12, ⟨[], [(28, 36)]⟩), (13, ⟨[(13, (.s .bool))], [(13, 50)]⟩), (7, ⟨[(11, (.s .slice))], [(11, 12), (13, 60)]⟩)], [(10, ⟨[(13, (.s .bool)), (14, (.s (.int .i64)))], [(13, 50)]⟩), (6, ⟨[(11, (.s .slice)), (12, (.s (.int .i64)))], [(11, 60)]⟩)]⟩

theorem eq68 (a : Option Addr) (aN : Nat) (aC : Nat) (d : Option Addr) (dN : Nat) (dC : Nat) (direct : Bool) (is : Bool) (w : World) (R : Ending → World → Prop) : F68 a aN aC d dN dC direct is w R = vc Try.prog Try.f68 pl68 R 100000 [.code (bodyOf Try.f68)] (argEnv 0 #[(.slice a aN aC), (.slice d dN dC), (.bool direct), (.bool is)].toList) w := by kernel_rfl

theorem ok68 (a : Option Addr) (aN : Nat) (aC : Nat) (d : Option Addr) (dN : Nat) (dC : Nat) (direct : Bool) (is : Bool) {w : World} {R : Ending → World → Prop} (h : F68 a aN aC d dN dC direct is w R) : Calls Try.prog 68 #[(.slice a aN aC), (.slice d dN dC), (.bool direct), (.bool is)] w R :=
  vc_calls (pl := pl68) Try.func68 (by kernel_rfl) (by kernel_rfl) (by kernel_rfl) (Eq.mp (eq68 a aN aC d dN dC direct is w R) h)

-- espalierref11.Inner
def F42 (a : Option Addr) (aN : Nat) (aC : Nat) (d : Option Addr) (dN : Nat) (dC : Nat) (direct : Bool) (w_ : World) (R : Ending → World → Prop) : Prop :=
 Calls Try.prog 68 #[(.slice a aN aC), (.slice d dN dC), (.bool direct), (.bool true)] w_ (post R fun v w1 =>
 ∃ (x11_0 : Option Addr) (x11_0N : Nat) (x11_0C : Nat) (x11_1 : Int), v = (.tuple #[(.slice x11_0 x11_0N x11_0C), (.int .i64 x11_1)]) ∧
 R (.returned (.tuple #[(.slice x11_0 x11_0N x11_0C), (.int .i64 x11_1)])) w1)

def pl42 : Plan := ⟨14, ⟨[]⟩, [], []⟩

theorem eq42 (a : Option Addr) (aN : Nat) (aC : Nat) (d : Option Addr) (dN : Nat) (dC : Nat) (direct : Bool) (w : World) (R : Ending → World → Prop) : F42 a aN aC d dN dC direct w R = vc Try.prog Try.f42 pl42 R 100000 [.code (bodyOf Try.f42)] (argEnv 0 #[(.slice a aN aC), (.slice d dN dC), (.bool direct)].toList) w := by kernel_rfl

theorem ok42 (a : Option Addr) (aN : Nat) (aC : Nat) (d : Option Addr) (dN : Nat) (dC : Nat) (direct : Bool) {w : World} {R : Ending → World → Prop} (h : F42 a aN aC d dN dC direct w R) : Calls Try.prog 42 #[(.slice a aN aC), (.slice d dN dC), (.bool direct)] w R :=
  vc_calls (pl := pl42) Try.func42 (by kernel_rfl) (by kernel_rfl) (by kernel_rfl) (Eq.mp (eq42 a aN aC d dN dC direct w R) h)

-- espalierref11.Without
def F43 (a : Option Addr) (aN : Nat) (aC : Nat) (d : Option Addr) (dN : Nat) (dC : Nat) (direct : Bool) (w_ : World) (R : Ending → World → Prop) : Prop :=
 Calls Try.prog 68 #[(.slice a aN aC), (.slice d dN dC), (.bool direct), (.bool false)] w_ (post R fun v w1 =>
 ∃ (x11_0 : Option Addr) (x11_0N : Nat) (x11_0C : Nat) (x11_1 : Int), v = (.tuple #[(.slice x11_0 x11_0N x11_0C), (.int .i64 x11_1)]) ∧
 R (.returned (.tuple #[(.slice x11_0 x11_0N x11_0C), (.int .i64 x11_1)])) w1)

def pl43 : Plan := ⟨14, ⟨[]⟩, [], []⟩

theorem eq43 (a : Option Addr) (aN : Nat) (aC : Nat) (d : Option Addr) (dN : Nat) (dC : Nat) (direct : Bool) (w : World) (R : Ending → World → Prop) : F43 a aN aC d dN dC direct w R = vc Try.prog Try.f43 pl43 R 100000 [.code (bodyOf Try.f43)] (argEnv 0 #[(.slice a aN aC), (.slice d dN dC), (.bool direct)].toList) w := by kernel_rfl

theorem ok43 (a : Option Addr) (aN : Nat) (aC : Nat) (d : Option Addr) (dN : Nat) (dC : Nat) (direct : Bool) {w : World} {R : Ending → World → Prop} (h : F43 a aN aC d dN dC direct w R) : Calls Try.prog 43 #[(.slice a aN aC), (.slice d dN dC), (.bool direct)] w R :=
  vc_calls (pl := pl43) Try.func43 (by kernel_rfl) (by kernel_rfl) (by kernel_rfl) (Eq.mp (eq43 a aN aC d dN dC direct w R) h)

-- espalierref11.Nearest
def F47_j7 (L6 : Option Addr → Nat → Nat → Int → World → Prop) (i : Int) (l2 : Option Addr) (lN2 : Nat) (lC2 : Nat) (w_3 : World) (R : Ending → World → Prop) : Prop :=
 InR .i64 (i + (1 : Int)) ∧ L6 l2 lN2 lC2 (i + (1 : Int)) w_3

def F47_j11 (L10 : Int → Int → World → Prop) (k : Int) (best2 : Int) (w_4 : World) (R : Ending → World → Prop) : Prop :=
 InR .i64 (k + (1 : Int)) ∧ L10 best2 (k + (1 : Int)) w_4

def F47_l10 (a : Option Addr) (aN : Nat) (d : Option Addr) (dN : Nat) (l : Option Addr) (lN : Nat) (lC : Nat) (i : Int) (J7 : Option Addr → Nat → Nat → World → Prop) (L10 : Int → Int → World → Prop) (best : Int) (k : Int) (w_3 : World) (R : Ending → World → Prop) : Prop :=
 Br (decide (k < ((aN : Nat) : Int)))
 (∃ J11 : Int → World → Prop, (∀ (best2 : Int) (w1_3 : World), J11 best2 w1_3 → F47_j11 L10 k best2 w1_3 R) ∧
 (∃ S : World → Prop, S w_3.drew ∧ IdxA a aN k 4 fun q32 =>
 ∃ (x34_0 : Int), Held S (q32.add 1) (.int .u64 x34_0) ∧ ∃ (x34_1 : Int), Held S ((q32.add 1).add 1) (.int .u64 x34_1) ∧ ∃ (x34_2 : Int), Held S ((q32.add 1).add 2) (.int .i64 x34_2) ∧ IdxA d dN i 4 fun q37 =>
 ∃ (x39_0 : Int), Held S (q37.add 1) (.int .u64 x39_0) ∧ ∃ (x39_1 : Int), Held S ((q37.add 1).add 1) (.int .u64 x39_1) ∧ ∃ (x39_2 : Int), Held S ((q37.add 1).add 2) (.int .i64 x39_2) ∧ Calls Try.prog 21 #[(.agg #[(.int .u64 x34_0), (.int .u64 x34_1), (.int .i64 x34_2)]), (.agg #[(.int .u64 x39_0), (.int .u64 x39_1), (.int .i64 x39_2)])] w_3.drew (post R fun v2 w1_4 =>
 ∃ (x40 : Bool), v2 = (.bool x40) ∧
 Br x40
 (J11 k w1_4)
 (J11 best w1_4))))
 (Br (decide (best ≥ (0 : Int)))
 (∃ S : World → Prop, S w_3.drew ∧ IdxA a aN best 4 fun q47 =>
 ∃ (x49 : Int), Held S q47 (.int .u64 x49) ∧ IdxA d dN i 4 fun q52 =>
 ∃ (x54 : Int), Held S q52 (.int .u64 x54) ∧ Al w_3.drew #[(.int .u64 x49), (.int .u64 x54)] 53 fun g56 w1_4 =>
 Raw Try.prog (Builtin.append_ #[38, 38] 38 #[(.slice l lN lC), (.slice (some g56) 1 1)]) w1_4 fun v2 w1_5 =>
 ∃ (x57 : Option Addr) (x57N : Nat) (x57C : Nat), v2 = (.slice x57 x57N x57C) ∧
 J7 x57 x57N x57C w1_5)
 (J7 l lN lC w_3))

def F47_l6 (a : Option Addr) (aN : Nat) (d : Option Addr) (dN : Nat) (L6 : Option Addr → Nat → Nat → Int → World → Prop) (l : Option Addr) (lN : Nat) (lC : Nat) (i : Int) (w_2 : World) (R : Ending → World → Prop) : Prop :=
 Br (decide (i < ((dN : Nat) : Int)))
 (∃ J7 : Option Addr → Nat → Nat → World → Prop, (∀ (l2 : Option Addr) (lN2 : Nat) (lC2 : Nat) (w1_3 : World), J7 l2 lN2 lC2 w1_3 → F47_j7 L6 i l2 lN2 lC2 w1_3 R) ∧
 (∃ (I : Int → Int → World → Prop) (m : Int → Int → World → Nat), I ((-1) : Int) (0 : Int) w_2 ∧
 ∀ (best : Int) (k : Int) (w1_3 : World), I best k w1_3 → F47_l10 a aN d dN l lN lC i J7 (fun best' k' w2 => I best' k' w2 ∧ m best' k' w2 < m best k w1_3) best k w1_3 R))
 (R (.returned (.tuple #[(.slice l lN lC), (.int .i64 0)])) w_2)

def F47 (a : Option Addr) (aN : Nat) (aC : Nat) (d : Option Addr) (dN : Nat) (dC : Nat) (w_ : World) (R : Ending → World → Prop) : Prop :=
 Calls Try.prog 36 #[(.slice a aN aC), (.slice d dN dC)] w_ (post R fun v w1 =>
 ∃ (x13 : Int), v = (.int .i64 x13) ∧
 Br (x13 != (0 : Int))
 (R (.returned (.tuple #[(.slice none 0 0), (.int .i64 x13)])) w1)
 (Al w1 #[] 53 fun g17 w1_2 =>
 ∃ (I : Option Addr → Nat → Nat → Int → World → Prop) (m : Option Addr → Nat → Nat → Int → World → Nat), I (some g17) 0 0 (0 : Int) w1_2 ∧
 ∀ (l : Option Addr) (lN : Nat) (lC : Nat) (i : Int) (w1_3 : World), I l lN lC i w1_3 → F47_l6 a aN d dN (fun l' lN' lC' i' w2 => I l' lN' lC' i' w2 ∧ m l' lN' lC' i' w2 < m l lN lC i w1_3) l lN lC i w1_3 R))

def pl47 : Plan := ⟨59, ⟨[]⟩, [(11, ⟨[(9, (.s (.int .i64)))], [(9, 10), (30, 42)]⟩), (7, ⟨[(7, (.s .slice))], [(7, 8), (9, 58)]⟩)], [(10, ⟨[(9, (.s (.int .i64))), (10, (.s (.int .i64)))], [(9, 42)]⟩), (6, ⟨[(7, (.s .slice)), (8, (.s (.int .i64)))], [(7, 58)]⟩)]⟩

theorem eq47 (a : Option Addr) (aN : Nat) (aC : Nat) (d : Option Addr) (dN : Nat) (dC : Nat) (w : World) (R : Ending → World → Prop) : F47 a aN aC d dN dC w R = vc Try.prog Try.f47 pl47 R 100000 [.code (bodyOf Try.f47)] (argEnv 0 #[(.slice a aN aC), (.slice d dN dC)].toList) w := by kernel_rfl

theorem ok47 (a : Option Addr) (aN : Nat) (aC : Nat) (d : Option Addr) (dN : Nat) (dC : Nat) {w : World} {R : Ending → World → Prop} (h : F47 a aN aC d dN dC w R) : Calls Try.prog 47 #[(.slice a aN aC), (.slice d dN dC)] w R :=
  vc_calls (pl := pl47) Try.func47 (by kernel_rfl) (by kernel_rfl) (by kernel_rfl) (Eq.mp (eq47 a aN aC d dN dC w R) h)

end Go.Proofs.Ytaanlildniiijaa
