import Derived.Test.YtkmoeokfgkmlhaaVcSnd9
import Derived.Test.YtkmoeokfgkmlhaaProg
set_option linter.unusedVariables false
set_option maxRecDepth 100000
namespace Go.Proofs.Ytkmoeokfgkmlhaa
open Go.Vc
-- (*model.Model).Next
def F13_j13 (L8 : Option Addr → Nat → Nat → Int → World → Prop) (x27 : Int) (out2 : Option Addr) (outN2 : Nat) (outC2 : Nat) (w_3 : World) (R : Ending → World → Prop) : Prop :=
 InR .i64 (x27 + (1 : Int)) ∧ L8 out2 outN2 outC2 (x27 + (1 : Int)) w_3

def F13_l8 (m_ : Option Addr) (x17_1 : Option Addr) (x17_1N : Nat) (x17_2 : Bool) (L8 : Option Addr → Nat → Nat → Int → World → Prop) (out : Option Addr) (outN : Nat) (outC : Nat) (x27 : Int) (w_2 : World) (R : Ending → World → Prop) : Prop :=
 Br (decide (x27 < ((x17_1N : Nat) : Int)))
 (∃ J13 : Option Addr → Nat → Nat → World → Prop, (∀ (out2 : Option Addr) (outN2 : Nat) (outC2 : Nat) (w1_2 : World), J13 out2 outN2 outC2 w1_2 → F13_j13 L8 x27 out2 outN2 outC2 w1_2 R) ∧
 (IdxA x17_1 x17_1N x27 1 fun q29 =>
 LdI .i64 (w_2.cell? q29) fun x30 =>
 NonNil m_ fun p32 =>
 LdSl (w_2.cell? (p32.add 1)) fun x34 x34N x34C =>
 IdxA x34 x34N x30 1 fun q36 =>
 LdStr (w_2.cell? q36) fun x37 =>
 Br (x37.toList == (ByteArray.mk #[36]).toList)
 (Al w_2 #[(.string (ByteArray.mk #[]))] 9 fun g40 w1_2 =>
 Raw Try.prog (Builtin.append_ #[33, 33] 33 #[(.slice out outN outC), (.slice (some g40) 1 1)]) w1_2 fun v2 w1_3 =>
 ∃ (x41 : Option Addr) (x41N : Nat) (x41C : Nat), v2 = (.slice x41 x41N x41C) ∧
 J13 x41 x41N x41C w1_3)
 (NonNil m_ fun p44 =>
 LdSl (w_2.cell? (p44.add 1)) fun x46 x46N x46C =>
 IdxA x46 x46N x30 1 fun q48 =>
 LdStr (w_2.cell? q48) fun x49 =>
 Al w_2 #[(.string x49)] 9 fun g50 w1_2 =>
 Raw Try.prog (Builtin.append_ #[33, 33] 33 #[(.slice out outN outC), (.slice (some g50) 1 1)]) w1_2 fun v2 w1_3 =>
 ∃ (x51 : Option Addr) (x51N : Nat) (x51C : Nat), v2 = (.slice x51 x51N x51C) ∧
 J13 x51 x51N x51C w1_3)))
 (Calls Try.prog 30 #[(.slice out outN outC)] w_2 (post R fun v2 w1_2 =>
 v2 = (.tuple #[]) ∧
 Calls Try.prog 31 #[(.slice out outN outC)] w1_2 (post R fun v3 w1_3 =>
 ∃ (x56 : Option Addr) (x56N : Nat) (x56C : Nat), v3 = (.slice x56 x56N x56C) ∧
 R (.returned (.tuple #[(.slice x56 x56N x56C), (.bool x17_2)])) w1_3)))

def F13 (m_ : Option Addr) (names : Option Addr) (namesN : Nat) (namesC : Nat) (w_ : World) (R : Ending → World → Prop) : Prop :=
 Br (m_).isNone
 (R (.returned (.tuple #[(.slice none 0 0), (.bool false)])) w_)
 (Calls Try.prog 28 #[(.pointer m_), (.slice names namesN namesC)] w_ (post R fun v w1 =>
 ∃ (x17_0 : Int) (x17_1 : Option Addr) (x17_1N : Nat) (x17_1C : Nat) (x17_2 : Bool), v = (.tuple #[(.int .i64 x17_0), (.slice x17_1 x17_1N x17_1C), (.bool x17_2)]) ∧
 Br (decide (x17_0 < ((namesN : Nat) : Int)))
 (R (.returned (.tuple #[(.slice none 0 0), (.bool false)])) w1)
 (∃ (I : Option Addr → Nat → Nat → Int → World → Prop) (m : Option Addr → Nat → Nat → Int → World → Nat), I none 0 0 (0 : Int) w1 ∧
 ∀ (out : Option Addr) (outN : Nat) (outC : Nat) (x27 : Int) (w1_2 : World), I out outN outC x27 w1_2 → F13_l8 m_ x17_1 x17_1N x17_2 (fun out' outN' outC' x27' w2 => I out' outN' outC' x27' w2 ∧ m out' outN' outC' x27' w2 < m out outN outC x27 w1_2) out outN outC x27 w1_2 R)))

def pl13 : Plan := ⟨58, ⟨[]⟩, [(13, ⟨[(9, (.s .slice))], [(9, 12), (29, 52)]⟩)], [(8, ⟨[(9, (.s .slice)), (27, (.s (.int .i64)))], [(9, 12), (27, 53)]⟩)]⟩

theorem eq13 (m_ : Option Addr) (names : Option Addr) (namesN : Nat) (namesC : Nat) (w : World) (R : Ending → World → Prop) : F13 m_ names namesN namesC w R = vc Try.prog Try.f13 pl13 R 100000 [.code (bodyOf Try.f13)] (argEnv 0 #[(.pointer m_), (.slice names namesN namesC)].toList) w := by kernel_rfl

theorem ok13 (m_ : Option Addr) (names : Option Addr) (namesN : Nat) (namesC : Nat) {w : World} {R : Ending → World → Prop} (h : F13 m_ names namesN namesC w R) : Calls Try.prog 13 #[(.pointer m_), (.slice names namesN namesC)] w R :=
  vc_calls (pl := pl13) Try.func13 (by kernel_rfl) (by kernel_rfl) (by kernel_rfl) (Eq.mp (eq13 m_ names namesN namesC w R) h)

-- slices.Compact[[]string,string]
def F31_j10 (L9 : Int → Int → World → Prop) (k2_2 : Int) (k3 : Int) (w_4 : World) (R : Ending → World → Prop) : Prop :=
 InR .i64 (k2_2 + (1 : Int)) ∧ L9 k3 (k2_2 + (1 : Int)) w_4

def F31_l9 (s : Option Addr) (sN : Nat) (sC : Nat) (k : Int) (L9 : Int → Int → World → Prop) (k2 : Int) (k2_2 : Int) (w_3 : World) (R : Ending → World → Prop) : Prop :=
 Br (decide (k2_2 < ((((((sN : Nat) : Int)).toNat - (k).toNat) : Nat) : Int)))
 (∃ J10 : Int → World → Prop, (∀ (k3 : Int) (w1_2 : World), J10 k3 w1_2 → F31_j10 L9 k2_2 k3 w1_2 R) ∧
 (Dr w_3 fun w1_2 =>
 IdxA (SlA s sC (k).toNat 1) ((((sN : Nat) : Int)).toNat - (k).toNat) k2_2 1 fun q37 =>
 LdStr (w1_2.cell? q37) fun x38 =>
 InR .i64 (k2_2 - (1 : Int)) ∧ IdxA (SlA s sC (k).toNat 1) ((((sN : Nat) : Int)).toNat - (k).toNat) (k2_2 - (1 : Int)) 1 fun q42 =>
 LdStr (w1_2.cell? q42) fun x43 =>
 Br (!(x38.toList == x43.toList))
 (IdxA (SlA s sC (k).toNat 1) ((((sN : Nat) : Int)).toNat - (k).toNat) k2_2 1 fun q49 =>
 LdStr (w1_2.cell? q49) fun x50 =>
 IdxA s sN k2 1 fun q51 =>
 St w1_2 q51 (.string x50) fun w1_3 =>
 InR .i64 (k2 + (1 : Int)) ∧ J10 (k2 + (1 : Int)) w1_3)
 (J10 k2 w1_2)))
 (SlB k2 ((sN : Nat) : Int) ((sC : Nat) : Int)
 (Raw Try.prog (Builtin.clear_ #[33] 0 #[(.slice (SlA s sC (k2).toNat 1) ((((sN : Nat) : Int)).toNat - (k2).toNat) (sC - (k2).toNat))]) w_3 fun v w1_2 =>
 SlB 0 k2 ((sC : Nat) : Int)
 (R (.returned (.slice s (k2).toNat sC)) w1_2)))

def F31_l4 (s : Option Addr) (sN : Nat) (sC : Nat) (L4 : Int → World → Prop) (k : Int) (w_2 : World) (R : Ending → World → Prop) : Prop :=
 Br (decide (k < ((sN : Nat) : Int)))
 (Dr w_2 fun w1 =>
 IdxA s sN k 1 fun q18 =>
 LdStr (w1.cell? q18) fun x19 =>
 InR .i64 (k - (1 : Int)) ∧ IdxA s sN (k - (1 : Int)) 1 fun q23 =>
 LdStr (w1.cell? q23) fun x24 =>
 Br (x19.toList == x24.toList)
 (SlB k ((sN : Nat) : Int) ((sC : Nat) : Int)
 (∃ (I : Int → Int → World → Prop) (m : Int → Int → World → Nat), I k (1 : Int) w1 ∧
 ∀ (k2 : Int) (k2_2 : Int) (w1_2 : World), I k2 k2_2 w1_2 → F31_l9 s sN sC k (fun k2' k2_2' w2 => I k2' k2_2' w2 ∧ m k2' k2_2' w2 < m k2 k2_2 w1_2) k2 k2_2 w1_2 R))
 (InR .i64 (k + (1 : Int)) ∧ L4 (k + (1 : Int)) w1))
 (R (.returned (.slice s sN sC)) w_2)

def F31 (s : Option Addr) (sN : Nat) (sC : Nat) (w_ : World) (R : Ending → World → Prop) : Prop :=
 Br (decide (((sN : Nat) : Int) < (2 : Int)))
 (R (.returned (.slice s sN sC)) w_)
 (∃ (I : Int → World → Prop) (m : Int → World → Nat), I (1 : Int) w_ ∧
 ∀ (k : Int) (w1 : World), I k w1 → F31_l4 s sN sC (fun k' w2 => I k' w2 ∧ m k' w2 < m k w1) k w1 R)

def pl31 : Plan := ⟨61, ⟨[]⟩, [(10, ⟨[(3, (.s (.int .i64)))], [(3, 4), (35, 54)]⟩)], [(9, ⟨[(3, (.s (.int .i64))), (5, (.s (.int .i64)))], [(3, 4), (5, 54)]⟩), (4, ⟨[(3, (.s (.int .i64)))], [(2, 60)]⟩)]⟩

theorem eq31 (s : Option Addr) (sN : Nat) (sC : Nat) (w : World) (R : Ending → World → Prop) : F31 s sN sC w R = vc Try.prog Try.f31 pl31 R 100000 [.code (bodyOf Try.f31)] (argEnv 0 #[(.slice s sN sC)].toList) w := by kernel_rfl

theorem ok31 (s : Option Addr) (sN : Nat) (sC : Nat) {w : World} {R : Ending → World → Prop} (h : F31 s sN sC w R) : Calls Try.prog 31 #[(.slice s sN sC)] w R :=
  vc_calls (pl := pl31) Try.func31 (by kernel_rfl) (by kernel_rfl) (by kernel_rfl) (Eq.mp (eq31 s sN sC w R) h)

-- espalierlaw23.ModelBegins
def F4_j26 (x24_0 : Option Addr) (names : Option Addr) (namesN : Nat) (namesC : Nat) (w_2 : World) (R : Ending → World → Prop) : Prop :=
 Calls Try.prog 11 #[(.pointer x24_0), (.slice names namesN namesC)] w_2 (post R fun v2 w1_3 =>
 ∃ (x148_0 : Bool) (x148_1 : Int), v2 = (.tuple #[(.bool x148_0), (.int .i64 x148_1)]) ∧
 Br (x148_1 == ((namesN : Nat) : Int))
 (Calls Try.prog 7 #[] w1_3 (post R fun v3 w1_4 =>
 ∃ (x156 : Bool), v3 = (.bool x156) ∧
 R (.returned (.bool x156)) w1_4))
 (R (.returned (.bool false)) w1_3))

def F4_j15 (L14 : Bool → Bool → Int → World → Prop) (k : Int) (any2 : Bool) (is2 : Bool) (w_5 : World) (R : Ending → World → Prop) : Prop :=
 InR .i64 (k + (1 : Int)) ∧ L14 any2 is2 (k + (1 : Int)) w_5

def F4_j17 (other : ByteArray) (x47_0 : Option Addr) (x47_0N : Nat) (is : Bool) (k : Int) (J15 : Bool → Bool → World → Prop) (any2 : Bool) (w_5 : World) (R : Ending → World → Prop) : Prop :=
 Br is
 (J15 any2 true w_5)
 (IdxA x47_0 x47_0N k 1 fun q94 =>
 LdStr (w_5.cell? q94) fun x95 =>
 J15 any2 (x95.toList == other.toList) w_5)

def F4_j25 (L6 : Option Addr → Nat → Nat → Int → World → Prop) (names : Option Addr) (namesN : Nat) (namesC : Nat) (i : Int) (x : ByteArray) (w_6 : World) (R : Ending → World → Prop) : Prop :=
 Al w_6 #[(.string x)] 9 fun g143 w1_14 =>
 Raw Try.prog (Builtin.append_ #[33, 33] 33 #[(.slice names namesN namesC), (.slice (some g143) 1 1)]) w1_14 fun v9 w1_15 =>
 ∃ (x144 : Option Addr) (x144N : Nat) (x144C : Nat), v9 = (.slice x144 x144N x144C) ∧
 InR .i64 (i + (1 : Int)) ∧ L6 x144 x144N x144C (i + (1 : Int)) w1_15

def F4_j21 (turns : Option Addr) (turnsN : Nat) (other : ByteArray) (J26 : Option Addr → Nat → Nat → World → Prop) (L6 : Option Addr → Nat → Nat → Int → World → Prop) (names : Option Addr) (namesN : Nat) (namesC : Nat) (i : Int) (x47_0 : Option Addr) (x47_0N : Nat) (w_5 : World) (R : Ending → World → Prop) : Prop :=
 Br (((x47_0N : Nat) : Int) == (0 : Int))
 (J26 names namesN namesC w_5)
 (IdxA turns turnsN i 1 fun q130 =>
 LdI .u8 (w_5.cell? q130) fun x131 =>
 InR .i64 (x131) ∧ ((x47_0N : Nat) : Int) ≠ 0 ∧ IdxA x47_0 x47_0N ((x131).tmod ((x47_0N : Nat) : Int)) 1 fun q136 =>
 LdStr (w_5.cell? q136) fun x137 =>
 ∃ J25 : ByteArray → World → Prop, (∀ (x : ByteArray) (w1_14 : World), J25 x w1_14 → F4_j25 L6 names namesN namesC i x w1_14 R) ∧
 (Br (x137.toList == (ByteArray.mk #[46]).toList)
 (J25 other w_5)
 (J25 x137 w_5)))

def F4_l14 (turns : Option Addr) (turnsN : Nat) (other : ByteArray) (x24_0 : Option Addr) (J26 : Option Addr → Nat → Nat → World → Prop) (L6 : Option Addr → Nat → Nat → Int → World → Prop) (names : Option Addr) (namesN : Nat) (namesC : Nat) (i : Int) (x47_0 : Option Addr) (x47_0N : Nat) (L14 : Bool → Bool → Int → World → Prop) (any : Bool) (is : Bool) (k : Int) (w_4 : World) (R : Ending → World → Prop) : Prop :=
 Br (decide (k < ((x47_0N : Nat) : Int)))
 (∃ J15 : Bool → Bool → World → Prop, (∀ (any2 : Bool) (is2 : Bool) (w1_9 : World), J15 any2 is2 w1_9 → F4_j15 L14 k any2 is2 w1_9 R) ∧
 (∃ J17 : Bool → World → Prop, (∀ (any2 : Bool) (w1_9 : World), J17 any2 w1_9 → F4_j17 other x47_0 x47_0N is k J15 any2 w1_9 R) ∧
 (Br any
 (J17 true w_4)
 (IdxA x47_0 x47_0N k 1 fun q86 =>
 LdStr (w_4.cell? q86) fun x87 =>
 J17 (x87.toList == (ByteArray.mk #[46]).toList) w_4))))
 (Al w_4 #[] 9 fun g101 w1_9 =>
 Raw Try.prog (Builtin.append_ #[33, 33] 33 #[(.slice (some g101) 0 0), (.slice names namesN namesC)]) w1_9 fun v6 w1_10 =>
 ∃ (x103 : Option Addr) (x103N : Nat) (x103C : Nat), v6 = (.slice x103 x103N x103C) ∧
 Al w1_10 #[(.string other)] 9 fun g105 w1_11 =>
 Raw Try.prog (Builtin.append_ #[33, 33] 33 #[(.slice x103 x103N x103C), (.slice (some g105) 1 1)]) w1_11 fun v7 w1_12 =>
 ∃ (x106 : Option Addr) (x106N : Nat) (x106C : Nat), v7 = (.slice x106 x106N x106C) ∧
 Calls Try.prog 11 #[(.pointer x24_0), (.slice x106 x106N x106C)] w1_12 (post R fun v8 w1_13 =>
 ∃ (x107_0 : Bool) (x107_1 : Int), v8 = (.tuple #[(.bool x107_0), (.int .i64 x107_1)]) ∧
 ∃ J21 : World → Prop, (∀  (w1_14 : World), J21 w1_14 → F4_j21 turns turnsN other J26 L6 names namesN namesC i x47_0 x47_0N w1_14 R) ∧
 (InR .i64 (((namesN : Nat) : Int) + (1 : Int)) ∧ Br any
 (Br (!((x107_1 == (((namesN : Nat) : Int) + (1 : Int))) == true))
 (R (.returned (.bool false)) w1_13)
 (J21 w1_13))
 (Br is
 (Br (!((x107_1 == (((namesN : Nat) : Int) + (1 : Int))) == (!(other.toList == (ByteArray.mk #[46]).toList))))
 (R (.returned (.bool false)) w1_13)
 (J21 w1_13))
 (Br (!((x107_1 == (((namesN : Nat) : Int) + (1 : Int))) == false))
 (R (.returned (.bool false)) w1_13)
 (J21 w1_13))))))

def F4_j12 (turns : Option Addr) (turnsN : Nat) (other : ByteArray) (x24_0 : Option Addr) (J26 : Option Addr → Nat → Nat → World → Prop) (L6 : Option Addr → Nat → Nat → Int → World → Prop) (names : Option Addr) (namesN : Nat) (namesC : Nat) (i : Int) (x47_0 : Option Addr) (x47_0N : Nat) (w_3 : World) (R : Ending → World → Prop) : Prop :=
 ∃ (I : Bool → Bool → Int → World → Prop) (m : Bool → Bool → Int → World → Nat), I false false (0 : Int) w_3 ∧
 ∀ (any : Bool) (is : Bool) (k : Int) (w1_9 : World), I any is k w1_9 → F4_l14 turns turnsN other x24_0 J26 L6 names namesN namesC i x47_0 x47_0N (fun any' is' k' w2 => I any' is' k' w2 ∧ m any' is' k' w2 < m any is k w1_9) any is k w1_9 R

def F4_l6 (turns : Option Addr) (turnsN : Nat) (other : ByteArray) (x24_0 : Option Addr) (J26 : Option Addr → Nat → Nat → World → Prop) (L6 : Option Addr → Nat → Nat → Int → World → Prop) (names : Option Addr) (namesN : Nat) (namesC : Nat) (i : Int) (w_2 : World) (R : Ending → World → Prop) : Prop :=
 Br (decide (i < ((turnsN : Nat) : Int)))
 (Al w_2 #[] 9 fun g44 w1_3 =>
 Raw Try.prog (Builtin.append_ #[33, 33] 33 #[(.slice (some g44) 0 0), (.slice names namesN namesC)]) w1_3 fun v2 w1_4 =>
 ∃ (x46 : Option Addr) (x46N : Nat) (x46C : Nat), v2 = (.slice x46 x46N x46C) ∧
 Calls Try.prog 13 #[(.pointer x24_0), (.slice x46 x46N x46C)] w1_4 (post R fun v3 w1_5 =>
 ∃ (x47_0 : Option Addr) (x47_0N : Nat) (x47_0C : Nat) (x47_1 : Bool), v3 = (.tuple #[(.slice x47_0 x47_0N x47_0C), (.bool x47_1)]) ∧
 Al w1_5 #[] 9 fun g52 w1_6 =>
 Raw Try.prog (Builtin.append_ #[33, 33] 33 #[(.slice (some g52) 0 0), (.slice names namesN namesC)]) w1_6 fun v4 w1_7 =>
 ∃ (x54 : Option Addr) (x54N : Nat) (x54C : Nat), v4 = (.slice x54 x54N x54C) ∧
 Calls Try.prog 11 #[(.pointer x24_0), (.slice x54 x54N x54C)] w1_7 (post R fun v5 w1_8 =>
 ∃ (x55_0 : Bool) (x55_1 : Int), v5 = (.tuple #[(.bool x55_0), (.int .i64 x55_1)]) ∧
 ∃ J12 : World → Prop, (∀  (w1_9 : World), J12 w1_9 → F4_j12 turns turnsN other x24_0 J26 L6 names namesN namesC i x47_0 x47_0N w1_9 R) ∧
 (Br (!(x55_0 == x47_1))
 (R (.returned (.bool false)) w1_8)
 (Br (x55_1 != ((namesN : Nat) : Int))
 (R (.returned (.bool false)) w1_8)
 (Br (!x55_0)
 (Br (((x47_0N : Nat) : Int) == (0 : Int))
 (R (.returned (.bool false)) w1_8)
 (J12 w1_8))
 (J12 w1_8)))))))
 (J26 names namesN namesC w_2)

def F4 (s : ByteArray) (turns : Option Addr) (turnsN : Nat) (turnsC : Nat) (other : ByteArray) (w_ : World) (R : Ending → World → Prop) : Prop :=
 Calls Try.prog 5 #[(.string s)] w_ (post R fun v w1 =>
 ∃ (x24_0 : Option Addr) (x24_1 : Int) (x24_2 : Int), v = (.tuple #[(.pointer x24_0), (.int .i64 x24_1), (.int .i64 x24_2)]) ∧
 Br (x24_0).isNone
 (Br (x24_2 != (0 : Int))
 (Calls Try.prog 7 #[] w1 (post R fun v2 w1_2 =>
 ∃ (x33 : Bool), v2 = (.bool x33) ∧
 R (.returned (.bool x33)) w1_2))
 (R (.returned (.bool false)) w1))
 (Al w1 #[] 9 fun g35 w1_2 =>
 ∃ J26 : Option Addr → Nat → Nat → World → Prop, (∀ (names : Option Addr) (namesN : Nat) (namesC : Nat) (w1_3 : World), J26 names namesN namesC w1_3 → F4_j26 x24_0 names namesN namesC w1_3 R) ∧
 (∃ (I : Option Addr → Nat → Nat → Int → World → Prop) (m : Option Addr → Nat → Nat → Int → World → Nat), I (some g35) 0 0 (0 : Int) w1_2 ∧
 ∀ (names : Option Addr) (namesN : Nat) (namesC : Nat) (i : Int) (w1_3 : World), I names namesN namesC i w1_3 → F4_l6 turns turnsN other x24_0 J26 (fun names' namesN' namesC' i' w2 => I names' namesN' namesC' i' w2 ∧ m names' namesN' namesC' i' w2 < m names namesN namesC i w1_3) names namesN namesC i w1_3 R)))

def pl4 : Plan := ⟨158, ⟨[]⟩, [(17, ⟨[(16, (.s .bool))], [(16, 17), (82, 90)]⟩), (15, ⟨[(16, (.s .bool)), (17, (.s .bool))], [(16, 18), (82, 99)]⟩), (25, ⟨[(19, (.s .str))], [(19, 141)]⟩), (21, ⟨[], [(6, 7), (110, 124)]⟩), (12, ⟨[], [(6, 7), (58, 76)]⟩), (26, ⟨[(10, (.s .slice))], [(6, 7), (10, 145)]⟩)], [(14, ⟨[(16, (.s .bool)), (17, (.s .bool)), (18, (.s (.int .i64)))], [(16, 99)]⟩), (6, ⟨[(10, (.s .slice)), (11, (.s (.int .i64)))], [(6, 7), (10, 145)]⟩)]⟩

theorem eq4 (s : ByteArray) (turns : Option Addr) (turnsN : Nat) (turnsC : Nat) (other : ByteArray) (w : World) (R : Ending → World → Prop) : F4 s turns turnsN turnsC other w R = vc Try.prog Try.f4 pl4 R 100000 [.code (bodyOf Try.f4)] (argEnv 0 #[(.string s), (.slice turns turnsN turnsC), (.string other)].toList) w := by kernel_rfl

theorem ok4 (s : ByteArray) (turns : Option Addr) (turnsN : Nat) (turnsC : Nat) (other : ByteArray) {w : World} {R : Ending → World → Prop} (h : F4 s turns turnsN turnsC other w R) : Calls Try.prog 4 #[(.string s), (.slice turns turnsN turnsC), (.string other)] w R :=
  vc_calls (pl := pl4) Try.func4 (by kernel_rfl) (by kernel_rfl) (by kernel_rfl) (Eq.mp (eq4 s turns turnsN turnsC other w R) h)

end Go.Proofs.Ytkmoeokfgkmlhaa
