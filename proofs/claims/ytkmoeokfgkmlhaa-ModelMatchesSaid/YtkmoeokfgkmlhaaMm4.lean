import Derived.Test.YtkmoeokfgkmlhaaProg
import Derived.Lib.AppendStr
import Derived.Lib.UnsafeStr
import Derived.Lib.Builder
import Derived.Laws.Externs
import Derived.Laws.IdiomCopy
import Derived.Test.YtkmoeokfgkmlhaaMm3
set_option linter.unusedVariables false
set_option maxRecDepth 100000
namespace Go.Proofs.Ytkmoeokfgkmlhaa
open Go.Vc
-- espalierref23.Of
def F8 (rows : Option Addr) (rowsN : Nat) (rowsC : Nat) (w_ : World) (R : Ending → World → Prop) : Prop :=
 Al w_ #[(.slice none 0 0), (.slice none 0 0), (.slice none 0 0), (.slice none 0 0), (.bool false)] 64 fun g6 w1 =>
 Calls Try.prog 25 #[(.pointer (some g6)), (.slice rows rowsN rowsC)] w1 (post R fun v w1_2 =>
 ∃ (x9_0 : Option Addr) (x9_0N : Nat) (x9_0C : Nat) (x9_1 : Option Addr) (x9_1N : Nat) (x9_1C : Nat) (x9_2 : Bool), v = (.agg #[(.slice x9_0 x9_0N x9_0C), (.slice x9_1 x9_1N x9_1C), (.bool x9_2)]) ∧
 Al w1_2 #[(.slice none 0 0), (.slice none 0 0), (.bool false)] 66 fun g4 w1_3 =>
 St w1_3 g4 (.slice x9_0 x9_0N x9_0C) fun w1_4 =>
 St w1_4 (g4.add 1) (.slice x9_1 x9_1N x9_1C) fun w1_5 =>
 St w1_5 (g4.add 2) (.bool x9_2) fun w1_6 =>
 ∃ S : World → Prop, S w1_6.drew ∧ ∃ (x14 : Option Addr) (x14N : Nat) (x14C : Nat), Held S g4 (.slice x14 x14N x14C) ∧ ∃ (x16 : Option Addr) (x16N : Nat) (x16C : Nat), Held S (g4.add 1) (.slice x16 x16N x16C) ∧ ∃ (x18 : Bool), Held S (g4.add 2) (.bool x18) ∧ St w1_6.drew (g6.add 1) (.slice x14 x14N x14C) fun w1_8 =>
 S w1_8 ∧ St w1_8 (g6.add 3) (.slice x16 x16N x16C) fun w1_9 =>
 S w1_9 ∧ St w1_9 (g6.add 4) (.bool x18) fun w1_10 =>
 R (.returned (.pointer (some g6))) w1_10)

def pl8 : Plan := ⟨26, ⟨[]⟩, [], []⟩

theorem eq8 (rows : Option Addr) (rowsN : Nat) (rowsC : Nat) (w : World) (R : Ending → World → Prop) : F8 rows rowsN rowsC w R = vc Try.prog Try.f8 pl8 R 100000 [.code (bodyOf Try.f8)] (argEnv 0 #[(.slice rows rowsN rowsC)].toList) w := by kernel_rfl

theorem ok8 (rows : Option Addr) (rowsN : Nat) (rowsC : Nat) {w : World} {R : Ending → World → Prop} (h : F8 rows rowsN rowsC w R) : Calls Try.prog 8 #[(.slice rows rowsN rowsC)] w R :=
  vc_calls (pl := pl8) Try.func8 (by kernel_rfl) (by kernel_rfl) (by kernel_rfl) (Eq.mp (eq8 rows rowsN rowsC w R) h)

-- (*espalierref23.Places).choices
def F25_j4 (L3 : Int → World → Prop) (i : Int) (w_3 : World) (R : Ending → World → Prop) : Prop :=
 InR .i64 (i + (1 : Int)) ∧ L3 (i + (1 : Int)) w_3

def F25_l3 (p : Option Addr) (rows : Option Addr) (rowsN : Nat) (g4 : Addr) (g5 : Addr) (L3 : Int → World → Prop) (i : Int) (w_2 : World) (R : Ending → World → Prop) : Prop :=
 Br (decide (i < ((rowsN : Nat) : Int)))
 (∃ J4 : World → Prop, (∀  (w1_6 : World), J4 w1_6 → F25_j4 L3 i w1_6 R) ∧
 (IdxA rows rowsN i 1 fun q18 =>
 LdSl (w_2.cell? q18) fun x19 x19N x19C =>
 Calls Try.prog 41 #[(.pointer p), (.slice x19 x19N x19C)] w_2 (post R fun v w1_6 =>
 ∃ (x20_0 : Option Addr) (x20_0N : Nat) (x20_0C : Nat) (x20_1 : Option Addr) (x20_1N : Nat) (x20_1C : Nat) (x20_2 : Bool), v = (.agg #[(.slice x20_0 x20_0N x20_0C), (.slice x20_1 x20_1N x20_1C), (.bool x20_2)]) ∧
 Al w1_6 #[(.slice none 0 0), (.slice none 0 0), (.bool false)] 66 fun y w1_7 =>
 St w1_7 y (.slice x20_0 x20_0N x20_0C) fun w1_8 =>
 St w1_8 (y.add 1) (.slice x20_1 x20_1N x20_1C) fun w1_9 =>
 St w1_9 (y.add 2) (.bool x20_2) fun w1_10 =>
 ∃ S : World → Prop, S w1_10.drew ∧ ∃ (x22 : Option Addr) (x22N : Nat) (x22C : Nat), Held S g5 (.slice x22 x22N x22C) ∧ ∃ (x24 : Option Addr) (x24N : Nat) (x24C : Nat), Held S y (.slice x24 x24N x24C) ∧ ∃ (x27 : Option Addr) (x27N : Nat) (x27C : Nat), Held S (g5.add 1) (.slice x27 x27N x27C) ∧ ∃ (x29 : Option Addr) (x29N : Nat) (x29C : Nat), Held S (y.add 1) (.slice x29 x29N x29C) ∧ ∃ (x32 : Bool), Held S (g5.add 2) (.bool x32) ∧ Calls Try.prog 42 #[(.slice x22 x22N x22C), (.slice x24 x24N x24C)] w1_10.drew (post R fun v2 w1_12 =>
 ∃ (x25 : Option Addr) (x25N : Nat) (x25C : Nat), v2 = (.slice x25 x25N x25C) ∧
 S w1_12 ∧ Calls Try.prog 42 #[(.slice x27 x27N x27C), (.slice x29 x29N x29C)] w1_12 (post R fun v3 w1_13 =>
 ∃ (x30 : Option Addr) (x30N : Nat) (x30C : Nat), v3 = (.slice x30 x30N x30C) ∧
 S w1_13 ∧ Br x32
 (St w1_13 g5 (.slice x25 x25N x25C) fun w1_14 =>
 St w1_14 (g5.add 1) (.slice x30 x30N x30C) fun w1_15 =>
 St w1_15 (g5.add 2) (.bool true) fun w1_16 =>
 J4 w1_16)
 (∃ (x35 : Bool), Held S (y.add 2) (.bool x35) ∧ St w1_13 g5 (.slice x25 x25N x25C) fun w1_14 =>
 St w1_14 (g5.add 1) (.slice x30 x30N x30C) fun w1_15 =>
 St w1_15 (g5.add 2) (.bool x35) fun w1_16 =>
 J4 w1_16))))))
 (LdSl (w_2.cell? g5) fun x38_0 x38_0N x38_0C =>
 LdSl (w_2.cell? (g5.add 1)) fun x38_1 x38_1N x38_1C =>
 LdB (w_2.cell? (g5.add 2)) fun x38_2 =>
 St w_2 g4 (.slice x38_0 x38_0N x38_0C) fun w1_6 =>
 St w1_6 (g4.add 1) (.slice x38_1 x38_1N x38_1C) fun w1_7 =>
 St w1_7 (g4.add 2) (.bool x38_2) fun w1_8 =>
 LdSl (w1_8.cell? g4) fun res0_0 res0_0N res0_0C =>
 LdSl (w1_8.cell? (g4.add 1)) fun res0_1 res0_1N res0_1C =>
 LdB (w1_8.cell? (g4.add 2)) fun res0_2 =>
 R (.returned (.agg #[(.slice res0_0 res0_0N res0_0C), (.slice res0_1 res0_1N res0_1C), (.bool res0_2)])) w1_8)

def F25 (p : Option Addr) (rows : Option Addr) (rowsN : Nat) (rowsC : Nat) (w_ : World) (R : Ending → World → Prop) : Prop :=
 Al w_ #[(.slice none 0 0), (.slice none 0 0), (.bool false)] 66 fun g4 w1 =>
 Al w1 #[(.slice none 0 0), (.slice none 0 0), (.bool false)] 66 fun g5 w1_2 =>
 St w1_2 g5 (.slice none 0 0) fun w1_3 =>
 St w1_3 (g5.add 1) (.slice none 0 0) fun w1_4 =>
 St w1_4 (g5.add 2) (.bool false) fun w1_5 =>
 ∃ (I : Int → World → Prop) (m : Int → World → Nat), I (0 : Int) w1_5 ∧
 ∀ (i : Int) (w1_6 : World), I i w1_6 → F25_l3 p rows rowsN g4 g5 (fun i' w2 => I i' w2 ∧ m i' w2 < m i w1_6) i w1_6 R

def pl25 : Plan := ⟨39, ⟨[]⟩, [(4, ⟨[], [(7, 38)]⟩)], [(3, ⟨[(6, (.s (.int .i64)))], [(6, 38)]⟩)]⟩

theorem eq25 (p : Option Addr) (rows : Option Addr) (rowsN : Nat) (rowsC : Nat) (w : World) (R : Ending → World → Prop) : F25 p rows rowsN rowsC w R = vc Try.prog Try.f25 pl25 R 100000 [.code (bodyOf Try.f25)] (argEnv 0 #[(.pointer p), (.slice rows rowsN rowsC)].toList) w := by kernel_rfl

theorem ok25 (p : Option Addr) (rows : Option Addr) (rowsN : Nat) (rowsC : Nat) {w : World} {R : Ending → World → Prop} (h : F25 p rows rowsN rowsC w R) : Calls Try.prog 25 #[(.pointer p), (.slice rows rowsN rowsC)] w R :=
  vc_calls (pl := pl25) Try.func25 (by kernel_rfl) (by kernel_rfl) (by kernel_rfl) (Eq.mp (eq25 p rows rowsN rowsC w R) h)

-- (*espalierref23.Places).row
def F41_j12 (g5 : Addr) (L3 : Int → World → Prop) (i : Int) (z : Addr) (w_5 : World) (R : Ending → World → Prop) : Prop :=
 LdSl (w_5.cell? z) fun x55_0 x55_0N x55_0C =>
 LdSl (w_5.cell? (z.add 1)) fun x55_1 x55_1N x55_1C =>
 LdB (w_5.cell? (z.add 2)) fun x55_2 =>
 St w_5 g5 (.slice x55_0 x55_0N x55_0C) fun w1_12 =>
 St w1_12 (g5.add 1) (.slice x55_1 x55_1N x55_1C) fun w1_13 =>
 St w1_13 (g5.add 2) (.bool x55_2) fun w1_14 =>
 InR .i64 (i + (1 : Int)) ∧ L3 (i + (1 : Int)) w1_14

def F41_j10 (g5 : Addr) (L3 : Int → World → Prop) (i : Int) (y : Addr) (z : Addr) (w_4 : World) (R : Ending → World → Prop) : Prop :=
 ∃ J12 : World → Prop, (∀  (w1_12 : World), J12 w1_12 → F41_j12 g5 L3 i z w1_12 R) ∧
 (LdB (w_4.cell? (y.add 2)) fun x48 =>
 Br x48
 (LdSl (w_4.cell? (g5.add 1)) fun x50 x50N x50C =>
 LdSl (w_4.cell? (y.add 1)) fun x52 x52N x52C =>
 Calls Try.prog 42 #[(.slice x50 x50N x50C), (.slice x52 x52N x52C)] w_4 (post R fun v3 w1_12 =>
 ∃ (x53 : Option Addr) (x53N : Nat) (x53C : Nat), v3 = (.slice x53 x53N x53C) ∧
 St w1_12 (z.add 1) (.slice x53 x53N x53C) fun w1_13 =>
 J12 w1_13))
 (J12 w_4))

def F41_j8 (g5 : Addr) (L3 : Int → World → Prop) (i : Int) (y : Addr) (z : Addr) (w_3 : World) (R : Ending → World → Prop) : Prop :=
 ∃ J10 : World → Prop, (∀  (w1_12 : World), J10 w1_12 → F41_j10 g5 L3 i y z w1_12 R) ∧
 (LdB (w_3.cell? (g5.add 2)) fun x40 =>
 Br x40
 (LdSl (w_3.cell? g5) fun x42 x42N x42C =>
 LdSl (w_3.cell? y) fun x44 x44N x44C =>
 Calls Try.prog 42 #[(.slice x42 x42N x42C), (.slice x44 x44N x44C)] w_3 (post R fun v3 w1_12 =>
 ∃ (x45 : Option Addr) (x45N : Nat) (x45C : Nat), v3 = (.slice x45 x45N x45C) ∧
 St w1_12 z (.slice x45 x45N x45C) fun w1_13 =>
 J10 w1_13))
 (J10 w_3))

def F41_l3 (p : Option Addr) (l : Option Addr) (lN : Nat) (g4 : Addr) (g5 : Addr) (L3 : Int → World → Prop) (i : Int) (w_2 : World) (R : Ending → World → Prop) : Prop :=
 Br (decide (i < ((lN : Nat) : Int)))
 (IdxA l lN i 4 fun q19 =>
 LdI .u8 (w_2.cell? q19) fun x20_0 =>
 LdI .u8 (w_2.cell? (q19.add 1)) fun x20_1 =>
 LdStr (w_2.cell? (q19.add 2)) fun x20_2 =>
 LdSl (w_2.cell? (q19.add 3)) fun x20_3 x20_3N x20_3C =>
 Calls Try.prog 55 #[(.pointer p), (.agg #[(.int .u8 x20_0), (.int .u8 x20_1), (.string x20_2), (.slice x20_3 x20_3N x20_3C)])] w_2 (post R fun v w1_6 =>
 ∃ (x21_0 : Option Addr) (x21_0N : Nat) (x21_0C : Nat) (x21_1 : Option Addr) (x21_1N : Nat) (x21_1C : Nat) (x21_2 : Bool), v = (.agg #[(.slice x21_0 x21_0N x21_0C), (.slice x21_1 x21_1N x21_1C), (.bool x21_2)]) ∧
 Al w1_6 #[(.slice none 0 0), (.slice none 0 0), (.bool false)] 66 fun y w1_7 =>
 St w1_7 y (.slice x21_0 x21_0N x21_0C) fun w1_8 =>
 St w1_8 (y.add 1) (.slice x21_1 x21_1N x21_1C) fun w1_9 =>
 St w1_9 (y.add 2) (.bool x21_2) fun w1_10 =>
 LdSl (w1_10.cell? (g5.add 1)) fun x24 x24N x24C =>
 LdSl (w1_10.cell? y) fun x26 x26N x26C =>
 Calls Try.prog 56 #[(.pointer p), (.slice x24 x24N x24C), (.slice x26 x26N x26C)] w1_10 (post R fun v2 w1_11 =>
 v2 = (.tuple #[]) ∧
 ∃ J8 : Addr → World → Prop, (∀ (z : Addr) (w1_12 : World), J8 z w1_12 → F41_j8 g5 L3 i y z w1_12 R) ∧
 (LdSl (w1_11.cell? g5) fun x29 x29N x29C =>
 LdSl (w1_11.cell? (y.add 1)) fun x31 x31N x31C =>
 LdB (w1_11.cell? (g5.add 2)) fun x33 =>
 Br x33
 (LdB (w1_11.cell? (y.add 2)) fun x36 =>
 Al w1_11 #[(.slice none 0 0), (.slice none 0 0), (.bool false)] 66 fun z w1_12 =>
 St w1_12 z (.slice x29 x29N x29C) fun w1_13 =>
 St w1_13 (z.add 1) (.slice x31 x31N x31C) fun w1_14 =>
 St w1_14 (z.add 2) (.bool x36) fun w1_15 =>
 J8 z w1_15)
 (Al w1_11 #[(.slice none 0 0), (.slice none 0 0), (.bool false)] 66 fun z w1_12 =>
 St w1_12 z (.slice x29 x29N x29C) fun w1_13 =>
 St w1_13 (z.add 1) (.slice x31 x31N x31C) fun w1_14 =>
 St w1_14 (z.add 2) (.bool false) fun w1_15 =>
 J8 z w1_15)))))
 (LdSl (w_2.cell? g5) fun x56_0 x56_0N x56_0C =>
 LdSl (w_2.cell? (g5.add 1)) fun x56_1 x56_1N x56_1C =>
 LdB (w_2.cell? (g5.add 2)) fun x56_2 =>
 St w_2 g4 (.slice x56_0 x56_0N x56_0C) fun w1_6 =>
 St w1_6 (g4.add 1) (.slice x56_1 x56_1N x56_1C) fun w1_7 =>
 St w1_7 (g4.add 2) (.bool x56_2) fun w1_8 =>
 LdSl (w1_8.cell? g4) fun res0_0 res0_0N res0_0C =>
 LdSl (w1_8.cell? (g4.add 1)) fun res0_1 res0_1N res0_1C =>
 LdB (w1_8.cell? (g4.add 2)) fun res0_2 =>
 R (.returned (.agg #[(.slice res0_0 res0_0N res0_0C), (.slice res0_1 res0_1N res0_1C), (.bool res0_2)])) w1_8)

def F41 (p : Option Addr) (l : Option Addr) (lN : Nat) (lC : Nat) (w_ : World) (R : Ending → World → Prop) : Prop :=
 Al w_ #[(.slice none 0 0), (.slice none 0 0), (.bool false)] 66 fun g4 w1 =>
 Al w1 #[(.slice none 0 0), (.slice none 0 0), (.bool false)] 66 fun g5 w1_2 =>
 St w1_2 g5 (.slice none 0 0) fun w1_3 =>
 St w1_3 (g5.add 1) (.slice none 0 0) fun w1_4 =>
 St w1_4 (g5.add 2) (.bool true) fun w1_5 =>
 ∃ (I : Int → World → Prop) (m : Int → World → Nat), I (0 : Int) w1_5 ∧
 ∀ (i : Int) (w1_6 : World), I i w1_6 → F41_l3 p l lN g4 g5 (fun i' w2 => I i' w2 ∧ m i' w2 < m i w1_6) i w1_6 R

def pl41 : Plan := ⟨57, ⟨[]⟩, [(12, ⟨[], [(47, 55)]⟩), (10, ⟨[], [(39, 47)]⟩), (8, ⟨[(8, (.s .addr))], [(8, 39)]⟩)], [(3, ⟨[(6, (.s (.int .i64)))], [(6, 56)]⟩)]⟩

theorem eq41 (p : Option Addr) (l : Option Addr) (lN : Nat) (lC : Nat) (w : World) (R : Ending → World → Prop) : F41 p l lN lC w R = vc Try.prog Try.f41 pl41 R 100000 [.code (bodyOf Try.f41)] (argEnv 0 #[(.pointer p), (.slice l lN lC)].toList) w := by kernel_rfl

theorem ok41 (p : Option Addr) (l : Option Addr) (lN : Nat) (lC : Nat) {w : World} {R : Ending → World → Prop} (h : F41 p l lN lC w R) : Calls Try.prog 41 #[(.pointer p), (.slice l lN lC)] w R :=
  vc_calls (pl := pl41) Try.func41 (by kernel_rfl) (by kernel_rfl) (by kernel_rfl) (Eq.mp (eq41 p l lN lC w R) h)

-- (*espalierref23.Places).part
def F55_j15 (g4 : Addr) (g5 : Addr) (w_4 : World) (R : Ending → World → Prop) : Prop :=
 LdSl (w_4.cell? g5) fun x73_0 x73_0N x73_0C =>
 LdSl (w_4.cell? (g5.add 1)) fun x73_1 x73_1N x73_1C =>
 LdB (w_4.cell? (g5.add 2)) fun x73_2 =>
 St w_4 g4 (.slice x73_0 x73_0N x73_0C) fun w1_7 =>
 St w1_7 (g4.add 1) (.slice x73_1 x73_1N x73_1C) fun w1_8 =>
 St w1_8 (g4.add 2) (.bool x73_2) fun w1_9 =>
 LdSl (w1_9.cell? g4) fun res0_0 res0_0N res0_0C =>
 LdSl (w1_9.cell? (g4.add 1)) fun res0_1 res0_1N res0_1C =>
 LdB (w1_9.cell? (g4.add 2)) fun res0_2 =>
 R (.returned (.agg #[(.slice res0_0 res0_0N res0_0C), (.slice res0_1 res0_1N res0_1C), (.bool res0_2)])) w1_9

def F55_j13 (a : Addr) (g4 : Addr) (g5 : Addr) (w_3 : World) (R : Ending → World → Prop) : Prop :=
 ∃ J15 : World → Prop, (∀  (w1_7 : World), J15 w1_7 → F55_j15 g4 g5 w1_7 R) ∧
 (LdI .u8 (w_3.cell? (a.add 1)) fun x65 =>
 Br (x65 == (42 : Int))
 (St w_3 (g5.add 2) (.bool true) fun w1_7 =>
 J15 w1_7)
 (LdI .u8 (w_3.cell? (a.add 1)) fun x69 =>
 Br (x69 == (63 : Int))
 (St w_3 (g5.add 2) (.bool true) fun w1_7 =>
 J15 w1_7)
 (J15 w_3)))

def F55_j11 (p : Option Addr) (a : Addr) (g4 : Addr) (g5 : Addr) (w_2 : World) (R : Ending → World → Prop) : Prop :=
 ∃ J13 : World → Prop, (∀  (w1_7 : World), J13 w1_7 → F55_j13 a g4 g5 w1_7 R) ∧
 (LdI .u8 (w_2.cell? (a.add 1)) fun x51 =>
 Br (x51 == (42 : Int))
 (LdSl (w_2.cell? (g5.add 1)) fun x60 x60N x60C =>
 LdSl (w_2.cell? g5) fun x62 x62N x62C =>
 Calls Try.prog 56 #[(.pointer p), (.slice x60 x60N x60C), (.slice x62 x62N x62C)] w_2 (post R fun v w1_7 =>
 v = (.tuple #[]) ∧
 J13 w1_7))
 (LdI .u8 (w_2.cell? (a.add 1)) fun x55 =>
 Br (x55 == (43 : Int))
 (LdSl (w_2.cell? (g5.add 1)) fun x60 x60N x60C =>
 LdSl (w_2.cell? g5) fun x62 x62N x62C =>
 Calls Try.prog 56 #[(.pointer p), (.slice x60 x60N x60C), (.slice x62 x62N x62C)] w_2 (post R fun v w1_7 =>
 v = (.tuple #[]) ∧
 J13 w1_7))
 (J13 w_2)))

def F55 (p : Option Addr) (a_0 : Int) (a_1 : Int) (a_2 : ByteArray) (a_3 : Option Addr) (a_3N : Nat) (a_3C : Nat) (w_ : World) (R : Ending → World → Prop) : Prop :=
 Al w_ #[(.int .u8 a_0), (.int .u8 a_1), (.string a_2), (.slice a_3 a_3N a_3C)] 75 fun a w1 =>
 Al w1 #[(.slice none 0 0), (.slice none 0 0), (.bool false)] 66 fun g4 w1_2 =>
 Al w1_2 #[(.slice none 0 0), (.slice none 0 0), (.bool false)] 66 fun g5 w1_3 =>
 St w1_3 g5 (.slice none 0 0) fun w1_4 =>
 St w1_4 (g5.add 1) (.slice none 0 0) fun w1_5 =>
 St w1_5 (g5.add 2) (.bool false) fun w1_6 =>
 ∃ J11 : World → Prop, (∀  (w1_7 : World), J11 w1_7 → F55_j11 p a g4 g5 w1_7 R) ∧
 (LdI .u8 (w1_6.cell? a) fun x9 =>
 Br (x9 == (40 : Int))
 (LdSl (w1_6.cell? (a.add 3)) fun x45 x45N x45C =>
 Calls Try.prog 25 #[(.pointer p), (.slice x45 x45N x45C)] w1_6 (post R fun v w1_7 =>
 ∃ (x46_0 : Option Addr) (x46_0N : Nat) (x46_0C : Nat) (x46_1 : Option Addr) (x46_1N : Nat) (x46_1C : Nat) (x46_2 : Bool), v = (.agg #[(.slice x46_0 x46_0N x46_0C), (.slice x46_1 x46_1N x46_1C), (.bool x46_2)]) ∧
 St w1_7 g5 (.slice x46_0 x46_0N x46_0C) fun w1_8 =>
 St w1_8 (g5.add 1) (.slice x46_1 x46_1N x46_1C) fun w1_9 =>
 St w1_9 (g5.add 2) (.bool x46_2) fun w1_10 =>
 J11 w1_10))
 (Br (x9 == (45 : Int))
 (St w1_6 (g5.add 2) (.bool true) fun w1_7 =>
 J11 w1_7)
 (∃ S : World → Prop, S w1_6.drew ∧ NonNil p fun p12 =>
 ∃ (x14 : Option Addr) (x14N : Nat) (x14C : Nat), Held S p12 (.slice x14 x14N x14C) ∧ ∃ (x15_0 : Int), Held S a (.int .u8 x15_0) ∧ ∃ (x15_1 : Int), Held S (a.add 1) (.int .u8 x15_1) ∧ ∃ (x15_2 : ByteArray), Held S (a.add 2) (.string x15_2) ∧ ∃ (x15_3 : Option Addr) (x15_3N : Nat) (x15_3C : Nat), Held S (a.add 3) (.slice x15_3 x15_3N x15_3C) ∧ Al w1_6.drew #[(.int .u8 x15_0), (.int .u8 x15_1), (.string x15_2), (.slice x15_3 x15_3N x15_3C)] 75 fun g16 w1_8 =>
 S w1_8 ∧ Raw Try.prog (Builtin.append_ #[62, 62] 62 #[(.slice x14 x14N x14C), (.slice (some g16) 1 1)]) w1_8 fun v w1_9 =>
 ∃ (x17 : Option Addr) (x17N : Nat) (x17C : Nat), v = (.slice x17 x17N x17C) ∧
 NonNil p fun p18 =>
 St w1_9 p18 (.slice x17 x17N x17C) fun w1_10 =>
 NonNil p fun p22 =>
 LdSl (w1_10.cell? (p22.add 2)) fun x24 x24N x24C =>
 Al w1_10 #[(.slice none 0 0)] 56 fun g25 w1_11 =>
 Raw Try.prog (Builtin.append_ #[57, 57] 57 #[(.slice x24 x24N x24C), (.slice (some g25) 1 1)]) w1_11 fun v2 w1_12 =>
 ∃ (x26 : Option Addr) (x26N : Nat) (x26C : Nat), v2 = (.slice x26 x26N x26C) ∧
 NonNil p fun p27 =>
 St w1_12 (p27.add 2) (.slice x26 x26N x26C) fun w1_13 =>
 NonNil p fun p30 =>
 LdSl (w1_13.cell? p30) fun x32 x32N x32C =>
 InR .i64 (((x32N : Nat) : Int) - (1 : Int)) ∧ Al w1_13 #[(.int .i64 (((x32N : Nat) : Int) - (1 : Int)))] 3 fun g36 w1_14 =>
 Al w1_14 #[(.int .i64 (((x32N : Nat) : Int) - (1 : Int)))] 3 fun g38 w1_15 =>
 St w1_15 g5 (.slice (some g36) 1 1) fun w1_16 =>
 St w1_16 (g5.add 1) (.slice (some g38) 1 1) fun w1_17 =>
 J11 w1_17)))

def pl55 : Plan := ⟨74, ⟨[]⟩, [(15, ⟨[], [(64, 73)]⟩), (13, ⟨[], [(50, 64)]⟩), (11, ⟨[], [(6, 50)]⟩)], []⟩

theorem eq55 (p : Option Addr) (a_0 : Int) (a_1 : Int) (a_2 : ByteArray) (a_3 : Option Addr) (a_3N : Nat) (a_3C : Nat) (w : World) (R : Ending → World → Prop) : F55 p a_0 a_1 a_2 a_3 a_3N a_3C w R = vc Try.prog Try.f55 pl55 R 100000 [.code (bodyOf Try.f55)] (argEnv 0 #[(.pointer p), (.agg #[(.int .u8 a_0), (.int .u8 a_1), (.string a_2), (.slice a_3 a_3N a_3C)])].toList) w := by kernel_rfl

theorem ok55 (p : Option Addr) (a_0 : Int) (a_1 : Int) (a_2 : ByteArray) (a_3 : Option Addr) (a_3N : Nat) (a_3C : Nat) {w : World} {R : Ending → World → Prop} (h : F55 p a_0 a_1 a_2 a_3 a_3N a_3C w R) : Calls Try.prog 55 #[(.pointer p), (.agg #[(.int .u8 a_0), (.int .u8 a_1), (.string a_2), (.slice a_3 a_3N a_3C)])] w R :=
  vc_calls (pl := pl55) Try.func55 (by kernel_rfl) (by kernel_rfl) (by kernel_rfl) (Eq.mp (eq55 p a_0 a_1 a_2 a_3 a_3N a_3C w R) h)

-- (*espalierref23.Places).link
def F56_l1 (p : Option Addr) (last : Option Addr) (lastN : Nat) (first : Option Addr) (firstN : Nat) (firstC : Nat) (L1 : Int → World → Prop) (i : Int) (w_2 : World) (R : Ending → World → Prop) : Prop :=
 Br (decide (i < ((lastN : Nat) : Int)))
 (∃ S : World → Prop, S w_2.drew ∧ NonNil p fun p14 =>
 ∃ (x16 : Option Addr) (x16N : Nat) (x16C : Nat), Held S (p14.add 2) (.slice x16 x16N x16C) ∧ IdxA last lastN i 1 fun q19 =>
 ∃ (x20 : Int), Held S q19 (.int .i64 x20) ∧ NonNil p fun p22 =>
 ∃ (x24 : Option Addr) (x24N : Nat) (x24C : Nat), Held S (p22.add 2) (.slice x24 x24N x24C) ∧ IdxA last lastN i 1 fun q27 =>
 ∃ (x28 : Int), Held S q27 (.int .i64 x28) ∧ IdxA x24 x24N x28 1 fun q29 =>
 ∃ (x30 : Option Addr) (x30N : Nat) (x30C : Nat), Held S q29 (.slice x30 x30N x30C) ∧ Calls Try.prog 42 #[(.slice x30 x30N x30C), (.slice first firstN firstC)] w_2.drew (post R fun v w1_2 =>
 ∃ (x32 : Option Addr) (x32N : Nat) (x32C : Nat), v = (.slice x32 x32N x32C) ∧
 S w1_2 ∧ IdxA x16 x16N x20 1 fun q33 =>
 St w1_2 q33 (.slice x32 x32N x32C) fun w1_3 =>
 InR .i64 (i + (1 : Int)) ∧ L1 (i + (1 : Int)) w1_3))
 (R (.returned (.tuple #[])) w_2)

def F56 (p : Option Addr) (last : Option Addr) (lastN : Nat) (lastC : Nat) (first : Option Addr) (firstN : Nat) (firstC : Nat) (w_ : World) (R : Ending → World → Prop) : Prop :=
 ∃ (I : Int → World → Prop) (m : Int → World → Nat), I (0 : Int) w_ ∧
 ∀ (i : Int) (w1 : World), I i w1 → F56_l1 p last lastN first firstN firstC (fun i' w2 => I i' w2 ∧ m i' w2 < m i w1) i w1 R

def pl56 : Plan := ⟨34, ⟨[]⟩, [], [(1, ⟨[(6, (.s (.int .i64)))], [(6, 34)]⟩)]⟩

theorem eq56 (p : Option Addr) (last : Option Addr) (lastN : Nat) (lastC : Nat) (first : Option Addr) (firstN : Nat) (firstC : Nat) (w : World) (R : Ending → World → Prop) : F56 p last lastN lastC first firstN firstC w R = vc Try.prog Try.f56 pl56 R 100000 [.code (bodyOf Try.f56)] (argEnv 0 #[(.pointer p), (.slice last lastN lastC), (.slice first firstN firstC)].toList) w := by kernel_rfl

theorem ok56 (p : Option Addr) (last : Option Addr) (lastN : Nat) (lastC : Nat) (first : Option Addr) (firstN : Nat) (firstC : Nat) {w : World} {R : Ending → World → Prop} (h : F56 p last lastN lastC first firstN firstC w R) : Calls Try.prog 56 #[(.pointer p), (.slice last lastN lastC), (.slice first firstN firstC)] w R :=
  vc_calls (pl := pl56) Try.func56 (by kernel_rfl) (by kernel_rfl) (by kernel_rfl) (Eq.mp (eq56 p last lastN lastC first firstN firstC w R) h)

-- espalierref23.both
def F42 (a : Option Addr) (aN : Nat) (aC : Nat) (b : Option Addr) (bN : Nat) (bC : Nat) (w_ : World) (R : Ending → World → Prop) : Prop :=
 Al w_ #[] 3 fun g5 w1 =>
 Raw Try.prog (Builtin.append_ #[56, 56] 56 #[(.slice (some g5) 0 0), (.slice a aN aC)]) w1 fun v w1_2 =>
 ∃ (x7 : Option Addr) (x7N : Nat) (x7C : Nat), v = (.slice x7 x7N x7C) ∧
 Raw Try.prog (Builtin.append_ #[56, 56] 56 #[(.slice x7 x7N x7C), (.slice b bN bC)]) w1_2 fun v2 w1_3 =>
 ∃ (x9 : Option Addr) (x9N : Nat) (x9C : Nat), v2 = (.slice x9 x9N x9C) ∧
 R (.returned (.slice x9 x9N x9C)) w1_3

def pl42 : Plan := ⟨10, ⟨[]⟩, [], []⟩

theorem eq42 (a : Option Addr) (aN : Nat) (aC : Nat) (b : Option Addr) (bN : Nat) (bC : Nat) (w : World) (R : Ending → World → Prop) : F42 a aN aC b bN bC w R = vc Try.prog Try.f42 pl42 R 100000 [.code (bodyOf Try.f42)] (argEnv 0 #[(.slice a aN aC), (.slice b bN bC)].toList) w := by kernel_rfl

theorem ok42 (a : Option Addr) (aN : Nat) (aC : Nat) (b : Option Addr) (bN : Nat) (bC : Nat) {w : World} {R : Ending → World → Prop} (h : F42 a aN aC b bN bC w R) : Calls Try.prog 42 #[(.slice a aN aC), (.slice b bN bC)] w R :=
  vc_calls (pl := pl42) Try.func42 (by kernel_rfl) (by kernel_rfl) (by kernel_rfl) (Eq.mp (eq42 a aN aC b bN bC w R) h)

-- espalierref23.fits
def F59 (a_0 : Int) (a_1 : Int) (a_2 : ByteArray) (a_3 : Option Addr) (a_3N : Nat) (a_3C : Nat) (name : ByteArray) (w_ : World) (R : Ending → World → Prop) : Prop :=
 Al w_ #[(.int .u8 a_0), (.int .u8 a_1), (.string a_2), (.slice a_3 a_3N a_3C)] 75 fun a w1 =>
 LdI .u8 (w1.cell? a) fun x6 =>
 Br (x6 == (46 : Int))
 (R (.returned (.bool true)) w1)
 (LdI .u8 (w1.cell? a) fun x10 =>
 Br (x10 == (36 : Int))
 (Br (name.toList == (ByteArray.mk #[]).toList)
 (R (.returned (.bool true)) w1)
 (LdI .u8 (w1.cell? a) fun x19 =>
 Br (x19 == (97 : Int))
 (LdStr (w1.cell? (a.add 2)) fun x24 =>
 R (.returned (.bool (name.toList == x24.toList))) w1)
 (R (.returned (.bool false)) w1)))
 (LdI .u8 (w1.cell? a) fun x19 =>
 Br (x19 == (97 : Int))
 (LdStr (w1.cell? (a.add 2)) fun x24 =>
 R (.returned (.bool (name.toList == x24.toList))) w1)
 (R (.returned (.bool false)) w1)))

def pl59 : Plan := ⟨28, ⟨[]⟩, [], []⟩

theorem eq59 (a_0 : Int) (a_1 : Int) (a_2 : ByteArray) (a_3 : Option Addr) (a_3N : Nat) (a_3C : Nat) (name : ByteArray) (w : World) (R : Ending → World → Prop) : F59 a_0 a_1 a_2 a_3 a_3N a_3C name w R = vc Try.prog Try.f59 pl59 R 100000 [.code (bodyOf Try.f59)] (argEnv 0 #[(.agg #[(.int .u8 a_0), (.int .u8 a_1), (.string a_2), (.slice a_3 a_3N a_3C)]), (.string name)].toList) w := by kernel_rfl

theorem ok59 (a_0 : Int) (a_1 : Int) (a_2 : ByteArray) (a_3 : Option Addr) (a_3N : Nat) (a_3C : Nat) (name : ByteArray) {w : World} {R : Ending → World → Prop} (h : F59 a_0 a_1 a_2 a_3 a_3N a_3C name w R) : Calls Try.prog 59 #[(.agg #[(.int .u8 a_0), (.int .u8 a_1), (.string a_2), (.slice a_3 a_3N a_3C)]), (.string name)] w R :=
  vc_calls (pl := pl59) Try.func59 (by kernel_rfl) (by kernel_rfl) (by kernel_rfl) (Eq.mp (eq59 a_0 a_1 a_2 a_3 a_3N a_3C name w R) h)

-- espalierref23.has
def F47_l2 (l : Option Addr) (lN : Nat) (n : Int) (L2 : Int → World → Prop) (i : Int) (w_2 : World) (R : Ending → World → Prop) : Prop :=
 Br (decide (i < ((lN : Nat) : Int)))
 (IdxA l lN i 1 fun q14 =>
 LdI .i64 (w_2.cell? q14) fun x15 =>
 Br (x15 == n)
 (R (.returned (.bool true)) w_2)
 (InR .i64 (i + (1 : Int)) ∧ L2 (i + (1 : Int)) w_2))
 (R (.returned (.bool false)) w_2)

def F47 (l : Option Addr) (lN : Nat) (lC : Nat) (n : Int) (w_ : World) (R : Ending → World → Prop) : Prop :=
 ∃ (I : Int → World → Prop) (m : Int → World → Nat), I (0 : Int) w_ ∧
 ∀ (i : Int) (w1 : World), I i w1 → F47_l2 l lN n (fun i' w2 => I i' w2 ∧ m i' w2 < m i w1) i w1 R

def pl47 : Plan := ⟨18, ⟨[]⟩, [], [(2, ⟨[(5, (.s (.int .i64)))], [(4, 18)]⟩)]⟩

theorem eq47 (l : Option Addr) (lN : Nat) (lC : Nat) (n : Int) (w : World) (R : Ending → World → Prop) : F47 l lN lC n w R = vc Try.prog Try.f47 pl47 R 100000 [.code (bodyOf Try.f47)] (argEnv 0 #[(.slice l lN lC), (.int .i64 n)].toList) w := by kernel_rfl

theorem ok47 (l : Option Addr) (lN : Nat) (lC : Nat) (n : Int) {w : World} {R : Ending → World → Prop} (h : F47 l lN lC n w R) : Calls Try.prog 47 #[(.slice l lN lC), (.int .i64 n)] w R :=
  vc_calls (pl := pl47) Try.func47 (by kernel_rfl) (by kernel_rfl) (by kernel_rfl) (Eq.mp (eq47 l lN lC n w R) h)

-- (*espalierref23.Places).after
def F45_j4 (L3 : Option Addr → Nat → Nat → Int → World → Prop) (i : Int) (r2 : Option Addr) (rN2 : Nat) (rC2 : Nat) (w_3 : World) (R : Ending → World → Prop) : Prop :=
 InR .i64 (i + (1 : Int)) ∧ L3 r2 rN2 rC2 (i + (1 : Int)) w_3

def F45_l3 (p : Option Addr) (may : Option Addr) (mayN : Nat) (name : ByteArray) (L3 : Option Addr → Nat → Nat → Int → World → Prop) (r : Option Addr) (rN : Nat) (rC : Nat) (i : Int) (w_2 : World) (R : Ending → World → Prop) : Prop :=
 Br (decide (i < ((mayN : Nat) : Int)))
 (∃ J4 : Option Addr → Nat → Nat → World → Prop, (∀ (r2 : Option Addr) (rN2 : Nat) (rC2 : Nat) (w1_2 : World), J4 r2 rN2 rC2 w1_2 → F45_j4 L3 i r2 rN2 rC2 w1_2 R) ∧
 (∃ S : World → Prop, S w_2.drew ∧ NonNil p fun p17 =>
 ∃ (x19 : Option Addr) (x19N : Nat) (x19C : Nat), Held S p17 (.slice x19 x19N x19C) ∧ IdxA may mayN i 1 fun q22 =>
 ∃ (x23 : Int), Held S q22 (.int .i64 x23) ∧ IdxA x19 x19N x23 4 fun q24 =>
 ∃ (x25_0 : Int), Held S q24 (.int .u8 x25_0) ∧ ∃ (x25_1 : Int), Held S (q24.add 1) (.int .u8 x25_1) ∧ ∃ (x25_2 : ByteArray), Held S (q24.add 2) (.string x25_2) ∧ ∃ (x25_3 : Option Addr) (x25_3N : Nat) (x25_3C : Nat), Held S (q24.add 3) (.slice x25_3 x25_3N x25_3C) ∧ Calls Try.prog 59 #[(.agg #[(.int .u8 x25_0), (.int .u8 x25_1), (.string x25_2), (.slice x25_3 x25_3N x25_3C)]), (.string name)] w_2.drew (post R fun v w1_3 =>
 ∃ (x27 : Bool), v = (.bool x27) ∧
 S w1_3 ∧ Br x27
 (IdxA may mayN i 1 fun q32 =>
 ∃ (x33 : Int), Held S q32 (.int .i64 x33) ∧ Calls Try.prog 47 #[(.slice r rN rC), (.int .i64 x33)] w1_3 (post R fun v2 w1_4 =>
 ∃ (x34 : Bool), v2 = (.bool x34) ∧
 Br (!x34)
 (IdxA may mayN i 1 fun q40 =>
 LdI .i64 (w1_4.cell? q40) fun x41 =>
 Al w1_4 #[(.int .i64 x41)] 3 fun g42 w1_5 =>
 Raw Try.prog (Builtin.append_ #[56, 56] 56 #[(.slice r rN rC), (.slice (some g42) 1 1)]) w1_5 fun v3 w1_6 =>
 ∃ (x43 : Option Addr) (x43N : Nat) (x43C : Nat), v3 = (.slice x43 x43N x43C) ∧
 J4 x43 x43N x43C w1_6)
 (J4 r rN rC w1_4)))
 (J4 r rN rC w1_3))))
 (R (.returned (.slice r rN rC)) w_2)

def F45 (p : Option Addr) (may : Option Addr) (mayN : Nat) (mayC : Nat) (name : ByteArray) (w_ : World) (R : Ending → World → Prop) : Prop :=
 Al w_ #[] 3 fun g9 w1 =>
 ∃ (I : Option Addr → Nat → Nat → Int → World → Prop) (m : Option Addr → Nat → Nat → Int → World → Nat), I (some g9) 0 0 (0 : Int) w1 ∧
 ∀ (r : Option Addr) (rN : Nat) (rC : Nat) (i : Int) (w1_2 : World), I r rN rC i w1_2 → F45_l3 p may mayN name (fun r' rN' rC' i' w2 => I r' rN' rC' i' w2 ∧ m r' rN' rC' i' w2 < m r rN rC i w1_2) r rN rC i w1_2 R

def pl45 : Plan := ⟨45, ⟨[]⟩, [(4, ⟨[(7, (.s .slice))], [(7, 8), (16, 44)]⟩)], [(3, ⟨[(7, (.s .slice)), (8, (.s (.int .i64)))], [(7, 44)]⟩)]⟩

theorem eq45 (p : Option Addr) (may : Option Addr) (mayN : Nat) (mayC : Nat) (name : ByteArray) (w : World) (R : Ending → World → Prop) : F45 p may mayN mayC name w R = vc Try.prog Try.f45 pl45 R 100000 [.code (bodyOf Try.f45)] (argEnv 0 #[(.pointer p), (.slice may mayN mayC), (.string name)].toList) w := by kernel_rfl

theorem ok45 (p : Option Addr) (may : Option Addr) (mayN : Nat) (mayC : Nat) (name : ByteArray) {w : World} {R : Ending → World → Prop} (h : F45 p may mayN mayC name w R) : Calls Try.prog 45 #[(.pointer p), (.slice may mayN mayC), (.string name)] w R :=
  vc_calls (pl := pl45) Try.func45 (by kernel_rfl) (by kernel_rfl) (by kernel_rfl) (Eq.mp (eq45 p may mayN mayC name w R) h)

-- (*espalierref23.Places).next
def F46_j7 (L6 : Option Addr → Nat → Nat → Int → World → Prop) (k : Int) (r3 : Option Addr) (rN3 : Nat) (rC3 : Nat) (w_4 : World) (R : Ending → World → Prop) : Prop :=
 InR .i64 (k + (1 : Int)) ∧ L6 r3 rN3 rC3 (k + (1 : Int)) w_4

def F46_l6 (p : Option Addr) (at_ : Option Addr) (atN : Nat) (L3 : Option Addr → Nat → Nat → Int → World → Prop) (i : Int) (L6 : Option Addr → Nat → Nat → Int → World → Prop) (r2 : Option Addr) (rN2 : Nat) (rC2 : Nat) (k : Int) (w_3 : World) (R : Ending → World → Prop) : Prop :=
 Dr w_3 fun w1_2 =>
 NonNil p fun p17 =>
 LdSl (w1_2.cell? (p17.add 2)) fun x19 x19N x19C =>
 IdxA at_ atN i 1 fun q22 =>
 LdI .i64 (w1_2.cell? q22) fun x23 =>
 IdxA x19 x19N x23 1 fun q24 =>
 LdSl (w1_2.cell? q24) fun x25 x25N x25C =>
 Br (decide (k < ((x25N : Nat) : Int)))
 (∃ J7 : Option Addr → Nat → Nat → World → Prop, (∀ (r3 : Option Addr) (rN3 : Nat) (rC3 : Nat) (w1_3 : World), J7 r3 rN3 rC3 w1_3 → F46_j7 L6 k r3 rN3 rC3 w1_3 R) ∧
 (∃ S : World → Prop, S w1_2.drew ∧ NonNil p fun p32 =>
 ∃ (x34 : Option Addr) (x34N : Nat) (x34C : Nat), Held S (p32.add 2) (.slice x34 x34N x34C) ∧ IdxA at_ atN i 1 fun q37 =>
 ∃ (x38 : Int), Held S q37 (.int .i64 x38) ∧ IdxA x34 x34N x38 1 fun q39 =>
 ∃ (x40 : Option Addr) (x40N : Nat) (x40C : Nat), Held S q39 (.slice x40 x40N x40C) ∧ IdxA x40 x40N k 1 fun q42 =>
 ∃ (x43 : Int), Held S q42 (.int .i64 x43) ∧ Calls Try.prog 47 #[(.slice r2 rN2 rC2), (.int .i64 x43)] w1_2.drew (post R fun v w1_4 =>
 ∃ (x44 : Bool), v = (.bool x44) ∧
 Br (!x44)
 (∃ S2 : World → Prop, S2 w1_4.drew ∧ NonNil p fun p48 =>
 ∃ (x50 : Option Addr) (x50N : Nat) (x50C : Nat), Held S2 (p48.add 2) (.slice x50 x50N x50C) ∧ IdxA at_ atN i 1 fun q53 =>
 ∃ (x54 : Int), Held S2 q53 (.int .i64 x54) ∧ IdxA x50 x50N x54 1 fun q55 =>
 ∃ (x56 : Option Addr) (x56N : Nat) (x56C : Nat), Held S2 q55 (.slice x56 x56N x56C) ∧ IdxA x56 x56N k 1 fun q58 =>
 ∃ (x59 : Int), Held S2 q58 (.int .i64 x59) ∧ Al w1_4.drew #[(.int .i64 x59)] 3 fun g60 w1_6 =>
 Raw Try.prog (Builtin.append_ #[56, 56] 56 #[(.slice r2 rN2 rC2), (.slice (some g60) 1 1)]) w1_6 fun v2 w1_7 =>
 ∃ (x61 : Option Addr) (x61N : Nat) (x61C : Nat), v2 = (.slice x61 x61N x61C) ∧
 J7 x61 x61N x61C w1_7)
 (J7 r2 rN2 rC2 w1_4))))
 (InR .i64 (i + (1 : Int)) ∧ L3 r2 rN2 rC2 (i + (1 : Int)) w1_2)

def F46_l3 (p : Option Addr) (at_ : Option Addr) (atN : Nat) (L3 : Option Addr → Nat → Nat → Int → World → Prop) (r : Option Addr) (rN : Nat) (rC : Nat) (i : Int) (w_2 : World) (R : Ending → World → Prop) : Prop :=
 Br (decide (i < ((atN : Nat) : Int)))
 (∃ (I : Option Addr → Nat → Nat → Int → World → Prop) (m : Option Addr → Nat → Nat → Int → World → Nat), I r rN rC (0 : Int) w_2 ∧
 ∀ (r2 : Option Addr) (rN2 : Nat) (rC2 : Nat) (k : Int) (w1_2 : World), I r2 rN2 rC2 k w1_2 → F46_l6 p at_ atN L3 i (fun r2' rN2' rC2' k' w2 => I r2' rN2' rC2' k' w2 ∧ m r2' rN2' rC2' k' w2 < m r2 rN2 rC2 k w1_2) r2 rN2 rC2 k w1_2 R)
 (R (.returned (.slice r rN rC)) w_2)

def F46 (p : Option Addr) (at_ : Option Addr) (atN : Nat) (atC : Nat) (w_ : World) (R : Ending → World → Prop) : Prop :=
 Al w_ #[] 3 fun g8 w1 =>
 ∃ (I : Option Addr → Nat → Nat → Int → World → Prop) (m : Option Addr → Nat → Nat → Int → World → Nat), I (some g8) 0 0 (0 : Int) w1 ∧
 ∀ (r : Option Addr) (rN : Nat) (rC : Nat) (i : Int) (w1_2 : World), I r rN rC i w1_2 → F46_l3 p at_ atN (fun r' rN' rC' i' w2 => I r' rN' rC' i' w2 ∧ m r' rN' rC' i' w2 < m r rN rC i w1_2) r rN rC i w1_2 R

def pl46 : Plan := ⟨63, ⟨[]⟩, [(7, ⟨[(5, (.s .slice))], [(5, 6), (30, 62)]⟩)], [(6, ⟨[(5, (.s .slice)), (7, (.s (.int .i64)))], [(5, 6), (7, 62)]⟩), (3, ⟨[(5, (.s .slice)), (6, (.s (.int .i64)))], [(5, 62)]⟩)]⟩

theorem eq46 (p : Option Addr) (at_ : Option Addr) (atN : Nat) (atC : Nat) (w : World) (R : Ending → World → Prop) : F46 p at_ atN atC w R = vc Try.prog Try.f46 pl46 R 100000 [.code (bodyOf Try.f46)] (argEnv 0 #[(.pointer p), (.slice at_ atN atC)].toList) w := by kernel_rfl

theorem ok46 (p : Option Addr) (at_ : Option Addr) (atN : Nat) (atC : Nat) {w : World} {R : Ending → World → Prop} (h : F46 p at_ atN atC w R) : Calls Try.prog 46 #[(.pointer p), (.slice at_ atN atC)] w R :=
  vc_calls (pl := pl46) Try.func46 (by kernel_rfl) (by kernel_rfl) (by kernel_rfl) (Eq.mp (eq46 p at_ atN atC w R) h)

-- (*espalierref23.Places).run
def F29_j11 (L10 : Bool → Int → World → Prop) (k : Int) (matches_3 : Bool) (w_4 : World) (R : Ending → World → Prop) : Prop :=
 InR .i64 (k + (1 : Int)) ∧ L10 matches_3 (k + (1 : Int)) w_4

def F29_l10 (p : Option Addr) (L3 : Option Addr → Nat → Nat → Bool → Int → World → Prop) (i : Int) (x32 : Option Addr) (x32N : Nat) (x41 : Option Addr) (x41N : Nat) (x41C : Nat) (L10 : Bool → Int → World → Prop) (matches_2 : Bool) (k : Int) (w_3 : World) (R : Ending → World → Prop) : Prop :=
 Br (decide (k < ((x32N : Nat) : Int)))
 (∃ J11 : Bool → World → Prop, (∀ (matches_3 : Bool) (w1_4 : World), J11 matches_3 w1_4 → F29_j11 L10 k matches_3 w1_4 R) ∧
 (∃ S : World → Prop, S w_3.drew ∧ Br matches_2
 (J11 true w_3.drew)
 (NonNil p fun p51 =>
 ∃ (x53 : Option Addr) (x53N : Nat) (x53C : Nat), Held S (p51.add 3) (.slice x53 x53N x53C) ∧ IdxA x32 x32N k 1 fun q56 =>
 ∃ (x57 : Int), Held S q56 (.int .i64 x57) ∧ Calls Try.prog 47 #[(.slice x53 x53N x53C), (.int .i64 x57)] w_3.drew (post R fun v3 w1_5 =>
 ∃ (x58 : Bool), v3 = (.bool x58) ∧
 J11 x58 w1_5))))
 (InR .i64 (i + (1 : Int)) ∧ L3 x41 x41N x41C matches_2 (i + (1 : Int)) w_3)

def F29_l3 (p : Option Addr) (names : Option Addr) (namesN : Nat) (L3 : Option Addr → Nat → Nat → Bool → Int → World → Prop) (may : Option Addr) (mayN : Nat) (mayC : Nat) (matches_ : Bool) (i : Int) (w_2 : World) (R : Ending → World → Prop) : Prop :=
 Br (decide (i < ((namesN : Nat) : Int)))
 (IdxA names namesN i 1 fun q30 =>
 LdStr (w_2.cell? q30) fun x31 =>
 Calls Try.prog 45 #[(.pointer p), (.slice may mayN mayC), (.string x31)] w_2 (post R fun v w1_2 =>
 ∃ (x32 : Option Addr) (x32N : Nat) (x32C : Nat), v = (.slice x32 x32N x32C) ∧
 Br (((x32N : Nat) : Int) == (0 : Int))
 (R (.returned (.tuple #[(.int .i64 i), (.slice may mayN mayC), (.bool matches_)])) w1_2)
 (Calls Try.prog 46 #[(.pointer p), (.slice x32 x32N x32C)] w1_2 (post R fun v2 w1_3 =>
 ∃ (x41 : Option Addr) (x41N : Nat) (x41C : Nat), v2 = (.slice x41 x41N x41C) ∧
 ∃ (I : Bool → Int → World → Prop) (m : Bool → Int → World → Nat), I false (0 : Int) w1_3 ∧
 ∀ (matches_2 : Bool) (k : Int) (w1_4 : World), I matches_2 k w1_4 → F29_l10 p L3 i x32 x32N x41 x41N x41C (fun matches_2' k' w2 => I matches_2' k' w2 ∧ m matches_2' k' w2 < m matches_2 k w1_4) matches_2 k w1_4 R))))
 (R (.returned (.tuple #[(.int .i64 ((namesN : Nat) : Int)), (.slice may mayN mayC), (.bool matches_)])) w_2)

def F29 (p : Option Addr) (names : Option Addr) (namesN : Nat) (namesC : Nat) (w_ : World) (R : Ending → World → Prop) : Prop :=
 Dr w_ fun w1 =>
 NonNil p fun p13 =>
 LdSl (w1.cell? (p13.add 1)) fun x15 x15N x15C =>
 NonNil p fun p17 =>
 LdB (w1.cell? (p17.add 4)) fun x19 =>
 ∃ (I : Option Addr → Nat → Nat → Bool → Int → World → Prop) (m : Option Addr → Nat → Nat → Bool → Int → World → Nat), I x15 x15N x15C x19 (0 : Int) w1 ∧
 ∀ (may : Option Addr) (mayN : Nat) (mayC : Nat) (matches_ : Bool) (i : Int) (w1_2 : World), I may mayN mayC matches_ i w1_2 → F29_l3 p names namesN (fun may' mayN' mayC' matches_' i' w2 => I may' mayN' mayC' matches_' i' w2 ∧ m may' mayN' mayC' matches_' i' w2 < m may mayN mayC matches_ i w1_2) may mayN mayC matches_ i w1_2 R

def pl29 : Plan := ⟨64, ⟨[]⟩, [(11, ⟨[(8, (.s .bool))], [(8, 9), (48, 60)]⟩)], [(10, ⟨[(8, (.s .bool)), (11, (.s (.int .i64)))], [(8, 9), (11, 60)]⟩), (3, ⟨[(7, (.s .slice)), (8, (.s .bool)), (9, (.s (.int .i64)))], [(4, 60)]⟩)]⟩

theorem eq29 (p : Option Addr) (names : Option Addr) (namesN : Nat) (namesC : Nat) (w : World) (R : Ending → World → Prop) : F29 p names namesN namesC w R = vc Try.prog Try.f29 pl29 R 100000 [.code (bodyOf Try.f29)] (argEnv 0 #[(.pointer p), (.slice names namesN namesC)].toList) w := by kernel_rfl

theorem ok29 (p : Option Addr) (names : Option Addr) (namesN : Nat) (namesC : Nat) {w : World} {R : Ending → World → Prop} (h : F29 p names namesN namesC w R) : Calls Try.prog 29 #[(.pointer p), (.slice names namesN namesC)] w R :=
  vc_calls (pl := pl29) Try.func29 (by kernel_rfl) (by kernel_rfl) (by kernel_rfl) (Eq.mp (eq29 p names namesN namesC w R) h)

-- (*espalierref23.Places).Match
def F12 (p : Option Addr) (names : Option Addr) (namesN : Nat) (namesC : Nat) (w_ : World) (R : Ending → World → Prop) : Prop :=
 Calls Try.prog 29 #[(.pointer p), (.slice names namesN namesC)] w_ (post R fun v w1 =>
 ∃ (x12_0 : Int) (x12_1 : Option Addr) (x12_1N : Nat) (x12_1C : Nat) (x12_2 : Bool), v = (.tuple #[(.int .i64 x12_0), (.slice x12_1 x12_1N x12_1C), (.bool x12_2)]) ∧
 Br x12_2
 (R (.returned (.tuple #[(.bool (x12_0 == ((namesN : Nat) : Int))), (.int .i64 x12_0)])) w1)
 (R (.returned (.tuple #[(.bool false), (.int .i64 x12_0)])) w1))

def pl12 : Plan := ⟨24, ⟨[]⟩, [], []⟩

theorem eq12 (p : Option Addr) (names : Option Addr) (namesN : Nat) (namesC : Nat) (w : World) (R : Ending → World → Prop) : F12 p names namesN namesC w R = vc Try.prog Try.f12 pl12 R 100000 [.code (bodyOf Try.f12)] (argEnv 0 #[(.pointer p), (.slice names namesN namesC)].toList) w := by kernel_rfl

theorem ok12 (p : Option Addr) (names : Option Addr) (namesN : Nat) (namesC : Nat) {w : World} {R : Ending → World → Prop} (h : F12 p names namesN namesC w R) : Calls Try.prog 12 #[(.pointer p), (.slice names namesN namesC)] w R :=
  vc_calls (pl := pl12) Try.func12 (by kernel_rfl) (by kernel_rfl) (by kernel_rfl) (Eq.mp (eq12 p names namesN namesC w R) h)

-- (*espalierref23.Places).Next
def F14_j12 (L6 : Option Addr → Nat → Nat → Int → World → Prop) (l : Option Addr) (lN : Nat) (lC : Nat) (i : Int) (s : ByteArray) (w_3 : World) (R : Ending → World → Prop) : Prop :=
 Calls Try.prog 32 #[(.slice l lN lC), (.string s)] w_3 (post R fun v2 w1_9 =>
 ∃ (x48 : Option Addr) (x48N : Nat) (x48C : Nat), v2 = (.slice x48 x48N x48C) ∧
 InR .i64 (i + (1 : Int)) ∧ L6 x48 x48N x48C (i + (1 : Int)) w1_9)

def F14_l6 (p : Option Addr) (x16_1 : Option Addr) (x16_1N : Nat) (x16_2 : Bool) (L6 : Option Addr → Nat → Nat → Int → World → Prop) (l : Option Addr) (lN : Nat) (lC : Nat) (i : Int) (w_2 : World) (R : Ending → World → Prop) : Prop :=
 Br (decide (i < ((x16_1N : Nat) : Int)))
 (∃ S : World → Prop, S w_2.drew ∧ NonNil p fun p32 =>
 ∃ (x34 : Option Addr) (x34N : Nat) (x34C : Nat), Held S p32 (.slice x34 x34N x34C) ∧ IdxA x16_1 x16_1N i 1 fun q37 =>
 ∃ (x38 : Int), Held S q37 (.int .i64 x38) ∧ IdxA x34 x34N x38 4 fun q39 =>
 ∃ (x40_0 : Int), Held S q39 (.int .u8 x40_0) ∧ ∃ (x40_1 : Int), Held S (q39.add 1) (.int .u8 x40_1) ∧ ∃ (x40_2 : ByteArray), Held S (q39.add 2) (.string x40_2) ∧ ∃ (x40_3 : Option Addr) (x40_3N : Nat) (x40_3C : Nat), Held S (q39.add 3) (.slice x40_3 x40_3N x40_3C) ∧ Al w_2.drew #[(.int .u8 0), (.int .u8 0), (.string (ByteArray.mk #[])), (.slice none 0 0)] 75 fun a w1_4 =>
 S w1_4 ∧ St w1_4 a (.int .u8 x40_0) fun w1_5 =>
 St w1_5 (a.add 1) (.int .u8 x40_1) fun w1_6 =>
 St w1_6 (a.add 2) (.string x40_2) fun w1_7 =>
 St w1_7 (a.add 3) (.slice x40_3 x40_3N x40_3C) fun w1_8 =>
 LdStr (w1_8.cell? (a.add 2)) fun x42 =>
 ∃ J12 : ByteArray → World → Prop, (∀ (s : ByteArray) (w1_9 : World), J12 s w1_9 → F14_j12 L6 l lN lC i s w1_9 R) ∧
 (LdI .u8 (w1_8.cell? a) fun x44 =>
 Br (x44 == (46 : Int))
 (J12 (ByteArray.mk #[46]) w1_8)
 (J12 x42 w1_8)))
 (R (.returned (.tuple #[(.slice l lN lC), (.bool x16_2)])) w_2)

def F14 (p : Option Addr) (names : Option Addr) (namesN : Nat) (namesC : Nat) (w_ : World) (R : Ending → World → Prop) : Prop :=
 Calls Try.prog 29 #[(.pointer p), (.slice names namesN namesC)] w_ (post R fun v w1 =>
 ∃ (x16_0 : Int) (x16_1 : Option Addr) (x16_1N : Nat) (x16_1C : Nat) (x16_2 : Bool), v = (.tuple #[(.int .i64 x16_0), (.slice x16_1 x16_1N x16_1C), (.bool x16_2)]) ∧
 Br (decide (x16_0 < ((namesN : Nat) : Int)))
 (R (.returned (.tuple #[(.slice none 0 0), (.bool false)])) w1)
 (Al w1 #[] 9 fun g24 w1_2 =>
 ∃ (I : Option Addr → Nat → Nat → Int → World → Prop) (m : Option Addr → Nat → Nat → Int → World → Nat), I (some g24) 0 0 (0 : Int) w1_2 ∧
 ∀ (l : Option Addr) (lN : Nat) (lC : Nat) (i : Int) (w1_3 : World), I l lN lC i w1_3 → F14_l6 p x16_1 x16_1N x16_2 (fun l' lN' lC' i' w2 => I l' lN' lC' i' w2 ∧ m l' lN' lC' i' w2 < m l lN lC i w1_3) l lN lC i w1_3 R))

def pl14 : Plan := ⟨51, ⟨[]⟩, [(12, ⟨[(12, (.s .str))], [(12, 46)]⟩)], [(6, ⟨[(9, (.s .slice)), (10, (.s (.int .i64)))], [(9, 49)]⟩)]⟩

theorem eq14 (p : Option Addr) (names : Option Addr) (namesN : Nat) (namesC : Nat) (w : World) (R : Ending → World → Prop) : F14 p names namesN namesC w R = vc Try.prog Try.f14 pl14 R 100000 [.code (bodyOf Try.f14)] (argEnv 0 #[(.pointer p), (.slice names namesN namesC)].toList) w := by kernel_rfl

theorem ok14 (p : Option Addr) (names : Option Addr) (namesN : Nat) (namesC : Nat) {w : World} {R : Ending → World → Prop} (h : F14 p names namesN namesC w R) : Calls Try.prog 14 #[(.pointer p), (.slice names namesN namesC)] w R :=
  vc_calls (pl := pl14) Try.func14 (by kernel_rfl) (by kernel_rfl) (by kernel_rfl) (Eq.mp (eq14 p names namesN namesC w R) h)

-- espalierref23.with
def F32_j10 (l : Option Addr) (lN : Nat) (L3 : Option Addr → Nat → Nat → Bool → Int → World → Prop) (i : Int) (r2 : Option Addr) (rN2 : Nat) (rC2 : Nat) (done2 : Bool) (w_3 : World) (R : Ending → World → Prop) : Prop :=
 IdxA l lN i 1 fun q39 =>
 LdStr (w_3.cell? q39) fun x40 =>
 Al w_3 #[(.string x40)] 9 fun g41 w1_2 =>
 Raw Try.prog (Builtin.append_ #[33, 33] 33 #[(.slice r2 rN2 rC2), (.slice (some g41) 1 1)]) w1_2 fun v w1_3 =>
 ∃ (x42 : Option Addr) (x42N : Nat) (x42C : Nat), v = (.slice x42 x42N x42C) ∧
 InR .i64 (i + (1 : Int)) ∧ L3 x42 x42N x42C done2 (i + (1 : Int)) w1_3

def F32_j13 (r2 : Option Addr) (rN2 : Nat) (rC2 : Nat) (w_3 : World) (R : Ending → World → Prop) : Prop :=
 R (.returned (.slice r2 rN2 rC2)) w_3

def F32_l3 (l : Option Addr) (lN : Nat) (lC : Nat) (s : ByteArray) (L3 : Option Addr → Nat → Nat → Bool → Int → World → Prop) (r : Option Addr) (rN : Nat) (rC : Nat) (done : Bool) (i : Int) (w_2 : World) (R : Ending → World → Prop) : Prop :=
 Br (decide (i < ((lN : Nat) : Int)))
 (IdxA l lN i 1 fun q17 =>
 LdStr (w_2.cell? q17) fun x18 =>
 Br (x18.toList == s.toList)
 (R (.returned (.slice l lN lC)) w_2)
 (∃ J10 : Option Addr → Nat → Nat → Bool → World → Prop, (∀ (r2 : Option Addr) (rN2 : Nat) (rC2 : Nat) (done2 : Bool) (w1_2 : World), J10 r2 rN2 rC2 done2 w1_2 → F32_j10 l lN L3 i r2 rN2 rC2 done2 w1_2 R) ∧
 (Br (!done)
 (IdxA l lN i 1 fun q27 =>
 LdStr (w_2.cell? q27) fun x28 =>
 Br (!((Op.bytesLess x28.toList s.toList) || (x28.toList == s.toList)))
 (Al w_2 #[(.string s)] 9 fun g34 w1_2 =>
 Raw Try.prog (Builtin.append_ #[33, 33] 33 #[(.slice r rN rC), (.slice (some g34) 1 1)]) w1_2 fun v w1_3 =>
 ∃ (x35 : Option Addr) (x35N : Nat) (x35C : Nat), v = (.slice x35 x35N x35C) ∧
 J10 x35 x35N x35C true w1_3)
 (J10 r rN rC done w_2))
 (J10 r rN rC done w_2))))
 (∃ J13 : Option Addr → Nat → Nat → World → Prop, (∀ (r2 : Option Addr) (rN2 : Nat) (rC2 : Nat) (w1_2 : World), J13 r2 rN2 rC2 w1_2 → F32_j13 r2 rN2 rC2 w1_2 R) ∧
 (Br (!done)
 (Al w_2 #[(.string s)] 9 fun g47 w1_2 =>
 Raw Try.prog (Builtin.append_ #[33, 33] 33 #[(.slice r rN rC), (.slice (some g47) 1 1)]) w1_2 fun v w1_3 =>
 ∃ (x48 : Option Addr) (x48N : Nat) (x48C : Nat), v = (.slice x48 x48N x48C) ∧
 J13 x48 x48N x48C w1_3)
 (J13 r rN rC w_2)))

def F32 (l : Option Addr) (lN : Nat) (lC : Nat) (s : ByteArray) (w_ : World) (R : Ending → World → Prop) : Prop :=
 Al w_ #[] 9 fun g8 w1 =>
 ∃ (I : Option Addr → Nat → Nat → Bool → Int → World → Prop) (m : Option Addr → Nat → Nat → Bool → Int → World → Nat), I (some g8) 0 0 false (0 : Int) w1 ∧
 ∀ (r : Option Addr) (rN : Nat) (rC : Nat) (done : Bool) (i : Int) (w1_2 : World), I r rN rC done i w1_2 → F32_l3 l lN lC s (fun r' rN' rC' done' i' w2 => I r' rN' rC' done' i' w2 ∧ m r' rN' rC' done' i' w2 < m r rN rC done i w1_2) r rN rC done i w1_2 R

def pl32 : Plan := ⟨50, ⟨[]⟩, [(10, ⟨[(5, (.s .slice)), (6, (.s .bool))], [(5, 7), (22, 36)]⟩), (13, ⟨[(5, (.s .slice))], [(5, 49)]⟩)], [(3, ⟨[(5, (.s .slice)), (6, (.s .bool)), (7, (.s (.int .i64)))], [(4, 43)]⟩)]⟩

theorem eq32 (l : Option Addr) (lN : Nat) (lC : Nat) (s : ByteArray) (w : World) (R : Ending → World → Prop) : F32 l lN lC s w R = vc Try.prog Try.f32 pl32 R 100000 [.code (bodyOf Try.f32)] (argEnv 0 #[(.slice l lN lC), (.string s)].toList) w := by kernel_rfl

theorem ok32 (l : Option Addr) (lN : Nat) (lC : Nat) (s : ByteArray) {w : World} {R : Ending → World → Prop} (h : F32 l lN lC s w R) : Calls Try.prog 32 #[(.slice l lN lC), (.string s)] w R :=
  vc_calls (pl := pl32) Try.func32 (by kernel_rfl) (by kernel_rfl) (by kernel_rfl) (Eq.mp (eq32 l lN lC s w R) h)

-- (*espalierref23.Places).apart
def F27_j6 (L5 : Int → World → Prop) (k : Int) (w_4 : World) (R : Ending → World → Prop) : Prop :=
 InR .i64 (k + (1 : Int)) ∧ L5 (k + (1 : Int)) w_4

def F27_j8 (l : Option Addr) (lN : Nat) (i : Int) (k : Int) (J6 : World → Prop) (a : Addr) (b : Addr) (w_4 : World) (R : Ending → World → Prop) : Prop :=
 Dr w_4 fun w1 =>
 IdxA l lN i 1 fun q42 =>
 LdI .i64 (w1.cell? q42) fun x43 =>
 IdxA l lN k 1 fun q46 =>
 LdI .i64 (w1.cell? q46) fun x47 =>
 Br (x43 != x47)
 (LdI .u8 (w1.cell? a) fun x51 =>
 Br (x51 == (46 : Int))
 (R (.returned (.bool false)) w1)
 (LdI .u8 (w1.cell? b) fun x55 =>
 Br (x55 == (46 : Int))
 (R (.returned (.bool false)) w1)
 (LdI .u8 (w1.cell? a) fun x60 =>
 LdI .u8 (w1.cell? b) fun x62 =>
 Br (x60 == x62)
 (LdStr (w1.cell? (a.add 2)) fun x66 =>
 LdStr (w1.cell? (b.add 2)) fun x68 =>
 Br (x66.toList == x68.toList)
 (R (.returned (.bool false)) w1)
 (J6 w1))
 (J6 w1))))
 (J6 w1)

def F27_l5 (p : Option Addr) (l : Option Addr) (lN : Nat) (L2 : Int → World → Prop) (i : Int) (L5 : Int → World → Prop) (k : Int) (w_3 : World) (R : Ending → World → Prop) : Prop :=
 Br (decide (k < i))
 (∃ J6 : World → Prop, (∀  (w1 : World), J6 w1 → F27_j6 L5 k w1 R) ∧
 (∃ J8 : Addr → Addr → World → Prop, (∀ (a : Addr) (b : Addr) (w1 : World), J8 a b w1 → F27_j8 l lN i k J6 a b w1 R) ∧
 (∃ S : World → Prop, S w_3.drew ∧ NonNil p fun p21 =>
 ∃ (x23 : Option Addr) (x23N : Nat) (x23C : Nat), Held S p21 (.slice x23 x23N x23C) ∧ IdxA l lN i 1 fun q26 =>
 ∃ (x27 : Int), Held S q26 (.int .i64 x27) ∧ IdxA x23 x23N x27 4 fun q28 =>
 ∃ (x29_0 : Int), Held S q28 (.int .u8 x29_0) ∧ ∃ (x29_1 : Int), Held S (q28.add 1) (.int .u8 x29_1) ∧ ∃ (x29_2 : ByteArray), Held S (q28.add 2) (.string x29_2) ∧ ∃ (x29_3 : Option Addr) (x29_3N : Nat) (x29_3C : Nat), Held S (q28.add 3) (.slice x29_3 x29_3N x29_3C) ∧ NonNil p fun p31 =>
 ∃ (x33 : Option Addr) (x33N : Nat) (x33C : Nat), Held S p31 (.slice x33 x33N x33C) ∧ IdxA l lN k 1 fun q36 =>
 ∃ (x37 : Int), Held S q36 (.int .i64 x37) ∧ IdxA x33 x33N x37 4 fun q38 =>
 ∃ (x39_0 : Int), Held S q38 (.int .u8 x39_0) ∧ ∃ (x39_1 : Int), Held S (q38.add 1) (.int .u8 x39_1) ∧ ∃ (x39_2 : ByteArray), Held S (q38.add 2) (.string x39_2) ∧ ∃ (x39_3 : Option Addr) (x39_3N : Nat) (x39_3C : Nat), Held S (q38.add 3) (.slice x39_3 x39_3N x39_3C) ∧ (Al w_3.drew #[(.int .u8 0), (.int .u8 0), (.string (ByteArray.mk #[])), (.slice none 0 0)] 75 fun a w1_2 =>
 S w1_2 ∧ Al w1_2 #[(.int .u8 0), (.int .u8 0), (.string (ByteArray.mk #[])), (.slice none 0 0)] 75 fun b w1_3 =>
 S w1_3 ∧ St w1_3 a (.int .u8 x29_0) fun w1_4 =>
 St w1_4 (a.add 1) (.int .u8 x29_1) fun w1_5 =>
 St w1_5 (a.add 2) (.string x29_2) fun w1_6 =>
 St w1_6 (a.add 3) (.slice x29_3 x29_3N x29_3C) fun w1_7 =>
 S w1_7 ∧ St w1_7 b (.int .u8 x39_0) fun w1_8 =>
 St w1_8 (b.add 1) (.int .u8 x39_1) fun w1_9 =>
 St w1_9 (b.add 2) (.string x39_2) fun w1_10 =>
 St w1_10 (b.add 3) (.slice x39_3 x39_3N x39_3C) fun w1_11 =>
 J8 a b w1_11)
 ∧ (Al w_3.drew #[(.int .u8 0), (.int .u8 0), (.string (ByteArray.mk #[])), (.slice none 0 0)] 75 fun b w1_2 =>
 S w1_2 ∧ Al w1_2 #[(.int .u8 0), (.int .u8 0), (.string (ByteArray.mk #[])), (.slice none 0 0)] 75 fun a w1_3 =>
 S w1_3 ∧ St w1_3 a (.int .u8 x29_0) fun w1_4 =>
 St w1_4 (a.add 1) (.int .u8 x29_1) fun w1_5 =>
 St w1_5 (a.add 2) (.string x29_2) fun w1_6 =>
 St w1_6 (a.add 3) (.slice x29_3 x29_3N x29_3C) fun w1_7 =>
 S w1_7 ∧ St w1_7 b (.int .u8 x39_0) fun w1_8 =>
 St w1_8 (b.add 1) (.int .u8 x39_1) fun w1_9 =>
 St w1_9 (b.add 2) (.string x39_2) fun w1_10 =>
 St w1_10 (b.add 3) (.slice x39_3 x39_3N x39_3C) fun w1_11 =>
 J8 a b w1_11))))
 (InR .i64 (i + (1 : Int)) ∧ L2 (i + (1 : Int)) w_3)

def F27_l2 (p : Option Addr) (l : Option Addr) (lN : Nat) (L2 : Int → World → Prop) (i : Int) (w_2 : World) (R : Ending → World → Prop) : Prop :=
 Br (decide (i < ((lN : Nat) : Int)))
 (∃ (I : Int → World → Prop) (m : Int → World → Nat), I (0 : Int) w_2 ∧
 ∀ (k : Int) (w1 : World), I k w1 → F27_l5 p l lN L2 i (fun k' w2 => I k' w2 ∧ m k' w2 < m k w1) k w1 R)
 (R (.returned (.bool true)) w_2)

def F27 (p : Option Addr) (l : Option Addr) (lN : Nat) (lC : Nat) (w_ : World) (R : Ending → World → Prop) : Prop :=
 ∃ (I : Int → World → Prop) (m : Int → World → Nat), I (0 : Int) w_ ∧
 ∀ (i : Int) (w1 : World), I i w1 → F27_l2 p l lN (fun i' w2 => I i' w2 ∧ m i' w2 < m i w1) i w1 R

def pl27 : Plan := ⟨73, ⟨[]⟩, [(8, ⟨[(7, (.s .addr)), (8, (.s .addr))], [(7, 40)]⟩), (6, ⟨[], [(4, 5), (7, 73)]⟩)], [(5, ⟨[(6, (.s (.int .i64)))], [(4, 5), (6, 73)]⟩), (2, ⟨[(5, (.s (.int .i64)))], [(4, 73)]⟩)]⟩

theorem eq27 (p : Option Addr) (l : Option Addr) (lN : Nat) (lC : Nat) (w : World) (R : Ending → World → Prop) : F27 p l lN lC w R = vc Try.prog Try.f27 pl27 R 100000 [.code (bodyOf Try.f27)] (argEnv 0 #[(.pointer p), (.slice l lN lC)].toList) w := by kernel_rfl

theorem ok27 (p : Option Addr) (l : Option Addr) (lN : Nat) (lC : Nat) {w : World} {R : Ending → World → Prop} (h : F27 p l lN lC w R) : Calls Try.prog 27 #[(.pointer p), (.slice l lN lC)] w R :=
  vc_calls (pl := pl27) Try.func27 (by kernel_rfl) (by kernel_rfl) (by kernel_rfl) (Eq.mp (eq27 p l lN lC w R) h)

-- (*espalierref23.Places).Clear
def F10_j6 (ok : Bool) (w_2 : World) (R : Ending → World → Prop) : Prop :=
 R (.returned (.bool ok)) w_2

def F10_j5 (p : Option Addr) (L3 : Bool → Int → World → Prop) (i : Int) (w_3 : World) (R : Ending → World → Prop) : Prop :=
 NonNil p fun p25 =>
 LdSl (w_3.cell? (p25.add 2)) fun x27 x27N x27C =>
 IdxA x27 x27N i 1 fun q29 =>
 LdSl (w_3.cell? q29) fun x30 x30N x30C =>
 Calls Try.prog 27 #[(.pointer p), (.slice x30 x30N x30C)] w_3 (post R fun v2 w1_2 =>
 ∃ (x31 : Bool), v2 = (.bool x31) ∧
 InR .i64 (i + (1 : Int)) ∧ L3 x31 (i + (1 : Int)) w1_2)

def F10_l3 (p : Option Addr) (J6 : Bool → World → Prop) (L3 : Bool → Int → World → Prop) (ok : Bool) (i : Int) (w_2 : World) (R : Ending → World → Prop) : Prop :=
 ∃ J5 : World → Prop, (∀  (w1_2 : World), J5 w1_2 → F10_j5 p L3 i w1_2 R) ∧
 (NonNil p fun p13 =>
 LdSl (w_2.cell? p13) fun x15 x15N x15C =>
 Br (decide (i < ((x15N : Nat) : Int)))
 (Br ok
 (J5 w_2)
 (J6 ok w_2))
 (J6 ok w_2))

def F10 (p : Option Addr) (w_ : World) (R : Ending → World → Prop) : Prop :=
 NonNil p fun p7 =>
 LdSl (w_.cell? (p7.add 1)) fun x9 x9N x9C =>
 Calls Try.prog 27 #[(.pointer p), (.slice x9 x9N x9C)] w_ (post R fun v w1 =>
 ∃ (x10 : Bool), v = (.bool x10) ∧
 ∃ J6 : Bool → World → Prop, (∀ (ok : Bool) (w1_2 : World), J6 ok w1_2 → F10_j6 ok w1_2 R) ∧
 (∃ (I : Bool → Int → World → Prop) (m : Bool → Int → World → Nat), I x10 (0 : Int) w1 ∧
 ∀ (ok : Bool) (i : Int) (w1_2 : World), I ok i w1_2 → F10_l3 p J6 (fun ok' i' w2 => I ok' i' w2 ∧ m ok' i' w2 < m ok i w1_2) ok i w1_2 R))

def pl10 : Plan := ⟨33, ⟨[]⟩, [(5, ⟨[], [(11, 21)]⟩), (6, ⟨[(3, (.s .bool))], [(3, 32)]⟩)], [(3, ⟨[(3, (.s .bool)), (4, (.s (.int .i64)))], [(3, 32)]⟩)]⟩

theorem eq10 (p : Option Addr) (w : World) (R : Ending → World → Prop) : F10 p w R = vc Try.prog Try.f10 pl10 R 100000 [.code (bodyOf Try.f10)] (argEnv 0 #[(.pointer p)].toList) w := by kernel_rfl

theorem ok10 (p : Option Addr) {w : World} {R : Ending → World → Prop} (h : F10 p w R) : Calls Try.prog 10 #[(.pointer p)] w R :=
  vc_calls (pl := pl10) Try.func10 (by kernel_rfl) (by kernel_rfl) (by kernel_rfl) (Eq.mp (eq10 p w R) h)

-- espalierlaw23.texts
def F15_l4 (a : Option Addr) (aN : Nat) (b : Option Addr) (bN : Nat) (L4 : Int → World → Prop) (i : Int) (w_2 : World) (R : Ending → World → Prop) : Prop :=
 Br (decide (i < ((aN : Nat) : Int)))
 (Dr w_2 fun w1 =>
 IdxA a aN i 1 fun q19 =>
 LdStr (w1.cell? q19) fun x20 =>
 IdxA b bN i 1 fun q23 =>
 LdStr (w1.cell? q23) fun x24 =>
 Br (!(x20.toList == x24.toList))
 (R (.returned (.bool false)) w1)
 (InR .i64 (i + (1 : Int)) ∧ L4 (i + (1 : Int)) w1))
 (R (.returned (.bool true)) w_2)

def F15 (a : Option Addr) (aN : Nat) (aC : Nat) (b : Option Addr) (bN : Nat) (bC : Nat) (w_ : World) (R : Ending → World → Prop) : Prop :=
 Br (((aN : Nat) : Int) != ((bN : Nat) : Int))
 (R (.returned (.bool false)) w_)
 (∃ (I : Int → World → Prop) (m : Int → World → Nat), I (0 : Int) w_ ∧
 ∀ (i : Int) (w1 : World), I i w1 → F15_l4 a aN b bN (fun i' w2 => I i' w2 ∧ m i' w2 < m i w1) i w1 R)

def pl15 : Plan := ⟨26, ⟨[]⟩, [], [(4, ⟨[(5, (.s (.int .i64)))], [(4, 26)]⟩)]⟩

theorem eq15 (a : Option Addr) (aN : Nat) (aC : Nat) (b : Option Addr) (bN : Nat) (bC : Nat) (w : World) (R : Ending → World → Prop) : F15 a aN aC b bN bC w R = vc Try.prog Try.f15 pl15 R 100000 [.code (bodyOf Try.f15)] (argEnv 0 #[(.slice a aN aC), (.slice b bN bC)].toList) w := by kernel_rfl

theorem ok15 (a : Option Addr) (aN : Nat) (aC : Nat) (b : Option Addr) (bN : Nat) (bC : Nat) {w : World} {R : Ending → World → Prop} (h : F15 a aN aC b bN bC w R) : Calls Try.prog 15 #[(.slice a aN aC), (.slice b bN bC)] w R :=
  vc_calls (pl := pl15) Try.func15 (by kernel_rfl) (by kernel_rfl) (by kernel_rfl) (Eq.mp (eq15 a aN aC b bN bC w R) h)

-- espalierlaw23.ModelMatches
def F3_j10 (L9 : Int → World → Prop) (i : Int) (w_4 : World) (R : Ending → World → Prop) : Prop :=
 InR .i64 (i + (1 : Int)) ∧ L9 (i + (1 : Int)) w_4

def F3_l9 (l : Option Addr) (lN : Nat) (x24_0 : Option Addr) (x50 : Option Addr) (L9 : Int → World → Prop) (i : Int) (w_3 : World) (R : Ending → World → Prop) : Prop :=
 Br (decide (i < ((lN : Nat) : Int)))
 (∃ J10 : World → Prop, (∀  (w1_6 : World), J10 w1_6 → F3_j10 L9 i w1_6 R) ∧
 (Al w_3 #[] 9 fun g62 w1_6 =>
 IdxA l lN i 1 fun q65 =>
 LdSl (w1_6.cell? q65) fun x66 x66N x66C =>
 Raw Try.prog (Builtin.append_ #[33, 33] 33 #[(.slice (some g62) 0 0), (.slice x66 x66N x66C)]) w1_6 fun v6 w1_7 =>
 ∃ (x67 : Option Addr) (x67N : Nat) (x67C : Nat), v6 = (.slice x67 x67N x67C) ∧
 Calls Try.prog 11 #[(.pointer x24_0), (.slice x67 x67N x67C)] w1_7 (post R fun v7 w1_8 =>
 ∃ (x71_0 : Bool) (x71_1 : Int), v7 = (.tuple #[(.bool x71_0), (.int .i64 x71_1)]) ∧
 IdxA l lN i 1 fun q78 =>
 LdSl (w1_8.cell? q78) fun x79 x79N x79C =>
 Calls Try.prog 12 #[(.pointer x50), (.slice x79 x79N x79C)] w1_8 (post R fun v8 w1_9 =>
 ∃ (x80_0 : Bool) (x80_1 : Int), v8 = (.tuple #[(.bool x80_0), (.int .i64 x80_1)]) ∧
 Calls Try.prog 13 #[(.pointer x24_0), (.slice x67 x67N x67C)] w1_9 (post R fun v9 w1_10 =>
 ∃ (x86_0 : Option Addr) (x86_0N : Nat) (x86_0C : Nat) (x86_1 : Bool), v9 = (.tuple #[(.slice x86_0 x86_0N x86_0C), (.bool x86_1)]) ∧
 IdxA l lN i 1 fun q93 =>
 LdSl (w1_10.cell? q93) fun x94 x94N x94C =>
 Calls Try.prog 14 #[(.pointer x50), (.slice x94 x94N x94C)] w1_10 (post R fun v10 w1_11 =>
 ∃ (x95_0 : Option Addr) (x95_0N : Nat) (x95_0C : Nat) (x95_1 : Bool), v10 = (.tuple #[(.slice x95_0 x95_0N x95_0C), (.bool x95_1)]) ∧
 Br (!(x71_0 == x80_0))
 (R (.returned (.bool false)) w1_11)
 (Br (x71_1 != x80_1)
 (R (.returned (.bool false)) w1_11)
 (Br (!(x86_1 == x95_1))
 (R (.returned (.bool false)) w1_11)
 (Calls Try.prog 15 #[(.slice x86_0 x86_0N x86_0C), (.slice x95_0 x95_0N x95_0C)] w1_11 (post R fun v11 w1_12 =>
 ∃ (x114 : Bool), v11 = (.bool x114) ∧
 Br (!x114)
 (R (.returned (.bool false)) w1_12)
 (IdxA l lN i 1 fun q121 =>
 LdSl (w1_12.cell? q121) fun x122 x122N x122C =>
 Calls Try.prog 15 #[(.slice x67 x67N x67C), (.slice x122 x122N x122C)] w1_12 (post R fun v12 w1_13 =>
 ∃ (x123 : Bool), v12 = (.bool x123) ∧
 Br (!x123)
 (R (.returned (.bool false)) w1_13)
 (J10 w1_13)))))))))))))
 (Calls Try.prog 7 #[] w_3 (post R fun v6 w1_6 =>
 ∃ (x126 : Bool), v6 = (.bool x126) ∧
 R (.returned (.bool x126)) w1_6))

def F3_j5 (l : Option Addr) (lN : Nat) (x24_0 : Option Addr) (x30_0 : Option Addr) (x30_0N : Nat) (x30_0C : Nat) (w_2 : World) (R : Ending → World → Prop) : Prop :=
 Calls Try.prog 8 #[(.slice x30_0 x30_0N x30_0C)] w_2 (post R fun v3 w1_3 =>
 ∃ (x50 : Option Addr), v3 = (.pointer x50) ∧
 Calls Try.prog 9 #[(.pointer x24_0)] w1_3 (post R fun v4 w1_4 =>
 ∃ (x52 : Bool), v4 = (.bool x52) ∧
 Calls Try.prog 10 #[(.pointer x50)] w1_4 (post R fun v5 w1_5 =>
 ∃ (x54 : Bool), v5 = (.bool x54) ∧
 Br (!(x52 == x54))
 (R (.returned (.bool false)) w1_5)
 (∃ (I : Int → World → Prop) (m : Int → World → Nat), I (0 : Int) w1_5 ∧
 ∀ (i : Int) (w1_6 : World), I i w1_6 → F3_l9 l lN x24_0 x50 (fun i' w2 => I i' w2 ∧ m i' w2 < m i w1_6) i w1_6 R))))

def F3 (s : ByteArray) (l : Option Addr) (lN : Nat) (lC : Nat) (w_ : World) (R : Ending → World → Prop) : Prop :=
 Calls Try.prog 5 #[(.string s)] w_ (post R fun v w1 =>
 ∃ (x24_0 : Option Addr) (x24_1 : Int) (x24_2 : Int), v = (.tuple #[(.pointer x24_0), (.int .i64 x24_1), (.int .i64 x24_2)]) ∧
 Calls Try.prog 6 #[(.string s)] w1 (post R fun v2 w1_2 =>
 ∃ (x30_0 : Option Addr) (x30_0N : Nat) (x30_0C : Nat) (x30_1 : Int) (x30_2 : Int), v2 = (.tuple #[(.slice x30_0 x30_0N x30_0C), (.int .i64 x30_1), (.int .i64 x30_2)]) ∧
 ∃ J5 : World → Prop, (∀  (w1_3 : World), J5 w1_3 → F3_j5 l lN x24_0 x30_0 x30_0N x30_0C w1_3 R) ∧
 (Br (x24_0).isNone
 (Br (x24_0).isNone
 (Br (x30_2 != (0 : Int))
 (Calls Try.prog 7 #[] w1_2 (post R fun v3 w1_3 =>
 ∃ (x47 : Bool), v3 = (.bool x47) ∧
 R (.returned (.bool x47)) w1_3))
 (R (.returned (.bool false)) w1_2))
 (R (.returned (.bool false)) w1_2))
 (Br (x30_2 != (0 : Int))
 (Br (x24_0).isNone
 (Br (x30_2 != (0 : Int))
 (Calls Try.prog 7 #[] w1_2 (post R fun v3 w1_3 =>
 ∃ (x47 : Bool), v3 = (.bool x47) ∧
 R (.returned (.bool x47)) w1_3))
 (R (.returned (.bool false)) w1_2))
 (R (.returned (.bool false)) w1_2))
 (J5 w1_2)))))

def pl3 : Plan := ⟨127, ⟨[]⟩, [(10, ⟨[], [(4, 5), (13, 126)]⟩), (5, ⟨[], [(4, 5), (34, 49)]⟩)], [(9, ⟨[(12, (.s (.int .i64)))], [(4, 5), (12, 126)]⟩)]⟩

theorem eq3 (s : ByteArray) (l : Option Addr) (lN : Nat) (lC : Nat) (w : World) (R : Ending → World → Prop) : F3 s l lN lC w R = vc Try.prog Try.f3 pl3 R 100000 [.code (bodyOf Try.f3)] (argEnv 0 #[(.string s), (.slice l lN lC)].toList) w := by kernel_rfl

theorem ok3 (s : ByteArray) (l : Option Addr) (lN : Nat) (lC : Nat) {w : World} {R : Ending → World → Prop} (h : F3 s l lN lC w R) : Calls Try.prog 3 #[(.string s), (.slice l lN lC)] w R :=
  vc_calls (pl := pl3) Try.func3 (by kernel_rfl) (by kernel_rfl) (by kernel_rfl) (Eq.mp (eq3 s l lN lC w R) h)

end Go.Proofs.Ytkmoeokfgkmlhaa
/- The document's models: places under construction in memory. -/
namespace Go.Mdl
theorem link_take (f : List (List Nat)) (first last : List Nat) (k : Nat) (hk : k < last.length) : link f (last.take (k + 1)) first = link1 first (link f (last.take k) first) last[k] := by
  unfold link
  rw [List.take_add_one, List.getElem?_eq_getElem hk, Option.toList_some, List.foldl_append]; rfl
theorem link1_at (first : List Nat) (f : List (List Nat)) (i : Nat) (hi : i < f.length) : link1 first f i = f.set i (f[i] ++ first) := by
  unfold link1
  rw [List.getD_eq_getElem?_getD, List.getElem?_eq_getElem hi]; rfl
end Go.Mdl
namespace Go.Proofs.Ytkmoeokfgkmlhaa
open Go.RowKit Go.Vc Go.Mdl
set_option linter.unusedVariables false
set_option linter.unusedSimpArgs false
set_option maxRecDepth 100000
/-! ### What turns while places are found -/
def isMut2 (t : TypeId) : Bool := Nat.beq t 64 || Nat.beq t 56
def isPt (t : TypeId) : Bool := Nat.beq t 75
abbrev slV (A : Sv) : Value := .slice A.1 A.2.1 A.2.2
def Mj (B : Nat) (w : World) (A : Sv) (b : Nat) : Prop := B ≤ b ∧ (tyAt w b isMut2 ∨ rowOf (slV A) = some b)
structure Fj (B : Nat) (A A' : Sv) (w w1 : World) : Prop where
  fm : Fm (Mj B w A) w w1
  ro : ∀ b, b < w.heap.size → rowOf (slV A') = some b → rowOf (slV A) = some b
section
variable {B : Nat} {w w1 w2 : World} {M : Nat → Prop} {A A1 A2 : Sv}
theorem Fj.refl (B : Nat) (A : Sv) (w : World) : Fj B A A w w := ⟨Fm.refl _ _, fun _ _ h => h⟩
theorem Fj.below (A : Sv) (h : Below w.heap.size w w1) : Fj B A A w w1 := ⟨Fm.below h, fun _ _ h => h⟩
theorem Fj.of (h : Fm M w w1) (hm : ∀ b, b < w.heap.size → M b → Mj B w A b) : Fj B A A w w1 := ⟨h.mono hm, fun _ _ h => h⟩
theorem Fj.new (h : Fj B A A1 w w1) (k : Fm M w1 w2) (hm : ∀ b, b < w.heap.size → ¬ M b) : Fj B A A1 w w2 := ⟨Fm.trans' h.fm k hm, h.ro⟩
theorem Fj.trans (h : Fj B A A1 w w1) (k : Fj B A1 A2 w1 w2) : Fj B A A2 w w2 := by
  refine ⟨⟨k.fm.os.trans h.fm.os, k.fm.tape.trans h.fm.tape, k.fm.output.trans h.fm.output, Nat.le_trans h.fm.size k.fm.size, fun b hb hm => ?_⟩, fun b hb hr => h.ro b hb (k.ro b (Nat.lt_of_lt_of_le hb h.fm.size) hr)⟩
  have h1 := h.fm.block b hb hm
  refine (k.fm.block b (Nat.lt_of_lt_of_le hb h.fm.size) fun hm2 => hm ⟨hm2.1, ?_⟩).trans h1
  rcases hm2.2 with h2 | h2
  · exact .inl ((tyAt_heap h1).1 h2)
  · exact .inr (h.ro b hb h2)
theorem Fj.blk (h : Fj B A A1 w w1) {b : Nat} {c : Array Value} {t : TypeId} (hb : Blk w b c t) (ht : isMut2 t = false) (hr : rowOf (slV A) ≠ some b) : Blk w1 b c t := h.fm.blk hb fun hm => by
  rcases hm.2 with h2 | h2
  · exact tyAt_blk hb ht h2
  · exact hr h2
theorem Fj.sub (h : Fj B A A1 w w1) {w0 : World} (h0 : Sub w0 w) (hB : ∀ b c t f, w0.heap[b]? = some (.cells c t f) → b < B) : Sub w0 w1 := fun b c t f hc => by
  have h1 := h0 b c t f hc
  have hlt := (Array.getElem?_eq_some_iff.1 h1).1
  rw [h.fm.block b hlt fun hm => by have := hB b c t f hc; have := hm.1; omega]
  exact h1
/-! ### The places -/
def AtR (at_ : List ByteArray) (es : List E4) : Prop := es.length = at_.length ∧ ∀ (i : Nat) e a, es[i]? = some e → at_[i]? = some a → e.k = kindOf a ∧ e.a = nmOf a
abbrev mR (A F : Sv) : Array Value := #[.slice A.1 A.2.1 A.2.2, .slice none 0 0, .slice F.1 F.2.1 F.2.2, .slice none 0 0, .bool false]
structure MJ (B : Nat) (w : World) (g : Nat) (A F : Sv) (gs : GS) : Prop where
  ge : B ≤ g
  blk : Blk w g (mR A F) 64
  at_ : ∃ es, Own LE4 w B 75 (slV A) es ∧ AtR gs.1 es
  fol : ∃ vs, Own LSv w B 56 (slV F) vs ∧ RdF B w vs gs.2
def HarmJ (t : TypeId) : Bool := isMut2 t || (isInt t || isPt t)
theorem MJ.keep {g : Nat} {A F : Sv} {gs : GS} (h : MJ B w g A F gs) (hf : Fm M w w1) (hm : ∀ b, M b → ¬ tyAt w b HarmJ) : MJ B w1 g A F gs := by
  have hty : ∀ {b c t}, Blk w b c t → HarmJ t = true → ¬ M b := fun hb ht hM => hm _ hM ⟨_, _, _, hb, ht⟩
  obtain ⟨vs, h1, h2, h3⟩ := h.fol
  obtain ⟨es, h4, h5⟩ := h.at_
  have row : ∀ {α : Type} {L : Lay α} {v : Value} {xs : List α} {e : TypeId}, Own L w B e v xs → HarmJ e = true → Own L w1 B e v xs := by
    intro α L v xs e ho he
    rcases ho with ho | ho | ⟨g, c, cur, rfl, hb, hh, hn, hmx, hs, ht⟩
    · exact .inl ho
    · exact .inr (.inl ho)
    · exact .inr (.inr ⟨g, c, cur, rfl, hb, hf.blk hh (hty hh he), hn, hmx, hs, ht⟩)
  exact ⟨h.ge, hf.blk h.blk (hty h.blk (by decide)), ⟨es, row h4 (by decide), h5⟩, vs, row h1 (by decide), h2, fun i v l k1 k2 => (h3 i v l k1 k2).fm hf fun b hM hi => hm b hM (by
    obtain ⟨c, t, f, q1, q2⟩ := hi
    exact ⟨c, t, f, q1, by unfold HarmJ; rw [q2]; simp⟩)⟩
theorem MJ.below {g : Nat} {A F : Sv} {gs : GS} (h : MJ B w g A F gs) (hf : Below w.heap.size w w1) : MJ B w1 g A F gs := h.keep (M := fun _ => False) (.below hf) fun _ h => h.elim
theorem MJ.box {g b : Nat} {A F : Sv} {gs : GS} {c : Array Value} {t : TypeId} (h : MJ B w g A F gs) (hb : Blk w b c t) (ht : HarmJ t = false) (hf : Fm (· = b) w w1) : MJ B w1 g A F gs :=
  h.keep hf fun _ e => e ▸ tyAt_blk hb ht
theorem MJ.lens {g : Nat} {A F : Sv} {gs : GS} (h : MJ B w g A F gs) : A.2.1 = gs.1.length ∧ F.2.1 = gs.2.length := by
  obtain ⟨vs, h1, h2, _⟩ := h.fol
  obtain ⟨es, h4, h5⟩ := h.at_
  exact ⟨h4.rd.1.trans h5.1, h1.rd.1.trans h2⟩
theorem MJ.lt {g : Nat} {A F : Sv} {gs : GS} (h : MJ B w g A F gs) : g < w.heap.size := h.blk.lt
theorem MJ.rowlt {g : Nat} {A F : Sv} {gs : GS} (h : MJ B w g A F gs) : ∀ b, rowOf (slV A) = some b → B ≤ b ∧ b < w.heap.size := by obtain ⟨es, h4, h5⟩ := h.at_; exact h4.lt
theorem MJ.rown {g : Nat} {A F : Sv} {gs : GS} (h : MJ B w g A F gs) {b : Nat} {c : Array Value} {t : TypeId} (hb : Blk w b c t) (ht : isPt t = false) : rowOf (slV A) ≠ some b := fun hr => by
  obtain ⟨es, h4, h5⟩ := h.at_
  exact row_not h4 (p := fun t' => Nat.beq t' t) (by
    cases hh : Nat.beq 75 t with
    | false => rfl
    | true => rw [← Nat.eq_of_beq_eq_true hh] at ht; cases ht) b hr ⟨_, _, _, hb, Nat.beq_refl _⟩
/-- A box that is no part stays. -/
theorem MJ.stay {g : Nat} {F : Sv} {gs : GS} (h : MJ B w g A F gs) (hf : Fj B A A1 w w1) {b : Nat} {c : Array Value} {t : TypeId} (hb : Blk w b c t) (ht : isMut2 t = false) (hp : isPt t = false) : Blk w1 b c t := hf.blk hb ht (h.rown hb hp)
theorem MJ.list {g : Nat} {F : Sv} {gs : GS} (h : MJ B w g A F gs) (hf : Fj B A A1 w w1) {B' : Nat} {v : Sv} {xs : List Nat} (hv : RdI B' w v xs) : RdI B' w1 v xs := hv.fm hf.fm fun b hm hi => by
  rcases hm.2 with h2 | h2
  · obtain ⟨c, t, f, h1, h2⟩ := h2
    obtain ⟨c', t', f', h3, h4⟩ := hi
    rw [h1] at h3
    cases h3
    unfold isInt at h4
    have := Nat.eq_of_beq_eq_true h4
    subst this
    revert h2; decide
  · obtain ⟨es, h4, h5⟩ := h.at_
    exact row_not h4 (p := isInt) (by decide) b h2 hi
theorem RdI.box2 {b : Nat} {v : Sv} {xs : List Nat} {c : Array Value} {t : TypeId} (h : RdI B w v xs) (hb : Blk w b c t) (ht : isInt t = false) (hf : Fm (· = b) w w1) : RdI B w1 v xs :=
  h.fm hf fun _ e => e ▸ tyAt_blk hb ht
theorem both_calls {B1 B2 : Nat} {R : Ending → World → Prop} {v u : Sv} {a b : List Nat} (hB : B ≤ w.heap.size) (ha : RdI B1 w v a) (hb : RdI B2 w u b) (hl : a.length + b.length ≤ 1048576) (hR : ∀ (x : Sv) w', RdI B w' x (a ++ b) → Below w.heap.size w w' → R (.returned (.slice x.1 x.2.1 x.2.2)) w') :
    Calls Try.prog 42 #[.slice v.1 v.2.1 v.2.2, .slice u.1 u.2.1 u.2.2] w R := by
  refine ok42 _ _ _ _ _ _ ?_
  unfold F42
  refine al fun g3 w1 hb1 hg3 hge3 => ?_
  rw [ha.1, hb.1]
  refine ap (L := LK) (xs := []) (ys := a) (base := w.heap.size) (.int .i64 0) 8 rfl rfl rfl rfl (Own.bare _ _ _ _ _) (ha.2.1.keep hb1) hb1.size (by simp; omega) (by simp [maxLen]; omega) fun A1 c1 w2 ho2 hgr2 => ⟨_, _, _, rfl, ?_⟩
  have B2 := hb1.trans hgr2.below
  simp only [List.nil_append, List.length_nil, Nat.zero_add] at ho2 hgr2 ⊢
  refine ap (L := LK) (xs := a) (ys := b) (base := w.heap.size) (.int .i64 0) 8 rfl rfl rfl rfl ho2 (hb.2.1.keep B2) B2.size (by omega) (by simp [maxLen]; omega) fun A2 c2 w3 ho3 hgr3 => ⟨_, _, _, rfl, ?_⟩
  have el : a.length + b.length = (a ++ b).length := by simp
  rw [el] at ho3 ⊢
  exact hR (A2, _, c2) w3 (.own ho3 hB) (B2.trans hgr3.below)
theorem fol_fj {g : Nat} {F : Sv} {gs : GS} (h : MJ B w g A F gs) (hf : Fm (fun b => rowOf (slV F) = some b) w w1) : Fj B A A w w1 := by
  obtain ⟨vs, h1, _⟩ := h.fol
  refine Fj.of hf fun b hb hr => ⟨(h1.lt b hr).1, .inl ?_⟩
  rcases h1 with ⟨e, _⟩ | ⟨⟨q, e⟩, _⟩ | ⟨g, c, cur, e, hb2, hh, _⟩
  · rw [e] at hr; cases hr
  · rw [e] at hr; cases hr
  · rw [e] at hr; cases hr
    exact ⟨cur, _, _, hh, rfl⟩
theorem link_calls {g : Nat} {F v u : Sv} {gs : GS} {last first : List Nat} {K : Nat} {R : Ending → World → Prop} (h : MJ B w g A F gs) (hbd : LBd gs.2 K) (hK : K ≤ 500000) (hv : RdI B w v last) (hu : RdI B w u first) (hl : ∀ k ∈ last, k < gs.2.length) (hnd : last.Nodup) (hfl : first.length ≤ 128) (hll : last.length ≤ 128)
    (hR : ∀ w', MJ B w' g A F (gs.1, link gs.2 last first) → Fj B A A w w' → R (.returned (.tuple #[])) w') :
    Calls Try.prog 56 #[.pointer (some ⟨g, 0, none⟩), .slice v.1 v.2.1 v.2.2, .slice u.1 u.2.1 u.2.2] w R := by
  refine ok56 _ _ _ _ _ _ _ ?_
  unfold F56
  refine ⟨fun i w1 => ∃ k : Nat, i = k ∧ k ≤ last.length ∧ MJ B w1 g A F (gs.1, link gs.2 (last.take k) first) ∧ Fj B A A w w1, fun i _ => last.length - i.toNat, ⟨0, rfl, by omega, h, Fj.refl _ _ _⟩, ?_⟩
  rintro i w1 ⟨k, rfl, hk, h1, f1⟩
  unfold F56_l1
  have hv1 := h.list f1 hv
  have hu1 := h.list f1 hu
  refine brd (fun hlt => ?_) (fun hge => ?_)
  · have hk2 : k < last.length := by have := hv.1; omega
    have hj := hl _ (List.getElem_mem hk2)
    refine ⟨fun w' => Below w1.heap.size w1 w', (Below.refl _ _).drew, ?_⟩
    have hm := h1.blk.cell
    have ldf : Held (fun w' => Below w1.heap.size w1 w') ⟨g, 2, none⟩ (.slice F.1 F.2.1 F.2.2) := fun w' hb => kcell hb (hm 2)
    simp only [NonNil_some, Addr.add_mk, Nat.zero_add]
    refine ⟨F.1, F.2.1, F.2.2, ldf, ?_⟩
    refine hv1.2.1.held (fun _ h => h) hv1.1 (i := (k : Int)) (by omega) (by have := hv.1; omega) rfl fun b o c0 => ?_
    simp only [Int.toNat_natCast] at c0
    have hv1n := hv.1
    refine ⟨_, c0 0 _ rfl, F.1, F.2.1, F.2.2, ldf, ?_⟩
    refine hv1.2.1.held (fun _ h => h) hv1.1 (i := (k : Int)) (by omega) (by have := hv.1; omega) rfl fun b o c0 => ?_
    simp only [Int.toNat_natCast] at c0
    refine ⟨_, c0 0 _ rfl, ?_⟩
    obtain ⟨vs, o1, o2, o3⟩ := h1.fol
    have hlen : (link gs.2 (last.take k) first).length = gs.2.length := link_len _ _ _
    have hjv : last[k] < vs.length := by rw [o2]; dsimp only; omega
    have hjf : last[k] < (link gs.2 (last.take k) first).length := by omega
    refine o1.rd.2.held (fun _ h => h) o1.rd.1 (i := (last[k] : Int)) (by omega) (by rw [o1.rd.1]; omega) rfl fun b' o' hc => ?_
    simp only [Int.toNat_natCast] at hc
    refine ⟨_, _, _, hc 0 _ rfl, ?_⟩
    have hr : RdI B w1 vs[last[k]] ((link gs.2 (last.take k) first)[last[k]]) := o3 _ _ _ (List.getElem?_eq_getElem hjv) (List.getElem?_eq_getElem hjf)
    have hd : Below w1.heap.size w1 w1.drew := (Below.refl _ _).drew
    have hl1 := (hbd.link (first := first) (List.Nodup.sublist (List.take_sublist k last) hnd) hfl) _ _ (List.getElem?_eq_getElem hjf)
    refine both_calls (B := B) (by have := h1.lt; have := h1.ge; show B ≤ w1.heap.size; omega) (hr.below hd) (hu1.below hd) (by omega) fun x w2 hx hb2 => ?_
    have hb12 : Below w1.heap.size w1 w2 := btr hd hd.size hb2
    refine ⟨_, _, _, rfl, hb12, ?_⟩
    have o1' := o1.keep hb12
    refine o1'.put rfl rfl hjv (x := x) rfl fun w3 o4 f3 => ⟨inR_i64 (by have := hv.1; omega) (by have := hv.1; omega), ⟨k + 1, by simp, by omega, ?_, ?_⟩, by have := hv.1; first | omega | (dsimp only; omega)⟩
    · rw [link_take _ _ _ _ hk2, link1_at _ _ _ hjf]
      have h2 := h1.below hb12
      have hnot := row_not (p := isInt) o1' (by decide)
      obtain ⟨es, q1, q2⟩ := h2.at_
      refine ⟨h1.ge, ?_, ⟨es, q1.fmT f3 (row_not o1' (by decide)), q2⟩, _, o4, ?_, ?_⟩
      · exact f3.blk h2.blk (fun hr => row_not (p := fun t => Nat.beq t 64) o1' (by decide) _ hr ⟨_, _, _, h2.blk, by decide⟩)
      · simp [o2]
      · intro i v' l' q1 q2
        by_cases hil : i = last[k]
        · subst hil
          simp only [List.getElem?_set_self hjv, List.getElem?_set_self hjf, Option.some.injEq] at q1 q2
          subst q1 q2
          exact hx.fm f3 hnot
        · rw [List.getElem?_set_ne (Ne.symm hil)] at q1
          dsimp only at q2
          rw [List.getElem?_set_ne (Ne.symm hil)] at q2
          exact ((o3 i v' l' q1 q2).below hb12).fm f3 hnot
    · exact f1.trans ((Fj.below A hb12).trans (fol_fj (h1.below hb12) f3))
  · obtain rfl : k = last.length := by have := hv.1; omega
    rw [List.take_length] at h1
    exact hR w1 h1 f1
end
end Go.Proofs.Ytkmoeokfgkmlhaa
/- The document's models: the places of a part. -/
namespace Go.Mdl
def wA (a : ByteArray) (rows : List (List Part)) (g : GS) : Pc × GS :=
  if a = Br then wC rows g ⟨[], [], false⟩ else if a = Mi then (⟨[], [], true⟩, g) else (⟨[g.1.length], [g.1.length], false⟩, (g.1 ++ [a], g.2 ++ [[]]))
theorem wP_eq (a : ByteArray) (rows : List (List Part)) (s : Nat) (g : GS) : wP (.mk a rows s) g =
    (⟨(wA a rows g).1.first, (wA a rows g).1.last, (wA a rows g).1.empty || (s == 42 || s == 63)⟩, ((wA a rows g).2.1, if s = 42 ∨ s = 43 then link (wA a rows g).2.2 (wA a rows g).1.last (wA a rows g).1.first else (wA a rows g).2.2)) := by
  rw [wP]; rfl
theorem wA_facts {a : ByteArray} {rows : List (List Part)} {gu gs : GS} {K : Nat} (s : Nat) (ht : Tw gu gs) (hb : LBd gs.2 K) (hc : gs.1.length + cP (.mk a rows s) ≤ 128) :
    (wA a rows gs).1.first.length ≤ 128 ∧ (wA a rows gs).1.last.Nodup ∧ (wA a rows gs).1.last.length ≤ 128 ∧ (∀ k ∈ (wA a rows gs).1.last, k < (wA a rows gs).2.2.length) ∧ LBd (wA a rows gs).2.2 (K + 512 * cP (.mk a rows s)) ∧ (wA a rows gs).2.1.length ≤ 128 := by
  have hs := sameP (.mk a rows 0) gu gs ht.at_ ht.once ht.gi
  obtain ⟨ge, pi⟩ := gi_P (.mk a rows 0) gu ht.gi
  have hc0 : cP (.mk a rows 0) ≤ cP (.mk a rows s) := by simp only [cP, if_true]; omega
  have hl : (uP (.mk a rows 0) gu).2.1.length ≤ 128 := by have := ge.2.2; rw [ht.at_] at this; omega
  have bd := bdP (.mk a rows 0) gu gs K ht hb hl
  have hlen : (wP (.mk a rows 0) gs).2.1.length = (wP (.mk a rows 0) gs).2.2.length := by rw [hs.2.1, ge.1.1]; exact hs.2.2.1
  rw [← hs.1, ← hs.2.1] at pi
  rw [← hs.2.1] at hl
  have e : wP (.mk a rows 0) gs = (⟨(wA a rows gs).1.first, (wA a rows gs).1.last, (wA a rows gs).1.empty || false⟩, (wA a rows gs).2) := by
    rw [wP_eq, if_neg (by decide)]; rfl
  rw [e] at pi bd hl hlen
  exact ⟨Nat.le_trans pi.1.len hl, pi.2.1, Nat.le_trans pi.2.len hl, fun k hk => by have := pi.2.2 k hk; dsimp only at this hlen; omega, bd.mono (by omega), hl⟩
theorem kind_mi (a : ByteArray) : kindOf a = 45 ↔ a = Mi := by
  unfold kindOf
  constructor
  · intro h
    split at h
    · cases h
    · split at h
      · cases h
      · split at h
        · cases h
        · split at h
          · assumption
          · cases h
  · rintro rfl; decide
end Go.Mdl
namespace Go.Proofs.Ytkmoeokfgkmlhaa
open Go.RowKit Go.Vc Go.Mdl
set_option linter.unusedVariables false
set_option linter.unusedSimpArgs false
set_option maxRecDepth 100000
section
variable {w w1 : World} {R : Ending → World → Prop} {g B : Nat}
/-- A piece is written. -/
theorem stP2 {g2 : Nat} {c0 : Array Value} (hg : Blk w g2 c0 66) (h0 : c0.size = 3) {a p : Option Addr} {b d n c : Nat} {k : Bool} {K : World → Prop}
    (h : ∀ w', Fm (· = g2) w w' → Blk w' g2 (pB (a, b, d) (p, n, c) k) 66 → K w') :
    St w ⟨g2, 0, none⟩ (.slice a b d) fun w1 => St w1 (Addr.add ⟨g2, 0, none⟩ 1) (.slice p n c) fun w2 => St w2 (Addr.add ⟨g2, 0, none⟩ 2) (.bool k) fun w3 => K w3 := by
  obtain ⟨x, y, z, rfl⟩ := sizeP h0
  simp only [Addr.add_mk, Nat.zero_add]
  refine st_blk hg (by simp) fun w1 hb1 f1 => st_blk hb1 (by simp) fun w2 hb2 f2 => st_blk hb2 (by simp) fun w3 hb3 f3 => ?_
  exact h w3 ((f1.trans f2).trans f3) hb3
theorem ldP2 {g2 : Nat} {x y : Sv} {e : Bool} (hb : Blk w g2 (pB x y e) 66) {K : Option Addr → Nat → Nat → Option Addr → Nat → Nat → Bool → Prop} (h : K x.1 x.2.1 x.2.2 y.1 y.2.1 y.2.2 e) :
    LdSl (w.cell? ⟨g2, 0, none⟩) fun a b c => LdSl (w.cell? (Addr.add ⟨g2, 0, none⟩ 1)) fun p n d => LdB (w.cell? (Addr.add ⟨g2, 0, none⟩ 2)) fun k => K a b c p n d k :=
  lSl (hb.cell 0) (lSl (by rw [Addr.add_mk]; exact hb.cell 1) (lB (by rw [Addr.add_mk]; exact hb.cell 2) h))
theorem resP2 {g2 : Nat} {c0 : Array Value} (hg : Blk w g2 c0 66) (h0 : c0.size = 3) {a p : Option Addr} {b d n c : Nat} {k : Bool}
    (h : ∀ w', Fm (· = g2) w w' → Blk w' g2 (pB (a, b, d) (p, n, c) k) 66 → R (.returned (pV (a, b, d) (p, n, c) k)) w') :
    St w ⟨g2, 0, none⟩ (.slice a b d) fun w1 => St w1 (Addr.add ⟨g2, 0, none⟩ 1) (.slice p n c) fun w2 => St w2 (Addr.add ⟨g2, 0, none⟩ 2) (.bool k) fun w3 =>
      LdSl (w3.cell? ⟨g2, 0, none⟩) fun a' b' c' => LdSl (w3.cell? (Addr.add ⟨g2, 0, none⟩ 1)) fun p' n' d' => LdB (w3.cell? (Addr.add ⟨g2, 0, none⟩ 2)) fun k' =>
        R (.returned (.agg #[.slice a' b' c', .slice p' n' d', .bool k'])) w3 :=
  stP2 hg h0 fun w' f hb => ldP2 hb (h w' f hb)
/-- What a part, a row, choices end in. -/
def EndsJ (R : Ending → World → Prop) (B : Nat) (w : World) (g : Nat) (A : Sv) (r : Pc × GS) : Prop := ∀ (x y A' F' : Sv) w', MJ B w' g A' F' r.2 → RdI B w' x r.1.first → RdI B w' y r.1.last → Fj B A A' w w' → R (.returned (pV x y r.1.empty)) w'
def CJ (rows : List (List Part)) : Prop := ∀ (w0 : World) (B : Nat) (w : World) (g : Nat) (A F : Sv) (gu gs : GS) (K : Nat) (v : Sv) (R : Ending → World → Prop), Old w0 B → Sub w0 w → MJ B w g A F gs → Tw gu gs → LBd gs.2 K → K + 512 * sC rows ≤ 400000 → gs.1.length + cC rows ≤ 128 → QdC w0 (qC rows) v →
  EndsJ R B w g A (wC rows gs ⟨[], [], false⟩) → Calls Try.prog 25 #[.pointer (some ⟨g, 0, none⟩), .slice v.1 v.2.1 v.2.2] w R
theorem jpart_calls {w0 : World} {ar : ByteArray} {rows : List (List Part)} {s : Nat} {e : E4} {A F : Sv} {gu gs : GS} {K : Nat} (H : ar = Mdl.Br → CJ rows) (ho : Old w0 B) (hs : Sub w0 w) (h : MJ B w g A F gs) (ht : Tw gu gs) (hb : LBd gs.2 K) (hK : K + 512 * cP (.mk ar rows s) ≤ 400000)
    (hc : gs.1.length + cP (.mk ar rows s) ≤ 128) (hp : QdP w0 (qP (.mk ar rows s)) e) (hR : EndsJ R B w g A (wP (.mk ar rows s) gs)) :
    Calls Try.prog 55 #[.pointer (some ⟨g, 0, none⟩), .agg #[.int .u8 (e.k : Int), .int .u8 (e.s : Int), .string e.a, .slice e.sl.1 e.sl.2.1 e.sl.2.2]] w R := by
  refine ok55 _ _ _ _ _ _ _ ?_
  unfold F55
  obtain ⟨ek, es, ea, esl⟩ := e
  simp only [qP, QdP] at hp
  obtain ⟨rfl, rfl, rfl, hp⟩ := hp
  replace hp : QdC w0 (qC rows) esl := hp
  rw [wP_eq] at hR
  obtain ⟨fa1, fa2, fa3, fa4, fa5, fa6⟩ := wA_facts es ht hb hc
  generalize hr : wA ar rows gs = r at hR fa1 fa2 fa3 fa4 fa5 fa6
  refine al fun ga w1 hb1 hga hgea => al fun g4 w2 hb2 hg4 hge4 => al3 fun p w3 hb3 hgp hgep => ?_
  have hb13 : Below w.heap.size w w3 := btr (btr hb1 hb1.size hb2) (Nat.le_trans hb1.size hb2.size) hb3
  have h3 := h.below hb13
  have f3 : Fj B A A w w3 := .below A hb13
  have qa : Blk w3 ga #[.int .u8 (kindOf ar : Int), .int .u8 (es : Int), .string (nmOf ar), .slice esl.1 esl.2.1 esl.2.2] 75 := (hga.keep hb2).keep hb3
  have q4 : Blk w3 g4 (pB (none, 0, 0) (none, 0, 0) false) 66 := hg4.keep hb3
  have qp : Blk w3 p (pB (none, 0, 0) (none, 0, 0) false) 66 := hgp
  have npa : ¬ ga = p := by have := (hga.keep hb2).lt; omega
  have np4 : ¬ g4 = p := by have := hg4.lt; omega
  have na4 : ¬ ga = g4 := by have := hga.lt; omega
  have hlta : w.heap.size ≤ ga := hgea
  have hlt4 : w.heap.size ≤ g4 := Nat.le_trans hb1.size hge4
  have hltp : w.heap.size ≤ p := Nat.le_trans (Nat.le_trans hb1.size hb2.size) hgep
  have nra : rowOf (slV A) ≠ some ga := fun e => by have := (h.rowlt ga e).2; omega
  clear hb1 hb2 hb3 hga hg4 hgp hgea hge4 hgep h
  refine ⟨fun w' => ∃ (x y A' F' : Sv), MJ B w' g A' F' r.2 ∧ Blk w' p (pB x y r.1.empty) 66 ∧ RdI B w' x r.1.first ∧ RdI B w' y r.1.last ∧ Blk w' ga #[.int .u8 (kindOf ar : Int), .int .u8 (es : Int), .string (nmOf ar), .slice esl.1 esl.2.1 esl.2.2] 75 ∧ Blk w' g4 (pB (none, 0, 0) (none, 0, 0) false) 66 ∧ Fj B A A' w w' ∧ rowOf (slV A') ≠ some ga, ?_, ?_⟩
  · rintro w4 ⟨x, y, A', F', h4, qp, rx, ry, qa, q4, f4, nra4⟩
    unfold F55_j11
    refine ⟨fun w' => ∃ gs2, gs2 = (r.2.1, if es = 42 ∨ es = 43 then link r.2.2 r.1.last r.1.first else r.2.2) ∧ MJ B w' g A' F' gs2 ∧ Blk w' p (pB x y r.1.empty) 66 ∧ RdI B w' x r.1.first ∧ RdI B w' y r.1.last ∧ Blk w' ga #[.int .u8 (kindOf ar : Int), .int .u8 (es : Int), .string (nmOf ar), .slice esl.1 esl.2.1 esl.2.2] 75 ∧ Blk w' g4 (pB (none, 0, 0) (none, 0, 0) false) 66 ∧ Fj B A A' w w', ?_, ?_⟩
    · rintro w5 ⟨gs2, rfl, h5, qp, rx, ry, qa, q4, f5⟩
      unfold F55_j13
      refine ⟨fun w6 => ∃ (k' : Bool), Blk w6 p (pB x y k') 66 ∧ k' = (r.1.empty || (es == 42 || es == 63)) ∧ MJ B w6 g A' F' (r.2.1, if es = 42 ∨ es = 43 then link r.2.2 r.1.last r.1.first else r.2.2) ∧ RdI B w6 x r.1.first ∧ RdI B w6 y r.1.last ∧ Blk w6 g4 (pB (none, 0, 0) (none, 0, 0) false) 66 ∧ Fj B A A' w w6, ?_, ?_⟩
      · rintro w6 ⟨k', qp, rfl, h6, rx, ry, q4, f6⟩
        unfold F55_j15
        refine ldP2 qp (resP2 q4 rfl fun w' fw _ => ?_)
        exact hR x y A' F' w' (h6.box q4 (by decide) fw) (rx.box2 q4 (by decide) fw) (ry.box2 q4 (by decide) fw) (f6.new fw fun b hb e => by omega)
      · have put : (es = 42 ∨ es = 63) → St w5 (Addr.add ⟨p, 0, none⟩ 2) (.bool true) fun w6 => ∃ (k' : Bool), Blk w6 p (pB x y k') 66 ∧ k' = (r.1.empty || (es == 42 || es == 63)) ∧ MJ B w6 g A' F' (r.2.1, if es = 42 ∨ es = 43 then link r.2.2 r.1.last r.1.first else r.2.2) ∧ RdI B w6 x r.1.first ∧ RdI B w6 y r.1.last ∧ Blk w6 g4 (pB (none, 0, 0) (none, 0, 0) false) 66 ∧ Fj B A A' w w6 := fun hk => by
          rw [Addr.add_mk]
          refine st_blk (g := p) (i := 0 + 2) qp (by simp) fun w6 hb6 f6 => ⟨true, hb6, ?_, h5.box qp (by decide) f6, rx.box2 qp (by decide) f6, ry.box2 qp (by decide) f6, f6.blk q4 np4, f5.new f6 fun b hb e => by omega⟩
          rcases hk with hk | hk <;> simp [hk]
        refine lI (by rw [Addr.add_mk]; exact qa.cell 1) ?_
        refine bre (fun h42 => put (.inl (by omega))) (fun h42 => ?_)
        refine lI (by rw [Addr.add_mk]; exact qa.cell 1) ?_
        refine bre (fun h63 => put (.inr (by omega))) (fun h63 => ?_)
        refine ⟨r.1.empty, qp, ?_, h5, rx, ry, q4, f5⟩
        have e1 : (es == 42) = false := beq_eq_false_iff_ne.2 (by omega)
        have e2 : (es == 63) = false := beq_eq_false_iff_ne.2 (by omega)
        rw [e1, e2]; simp
    · have call : (es = 42 ∨ es = 43) → LdSl (w4.cell? (Addr.add ⟨p, 0, none⟩ 1)) fun x59 x59N x59C => LdSl (w4.cell? ⟨p, 0, none⟩) fun x61 x61N x61C =>
          Calls Try.prog 56 #[.pointer (some ⟨g, 0, none⟩), .slice x59 x59N x59C, .slice x61 x61N x61C] w4 (post R fun v w5 => v = .tuple #[] ∧ ∃ gs2, gs2 = (r.2.1, if es = 42 ∨ es = 43 then link r.2.2 r.1.last r.1.first else r.2.2) ∧ MJ B w5 g A' F' gs2 ∧ Blk w5 p (pB x y r.1.empty) 66 ∧ RdI B w5 x r.1.first ∧ RdI B w5 y r.1.last ∧ Blk w5 ga #[.int .u8 (kindOf ar : Int), .int .u8 (es : Int), .string (nmOf ar), .slice esl.1 esl.2.1 esl.2.2] 75 ∧ Blk w5 g4 (pB (none, 0, 0) (none, 0, 0) false) 66 ∧ Fj B A A' w w5) := fun hsg => by
        refine lSl (by rw [Addr.add_mk]; exact qp.cell 1) (lSl (qp.cell 0) ?_)
        refine link_calls h4 fa5 (by omega) ry rx fa4 fa2 fa1 fa3 fun w5 h5 f5 => ⟨rfl, _, rfl, ?_⟩
        rw [if_pos hsg]
        exact ⟨h5, h4.stay f5 qp (by decide) (by decide), h4.list f5 rx, h4.list f5 ry, f5.blk qa (by decide) nra4, h4.stay f5 q4 (by decide) (by decide), f4.trans f5⟩
      refine lI (by rw [Addr.add_mk]; exact qa.cell 1) ?_
      refine bre (fun h42 => call (.inl (by omega))) (fun h42 => ?_)
      refine lI (by rw [Addr.add_mk]; exact qa.cell 1) ?_
      refine bre (fun h43 => call (.inr (by omega))) (fun h43 => ?_)
      have hns : ¬ (es = 42 ∨ es = 43) := by omega
      exact ⟨_, rfl, by rw [if_neg hns]; exact h4, qp, rx, ry, qa, q4, f4⟩
  · refine lI (qa.cell 0) ?_
    unfold wA at hr
    refine bre (fun h40 => ?_) (fun h40 => ?_)
    · have hbr : ar = Mdl.Br := (kind_br ar).1 (by have : (kindOf ar : Int) = 40 := h40; omega)
      rw [if_pos hbr] at hr
      refine lSl (by rw [Addr.add_mk]; exact qa.cell 3) ?_
      have hcc : cC rows + 1 ≤ cP (.mk ar rows es) := by simp only [cP, if_pos hbr]; omega
      have hsc := sC_le rows
      refine H hbr w0 B w3 g A F gu gs K esl _ ho (f3.sub hs ho.lt) h3 ht hb (by omega) (by omega) hp ?_
      rw [hr]
      intro x y A' F' w4 h4 rx ry f4
      refine ⟨_, _, _, _, _, _, _, rfl, ?_⟩
      have qp4 := h3.stay f4 qp (by decide) (by decide)
      have qa4 := f4.blk qa (by decide) nra
      have q44 := h3.stay f4 q4 (by decide) (by decide)
      refine stP2 qp4 rfl fun w5 f5 hb5 => ?_
      exact ⟨x, y, A', F', h4.box qp4 (by decide) f5, hb5, rx.box2 qp4 (by decide) f5, ry.box2 qp4 (by decide) f5, f5.blk qa4 npa, f5.blk q44 np4, (f3.trans f4).new f5 fun b hb e => by omega, fun e => nra (f4.ro ga qa.lt e)⟩
    have hbr : ¬ ar = Mdl.Br := fun e => h40 (by rw [(kind_br ar).2 e]; rfl)
    rw [if_neg hbr] at hr
    refine bre (fun h45 => ?_) (fun h45 => ?_)
    · have hmi : ar = Mi := (kind_mi ar).1 (by have : (kindOf ar : Int) = 45 := h45; omega)
      rw [if_pos hmi] at hr
      subst hr
      rw [Addr.add_mk]
      refine st_blk (g := p) (i := 0 + 2) qp (by simp) fun w4 hb4 f4 => ?_
      exact ⟨(none, 0, 0), (none, 0, 0), A, F, h3.box qp (by decide) f4, hb4, RdI.nil _ _, RdI.nil _ _, f4.blk qa npa, f4.blk q4 np4, f3.new f4 fun b hb e => by omega, nra⟩
    have hmi : ¬ ar = Mi := fun e => h45 (by rw [(kind_mi ar).2 e]; rfl)
    rw [if_neg hmi] at hr
    subst hr
    obtain ⟨vs, o1, o2, o3⟩ := h3.fol
    obtain ⟨els, o4, o5⟩ := h3.at_
    have hlen : vs.length = gs.2.length := o2
    have hgl := ht.len
    have hBs : B ≤ w3.heap.size := by have := h3.lt; have := h3.ge; omega
    simp only [List.length_append, List.length_singleton] at fa6
    have hd : Below w3.heap.size w3 w3.drew := (Below.refl _ _).drew
    refine ⟨fun w' => Below w3.heap.size w3 w', hd, ?_⟩
    rw [NonNil_some]
    refine ⟨A.1, A.2.1, A.2.2, fun w' hb => kcell hb (h3.blk.cell 0), ?_⟩
    refine ⟨_, fun w' hb => kcell hb (qa.cell 0), _, fun w' hb => kcell hb (by rw [Addr.add_mk]; exact qa.cell 1), _, fun w' hb => kcell hb (by rw [Addr.add_mk]; exact qa.cell 2), _, _, _, fun w' hb => kcell hb (by rw [Addr.add_mk]; exact qa.cell 3), ?_⟩
    refine al fun g16 w5 hb5 hg16 hge16 => ?_
    have hb35 : Below w3.heap.size w3 w5 := btr hd hd.size hb5
    refine ⟨hb35, ?_⟩
    have helen : els.length = gs.1.length := o5.1
    have hr16 : Rd LE4 w5 (some ⟨g16, 0, none⟩) 1 [⟨kindOf ar, es, nmOf ar, esl⟩] := (Own.lit' (L := LE4) (xs := [⟨kindOf ar, es, nmOf ar, esl⟩]) (base := 0) hg16 (Nat.zero_le _) rfl (by simp [maxLen])).rd.2
    refine ap (L := LE4) (xs := els) (ys := [⟨kindOf ar, es, nmOf ar, esl⟩]) (base := B) (.agg #[.int .u8 0, .int .u8 0, .string (ByteArray.mk #[]), .slice none 0 0]) 48 rfl rfl rfl rfl (o4.keep hb35) hr16 (Nat.le_trans hBs hb35.size) (by simp; omega) (by simp [maxLen]; omega) fun A1 c1 w6 oA hgr => ⟨_, _, _, rfl, ?_⟩
    have f56 : Fm (fun b => rowOf (slV A) = some b) w5 w6 := Fm.grown hgr.grown fun b e => e
    have h5 := h3.below hb35
    have nA : ∀ {q : TypeId → Bool}, q 75 = false → ∀ b, rowOf (slV A) = some b → ¬ tyAt w5 b q := fun hq => row_not (o4.keep hb35) hq
    have b6 : Blk w6 g (mR A F) 64 := f56.blk h5.blk fun hr => nA (q := fun t => Nat.beq t 64) (by decide) _ hr ⟨_, _, _, h5.blk, by decide⟩
    have oF6 : Own LSv w6 B 56 (slV F) vs := (o1.keep hb35).fmT f56 (nA (by decide))
    have rdf6 : ∀ (i : Nat) v l, vs[i]? = some v → gs.2[i]? = some l → RdI B w6 v l := fun i v l k1 k2 => ((o3 i v l k1 k2).below hb35).fm f56 (nA (by decide))
    have qp6 : Blk w6 p (pB (none, 0, 0) (none, 0, 0) false) 66 := f56.blk (qp.keep hb35) fun hr => nA (q := fun t => Nat.beq t 66) (by decide) _ hr ⟨_, _, _, qp.keep hb35, by decide⟩
    have q46 : Blk w6 g4 (pB (none, 0, 0) (none, 0, 0) false) 66 := f56.blk (q4.keep hb35) fun hr => nA (q := fun t => Nat.beq t 66) (by decide) _ hr ⟨_, _, _, q4.keep hb35, by decide⟩
    have qa6 := f56.blk (qa.keep hb35) nra
    have ro6 : ∀ b, b < w5.heap.size → rowOf (slV (A1, els.length + [E4.mk (kindOf ar) es (nmOf ar) esl].length, c1)) = some b → rowOf (slV A) = some b := by
      intro b hb e
      rcases hgr.row with k | k | ⟨gn, k, k2⟩
      · rw [← k]; exact e
      · rw [k] at e; cases e
      · rw [k] at e; cases e; omega
    have f36 : Fj B A (A1, els.length + [E4.mk (kindOf ar) es (nmOf ar) esl].length, c1) w w6 := by
      refine (f3.trans (.below A hb35)).trans ⟨f56.mono fun b hb e => ⟨(h5.rowlt b e).1, .inr e⟩, ro6⟩
    have nra6 : rowOf (slV (A1, els.length + [E4.mk (kindOf ar) es (nmOf ar) esl].length, c1)) ≠ some ga := fun e => nra (ro6 ga (Nat.lt_of_lt_of_le qa.lt hb35.size) e)
    clear o1 o3 o4 hgr f56 h5 nA ro6 hr16 hg16
    rw [NonNil_some]
    refine st_blk (g := g) (i := 0) b6 (by simp) fun w7 b7 f7 => ?_
    have gP : ∀ {q : TypeId → Bool}, q 64 = false → ∀ b, b = g → ¬ tyAt w6 b q := fun hq b e => e ▸ tyAt_blk b6 hq
    have oA7 := oA.fmT f7 (gP (by decide))
    have oF7 := oF6.fmT f7 (gP (by decide))
    have rdf7 : ∀ (i : Nat) v l, vs[i]? = some v → gs.2[i]? = some l → RdI B w7 v l := fun i v l k1 k2 => (rdf6 i v l k1 k2).fm f7 (gP (by decide))
    have ngp : ¬ p = g := fun e => gP (q := fun t => Nat.beq t 66) (by decide) p e ⟨_, _, _, qp6, by decide⟩
    have ng4 : ¬ g4 = g := fun e => gP (q := fun t => Nat.beq t 66) (by decide) g4 e ⟨_, _, _, q46, by decide⟩
    have nga : ¬ ga = g := fun e => gP (q := isPt) (by decide) ga e ⟨_, _, _, qa6, by decide⟩
    have f37 := f36.trans (Fj.of (A := (A1, els.length + [E4.mk (kindOf ar) es (nmOf ar) esl].length, c1)) f7 fun b hb e => ⟨by rw [e]; exact h3.ge, .inl (by rw [e]; exact ⟨_, _, _, b6, by decide⟩)⟩)
    have qp7 := f7.blk qp6 ngp
    have q47 := f7.blk q46 ng4
    have qa7 := f7.blk qa6 nga
    replace b7 : Blk w7 g (mR (A1, els.length + [E4.mk (kindOf ar) es (nmOf ar) esl].length, c1) F) 64 := b7
    rw [NonNil_some]
    refine lSl (by rw [Addr.add_mk]; exact b7.cell 2) ?_
    refine al fun g25 w8 hb8 hg25 hge25 => ?_
    have hr25 : Rd LSv w8 (some ⟨g25, 0, none⟩) 1 [((none, 0, 0) : Sv)] := (Own.lit' (L := LSv) (xs := [((none, 0, 0) : Sv)]) (base := 0) hg25 (Nat.zero_le _) rfl (by simp [maxLen])).rd.2
    refine ap (L := LSv) (xs := vs) (ys := [((none, 0, 0) : Sv)]) (base := B) (.slice none 0 0) 24 rfl rfl rfl rfl (oF7.keep hb8) hr25 (by have := b7.lt; have := h3.ge; have := hb8.size; omega) (by simp; omega) (by simp [maxLen]; omega) fun F1 d1 w9 oF hgr => ⟨_, _, _, rfl, ?_⟩
    have f89 : Fm (fun b => rowOf (slV F) = some b) w8 w9 := Fm.grown hgr.grown fun b e => e
    have nF : ∀ {q : TypeId → Bool}, q 56 = false → ∀ b, rowOf (slV F) = some b → ¬ tyAt w8 b q := fun hq => row_not (oF7.keep hb8) hq
    have tF : ∀ b, rowOf (slV F) = some b → B ≤ b ∧ tyAt w8 b isMut2 := by
      intro b hr
      have hlt := (oF7.keep hb8).lt b hr
      rcases oF7.keep hb8 with ⟨e, _⟩ | ⟨⟨q, e⟩, _⟩ | ⟨g', c, cur, e, hb2, hh, _⟩
      · rw [e] at hr; cases hr
      · rw [e] at hr; cases hr
      · rw [e] at hr; cases hr
        exact ⟨hb2, cur, _, _, hh, by decide⟩
    have b9 := f89.blk (b7.keep hb8) fun hr => nF (q := fun t => Nat.beq t 64) (by decide) _ hr ⟨_, _, _, b7.keep hb8, by decide⟩
    have oA9 := (oA7.keep hb8).fmT f89 (nF (by decide))
    have qp9 := f89.blk (qp7.keep hb8) fun hr => nF (q := fun t => Nat.beq t 66) (by decide) _ hr ⟨_, _, _, qp7.keep hb8, by decide⟩
    have q49 := f89.blk (q47.keep hb8) fun hr => nF (q := fun t => Nat.beq t 66) (by decide) _ hr ⟨_, _, _, q47.keep hb8, by decide⟩
    have qa9 := f89.blk (qa7.keep hb8) fun hr => nF (q := isPt) (by decide) _ hr ⟨_, _, _, qa7.keep hb8, by decide⟩
    have rdf9 : RdF B w9 (vs ++ [((none, 0, 0) : Sv)]) (gs.2 ++ [[]]) := by
      refine ⟨by simp [hlen], fun i v l k1 k2 => ?_⟩
      by_cases hi : i < vs.length
      · rw [List.getElem?_append_left hi] at k1
        rw [List.getElem?_append_left (by omega)] at k2
        exact ((rdf7 i v l k1 k2).below hb8).fm f89 (nF (by decide))
      · rw [List.getElem?_append_right (by omega)] at k1 k2
        obtain ⟨k, hk⟩ : ∃ k, i = vs.length + k := ⟨i - vs.length, by omega⟩
        subst hk
        cases k with
        | zero =>
          simp at k1
          rw [← hlen] at k2
          simp at k2
          subst k1 k2
          exact RdI.nil _ _
        | succ k => simp at k1
    have f39 := (f37.trans (Fj.below _ hb8)).trans (Fj.of (A := (A1, els.length + [E4.mk (kindOf ar) es (nmOf ar) esl].length, c1)) f89 fun b hb e => ⟨(tF b e).1, .inl (tF b e).2⟩)
    clear tF rdf7 b7 oA7 oF7 qp7 q47 qa7 f37 hgr hr25 hg25
    rw [NonNil_some, Addr.add_mk]
    refine st_blk (g := g) (i := 0 + 2) b9 (by simp) fun w10 b10 f10 => ?_
    have gP9 : ∀ {q : TypeId → Bool}, q 64 = false → ∀ b, b = g → ¬ tyAt w9 b q := fun hq b e => e ▸ tyAt_blk b9 hq
    have f310 := f39.trans (Fj.of (A := (A1, els.length + [E4.mk (kindOf ar) es (nmOf ar) esl].length, c1)) f10 fun b hb e => ⟨by rw [e]; exact h3.ge, .inl (by rw [e]; exact ⟨_, _, _, b9, by decide⟩)⟩)
    have M10 : MJ B w10 g (A1, els.length + [E4.mk (kindOf ar) es (nmOf ar) esl].length, c1) (F1, vs.length + [((none, 0, 0) : Sv)].length, d1) (gs.1 ++ [ar], gs.2 ++ [[]]) := by
      refine ⟨h3.ge, b10, ⟨_, oA9.fmT f10 (gP9 (by decide)), ?_⟩, _, oF.fmT f10 (gP9 (by decide)), rdf9.1, fun i v l k1 k2 => (rdf9.2 i v l k1 k2).fm f10 (gP9 (by decide))⟩
      refine ⟨by simp [helen], fun i e' a' k1 k2 => ?_⟩
      by_cases hi : i < els.length
      · rw [List.getElem?_append_left hi] at k1
        dsimp only at k2
        rw [List.getElem?_append_left (by omega)] at k2
        exact o5.2 i e' a' k1 k2
      · dsimp only at k2
        rw [List.getElem?_append_right (by omega)] at k1 k2
        obtain ⟨k, hk⟩ : ∃ k, i = els.length + k := ⟨i - els.length, by omega⟩
        subst hk
        cases k with
        | zero =>
          simp at k1
          rw [← helen] at k2
          simp at k2
          subst k1 k2
          exact ⟨rfl, rfl⟩
        | succ k => simp at k1
    have qp10 := f10.blk qp9 ngp
    have q410 := f10.blk q49 ng4
    have qa10 := f10.blk qa9 nga
    clear rdf9 oA9 oF b9 b10 gP9 f39 qp9 q49 qa9
    rw [NonNil_some]
    refine lSl (M10.blk.cell 0) ?_
    dsimp only
    have hv : (((els.length + [E4.mk (kindOf ar) es (nmOf ar) esl].length : Nat) : Int)) - 1 = (gs.1.length : Int) := by simp; omega
    rw [hv]
    refine ⟨inR_i64 (by omega) (by omega), ?_⟩
    refine al fun g36 w11 hb11 hg36 hge36 => al fun g38 w12 hb12 hg38 hge38 => ?_
    have hb1012 : Below w10.heap.size w10 w12 := btr hb11 hb11.size hb12
    have M12 := M10.below hb1012
    have hB10 : B ≤ w10.heap.size := by have := M10.lt; have := M10.ge; omega
    have r36 : RdI B w12 (some ⟨g36, 0, none⟩, 1, 1) [gs.1.length] := .own (k := B) (Own.lit' (L := LK) (xs := [gs.1.length]) (hg36.keep hb12) (by omega) rfl (by simp [maxLen])) (Nat.le_refl _)
    have r38 : RdI B w12 (some ⟨g38, 0, none⟩, 1, 1) [gs.1.length] := .own (k := B) (Own.lit' (L := LK) (xs := [gs.1.length]) hg38 (by have := hb11.size; omega) rfl (by simp [maxLen])) (Nat.le_refl _)
    have qp12 := qp10.keep hb1012
    refine st_blk (g := p) (i := 0) qp12 (by simp) fun w13 hb13 f13 => ?_
    rw [Addr.add_mk]
    refine st_blk (g := p) (i := 0 + 1) hb13 (by simp) fun w14 hb14 f14 => ?_
    have ff := f13.trans f14
    exact ⟨(some ⟨g36, 0, none⟩, 1, 1), (some ⟨g38, 0, none⟩, 1, 1), _, _, M12.box qp12 (by decide) ff, hb14, r36.box2 qp12 (by decide) ff, r38.box2 qp12 (by decide) ff, ff.blk (qa10.keep hb1012) npa, ff.blk (q410.keep hb1012) np4, (f310.trans (.below _ hb1012)).new ff fun b hb e => by omega, nra6⟩
end
end Go.Proofs.Ytkmoeokfgkmlhaa
/- The document's models: the places of a row, of choices. -/
namespace Go.Mdl
theorem sR_cons (p : Part) (ps : List Part) : sR (p :: ps) = cP p + sR ps := rfl
theorem sC_cons (p : List Part) (ps : List (List Part)) : sC (p :: ps) = sR p + sC ps := rfl
end Go.Mdl
namespace Go.Proofs.Ytkmoeokfgkmlhaa
open Go.RowKit Go.Vc Go.Mdl
set_option linter.unusedVariables false
set_option linter.unusedSimpArgs false
set_option maxRecDepth 100000
section
variable {w w1 : World} {R : Ending → World → Prop} {g B : Nat}
theorem jrow_calls {w0 : World} {row : List Part} {A F : Sv} {gu gs : GS} {K : Nat} {v : Sv} (H : ∀ p ∈ row, match p with | .mk ar rows s => ar = Mdl.Br → CJ rows) (ho : Old w0 B) (hs : Sub w0 w) (h : MJ B w g A F gs) (ht : Tw gu gs) (hb : LBd gs.2 K) (hK : K + 512 * sR row ≤ 400000)
    (hc : gs.1.length + sR row ≤ 128) (hp : QdW w0 (qR row) v) (hR : EndsJ R B w g A (wR row gs ⟨[], [], true⟩)) :
    Calls Try.prog 41 #[.pointer (some ⟨g, 0, none⟩), .slice v.1 v.2.1 v.2.2] w R := by
  refine ok41 _ _ _ _ ?_
  unfold F41
  obtain ⟨es, hv1, hv2, hv3⟩ := hp
  have hel : es.length = row.length := by rw [hv3.len, qR_map, List.length_map]
  have hmx := Nat.le_trans hv2.1 hv2.2.1
  unfold maxLen at hmx
  refine al fun g4 w1 hb1 hg4 hge4 => al3 fun g5 w2 hb2 hg5 hge5 => ?_
  have hb12 : Below w.heap.size w w2 := btr hb1 hb1.size hb2
  have n45 : ¬ g4 = g5 := by have := hg4.lt; omega
  have hlt4 : w.heap.size ≤ g4 := hge4
  have hlt5 : w.heap.size ≤ g5 := Nat.le_trans hb1.size hge5
  refine ⟨fun i w' => ∃ (k : Nat) (A' F' x y : Sv) (guk gsk : GS) (all : Pc) (a K' : Nat), i = k ∧ k ≤ row.length ∧ MJ B w' g A' F' gsk ∧ Rw guk gsk all a ∧ LBd gsk.2 K' ∧ K' + 512 * sR (row.drop k) ≤ 400000 ∧ gsk.1.length + sR (row.drop k) ≤ 128 ∧
      Blk w' g5 (pB x y all.empty) 66 ∧ RdI B w' x all.first ∧ RdI B w' y all.last ∧ Blk w' g4 (pB (none, 0, 0) (none, 0, 0) false) 66 ∧ Fj B A A' w w' ∧ wR (row.drop k) gsk all = wR row gs ⟨[], [], true⟩,
    fun i w' => row.length - i.toNat, ⟨0, A, F, (none, 0, 0), (none, 0, 0), gu, gs, ⟨[], [], true⟩, gu.1.length, K, rfl, by omega, h.below hb12, rw0 ht, hb, by rw [List.drop_zero]; exact hK, by rw [List.drop_zero]; exact hc, hg5, RdI.nil _ _, RdI.nil _ _, hg4.keep hb2, .below A hb12, by rw [List.drop_zero]⟩, ?_⟩
  clear hb1 hb2 hg4 hg5 hge4 hge5 hb12 h ht hb hK hc
  rintro i w3 ⟨k, A', F', x, y, guk, gsk, all, a, K', rfl, hk, h3, hrw, hbd, hK3, hc3, q5, rx, ry, q4, f3, hw⟩
  unfold F41_l3
  refine brd (fun hlt => ?_) (fun hge => ?_)
  rotate_left
  · obtain rfl : k = row.length := by omega
    rw [List.drop_length] at hw
    simp only [wR] at hw
    refine ldP2 q5 (resP2 q4 rfl fun w' fw _ => ?_)
    rw [← hw] at hR
    exact hR x y A' F' w' (h3.box q4 (by decide) fw) (rx.box2 q4 (by decide) fw) (ry.box2 q4 (by decide) fw) (f3.new fw fun b hb e => by omega)
  have hk2 : k < row.length := by omega
  have hdr : row.drop k = row[k] :: row.drop (k + 1) := List.drop_eq_getElem_cons hk2
  rw [hdr] at hw hK3 hc3
  rw [sR_cons] at hK3 hc3
  rw [wR_cons] at hw
  have hs3 : Sub w0 w3 := f3.sub hs ho.lt
  refine (hs3.rd hv2).idx hv1 (by omega) (by omega) rfl fun b o hcl => ?_
  simp only [Int.toNat_natCast] at hcl
  have t0 := hcl 0 _ rfl
  have t1 := hcl 1 _ rfl
  have t2 := hcl 2 _ rfl
  have t3 := hcl 3 _ rfl
  refine lI t0 (lI (by rw [Addr.add_mk]; exact t1) (lS (by rw [Addr.add_mk]; exact t2) (lSl (by rw [Addr.add_mk]; exact t3) ?_)))
  have hqp : QdP w0 (qP row[k]) es[k] := by
    have := hv3.get k (by rw [qR_map, List.length_map]; exact hk2) (by omega)
    have e : (qR row)[k]'(by rw [qR_map, List.length_map]; exact hk2) = qP row[k] := by simp [qR_map]
    rw [e] at this
    exact this
  have hH := H row[k] (List.getElem_mem hk2)
  obtain ⟨q1, q2, q3, q4', q5'⟩ := rwR (x := row[k]) hrw
  have hlu : (uP row[k] guk).2.1.length ≤ 128 := by
    have := (gi_P row[k] guk hrw.tw.gi).1.2.2
    rw [hrw.tw.at_] at this; omega
  have hbdP := bdP row[k] guk gsk K' hrw.tw hbd hlu
  have hcp := cP_pos row[k]
  have hlenw : (wP row[k] gsk).2.1.length = (wP row[k] gsk).2.2.length := q4'.len
  have e21 : (uP row[k] guk).2.1 = (wP row[k] gsk).2.1 := q4'.at_
  have hpl : PI (wP row[k] gsk).2.1.length all := by
    rw [← e21]
    exact hrw.pi.mono (gi_P row[k] guk hrw.tw.gi).1.2.1
  have hstR : (stR row[k] gsk all).2.1 = (wP row[k] gsk).2.1 := rfl
  have hcs : (stR row[k] gsk all).2.1.length + sR (row.drop (k + 1)) ≤ 128 := by
    rw [hstR, ← e21]
    have := (gi_P row[k] guk hrw.tw.gi).1.2.2
    rw [hrw.tw.at_] at this; omega
  have hbs : LBd (stR row[k] gsk all).2.2 (K' + 512 * cP row[k]) := by
    have := hbdP.link (first := (wP row[k] gsk).1.first) hrw.pi.2.1 (Nat.le_trans q3.1.len hlu)
    exact this.mono (by omega)
  -- the part
  have go : Calls Try.prog 55 #[.pointer (some ⟨g, 0, none⟩), .agg #[.int .u8 (es[k].k : Int), .int .u8 (es[k].s : Int), .string es[k].a, .slice es[k].sl.1 es[k].sl.2.1 es[k].sl.2.2]] w3 (post R fun v w1_6 =>
      ∃ (x21_0 : Option Addr) (x21_0N : Nat) (x21_0C : Nat) (x21_1 : Option Addr) (x21_1N : Nat) (x21_1C : Nat) (x21_2 : Bool), v = (.agg #[(.slice x21_0 x21_0N x21_0C), (.slice x21_1 x21_1N x21_1C), (.bool x21_2)]) ∧
      ∃ (A2 F2 : Sv), MJ B w1_6 g A2 F2 (wP row[k] gsk).2 ∧ RdI B w1_6 (x21_0, x21_0N, x21_0C) (wP row[k] gsk).1.first ∧ RdI B w1_6 (x21_1, x21_1N, x21_1C) (wP row[k] gsk).1.last ∧ x21_2 = (wP row[k] gsk).1.empty ∧ Fj B A' A2 w3 w1_6) := by
    generalize hrk : row[k] = pk at *
    obtain ⟨ar, rows, s⟩ := pk
    refine jpart_calls hH ho hs3 h3 hrw.tw hbd (by omega) (by omega) hqp ?_
    intro x' y' A2 F2 w4 h4 rx' ry' f4
    exact ⟨_, _, _, _, _, _, _, rfl, A2, F2, h4, rx', ry', rfl, f4⟩
  refine go.mono fun e w4 he => ?_
  revert he
  cases e with
  | returned v' =>
    rintro ⟨x0, x0N, x0C, y0, y0N, y0C, e0, rfl, A2, F2, h4, rx', ry', rfl, f4⟩
    refine ⟨_, _, _, _, _, _, _, rfl, ?_⟩
    have q54 := h3.stay f4 q5 (by decide) (by decide)
    have q44 := h3.stay f4 q4 (by decide) (by decide)
    have rx4 := h3.list f4 rx
    have ry4 := h3.list f4 ry
    have f04 := f3.trans f4
    clear go h3 f3 f4 q5 q4 rx ry
    refine al3 fun yb w5 hb5 hyb hgeyb => ?_
    have n5y : ¬ g5 = yb := by have := q54.lt; omega
    have n4y : ¬ g4 = yb := by have := q44.lt; omega
    have hltq : w.heap.size ≤ yb := Nat.le_trans f04.fm.size hgeyb
    have h5 := h4.below hb5
    have q55 := q54.keep hb5
    have q45 := q44.keep hb5
    have f05 := f04.trans (.below A2 hb5)
    replace hyb : Blk w5 yb (pB (x0, x0N, x0C) (y0, y0N, y0C) (wP row[k] gsk).1.empty) 66 := hyb
    refine lSl (by rw [Addr.add_mk]; exact q55.cell 1) ?_
    refine lSl (hyb.cell 0) ?_
    refine link_calls h5 hbdP (by omega) (ry4.below hb5) (rx'.below hb5) (fun j hj => by have := hpl.2.2 j hj; omega) hrw.pi.2.1 (Nat.le_trans q3.1.len hlu) (by
      have := hpl.2.len; rw [← e21] at this; omega) fun w6 h6 f6 => ⟨rfl, ?_⟩
    have q56 := h5.stay f6 q55 (by decide) (by decide)
    have q46 := h5.stay f6 q45 (by decide) (by decide)
    have qy6 := h5.stay f6 hyb (by decide) (by decide)
    have rx6 := h5.list f6 (rx4.below hb5)
    have ry6 := h5.list f6 (ry4.below hb5)
    have rx6' := h5.list f6 (rx'.below hb5)
    have ry6' := h5.list f6 (ry'.below hb5)
    have f06 := f05.trans f6
    clear h4 h5 q54 q44 rx4 ry4 hb5 q55 q45 hyb f6 f05 f04 rx' ry'
    replace h6 : MJ B w6 g A2 F2 (stR row[k] gsk all).2 := h6
    have hlen1 : ∀ {l : List Nat}, Few (uP row[k] guk).2.1.length l → l.length ≤ 128 := fun h => Nat.le_trans h.len hlu
    have hallf : all.first.length ≤ 128 := Nat.le_trans hpl.1.len (by rw [← e21]; exact hlu)
    have halll : all.last.length ≤ 128 := Nat.le_trans hpl.2.len (by rw [← e21]; exact hlu)
    have hrf := hlen1 q3.1
    have hrl := hlen1 q3.2
    refine ⟨fun z w' => ∃ gz, z = ⟨gz, 0, none⟩ ∧ w.heap.size ≤ gz ∧ ¬ gz = g4 ∧ ¬ gz = g5 ∧ ¬ gz = yb ∧ Blk w' gz (pB x (y0, y0N, y0C) (all.empty && (wP row[k] gsk).1.empty)) 66 ∧ MJ B w' g A2 F2 (stR row[k] gsk all).2 ∧ Blk w' g5 (pB x y all.empty) 66 ∧ Blk w' g4 (pB (none, 0, 0) (none, 0, 0) false) 66 ∧ Blk w' yb (pB (x0, x0N, x0C) (y0, y0N, y0C) (wP row[k] gsk).1.empty) 66 ∧
      RdI B w' x all.first ∧ RdI B w' y all.last ∧ RdI B w' (x0, x0N, x0C) (wP row[k] gsk).1.first ∧ RdI B w' (y0, y0N, y0C) (wP row[k] gsk).1.last ∧ Fj B A A2 w w', ?_, ?_⟩
    · rintro z w7 ⟨gz, rfl, hltz, nz4, nz5, nzy, qz, h7, q57, q47, qy7, rx7, ry7, rx7', ry7', f07⟩
      unfold F41_j8
      refine ⟨fun w' => ∃ x1 : Sv, Blk w' gz (pB x1 (y0, y0N, y0C) (all.empty && (wP row[k] gsk).1.empty)) 66 ∧ RdI B w' x1 (stR row[k] gsk all).1.first ∧ MJ B w' g A2 F2 (stR row[k] gsk all).2 ∧ Blk w' g5 (pB x y all.empty) 66 ∧ Blk w' g4 (pB (none, 0, 0) (none, 0, 0) false) 66 ∧ Blk w' yb (pB (x0, x0N, x0C) (y0, y0N, y0C) (wP row[k] gsk).1.empty) 66 ∧
        RdI B w' y all.last ∧ RdI B w' (y0, y0N, y0C) (wP row[k] gsk).1.last ∧ Fj B A A2 w w', ?_, ?_⟩
      · rintro w8 ⟨x1, qz8, r8, h8, q58, q48, qy8, ry8, ry8', f08⟩
        unfold F41_j10
        refine ⟨fun w' => ∃ y1 : Sv, Blk w' gz (pB x1 y1 (all.empty && (wP row[k] gsk).1.empty)) 66 ∧ RdI B w' x1 (stR row[k] gsk all).1.first ∧ RdI B w' y1 (stR row[k] gsk all).1.last ∧ MJ B w' g A2 F2 (stR row[k] gsk all).2 ∧ Blk w' g5 (pB x y all.empty) 66 ∧ Blk w' g4 (pB (none, 0, 0) (none, 0, 0) false) 66 ∧ Fj B A A2 w w', ?_, ?_⟩
        · rintro w9 ⟨y1, qz9, r9, s9, h9, q59, q49, f09⟩
          unfold F41_j12
          refine ldP2 qz9 ?_
          refine stP2 q59 rfl fun w10 f10 hb10 => ?_
          refine ⟨inR_i64 (by omega) (by omega), ⟨k + 1, A2, F2, x1, y1, guR row[k] guk all, (stR row[k] gsk all).2, (stR row[k] gsk all).1, a, K' + 512 * cP row[k], by simp, by omega, h9.box q59 (by decide) f10, q1, hbs, by omega, hcs, hb10, r9.box2 q59 (by decide) f10, s9.box2 q59 (by decide) f10, f10.blk q49 n45, f09.new f10 fun b hb e => by omega, hw⟩, by dsimp only; omega⟩
        · refine lB (by rw [Addr.add_mk]; exact qy8.cell 2) ?_
          have hlast : (stR row[k] gsk all).1.last = if (wP row[k] gsk).1.empty then all.last ++ (wP row[k] gsk).1.last else (wP row[k] gsk).1.last := rfl
          refine br (fun he => ?_) (fun he => ?_)
          · rw [he, if_pos rfl] at hlast
            refine lSl (by rw [Addr.add_mk]; exact q58.cell 1) (lSl (by rw [Addr.add_mk]; exact qy8.cell 1) ?_)
            refine both_calls (B := B) (u := (y0, y0N, y0C)) (by have := h8.lt; have := h8.ge; omega) ry8 ry8' (by omega) fun y1 w9 hy1 hb9 => ⟨_, _, _, rfl, ?_⟩
            rw [Addr.add_mk]
            have qz9 := qz8.keep hb9
            refine st_blk (g := gz) (i := 0 + 1) qz9 (by simp) fun w10 hb10 f10 => ?_
            rw [hlast]
            exact ⟨y1, hb10, (r8.below hb9).box2 qz9 (by decide) f10, hy1.box2 qz9 (by decide) f10, (h8.below hb9).box qz9 (by decide) f10, f10.blk (q58.keep hb9) (Ne.symm nz5), f10.blk (q48.keep hb9) (Ne.symm nz4), (f08.trans (.below A2 hb9)).new f10 fun b hb e => by omega⟩
          · rw [he, if_neg (by decide)] at hlast
            rw [hlast]
            exact ⟨(y0, y0N, y0C), qz8, r8, ry8', h8, q58, q48, f08⟩
      · refine lB (by rw [Addr.add_mk]; exact q57.cell 2) ?_
        have hfirst : (stR row[k] gsk all).1.first = if all.empty then all.first ++ (wP row[k] gsk).1.first else all.first := rfl
        refine br (fun he => ?_) (fun he => ?_)
        · rw [he, if_pos rfl] at hfirst
          refine lSl (q57.cell 0) (lSl (qy7.cell 0) ?_)
          refine both_calls (B := B) (u := (x0, x0N, x0C)) (by have := h7.lt; have := h7.ge; omega) rx7 rx7' (by omega) fun x1 w9 hx1 hb9 => ⟨_, _, _, rfl, ?_⟩
          have qz9 := qz.keep hb9
          refine st_blk (g := gz) (i := 0) qz9 (by simp) fun w10 hb10 f10 => ?_
          rw [hfirst]
          exact ⟨x1, hb10, hx1.box2 qz9 (by decide) f10, (h7.below hb9).box qz9 (by decide) f10, f10.blk (q57.keep hb9) (Ne.symm nz5), f10.blk (q47.keep hb9) (Ne.symm nz4), f10.blk (qy7.keep hb9) (Ne.symm nzy), (ry7.below hb9).box2 qz9 (by decide) f10, (ry7'.below hb9).box2 qz9 (by decide) f10, (f07.trans (.below A2 hb9)).new f10 fun b hb e => by omega⟩
        · rw [he, if_neg (by decide)] at hfirst
          rw [hfirst]
          exact ⟨x, qz, rx7, h7, q57, q47, qy7, ry7, ry7', f07⟩
    · refine lSl (q56.cell 0) (lSl (by rw [Addr.add_mk]; exact qy6.cell 1) (lB (by rw [Addr.add_mk]; exact q56.cell 2) ?_))
      have mk : ∀ (bz : Bool), bz = (all.empty && (wP row[k] gsk).1.empty) → ∀ (gz : Nat) (w7 : World), Below w6.heap.size w6 w7 → Blk w7 gz #[.slice x.1 x.2.1 x.2.2, .slice y0 y0N y0C, .bool bz] 66 → w6.heap.size ≤ gz →
          ∃ gz', (⟨gz, 0, none⟩ : Addr) = ⟨gz', 0, none⟩ ∧ w.heap.size ≤ gz' ∧ ¬ gz' = g4 ∧ ¬ gz' = g5 ∧ ¬ gz' = yb ∧ Blk w7 gz' (pB x (y0, y0N, y0C) (all.empty && (wP row[k] gsk).1.empty)) 66 ∧ MJ B w7 g A2 F2 (stR row[k] gsk all).2 ∧ Blk w7 g5 (pB x y all.empty) 66 ∧ Blk w7 g4 (pB (none, 0, 0) (none, 0, 0) false) 66 ∧ Blk w7 yb (pB (x0, x0N, x0C) (y0, y0N, y0C) (wP row[k] gsk).1.empty) 66 ∧
            RdI B w7 x all.first ∧ RdI B w7 y all.last ∧ RdI B w7 (x0, x0N, x0C) (wP row[k] gsk).1.first ∧ RdI B w7 (y0, y0N, y0C) (wP row[k] gsk).1.last ∧ Fj B A A2 w w7 := by
        rintro bz rfl gz w7 hb7 hgz hgez
        have z1 := q46.lt
        have z2 := q56.lt
        have z3 := qy6.lt
        have z4 := f06.fm.size
        exact ⟨gz, rfl, by omega, by omega, by omega, by omega, hgz, h6.below hb7, q56.keep hb7, q46.keep hb7, qy6.keep hb7, rx6.below hb7, ry6.below hb7, rx6'.below hb7, ry6'.below hb7, f06.trans (.below A2 hb7)⟩
      refine br (fun he => ?_) (fun he => ?_)
      · refine lB (by rw [Addr.add_mk]; exact qy6.cell 2) ?_
        exact al3 fun gz w7 hb7 hgz hgez => mk _ (by rw [he]; rfl) gz w7 hb7 hgz hgez
      · exact al3 fun gz w7 hb7 hgz hgez => mk _ (by rw [he]; rfl) gz w7 hb7 hgz hgez
  | _ => intro he; exact he
theorem jchoices_calls1 {w0 : World} {rows : List (List Part)} {A F : Sv} {gu gs : GS} {K : Nat} {v : Sv} (H : ∀ r ∈ rows, ∀ p ∈ r, match p with | .mk ar rows s => ar = Mdl.Br → CJ rows) (ho : Old w0 B) (hs : Sub w0 w) (h : MJ B w g A F gs) (ht : Tw gu gs) (hb : LBd gs.2 K) (hK : K + 512 * sC rows ≤ 400000)
    (hc : gs.1.length + sC rows ≤ 128) (hp : QdC w0 (qC rows) v) (hR : EndsJ R B w g A (wC rows gs ⟨[], [], false⟩)) :
    Calls Try.prog 25 #[.pointer (some ⟨g, 0, none⟩), .slice v.1 v.2.1 v.2.2] w R := by
  refine ok25 _ _ _ _ ?_
  unfold F25
  obtain ⟨es, hv1, hv2, hv3⟩ := hp
  have hel : es.length = rows.length := by rw [hv3.len, qC_map, List.length_map]
  have hmx := Nat.le_trans hv2.1 hv2.2.1
  unfold maxLen at hmx
  refine al fun g4 w1 hb1 hg4 hge4 => al3 fun g5 w2 hb2 hg5 hge5 => ?_
  have hb12 : Below w.heap.size w w2 := btr hb1 hb1.size hb2
  have n45 : ¬ g4 = g5 := by have := hg4.lt; omega
  have hlt4 : w.heap.size ≤ g4 := hge4
  have hlt5 : w.heap.size ≤ g5 := Nat.le_trans hb1.size hge5
  refine ⟨fun i w' => ∃ (k : Nat) (A' F' x y : Sv) (guk gsk : GS) (all : Pc) (a K' : Nat), i = k ∧ k ≤ rows.length ∧ MJ B w' g A' F' gsk ∧ Rw guk gsk all a ∧ LBd gsk.2 K' ∧ K' + 512 * sC (rows.drop k) ≤ 400000 ∧ gsk.1.length + sC (rows.drop k) ≤ 128 ∧
      Blk w' g5 (pB x y all.empty) 66 ∧ RdI B w' x all.first ∧ RdI B w' y all.last ∧ Blk w' g4 (pB (none, 0, 0) (none, 0, 0) false) 66 ∧ Fj B A A' w w' ∧ wC (rows.drop k) gsk all = wC rows gs ⟨[], [], false⟩,
    fun i w' => rows.length - i.toNat, ⟨0, A, F, (none, 0, 0), (none, 0, 0), gu, gs, ⟨[], [], false⟩, gu.1.length, K, rfl, by omega, h.below hb12, rw1 ht, hb, by rw [List.drop_zero]; exact hK, by rw [List.drop_zero]; exact hc, hg5, RdI.nil _ _, RdI.nil _ _, hg4.keep hb2, .below A hb12, by rw [List.drop_zero]⟩, ?_⟩
  clear hb1 hb2 hg4 hg5 hge4 hge5 hb12 h ht hb hK hc
  rintro i w3 ⟨k, A', F', x, y, guk, gsk, all, a, K', rfl, hk, h3, hrw, hbd, hK3, hc3, q5, rx, ry, q4, f3, hw⟩
  unfold F25_l3
  refine brd (fun hlt => ?_) (fun hge => ?_)
  rotate_left
  · obtain rfl : k = rows.length := by omega
    rw [List.drop_length] at hw
    simp only [wC] at hw
    refine ldP2 q5 (resP2 q4 rfl fun w' fw _ => ?_)
    rw [← hw] at hR
    exact hR x y A' F' w' (h3.box q4 (by decide) fw) (rx.box2 q4 (by decide) fw) (ry.box2 q4 (by decide) fw) (f3.new fw fun b hb e => by omega)
  have hk2 : k < rows.length := by omega
  have hdr : rows.drop k = rows[k] :: rows.drop (k + 1) := List.drop_eq_getElem_cons hk2
  rw [hdr] at hw hK3 hc3
  rw [sC_cons] at hK3 hc3
  rw [wC_cons] at hw
  have hs3 : Sub w0 w3 := f3.sub hs ho.lt
  obtain ⟨q1, q2, q3⟩ := rwC (x := rows[k]) hrw
  have hgiR := gi_R rows[k] guk ⟨[], [], true⟩ hrw.tw.gi ⟨Few.nil _, Few.nil _⟩
  have hlu : (uR rows[k] guk ⟨[], [], true⟩).2.1.length ≤ 128 := by
    have := hgiR.1.2.2
    rw [hrw.tw.at_] at this; omega
  have hbs := bdR rows[k] guk gsk ⟨[], [], true⟩ K' _ (rw0 hrw.tw) hbd hlu
  have e21 : (uR rows[k] guk ⟨[], [], true⟩).2.1 = (wR rows[k] gsk ⟨[], [], true⟩).2.1 := q1.tw.at_
  have hcs : (stC rows[k] gsk all).2.1.length + sC (rows.drop (k + 1)) ≤ 128 := by
    show (wR rows[k] gsk ⟨[], [], true⟩).2.1.length + _ ≤ 128
    rw [← e21]
    have := hgiR.1.2.2
    rw [hrw.tw.at_] at this; omega
  have hrf : (wR rows[k] gsk ⟨[], [], true⟩).1.first.length ≤ 128 := by rw [q2]; exact Nat.le_trans hgiR.2.1.len hlu
  have hrl : (wR rows[k] gsk ⟨[], [], true⟩).1.last.length ≤ 128 := by rw [q2]; exact Nat.le_trans hgiR.2.2.len hlu
  have hgl : guk.1.length ≤ 128 := by rw [hrw.tw.at_]; omega
  have hallf : all.first.length ≤ 128 := Nat.le_trans hrw.pi.1.len hgl
  have halll : all.last.length ≤ 128 := Nat.le_trans hrw.pi.2.len hgl
  refine ⟨fun w' => ∃ (A' F' x y : Sv), MJ B w' g A' F' (stC rows[k] gsk all).2 ∧ Blk w' g5 (pB x y (stC rows[k] gsk all).1.empty) 66 ∧ RdI B w' x (stC rows[k] gsk all).1.first ∧ RdI B w' y (stC rows[k] gsk all).1.last ∧ Blk w' g4 (pB (none, 0, 0) (none, 0, 0) false) 66 ∧ Fj B A A' w w', ?_, ?_⟩
  · rintro w4 ⟨A2, F2, x2, y2, h4, q54, rx4, ry4, q44, f4⟩
    unfold F25_j4
    exact ⟨inR_i64 (by omega) (by omega), ⟨k + 1, A2, F2, x2, y2, (uR rows[k] guk ⟨[], [], true⟩).2, (stC rows[k] gsk all).2, (stC rows[k] gsk all).1, a, K' + 512 * sR rows[k], by simp, by omega, h4, q1, hbs, by omega, hcs, q54, rx4, ry4, q44, f4, hw⟩, by dsimp only; omega⟩
  refine (hs3.rd hv2).idx hv1 (by omega) (by omega) rfl fun b o hcl => ?_
  simp only [Int.toNat_natCast] at hcl
  refine lSl (hcl 0 _ rfl) ?_
  have hqp : QdW w0 (qR rows[k]) es[k] := by
    have := hv3.get k (by rw [qC_map, List.length_map]; exact hk2) (by omega)
    have e : (qC rows)[k]'(by rw [qC_map, List.length_map]; exact hk2) = qR rows[k] := by simp [qC_map]
    rw [e] at this
    exact this
  refine jrow_calls (fun p hp => H rows[k] (List.getElem_mem hk2) p hp) ho hs3 h3 hrw.tw hbd (by omega) (by omega) hqp ?_
  intro x' y' A2 F2 w4 h4 rx' ry' f4
  refine ⟨_, _, _, _, _, _, _, rfl, ?_⟩
  have q54 := h3.stay f4 q5 (by decide) (by decide)
  have q44 := h3.stay f4 q4 (by decide) (by decide)
  have rx4 := h3.list f4 rx
  have ry4 := h3.list f4 ry
  have f04 := f3.trans f4
  clear h3 f3 f4 q5 q4 rx ry
  refine al3 fun yb w5 hb5 hyb hgeyb => ?_
  have n5y : ¬ g5 = yb := by have := q54.lt; omega
  have hd : Below w5.heap.size w5 w5.drew := (Below.refl _ _).drew
  have q55 := q54.keep hb5
  have q45 := q44.keep hb5
  refine ⟨fun w' => Below w5.heap.size w5 w', hd, _, _, _, fun w' hb => kcell hb (q55.cell 0), _, _, _, fun w' hb => kcell hb (hyb.cell 0), _, _, _, fun w' hb => kcell hb (by rw [Addr.add_mk]; exact q55.cell 1), _, _, _, fun w' hb => kcell hb (by rw [Addr.add_mk]; exact hyb.cell 1), _, fun w' hb => kcell hb (by rw [Addr.add_mk]; exact q55.cell 2), ?_⟩
  have hB5 : B ≤ w5.heap.size := by have := h4.lt; have := h4.ge; have := hb5.size; omega
  refine both_calls (B := B) (w := w5.drew) hB5 ((rx4.below hb5).below hd) ((rx'.below hb5).below hd) (by omega) fun x1 w6 hx1 hb6 => ⟨_, _, _, rfl, ?_⟩
  have hb56 : Below w5.heap.size w5 w6 := btr hd hd.size hb6
  refine ⟨hb56, ?_⟩
  refine both_calls (B := B) (w := w6) (Nat.le_trans hB5 hb56.size) ((ry4.below hb5).below hb56) ((ry'.below hb5).below hb56) (by omega) fun y1 w7 hy1 hb7 => ⟨_, _, _, rfl, ?_⟩
  have hb57 : Below w5.heap.size w5 w7 := btr hb56 hb56.size hb7
  have hb47 : Below w4.heap.size w4 w7 := btr hb5 hb5.size hb57
  refine ⟨hb57, ?_⟩
  have q57 := q55.keep hb57
  have done : ∀ bz, bz = (all.empty || (wR rows[k] gsk ⟨[], [], true⟩).1.empty) → St w7 ⟨g5, 0, none⟩ (.slice x1.1 x1.2.1 x1.2.2) fun w1 => St w1 (Addr.add ⟨g5, 0, none⟩ 1) (.slice y1.1 y1.2.1 y1.2.2) fun w2 => St w2 (Addr.add ⟨g5, 0, none⟩ 2) (.bool bz) fun w' =>
      ∃ (A' F' x y : Sv), MJ B w' g A' F' (stC rows[k] gsk all).2 ∧ Blk w' g5 (pB x y (stC rows[k] gsk all).1.empty) 66 ∧ RdI B w' x (stC rows[k] gsk all).1.first ∧ RdI B w' y (stC rows[k] gsk all).1.last ∧ Blk w' g4 (pB (none, 0, 0) (none, 0, 0) false) 66 ∧ Fj B A A' w w' := by
    rintro bz rfl
    refine stP2 q57 rfl fun w8 f8 hb8 => ?_
    exact ⟨A2, F2, x1, y1, (h4.below hb47).box q57 (by decide) f8, hb8, (hx1.below hb7).box2 q57 (by decide) f8, hy1.box2 q57 (by decide) f8, f8.blk (q45.keep hb57) n45, (f04.trans (.below A2 hb47)).new f8 fun b hb e => by omega⟩
  refine br (fun he => done true (by rw [he]; rfl)) (fun he => ?_)
  exact ⟨_, fun w' hb => kcell hb (by rw [Addr.add_mk]; exact hyb.cell 2), done _ (by rw [he]; rfl)⟩
theorem jchoices_calls : ∀ (N : Nat) (rows : List (List Part)), cC rows < N → CJ rows
  | 0, rows, h => absurd h (by omega)
  | N + 1, rows, h => fun w0 B w g A F gu gs K v R ho hs hM ht hb hK hc hp hR => by
    have hsc := sC_le rows
    refine jchoices_calls1 (fun r hr p hp => ?_) ho hs hM ht hb hK (by omega) hp hR
    obtain ⟨ar, rows', s⟩ := p
    intro hbr
    have h1 := mem_sC hr
    have h2 := mem_sR hp
    simp only [cP, if_pos hbr] at h2
    exact jchoices_calls N rows' (by omega)
end
end Go.Proofs.Ytkmoeokfgkmlhaa
set_option linter.unusedVariables false
set_option maxRecDepth 100000
namespace Go.Proofs.Ytkmoeokfgkmlhaa
open Go.Vc
-- (*model.Model).Text
def F24 (m_ : Option Addr) (w_ : World) (R : Ending → World → Prop) : Prop :=
 Br (m_).isNone
 (R (.returned (.string (ByteArray.mk #[]))) w_)
 (Al w_ #[(.pointer none), (.slice none 0 0)] 85 fun g7 w1 =>
 NonNil m_ fun p10 =>
 LdSl (w1.cell? p10) fun x12 x12N x12C =>
 Calls Try.prog 39 #[(.pointer (some g7)), (.slice x12 x12N x12C)] w1 (post R fun v w1_2 =>
 v = (.tuple #[]) ∧
 Calls Try.prog 40 #[(.pointer (some g7))] w1_2 (post R fun v2 w1_3 =>
 ∃ (x15 : ByteArray), v2 = (.string x15) ∧
 R (.returned (.string x15)) w1_3)))

def pl24 : Plan := ⟨16, ⟨[]⟩, [], []⟩

theorem eq24 (m_ : Option Addr) (w : World) (R : Ending → World → Prop) : F24 m_ w R = vc Try.prog Try.f24 pl24 R 100000 [.code (bodyOf Try.f24)] (argEnv 0 #[(.pointer m_)].toList) w := by kernel_rfl

theorem ok24 (m_ : Option Addr) {w : World} {R : Ending → World → Prop} (h : F24 m_ w R) : Calls Try.prog 24 #[(.pointer m_)] w R :=
  vc_calls (pl := pl24) Try.func24 (by kernel_rfl) (by kernel_rfl) (by kernel_rfl) (Eq.mp (eq24 m_ w R) h)

-- model.write
def F39_j17 (L6 : Int → World → Prop) (x21 : Int) (w_6 : World) (R : Ending → World → Prop) : Prop :=
 InR .i64 (x21 + (1 : Int)) ∧ L6 (x21 + (1 : Int)) w_6

def F39_j15 (w_ : Option Addr) (J17 : World → Prop) (p : Addr) (w_7 : World) (R : Ending → World → Prop) : Prop :=
 LdI .u8 (w_7.cell? (p.add 2)) fun x46 =>
 Br (x46 != (0 : Int))
 (LdI .u8 (w_7.cell? (p.add 2)) fun x50 =>
 Calls Try.prog 53 #[(.pointer w_), (.int .u8 x50)] w_7 (post R fun v w1_5 =>
 ∃ (x51 : Value), v = x51 ∧
 J17 w1_5))
 (J17 w_7)

def F39_j10 (w_ : Option Addr) (J17 : World → Prop) (p : Addr) (w_6 : World) (R : Ending → World → Prop) : Prop :=
 ∃ J15 : World → Prop, (∀  (w1_5 : World), J15 w1_5 → F39_j15 w_ J17 p w1_5 R) ∧
 (LdStr (w_6.cell? p) fun x31 =>
 Br (x31.toList == (ByteArray.mk #[40]).toList)
 (Calls Try.prog 53 #[(.pointer w_), (.int .u8 40)] w_6 (post R fun v w1_5 =>
 ∃ (x34 : Value), v = x34 ∧
 LdSl (w1_5.cell? (p.add 1)) fun x37 x37N x37C =>
 Calls Try.prog 39 #[(.pointer w_), (.slice x37 x37N x37C)] w1_5 (post R fun v2 w1_6 =>
 v2 = (.tuple #[]) ∧
 Calls Try.prog 53 #[(.pointer w_), (.int .u8 41)] w1_6 (post R fun v3 w1_7 =>
 ∃ (x40 : Value), v3 = x40 ∧
 J15 w1_7))))
 (LdStr (w_6.cell? p) fun x43 =>
 Calls Try.prog 54 #[(.pointer w_), (.string x43)] w_6 (post R fun v w1_5 =>
 ∃ (x44_0 : Int) (x44_1 : Value), v = (.tuple #[(.int .i64 x44_0), x44_1]) ∧
 J15 w1_5)))

def F39_l6 (w_ : Option Addr) (L1 : Int → World → Prop) (x10 : Int) (x14 : Option Addr) (x14N : Nat) (L6 : Int → World → Prop) (x21 : Int) (w_5 : World) (R : Ending → World → Prop) : Prop :=
 Br (decide (x21 < ((x14N : Nat) : Int)))
 (∃ J17 : World → Prop, (∀  (w1 : World), J17 w1 → F39_j17 L6 x21 w1 R) ∧
 (IdxA x14 x14N x21 3 fun q24 =>
 LdStr (w_5.cell? q24) fun x25_0 =>
 LdSl (w_5.cell? (q24.add 1)) fun x25_1 x25_1N x25_1C =>
 LdI .u8 (w_5.cell? (q24.add 2)) fun x25_2 =>
 Al w_5 #[(.string (ByteArray.mk #[])), (.slice none 0 0), (.int .u8 0)] 96 fun p w1 =>
 St w1 p (.string x25_0) fun w1_2 =>
 St w1_2 (p.add 1) (.slice x25_1 x25_1N x25_1C) fun w1_3 =>
 St w1_3 (p.add 2) (.int .u8 x25_2) fun w1_4 =>
 ∃ J10 : World → Prop, (∀  (w1_5 : World), J10 w1_5 → F39_j10 w_ J17 p w1_5 R) ∧
 (Br (decide (x21 > (0 : Int)))
 (Calls Try.prog 53 #[(.pointer w_), (.int .u8 44)] w1_4 (post R fun v w1_5 =>
 ∃ (x29 : Value), v = x29 ∧
 J10 w1_5))
 (J10 w1_4))))
 (InR .i64 (x10 + (1 : Int)) ∧ L1 (x10 + (1 : Int)) w_5)

def F39_j5 (w_ : Option Addr) (L1 : Int → World → Prop) (x10 : Int) (x14 : Option Addr) (x14N : Nat) (w_4 : World) (R : Ending → World → Prop) : Prop :=
 ∃ (I : Int → World → Prop) (m : Int → World → Nat), I (0 : Int) w_4 ∧
 ∀ (x21 : Int) (w1 : World), I x21 w1 → F39_l6 w_ L1 x10 x14 x14N (fun x21' w2 => I x21' w2 ∧ m x21' w2 < m x21 w1) x21 w1 R

def F39_l1 (w_ : Option Addr) (rows : Option Addr) (rowsN : Nat) (L1 : Int → World → Prop) (x10 : Int) (w_3 : World) (R : Ending → World → Prop) : Prop :=
 Br (decide (x10 < ((rowsN : Nat) : Int)))
 (IdxA rows rowsN x10 1 fun q13 =>
 LdSl (w_3.cell? q13) fun x14 x14N x14C =>
 ∃ J5 : World → Prop, (∀  (w1 : World), J5 w1 → F39_j5 w_ L1 x10 x14 x14N w1 R) ∧
 (Br (decide (x10 > (0 : Int)))
 (Calls Try.prog 53 #[(.pointer w_), (.int .u8 124)] w_3 (post R fun v w1 =>
 ∃ (x18 : Value), v = x18 ∧
 J5 w1))
 (J5 w_3)))
 (R (.returned (.tuple #[])) w_3)

def F39 (w_ : Option Addr) (rows : Option Addr) (rowsN : Nat) (rowsC : Nat) (w_2 : World) (R : Ending → World → Prop) : Prop :=
 ∃ (I : Int → World → Prop) (m : Int → World → Nat), I (0 : Int) w_2 ∧
 ∀ (x10 : Int) (w1 : World), I x10 w1 → F39_l1 w_ rows rowsN (fun x10' w2 => I x10' w2 ∧ m x10' w2 < m x10 w1) x10 w1 R

def pl39 : Plan := ⟨54, ⟨[]⟩, [(15, ⟨[], [(30, 45)]⟩), (10, ⟨[], [(26, 30)]⟩), (17, ⟨[], [(6, 8), (23, 52)]⟩), (5, ⟨[], [(15, 19)]⟩)], [(6, ⟨[(21, (.s (.int .i64)))], [(6, 8), (21, 53)]⟩), (1, ⟨[(10, (.s (.int .i64)))], [(4, 8), (10, 54)]⟩)]⟩

theorem eq39 (w_ : Option Addr) (rows : Option Addr) (rowsN : Nat) (rowsC : Nat) (w : World) (R : Ending → World → Prop) : F39 w_ rows rowsN rowsC w R = vc Try.prog Try.f39 pl39 R 100000 [.code (bodyOf Try.f39)] (argEnv 0 #[(.pointer w_), (.slice rows rowsN rowsC)].toList) w := by kernel_rfl

theorem ok39 (w_ : Option Addr) (rows : Option Addr) (rowsN : Nat) (rowsC : Nat) {w : World} {R : Ending → World → Prop} (h : F39 w_ rows rowsN rowsC w R) : Calls Try.prog 39 #[(.pointer w_), (.slice rows rowsN rowsC)] w R :=
  vc_calls (pl := pl39) Try.func39 (by kernel_rfl) (by kernel_rfl) (by kernel_rfl) (Eq.mp (eq39 w_ rows rowsN rowsC w R) h)

-- (*strings.Builder).WriteByte
def F53 (b : Option Addr) (c : Int) (w_ : World) (R : Ending → World → Prop) : Prop :=
 Calls Try.prog 76 #[(.pointer b)] w_ (post R fun v w1 =>
 v = (.tuple #[]) ∧
 NonNil b fun p9 =>
 LdSl (w1.cell? (p9.add 1)) fun x11 x11N x11C =>
 Al w1 #[(.int .u8 c)] 5 fun g13 w1_2 =>
 Raw Try.prog (Builtin.append_ #[40, 40] 40 #[(.slice x11 x11N x11C), (.slice (some g13) 1 1)]) w1_2 fun v2 w1_3 =>
 ∃ (x14 : Option Addr) (x14N : Nat) (x14C : Nat), v2 = (.slice x14 x14N x14C) ∧
 NonNil b fun p15 =>
 St w1_3 (p15.add 1) (.slice x14 x14N x14C) fun w1_4 =>
 R (.returned .nilIface) w1_4)

def pl53 : Plan := ⟨17, ⟨[]⟩, [], []⟩

theorem eq53 (b : Option Addr) (c : Int) (w : World) (R : Ending → World → Prop) : F53 b c w R = vc Try.prog Try.f53 pl53 R 100000 [.code (bodyOf Try.f53)] (argEnv 0 #[(.pointer b), (.int .u8 c)].toList) w := by kernel_rfl

theorem ok53 (b : Option Addr) (c : Int) {w : World} {R : Ending → World → Prop} (h : F53 b c w R) : Calls Try.prog 53 #[(.pointer b), (.int .u8 c)] w R :=
  vc_calls (pl := pl53) Try.func53 (by kernel_rfl) (by kernel_rfl) (by kernel_rfl) (Eq.mp (eq53 b c w R) h)

-- (*strings.Builder).WriteString
def F54 (b : Option Addr) (s : ByteArray) (w_ : World) (R : Ending → World → Prop) : Prop :=
 Calls Try.prog 76 #[(.pointer b)] w_ (post R fun v w1 =>
 v = (.tuple #[]) ∧
 NonNil b fun p10 =>
 LdSl (w1.cell? (p10.add 1)) fun x12 x12N x12C =>
 Raw Try.prog (Builtin.append_ #[40, 9] 40 #[(.slice x12 x12N x12C), (.string s)]) w1 fun v2 w1_2 =>
 ∃ (x14 : Option Addr) (x14N : Nat) (x14C : Nat), v2 = (.slice x14 x14N x14C) ∧
 NonNil b fun p15 =>
 St w1_2 (p15.add 1) (.slice x14 x14N x14C) fun w1_3 =>
 R (.returned (.tuple #[(.int .i64 ((s.size : Nat) : Int)), .nilIface])) w1_3)

def pl54 : Plan := ⟨19, ⟨[]⟩, [], []⟩

theorem eq54 (b : Option Addr) (s : ByteArray) (w : World) (R : Ending → World → Prop) : F54 b s w R = vc Try.prog Try.f54 pl54 R 100000 [.code (bodyOf Try.f54)] (argEnv 0 #[(.pointer b), (.string s)].toList) w := by kernel_rfl

theorem ok54 (b : Option Addr) (s : ByteArray) {w : World} {R : Ending → World → Prop} (h : F54 b s w R) : Calls Try.prog 54 #[(.pointer b), (.string s)] w R :=
  vc_calls (pl := pl54) Try.func54 (by kernel_rfl) (by kernel_rfl) (by kernel_rfl) (Eq.mp (eq54 b s w R) h)

-- espalierlaw23.lives
def F7_j4 (x10_0 : Option Addr) (w_2 : World) (R : Ending → World → Prop) : Prop :=
 Al w_2 #[(.string (ByteArray.mk #[97])), (.string (ByteArray.mk #[97])), (.string (ByteArray.mk #[98])), (.string (ByteArray.mk #[99]))] 9 fun g22 w1_2 =>
 Calls Try.prog 11 #[(.pointer x10_0), (.slice (some g22) 4 4)] w1_2 (post R fun v2 w1_3 =>
 ∃ (x23_0 : Bool) (x23_1 : Int), v2 = (.tuple #[(.bool x23_0), (.int .i64 x23_1)]) ∧
 Al w1_3 #[(.slice none 0 0), (.slice none 0 0), (.slice none 0 0), (.slice none 0 0), (.slice none 0 0), (.bool false)] 60 fun g27 w1_4 =>
 Calls Try.prog 11 #[(.pointer (some g27)), (.slice none 0 0)] w1_4 (post R fun v3 w1_5 =>
 ∃ (x30_0 : Bool) (x30_1 : Int), v3 = (.tuple #[(.bool x30_0), (.int .i64 x30_1)]) ∧
 Br x23_0
 (Br (x23_1 == (4 : Int))
 (Br (!x30_0)
 (Br (x30_1 == (0 : Int))
 (Calls Try.prog 24 #[(.pointer (some g27))] w1_5 (post R fun v4 w1_6 =>
 ∃ (x48 : ByteArray), v4 = (.string x48) ∧
 Br (x48.toList == (ByteArray.mk #[]).toList)
 (Calls Try.prog 9 #[(.pointer (some g27))] w1_6 (post R fun v5 w1_7 =>
 ∃ (x53 : Bool), v5 = (.bool x53) ∧
 R (.returned (.bool x53)) w1_7))
 (R (.returned (.bool false)) w1_6)))
 (R (.returned (.bool false)) w1_5))
 (R (.returned (.bool false)) w1_5))
 (R (.returned (.bool false)) w1_5))
 (R (.returned (.bool false)) w1_5)))

def F7  (w_ : World) (R : Ending → World → Prop) : Prop :=
 Calls Try.prog 5 #[(.string (ByteArray.mk #[40, 97, 44, 32, 98, 63, 41, 42, 44, 32, 99]))] w_ (post R fun v w1 =>
 ∃ (x10_0 : Option Addr) (x10_1 : Int) (x10_2 : Int), v = (.tuple #[(.pointer x10_0), (.int .i64 x10_1), (.int .i64 x10_2)]) ∧
 ∃ J4 : World → Prop, (∀  (w1_2 : World), J4 w1_2 → F7_j4 x10_0 w1_2 R) ∧
 (Br (x10_0).isNone
 (R (.returned (.bool false)) w1)
 (Br (x10_2 != (0 : Int))
 (R (.returned (.bool false)) w1)
 (J4 w1))))

def pl7 : Plan := ⟨55, ⟨[]⟩, [(4, ⟨[], [(0, 1), (14, 20)]⟩)], []⟩

theorem eq7  (w : World) (R : Ending → World → Prop) : F7  w R = vc Try.prog Try.f7 pl7 R 100000 [.code (bodyOf Try.f7)] (argEnv 0 #[].toList) w := by kernel_rfl

theorem ok7  {w : World} {R : Ending → World → Prop} (h : F7  w R) : Calls Try.prog 7 #[] w R :=
  vc_calls (pl := pl7) Try.func7 (by kernel_rfl) (by kernel_rfl) (by kernel_rfl) (Eq.mp (eq7  w R) h)

end Go.Proofs.Ytkmoeokfgkmlhaa
/- A strings.Builder that a call has made: what is written into it. -/
namespace Go.Proofs.Ytkmoeokfgkmlhaa
open Go.RowKit Go.Vc Go.Mdl
set_option linter.unusedVariables false
set_option linter.unusedSimpArgs false
/-- Bytes in a row. -/
def LBy : Lay UInt8 := ⟨1, fun b => [.int .u8 (b.toNat : Int)], fun _ => rfl, fun _ => by simp [Value.oneCell'], by decide⟩
theorem all_bytes : ∀ l : List UInt8, LBy.all l = Lib.byteCells l
  | [] => rfl
  | x :: l => by
    have := all_bytes l
    simp only [Lay.all, List.flatMap_cons, Lib.byteCells, List.map_cons] at *
    rw [this]; rfl
/-- A builder at block b that holds these bytes. -/
def Bl (w : World) (B b : Nat) (bs : List UInt8) : Prop := B ≤ b ∧ ∃ p v, Blk w b #[p, v] 85 ∧ (p = .pointer none ∨ p = .pointer (some ⟨b, 0, none⟩)) ∧
  ((bs = [] ∧ v = .slice none 0 0) ∨ (bs ≠ [] ∧ Own LBy w B 5 v bs))
/-- The same behind a first look: its own address lies in it. -/
def BlU (w : World) (B b : Nat) (bs : List UInt8) (v : Value) : Prop := B ≤ b ∧ Blk w b #[.pointer (some ⟨b, 0, none⟩), v] 85 ∧ ((bs = [] ∧ v = .slice none 0 0) ∨ (bs ≠ [] ∧ Own LBy w B 5 v bs))
def isBl (t : TypeId) : Bool := Nat.beq t 85 || Nat.beq t 5
def tyB (w : World) (b : Nat) : Prop := ∃ c t f, w.heap[b]? = some (.cells c t f) ∧ isBl t = true
/-- Only a builder's blocks turn. -/
def Fb (B : Nat) (w w1 : World) : Prop := Fm (fun b => B ≤ b ∧ tyB w b) w w1
section
variable {B : Nat} {w w1 w2 : World} {M : Nat → Prop} {R : Ending → World → Prop} {b : Nat} {bs : List UInt8} {v : Value}
theorem tyB_blk {b : Nat} {c : Array Value} {t : TypeId} (h : Blk w b c t) (ht : isBl t = false) : ¬ tyB w b := by
  rintro ⟨c', t', f', h1, h2⟩
  unfold Blk at h
  rw [h] at h1
  cases h1
  rw [ht] at h2; cases h2
theorem Fb.trans (h : Fb B w w1) (k : Fb B w1 w2) : Fb B w w2 :=
  ⟨k.os.trans h.os, k.tape.trans h.tape, k.output.trans h.output, Nat.le_trans h.size k.size, fun b hb hm => by
    have h1 := h.block b hb hm
    refine (k.block b (Nat.lt_of_lt_of_le hb h.size) fun hm2 => hm ⟨hm2.1, ?_⟩).trans h1
    obtain ⟨c, t, f, h3, h4⟩ := hm2.2
    exact ⟨c, t, f, by rw [← h1]; exact h3, h4⟩⟩
theorem Fb.refl (B : Nat) (w : World) : Fb B w w := Fm.refl _ _
theorem Fb.below (h : Below w.heap.size w w1) : Fb B w w1 := Fm.below h
theorem Fb.of (h : Fm M w w1) (hm : ∀ b, b < w.heap.size → M b → B ≤ b ∧ tyB w b) : Fb B w w1 := h.mono hm
theorem Fb.new (h : Fb B w w1) (k : Fm M w1 w2) (hm : ∀ b, b < w.heap.size → ¬ M b) : Fb B w w2 := Fm.trans' h k hm
theorem Fb.blk (h : Fb B w w1) {b : Nat} {c : Array Value} {t : TypeId} (hb : Blk w b c t) (ht : isBl t = false) : Blk w1 b c t := Fm.blk h hb fun hm => tyB_blk hb ht hm.2
theorem Fb.sub (h : Fb B w w1) {w0 : World} (h0 : Sub w0 w) (hB : ∀ b c t f, w0.heap[b]? = some (.cells c t f) → b < B) : Sub w0 w1 := fun b c t f hc => by
  have h1 := h0 b c t f hc
  have hlt := (Array.getElem?_eq_some_iff.1 h1).1
  rw [Fm.block h b hlt fun hm => by have := hB b c t f hc; have := hm.1; omega]
  exact h1
theorem own_keepM {α : Type} {L : Lay α} {xs : List α} {e : TypeId} (h : Own L w B e v xs) (hf : Fm M w w1) (hm : ∀ b c, Blk w b c e → ¬ M b) : Own L w1 B e v xs := by
  rcases h with h | h | ⟨g, c, cur, rfl, hb, hh, hn, hmx, hs, ht⟩
  · exact .inl h
  · exact .inr (.inl h)
  · exact .inr (.inr ⟨g, c, cur, rfl, hb, hf.blk hh (hm g cur hh), hn, hmx, hs, ht⟩)
theorem Bl.keep (h : Bl w B b bs) (hf : Fm M w w1) (hm : ∀ k, M k → ¬ tyB w k) : Bl w1 B b bs := by
  obtain ⟨hB, p, v, h1, h2, h3⟩ := h
  have hM : ∀ {k c t}, Blk w k c t → isBl t = true → ¬ M k := fun hb ht hk => hm _ hk ⟨_, _, _, hb, ht⟩
  exact ⟨hB, p, v, hf.blk h1 (hM h1 (by decide)), h2, h3.imp id fun h => ⟨h.1, own_keepM h.2 hf fun k c hk => hM hk (by decide)⟩⟩
theorem Bl.below (h : Bl w B b bs) (hf : Below w.heap.size w w1) : Bl w1 B b bs := h.keep (M := fun _ => False) (.below hf) fun _ h => h.elim
theorem Bl.lt (h : Bl w B b bs) : b < w.heap.size := by obtain ⟨_, p, v, h1, _⟩ := h; exact h1.lt
set_option maxHeartbeats 1000000
set_option maxRecDepth 100000
theorem copyCheck_used (b : Nat) (w : World) (h0 : w.cell? ⟨b, 0, none⟩ = some (.pointer (some ⟨b, 0, none⟩))) :
    Calls Try.prog 76 #[.pointer (some ⟨b, 0, none⟩)] w fun e w' => e = .returned (.tuple #[]) ∧ w' = w := by
  obtain ⟨j, hj, _⟩ := Option.map_eq_some_iff.1 (show (Try.prog.info? 85).map (·.size) = some 2 by kernel_rfl)
  go_enter Try.func76, Try.ntmps76
  go_wp2
  rw [Lib.run_neq_ptr_same w _ Try.underlying83 hj]
  go_wp2
  go_end0
  exact ⟨rfl, rfl⟩
theorem copyCheck_fresh (b : Nat) (w : World) (h0 : w.cell? ⟨b, 0, none⟩ = some (.pointer none)) (hsh : w.shape? b = some (85, 2)) (hfz : w.frozen? ⟨b, 0, none⟩ = false) :
    Calls Try.prog 76 #[.pointer (some ⟨b, 0, none⟩)] w fun e w' => e = .returned (.tuple #[]) ∧ w' = w.setCell ⟨b, 0, none⟩ (.pointer (some ⟨b, 0, none⟩)) := by
  obtain ⟨j, hj, hjs⟩ := Option.map_eq_some_iff.1 (show (Try.prog.info? 85).map (·.size) = some 2 by kernel_rfl)
  go_enter Try.func76, Try.ntmps76
  go_wp2
  rw [Lib.run_to_unsafe w ⟨b, 0, none⟩ Try.underlying83 Try.underlying132 hj (by rw [hjs]; decide) hsh (Nat.zero_lt_succ 1)]
  simp only [Result.andThen]
  rw [Oper.upon_value]
  go_wp2
  rw [run_callFunc_extern Try.func90 (by kernel_rfl) (by kernel_rfl) (by kernel_rfl) (e := Extern.AbiNoEscape.same) (by kernel_rfl)]
  rw [Lib.run_noEscape]
  simp only [Result.andThen]
  rw [Oper.upon_value]
  go_wp2
  rw [Lib.run_from_unsafe w ⟨b, 0, none⟩ Try.underlying132 Try.underlying83 hj hsh (by kernel_rfl)]
  simp only [Result.andThen]
  rw [Oper.upon_value]
  go_wp2
  go_end0
  exact ⟨rfl, rfl⟩
theorem copyCheck_calls (h : Bl w B b bs) (hR : ∀ v w', BlU w' B b bs v → Fb B w w' → R (.returned (.tuple #[])) w') : Calls Try.prog 76 #[.pointer (some ⟨b, 0, none⟩)] w R := by
  obtain ⟨hB, p, v, h1, rfl | rfl, h3⟩ := h
  · refine (copyCheck_fresh b w (h1.cell 0) (by unfold Blk at h1; simp [World.shape?, h1]) (h1.frozen 0)).mono ?_
    rintro e w' ⟨rfl, rfl⟩
    have hf : Fm (· = b) w (w.setCell ⟨b, 0, none⟩ (.pointer (some ⟨b, 0, none⟩))) := (Fm.refl (fun x => x = b) _).set (fun _ => rfl) _
    refine hR v _ ⟨hB, h1.set 0 _, h3.imp id fun h => ⟨h.1, own_keepM h.2 hf fun k c hk e => ?_⟩⟩ (Fb.of hf fun k hk e => by subst e; exact ⟨hB, _, _, _, h1, by decide⟩)
    subst e
    unfold Blk at hk h1
    rw [hk] at h1; cases h1
  · refine (copyCheck_used b w (h1.cell 0)).mono ?_
    rintro e w' ⟨rfl, rfl⟩
    exact hR v _ ⟨hB, h1, h3⟩ (Fb.refl _ _)
/-- The slice of a used builder is stored anew. -/
theorem BlU.put {v' : Value} (h : BlU w B b bs v) {bs' : List UInt8} {w2 : World} (hb2 : Blk w2 b #[.pointer (some ⟨b, 0, none⟩), v] 85) (ho : bs' ≠ []) (hown : Own LBy w2 B 5 v' bs') {K : World → Prop}
    (hK : ∀ w3, Bl w3 B b bs' → Fm (· = b) w2 w3 → K w3) : NonNil (some ⟨b, 0, none⟩) fun p => St w2 (p.add 1) v' fun w3 => K w3 := by
  simp only [NonNil_some, Addr.add_mk, Nat.zero_add]
  refine st_blk hb2 (by simp) fun w3 hb3 f3 => hK w3 ⟨h.1, _, v', hb3, .inr rfl, .inr ⟨ho, own_keepM hown f3 fun k c hk e => ?_⟩⟩ f3
  subst e
  unfold Blk at hk hb2
  rw [hk] at hb2; cases hb2
theorem grow_fb {v : Value} {w1 : World} (hg : w.grownBy w1 (rowOf v)) (hr : ∀ k, rowOf v = some k → B ≤ k ∧ tyB w k) : Fb B w w1 :=
  Fb.of (M := fun k => rowOf v = some k) (Fm.grown hg fun k e => e) fun k hk e => hr k e
theorem own_row {e : TypeId} {α : Type} {L : Lay α} {xs : List α} (h : Own L w B e v xs) (he : isBl e = true) : ∀ k, rowOf v = some k → B ≤ k ∧ tyB w k := by
  intro k hk
  refine ⟨(h.lt k hk).1, ?_⟩
  rcases h with ⟨rfl, _⟩ | ⟨⟨q, rfl⟩, _⟩ | ⟨g, c, cur, rfl, hb2, hh, _⟩
  · cases hk
  · cases hk
  · cases hk; exact ⟨cur, _, _, hh, he⟩
theorem BlU.own (h : BlU w B b bs v) : Own LBy w B 5 v bs := by
  rcases h.2.2 with ⟨rfl, rfl⟩ | ⟨_, h⟩
  · exact Own.nil _ _ _ _
  · exact h
theorem writeByte_calls (h : Bl w B b bs) (hBw : B ≤ w.heap.size) (hl : bs.length ≤ 1048576) {c : UInt8} {n : Int} (hn : n = (c.toNat : Int)) (hR : ∀ w', Bl w' B b (bs ++ [c]) → Fb B w w' → R (.returned .nilIface) w') :
    Calls Try.prog 53 #[.pointer (some ⟨b, 0, none⟩), .int .u8 n] w R := by
  subst hn
  refine ok53 _ _ ?_
  unfold F53
  refine copyCheck_calls h fun v w1 h1 f1 => ⟨rfl, ?_⟩
  obtain ⟨A, c0, hv, hrd⟩ := h1.own.form
  subst hv
  rw [NonNil_some]
  refine lSl (h1.2.1.cell 1) ?_
  have hB1 : B ≤ w1.heap.size := Nat.le_trans hBw f1.size
  refine ap1 (L := LBy) (x := c) (.int .u8 0) 1 rfl rfl rfl rfl h1.own hB1 (by omega) (by simp [maxLen]; omega) fun A' c' w2 ho hg => ⟨_, _, _, rfl, ?_⟩
  have f2 : Fb B w1 w2 := grow_fb hg.grown (own_row h1.own (by decide))
  have hb2 : Blk w2 b #[.pointer (some ⟨b, 0, none⟩), .slice A bs.length c0] 85 := by
    unfold Blk
    rw [hg.grown.block b h1.2.1.lt fun e => ?_]
    · exact h1.2.1
    · have h2 := h1.own
      have h3 := h1.2.1
      rcases h2 with ⟨e1, _⟩ | ⟨⟨q, e1⟩, _⟩ | ⟨g, c1, cur, e1, hb3, hh, _⟩
      · rw [e1] at e; cases e
      · rw [e1] at e; cases e
      · rw [e1] at e
        cases e
        unfold Blk at h3
        rw [hh] at h3; cases h3
  refine h1.put hb2 (by simp) ho fun w3 h3 f3 => hR w3 h3 ((f1.trans f2).trans (Fb.of f3 fun k hk e => ?_))
  subst e
  exact ⟨h1.1, _, _, _, hb2, by decide⟩
theorem writeString_calls (h : Bl w B b bs) (hBw : B ≤ w.heap.size) {s : ByteArray} (hl : bs.length + s.size ≤ 1048576) (hR : ∀ w', Bl w' B b (bs ++ s.data.toList) → Fb B w w' → R (.returned (.tuple #[.int .i64 (s.size : Int), .nilIface])) w') :
    Calls Try.prog 54 #[.pointer (some ⟨b, 0, none⟩), .string s] w R := by
  refine ok54 _ _ ?_
  unfold F54
  refine copyCheck_calls h fun v w1 h1 f1 => ⟨rfl, ?_⟩
  obtain ⟨A, c0, hv, hrd⟩ := h1.own.form
  have hor : w1.ownsRow B 5 1 v bs.length (Lib.byteCells bs) ∧ rowOf v = v.ownBlock := by
    rcases h1.2.2 with ⟨rfl, rfl⟩ | ⟨hne, ho⟩
    · exact ⟨World.ownsRow_nil _ _ _ _, rfl⟩
    · rcases ho.row with h2 | h2
      · rw [all_bytes] at h2; exact h2
      · exact absurd h2.2 hne
  obtain ⟨hor, hrow⟩ := hor
  have h2u := h1.2.2
  subst hv
  rw [NonNil_some]
  refine lSl (h1.2.1.cell 1) ?_
  have hB1 : B ≤ w1.heap.size := Nat.le_trans hBw f1.size
  obtain ⟨i, hi, hi2⟩ := Option.map_eq_some_iff.1 (show (Try.prog.info? 5).map (fun i => (i.zero, i.size, i.bytes)) = some (some (.int .u8 0), 1, 1) by kernel_rfl)
  simp only [Prod.mk.injEq] at hi2
  obtain ⟨v', w2, r1, r2, r3, r4⟩ := Lib.run_append_own_string (P := Try.prog) w1 B 40 9 40 5 i Try.underlying40 Try.underlying9 hi hi2.1 hi2.2.1 hi2.2.2 (.slice A bs.length c0) bs.length (Lib.byteCells bs) hor s (by simp [maxLen]; omega) (by omega) hB1
  have hcells : Lib.byteCells bs ++ Lib.strCells s = LBy.all (bs ++ s.data.toList) := by rw [all_bytes, Lib.byteCells_append]; rfl
  rw [hcells] at r2
  have hlen : bs.length + s.size = (bs ++ s.data.toList).length := by simp
  rw [hlen] at r2
  have hown2 : Own LBy w2 B 5 v' (bs ++ s.data.toList) := Own.of_row r2
  obtain ⟨A', c', e1, _⟩ := hown2.form
  refine ⟨v', w2, r1, A', _, c', e1, ?_⟩
  rw [← hrow] at r3
  have f2 : Fb B w1 w2 := grow_fb r3 (own_row h1.own (by decide))
  have hb2 : Blk w2 b #[.pointer (some ⟨b, 0, none⟩), .slice A bs.length c0] 85 := by
    unfold Blk
    rw [r3.block b h1.2.1.lt fun e => ?_]
    · exact h1.2.1
    · have h2 := h1.own
      have h3 := h1.2.1
      rcases h2 with ⟨e1, _⟩ | ⟨⟨q, e1⟩, _⟩ | ⟨g, c1, cur, e1, hb3, hh, _⟩
      · rw [e1] at e; cases e
      · rw [e1] at e; cases e
      · rw [e1] at e
        cases e
        unfold Blk at h3
        rw [hh] at h3; cases h3
  by_cases hne : bs ++ s.data.toList = []
  · obtain ⟨rfl, hs0⟩ := List.append_eq_nil_iff.1 hne
    have hsz : s.size = 0 := by
      have : s.data.toList.length = s.size := by simp
      rw [hs0] at this; simpa using this.symm
    have hv0 : v' = .slice none 0 0 := r4.2 ⟨by
      rcases h2u with ⟨_, h⟩ | ⟨h, _⟩
      · exact h
      · exact absurd rfl h, hsz⟩
    subst hv0
    simp only [Value.slice.injEq] at e1
    obtain ⟨rfl, e2, rfl⟩ := e1
    rw [← e2]
    simp only [NonNil_some, Addr.add_mk, Nat.zero_add]
    refine st_blk hb2 (by simp) fun w3 hb3 f3 => hR w3 ⟨h1.1, _, _, hb3, .inr rfl, .inl ⟨hne, rfl⟩⟩ ((f1.trans f2).trans (Fb.of f3 fun k hk e => ?_))
    subst e
    exact ⟨h1.1, _, _, _, hb2, by decide⟩
  · rw [e1] at hown2
    refine h1.put hb2 hne hown2 fun w3 h3 f3 => hR w3 h3 ((f1.trans f2).trans (Fb.of f3 fun k hk e => ?_))
    subst e
    exact ⟨h1.1, _, _, _, hb2, by decide⟩
theorem string_calls (h : Bl w B b bs) (hBw : B ≤ w.heap.size) (hl : bs.length ≤ 1048576) (hR : ∀ w', Below B w w' → R (.returned (.string ⟨bs.toArray⟩)) w') : Calls Try.prog 40 #[.pointer (some ⟨b, 0, none⟩)] w R := by
  suffices hs : Calls Try.prog 40 #[.pointer (some ⟨b, 0, none⟩)] w fun e w' => e = .returned (.string ⟨bs.toArray⟩) ∧ Below B w w' by
    refine hs.mono ?_
    rintro e w' ⟨rfl, hb⟩
    exact hR w' hb
  obtain ⟨hB, p, v, hbk, hp, hv⟩ := h
  rcases hv with ⟨rfl, rfl⟩ | ⟨hne, ho⟩
  · have hUS : ∀ W, (Builtin.unsafeString_ #[105, 3] 9 #[.pointer none, .int .i64 0]).run Try.prog W = .ok (.string .empty) W := fun W => Lib.run_unsafeString_none W _ _ _ none
    have c1 : w.drew.cell? ⟨b, 1, none⟩ = some (.slice none 0 0) := by
      have : w.drew.heap[b]? = some (.cells #[p, .slice none 0 0] 85 (0, 0)) := hbk
      rw [Lib.cell_of_heap this]; rfl
    have hSD : (Builtin.unsafeSliceData_ #[40] 105 #[.slice none 0 0]).run Try.prog w.drew = .ok (.pointer none) w.drew := rfl
    go_enter Try.func40, Try.ntmps40
    go_wp2
    go_region
    all_goals (go_wp2; go_ret; exact ⟨rfl, Below.drew (Below.refl B w)⟩)
  · rcases ho with ⟨_, e⟩ | ⟨_, e⟩ | ⟨g, c, cur, rfl, hbg, hh, hn, hm, hsz, ht⟩
    · exact absurd e hne
    · exact absurd e hne
    have hl0 : bs.length ≠ 0 := by simpa using hne
    have hsz' : cur.size = c + 1 := by rw [hsz]; simp [LBy]
    have c1 : w.drew.cell? ⟨b, 1, none⟩ = some (.slice (some ⟨g, 0, none⟩) bs.length (c + 1)) := by
      have : w.drew.heap[b]? = some (.cells #[p, .slice (some ⟨g, 0, none⟩) bs.length (c + 1)] 85 (0, 0)) := hbk
      rw [Lib.cell_of_heap this]; rfl
    have hSD : (Builtin.unsafeSliceData_ #[40] 105 #[.slice (some ⟨g, 0, none⟩) bs.length (c + 1)]).run Try.prog w.drew = .ok (.pointer (some ⟨g, 0, none⟩)) w.drew :=
      Lib.run_unsafeSliceData_row _ _ _ _ _ _ (by omega)
    have hUS : (Builtin.unsafeString_ #[105, 3] 9 #[.pointer (some ⟨g, 0, none⟩), .int .i64 bs.length]).run Try.prog w.drew = .ok (.string ⟨bs.toArray⟩) (w.drew.freeze ⟨g, 0, none⟩ bs.length) := by
      refine Lib.run_unsafeString_row w.drew 105 3 9 5 Try.underlying105 (by kernel_rfl) g cur.size (by have hg' : w.drew.heap[g]? = some (.cells cur 5 (0, 0)) := hh; simp [World.shape?, hg']) bs hne (by omega) (by omega) ?_
      intro j x hx
      rw [Addr.add_mk]
      have hd : w.drew.heap[g]? = some (.cells cur 5 (0, 0)) := hh
      rw [Lib.cell_of_heap hd, Nat.zero_add, ← Array.getElem?_toList]
      have hj : j < bs.length := (List.getElem?_eq_some_iff.1 hx).1
      have h4 : (cur.toList.take (bs.length * LBy.n))[j]? = (LBy.all bs)[j]? := by rw [ht]
      rw [List.getElem?_take_of_lt (by simp [LBy]; exact hj), all_bytes] at h4
      rw [h4]
      simp [Lib.byteCells, hx]
    go_enter Try.func40, Try.ntmps40
    go_wp2
    go_region
    all_goals (go_wp2; go_ret; exact ⟨rfl, Lib.below_freeze (Below.drew (Below.refl B w)) (p := ⟨g, 0, none⟩) hbg _⟩)
end
end Go.Proofs.Ytkmoeokfgkmlhaa
/- Models: a model's rows and choices are placed. -/
namespace Go.Proofs.Ytkmoeokfgkmlhaa
open Go.RowKit Go.Vc Go.Mdl
set_option linter.unusedVariables false
set_option linter.unusedSimpArgs false
set_option maxRecDepth 100000
section
variable {w w1 : World} {R : Ending → World → Prop} {g B : Nat}
theorem uR_cons (p : Part) (ps : List Part) (gs : GS) (all : Pc) : uR (p :: ps) gs all = uR ps ((uP p gs).2.1, behind (uP p gs).2.2 all.last (uP p gs).1.first)
    ⟨if all.empty then joined all.first (uP p gs).1.first else all.first, if (uP p gs).1.empty then joined all.last (uP p gs).1.last else (uP p gs).1.last, all.empty && (uP p gs).1.empty⟩ := by rw [uR]
theorem uC_cons (p : List Part) (ps : List (List Part)) (gs : GS) (all : Pc) : uC (p :: ps) gs all = uC ps (uR p gs ⟨[], [], true⟩).2
    ⟨joined all.first (uR p gs ⟨[], [], true⟩).1.first, joined all.last (uR p gs ⟨[], [], true⟩).1.last, all.empty || (uR p gs ⟨[], [], true⟩).1.empty⟩ := by rw [uC]
theorem cP_lt (a : ByteArray) (rows : List (List Part)) (s : Nat) (h : a = Mdl.Br) : cC rows < cP (.mk a rows s) := by simp only [cP, if_pos h]; omega
theorem mrow_calls {w0 : World} {row : List Part} {v : Sv} {sl a f : Sv} {gs : GS} (H : ∀ a rows s, Part.mk a rows s ∈ row → a = Mdl.Br → CM rows) (ho : Old w0 B) (hs : Sub w0 w) (h : MI B w g sl a f gs) (hi : GI gs) (hc : gs.1.length + sR row ≤ 128) (hp : RdW w0 row v)
    (hlen : row.length ≤ 1048576) (hR : EndsM R B w g sl (uR row gs ⟨[], [], true⟩)) :
    Calls Try.prog 51 #[.pointer (some ⟨g, 0, none⟩), .slice v.1 v.2.1 v.2.2] w R := by
  refine ok51 _ _ _ _ ?_
  unfold F51
  obtain ⟨es, e1, e2, e3⟩ := hp
  have hel := e3.len
  refine al fun g4 w2 hb2 hg4 hge4 => al fun al_ w3 hb3 hgp hgep => ?_
  have hb13 : Below w.heap.size w w3 := btr hb2 hb2.size hb3
  have h3 := h.below hb13
  have f3 : Fi B w w3 := .below hb13
  have q4 : Blk w3 g4 (pB (none, 0, 0) (none, 0, 0) false) 80 := hg4.keep hb3
  have qa : Blk w3 al_ (pB (none, 0, 0) (none, 0, 0) false) 80 := hgp
  have na4 : ¬ g4 = al_ := by have := hg4.lt; omega
  have hlt4 : w.heap.size ≤ g4 := hge4
  have hlta : w.heap.size ≤ al_ := Nat.le_trans hb2.size hgep
  clear hb2 hb3 hg4 hgp hge4 hgep h
  refine stP qa rfl fun w4 f4 qa4 => ?_
  refine ⟨fun i w' => ∃ (k : Nat) (gs' : GS) (all : Pc) (x y a' f' : Sv), i = k ∧ k ≤ row.length ∧ MI B w' g sl a' f' gs' ∧ GI gs' ∧ PI gs'.1.length all ∧ gs'.1.length + sR (row.drop k) ≤ 128 ∧ Blk w' al_ (pB x y all.empty) 80 ∧ RdI B w' x all.first ∧ RdI B w' y all.last ∧ Blk w' g4 (pB (none, 0, 0) (none, 0, 0) false) 80 ∧ Fi B w w' ∧
    uR (row.drop k) gs' all = uR row gs ⟨[], [], true⟩, fun i _ => row.length - i.toNat,
    ⟨0, gs, ⟨[], [], true⟩, (none, 0, 0), (none, 0, 0), a, f, rfl, by omega, h3.box qa (by decide) f4, hi, ⟨Few.nil _, Few.nil _⟩, hc, qa4, RdI.nil _ _, RdI.nil _ _, f4.blk q4 na4, f3.new f4 fun b hb e => by omega, rfl⟩, ?_⟩
  clear h3 f3 q4 qa f4 qa4 hb13 hi hc
  rintro i w5 ⟨k, gs1, all, x, y, a1, f1, rfl, hk, h5, hi5, hpi, hc5, qa5, rx, ry, q45, fi5, hu⟩
  unfold F51_l3
  refine brd (fun hlt => ?_) (fun hge => ?_)
  · have hk2 : k < row.length := by rw [← hel]; omega
    have hk3 : k < es.length := by rw [hel]; exact hk2
    have hd : row.drop k = row[k] :: row.drop (k + 1) := List.drop_eq_getElem_cons hk2
    rw [hd] at hu hc5
    rw [uR_cons] at hu
    simp only [sR] at hc5
    obtain ⟨k1, k2⟩ := gi_P row[k] gs1 hi5
    have hge1 := k1.2.1
    have hle1 := k1.2.2
    have hcap : (uP row[k] gs1).2.1.length ≤ 128 := by omega
    have hpall := hpi.mono hge1
    have hbeh := GI.behind (first := (uP row[k] gs1).1.first) (last := all.last) k1.1 k2.1.2
    generalize hr : uP row[k] gs1 = r at hu k1 k2 hge1 hle1 hcap hpall hbeh
    refine ⟨fun w' => ∃ (x' y' a' f' : Sv), MI B w' g sl a' f' (r.2.1, behind r.2.2 all.last r.1.first) ∧ Blk w' al_ (pB x' y' (all.empty && r.1.empty)) 80 ∧ RdI B w' x' (if all.empty then joined all.first r.1.first else all.first) ∧ RdI B w' y' (if r.1.empty then joined all.last r.1.last else r.1.last) ∧ Blk w' g4 (pB (none, 0, 0) (none, 0, 0) false) 80 ∧ Fi B w w', ?_, ?_⟩
    · rintro w6 ⟨x', y', a', f', h6, qa, rx, ry, q4, fi6⟩
      unfold F51_j13
      refine ⟨inR_i64 (by omega) (by omega), ⟨k + 1, _, _, x', y', a', f', by simp, by omega, h6, hbeh, ?_, by dsimp only; omega, qa, rx, ry, q4, fi6, hu⟩, by dsimp only; omega⟩
      refine ⟨?_, ?_⟩
      · dsimp only
        split
        · exact hpall.1.joined k2.1.2
        · exact hpall.1
      · dsimp only
        split
        · exact hpall.2.joined k2.2.2
        · exact k2.2
    · -- the part
      have hsub5 : Sub w0 w5 := fi5.sub hs ho.lt
      refine (hsub5.rd e2).idx e1 (by omega) (by rw [e1]; omega) rfl fun b o hc => ?_
      simp only [Int.toNat_natCast] at hc
      refine lS (hc 0 _ rfl) (lSl (by rw [Addr.add_mk]; exact hc 1 _ rfl) (lI (by rw [Addr.add_mk]; exact hc 2 _ rfl) ?_))
      refine al3 fun g7 w6 hb6 hg7 hge7 => ?_
      refine ld3 hg7 ?_
      have hget := e3.get k hk2 hk3
      obtain ⟨pa, prows, ps, hpe⟩ : ∃ pa prows ps, row[k] = Part.mk pa prows ps := by cases row[k]; exact ⟨_, _, _, rfl⟩
      rw [hpe] at hget hr
      have hcp : gs1.1.length + cP (.mk pa prows ps) ≤ 128 := by rw [← hpe]; omega
      refine mpart_calls (H pa prows ps (hpe ▸ List.getElem_mem hk2)) ho ((Fi.below hb6).sub hsub5 ho.lt) (h5.below hb6) hi5 hcp hget ?_
      rw [hr]
      intro px py a' f' w7 h7 rpx rpy f7
      refine ⟨_, _, _, _, _, _, _, rfl, ?_⟩
      refine al3 fun p w8 hb8 hp8 hgep => ?_
      have fi8 : Fi B w w8 := ((fi5.trans (.below hb6)).trans f7).trans (.below hb8)
      have qa8 : Blk w8 al_ (pB x y all.empty) 80 := (f7.blk (qa5.keep hb6) (by decide)).keep hb8
      have q48 : Blk w8 g4 (pB (none, 0, 0) (none, 0, 0) false) 80 := (f7.blk (q45.keep hb6) (by decide)).keep hb8
      have hp8' : Blk w8 p (pB px py r.1.empty) 80 := hp8
      have h8 := h7.below hb8
      have npa : ¬ p = al_ := by have := (f7.blk (qa5.keep hb6) (by decide)).lt; omega
      have np4 : ¬ p = g4 := by have := (f7.blk (q45.keep hb6) (by decide)).lt; omega
      have hpge : w.heap.size ≤ p := by have := fi5.size; have := f7.size; have := hb6.size; omega
      have rx8 := ((rx.below hb6).fi f7).below hb8
      have ry8 := ((ry.below hb6).fi f7).below hb8
      have rpx8 := rpx.below hb8
      have rpy8 := rpy.below hb8
      refine lSl (qa8.cell 1) (lSl (hp8'.cell 0) ?_)
      have ll1 : ∀ {l : List Nat}, Few r.2.1.length l → l.length ≤ 128 := fun h => Nat.le_trans h.len hcap
      refine behind_calls h8 k1.1 hcap ry8 rpx8 hpall.2.2 k2.1 (ll1 hpall.2) fun w9 h9 f9 => ⟨rfl, ?_⟩
      have fi9 := fi8.trans f9
      have qa9 := f9.blk qa8 (by decide)
      have q49 := f9.blk q48 (by decide)
      have hp9 := f9.blk hp8' (by decide)
      have rx9 := rx8.fi f9
      have ry9 := ry8.fi f9
      have rpx9 := rpx8.fi f9
      have rpy9 := rpy8.fi f9
      clear h5 qa5 q45 rx ry h7 rpx rpy f7 hb8 hb6 h8 fi8 qa8 q48 hp8' hp8 rx8 ry8 rpx8 rpy8 f9 fi5 hg7
      refine ⟨fun w' => ∃ (x' : Sv), MI B w' g sl a' f' (r.2.1, behind r.2.2 all.last r.1.first) ∧ Blk w' al_ (pB x' y all.empty) 80 ∧ RdI B w' x' (if all.empty then joined all.first r.1.first else all.first) ∧ RdI B w' y all.last ∧ Blk w' p (pB px py r.1.empty) 80 ∧ RdI B w' px r.1.first ∧ RdI B w' py r.1.last ∧ Blk w' g4 (pB (none, 0, 0) (none, 0, 0) false) 80 ∧ Fi B w w', ?_, ?_⟩
      · rintro w10 ⟨x', h10, qa, rx, ry, qp, rpx, rpy, q4, fi10⟩
        unfold F51_j9
        refine ⟨fun w' => ∃ (x' y' : Sv), MI B w' g sl a' f' (r.2.1, behind r.2.2 all.last r.1.first) ∧ Blk w' al_ (pB x' y' all.empty) 80 ∧ RdI B w' x' (if all.empty then joined all.first r.1.first else all.first) ∧ RdI B w' y' (if r.1.empty then joined all.last r.1.last else r.1.last) ∧ Blk w' p (pB px py r.1.empty) 80 ∧ Blk w' g4 (pB (none, 0, 0) (none, 0, 0) false) 80 ∧ Fi B w w', ?_, ?_⟩
        · rintro w11 ⟨x', y', h11, qa, rx, ry, qp, q4, fi11⟩
          unfold F51_j12
          have put : ∀ e : Bool, e = (all.empty && r.1.empty) → St w11 (Addr.add ⟨al_, 0, none⟩ 2) (.bool e) fun w' => ∃ (x' y' a' f' : Sv), MI B w' g sl a' f' (r.2.1, behind r.2.2 all.last r.1.first) ∧ Blk w' al_ (pB x' y' (all.empty && r.1.empty)) 80 ∧ RdI B w' x' (if all.empty then joined all.first r.1.first else all.first) ∧ RdI B w' y' (if r.1.empty then joined all.last r.1.last else r.1.last) ∧ Blk w' g4 (pB (none, 0, 0) (none, 0, 0) false) 80 ∧ Fi B w w' := fun e he =>
            st_blk (g := al_) (i := 2) qa (by simp) fun w12 hb12 f12 => ⟨x', y', a', f', h11.box qa (by decide) f12, by rw [← he]; exact hb12, rx.box qa (by decide) f12, ry.box qa (by decide) f12, f12.blk q4 na4, fi11.new f12 fun b hb e => by omega⟩
          refine lB (qa.cell 2) ?_
          refine br (fun he => ?_) (fun he => put _ (by rw [he]; rfl))
          exact lB (qp.cell 2) (put _ (by rw [he]; rfl))
        · have put : ∀ (x2 : Sv) {w11 : World}, Below w10.heap.size w10 w11 → RdI B w11 x2 (if r.1.empty then joined all.last r.1.last else r.1.last) → St w11 (Addr.add ⟨al_, 0, none⟩ 1) (.slice x2.1 x2.2.1 x2.2.2) fun w' => ∃ (x' y' : Sv), MI B w' g sl a' f' (r.2.1, behind r.2.2 all.last r.1.first) ∧ Blk w' al_ (pB x' y' all.empty) 80 ∧ RdI B w' x' (if all.empty then joined all.first r.1.first else all.first) ∧ RdI B w' y' (if r.1.empty then joined all.last r.1.last else r.1.last) ∧ Blk w' p (pB px py r.1.empty) 80 ∧ Blk w' g4 (pB (none, 0, 0) (none, 0, 0) false) 80 ∧ Fi B w w' := fun x2 w11 hb11 hx2 =>
            st_blk (g := al_) (i := 1) (qa.keep hb11) (by simp) fun w12 hb12 f12 => ⟨x', x2, (h10.below hb11).box (qa.keep hb11) (by decide) f12, hb12, (rx.below hb11).box (qa.keep hb11) (by decide) f12, hx2.box (qa.keep hb11) (by decide) f12, f12.blk (qp.keep hb11) npa, f12.blk (q4.keep hb11) na4, (fi10.trans (.below hb11)).new f12 fun b hb e => by omega⟩
          refine lB (qp.cell 2) ?_
          refine br (fun he => ?_) (fun he => ?_)
          · refine lSl (qa.cell 1) (lSl (qp.cell 1) ?_)
            refine joinI (B := B) (by have := h10.lt; have := h10.ge; omega) ry rpy (by have := ll1 hpall.2; have := ll1 k2.2; omega) fun x2 w11 hx2 hb11 => ⟨_, _, _, rfl, ?_⟩
            exact put x2 hb11 (by rw [he]; exact hx2)
          · exact lSl (qp.cell 1) (put py (Below.refl _ _) (by rw [he]; exact rpy))
      · refine lB (qa9.cell 2) ?_
        refine br (fun he => ?_) (fun he => ⟨x, h9, qa9, by rw [he]; exact rx9, ry9, hp9, rpx9, rpy9, q49, fi9⟩)
        refine lSl (qa9.cell 0) (lSl (hp9.cell 0) ?_)
        refine joinI (B := B) (by have := h9.lt; have := h9.ge; omega) rx9 rpx9 (by have := ll1 hpall.1; have := ll1 k2.1; omega) fun x2 w11 hx2 hb11 => ⟨_, _, _, rfl, ?_⟩
        have qa11 := qa9.keep hb11
        exact st_blk (g := al_) (i := 0) qa11 (by simp) fun w12 hb12 f12 => ⟨x2, (h9.below hb11).box qa11 (by decide) f12, hb12, by rw [he]; exact hx2.box qa11 (by decide) f12, (ry9.below hb11).box qa11 (by decide) f12, f12.blk (hp9.keep hb11) npa, (rpx9.below hb11).box qa11 (by decide) f12, (rpy9.below hb11).box qa11 (by decide) f12, f12.blk (q49.keep hb11) na4, (fi9.trans (.below hb11)).new f12 fun b hb e => by omega⟩
  · obtain rfl : k = row.length := by rw [← hel] at hk ⊢; omega
    rw [List.drop_length] at hu
    simp only [uR] at hu
    rw [← hu] at hR
    refine ldP qa5 (resP q45 rfl fun w' fw _ => ?_)
    exact hR x y a1 f1 w' (h5.box q45 (by decide) fw) (rx.box q45 (by decide) fw) (ry.box q45 (by decide) fw) (fi5.new fw fun b hb e => by omega)
theorem sC_drop : ∀ (rows : List (List Part)) (k : Nat) (hk : k < rows.length), sC (rows.drop k) = sR rows[k] + sC (rows.drop (k + 1)) := fun rows k hk => by
  rw [List.drop_eq_getElem_cons hk, sC]
theorem len_c : ∀ l : List Part, l.length ≤ sR l
  | [] => by simp
  | p :: ps => by have := len_c ps; have := cP_pos p; simp only [sR, List.length_cons]; omega
theorem mchoices_calls : ∀ (N : Nat) (rows : List (List Part)), cC rows < N → CM rows
  | 0, rows, h => by omega
  | N + 1, rows, hN => by
    intro w0 B w g sl a f gs v R ho hs h hi hc hp hR
    refine ok36 _ _ _ _ ?_
    unfold F36
    obtain ⟨es, e1, e2, e3⟩ := hp
    have hel := e3.len
    have hsc := sC_le rows
    refine al fun g4 w2 hb2 hg4 hge4 => al fun al_ w3 hb3 hgp hgep => ?_
    have hb13 : Below w.heap.size w w3 := btr hb2 hb2.size hb3
    have h3 := h.below hb13
    have f3 : Fi B w w3 := .below hb13
    have q4 : Blk w3 g4 (pB (none, 0, 0) (none, 0, 0) false) 80 := hg4.keep hb3
    have qa : Blk w3 al_ (pB (none, 0, 0) (none, 0, 0) false) 80 := hgp
    have na4 : ¬ g4 = al_ := by have := hg4.lt; omega
    have hlt4 : w.heap.size ≤ g4 := hge4
    have hlta : w.heap.size ≤ al_ := Nat.le_trans hb2.size hgep
    clear hb2 hb3 hg4 hgp hge4 hgep h
    refine ⟨fun i w' => ∃ (k : Nat) (gs' : GS) (all : Pc) (x y a' f' : Sv), i = k ∧ k ≤ rows.length ∧ MI B w' g sl a' f' gs' ∧ GI gs' ∧ PI gs'.1.length all ∧ gs'.1.length + sC (rows.drop k) ≤ 128 ∧ Blk w' al_ (pB x y all.empty) 80 ∧ RdI B w' x all.first ∧ RdI B w' y all.last ∧ Blk w' g4 (pB (none, 0, 0) (none, 0, 0) false) 80 ∧ Fi B w w' ∧
      uC (rows.drop k) gs' all = uC rows gs ⟨[], [], false⟩, fun i _ => rows.length - i.toNat,
      ⟨0, gs, ⟨[], [], false⟩, (none, 0, 0), (none, 0, 0), a, f, rfl, by omega, h3, hi, ⟨Few.nil _, Few.nil _⟩, by rw [List.drop_zero]; omega, qa, RdI.nil _ _, RdI.nil _ _, q4, f3, rfl⟩, ?_⟩
    clear h3 f3 q4 qa hb13 hi hc
    rintro i w5 ⟨k, gs1, all, x, y, a1, f1, rfl, hk, h5, hi5, hpi, hc5, qa5, rx, ry, q45, fi5, hu⟩
    unfold F36_l3
    refine brd (fun hlt => ?_) (fun hge => ?_)
    · have hk2 : k < rows.length := by rw [← hel]; omega
      have hk3 : k < es.length := by rw [hel]; exact hk2
      have hd : rows.drop k = rows[k] :: rows.drop (k + 1) := List.drop_eq_getElem_cons hk2
      rw [hd] at hu
      rw [sC_drop _ _ hk2] at hc5
      rw [uC_cons] at hu
      obtain ⟨k1, k2⟩ := gi_R rows[k] gs1 ⟨[], [], true⟩ hi5 ⟨Few.nil _, Few.nil _⟩
      have hge1 := k1.2.1
      have hle1 := k1.2.2
      have hcap : (uR rows[k] gs1 ⟨[], [], true⟩).2.1.length ≤ 128 := by omega
      have hpall := hpi.mono hge1
      generalize hr : uR rows[k] gs1 ⟨[], [], true⟩ = r at hu k1 k2 hge1 hle1 hcap hpall
      have hsz : rows.length ≤ 9223372036854775807 := by have := e2.1; have := e2.2.1; unfold maxLen at this; omega
      refine ⟨fun w' => ∃ (x' y' a' f' : Sv), MI B w' g sl a' f' r.2 ∧ Blk w' al_ (pB x' y' (all.empty || r.1.empty)) 80 ∧ RdI B w' x' (joined all.first r.1.first) ∧ RdI B w' y' (joined all.last r.1.last) ∧ Blk w' g4 (pB (none, 0, 0) (none, 0, 0) false) 80 ∧ Fi B w w', ?_, ?_⟩
      · rintro w6 ⟨x', y', a', f', h6, qa, rx, ry, q4, fi6⟩
        unfold F36_j7
        refine ⟨inR_i64 (by omega) (by have := e2.1; have := e2.2.1; unfold maxLen at this; omega), ⟨k + 1, _, _, x', y', a', f', by simp, by omega, h6, k1.1, ⟨hpall.1.joined k2.1.2, hpall.2.joined k2.2.2⟩, by omega, qa, rx, ry, q4, fi6, hu⟩, by dsimp only; omega⟩
      · have hsub5 : Sub w0 w5 := fi5.sub hs ho.lt
        refine (hsub5.rd e2).idx e1 (by omega) (by rw [e1]; omega) rfl fun b o hc => ?_
        simp only [Int.toNat_natCast] at hc
        refine lSl (hc 0 _ rfl) ?_
        have hget := e3.get k hk2 hk3
        have hcr : sR rows[k] ≤ 128 := by omega
        refine mrow_calls (H := fun pa prows ps hm hbr => mchoices_calls N prows ?_) ho hsub5 h5 hi5 (by omega) hget (by have := len_c rows[k]; omega) ?_
        · have := cP_lt pa prows ps hbr
          have := mem_sR hm
          have := mem_sC (List.getElem_mem hk2)
          omega
        rw [hr]
        intro px py a' f' w7 h7 rpx rpy f7
        refine ⟨_, _, _, _, _, _, _, rfl, ?_⟩
        refine al3 fun p w8 hb8 hp8 hgep => ?_
        have fi8 : Fi B w w8 := (fi5.trans f7).trans (.below hb8)
        have qa8 : Blk w8 al_ (pB x y all.empty) 80 := (f7.blk qa5 (by decide)).keep hb8
        have q48 : Blk w8 g4 (pB (none, 0, 0) (none, 0, 0) false) 80 := (f7.blk q45 (by decide)).keep hb8
        have hp8' : Blk w8 p (pB px py r.1.empty) 80 := hp8
        have h8 := h7.below hb8
        have rx8 := (rx.fi f7).below hb8
        have ry8 := (ry.fi f7).below hb8
        have rpx8 := rpx.below hb8
        have rpy8 := rpy.below hb8
        clear h5 qa5 q45 rx ry h7 rpx rpy f7 hb8 fi5 hp8
        have ll1 : ∀ {l : List Nat}, Few r.2.1.length l → l.length ≤ 128 := fun h => Nat.le_trans h.len hcap
        have hd8 : Below w8.heap.size w8 w8.drew := (Below.refl _ _).drew
        have HS : ∀ {a : Addr} {u : Value}, w8.cell? a = some u → Held (fun w' => Below w8.heap.size w8 w') a u := fun hc w' hb => kcell hb hc
        refine ⟨fun w' => Below w8.heap.size w8 w', hd8, x.1, x.2.1, x.2.2, HS (qa8.cell 0), px.1, px.2.1, px.2.2, HS (hp8'.cell 0), y.1, y.2.1, y.2.2, HS (qa8.cell 1), py.1, py.2.1, py.2.2, HS (hp8'.cell 1), all.empty, HS (qa8.cell 2), ?_⟩
        refine joinI (B := B) (by have := h8.lt; have := h8.ge; show B ≤ w8.heap.size; omega) (rx8.below hd8) (rpx8.below hd8) (by have := ll1 hpall.1; have := ll1 k2.1; omega) fun x2 w9 hx2 hb9 => ⟨_, _, _, rfl, ?_⟩
        have hb89 := btr hd8 hd8.size hb9
        refine ⟨hb89, ?_⟩
        refine joinI (B := B) (by have := h8.lt; have := h8.ge; have := hb89.size; omega) (ry8.below hb89) (rpy8.below hb89) (by have := ll1 hpall.2; have := ll1 k2.2; omega) fun y2 w10 hy2 hb10 => ⟨_, _, _, rfl, ?_⟩
        have hb810 := btr hb89 hb89.size hb10
        refine ⟨hb810, ?_⟩
        have qa10 := qa8.keep hb810
        have hx10 := hx2.below hb10
        have fin : ∀ e, e = (all.empty || r.1.empty) → St w10 ⟨al_, 0, none⟩ (.slice x2.1 x2.2.1 x2.2.2) fun w1_11 => St w1_11 (Addr.add ⟨al_, 0, none⟩ 1) (.slice y2.1 y2.2.1 y2.2.2) fun w1_12 => St w1_12 (Addr.add ⟨al_, 0, none⟩ 2) (.bool e) fun w' => ∃ (x' y' a' f' : Sv), MI B w' g sl a' f' r.2 ∧ Blk w' al_ (pB x' y' (all.empty || r.1.empty)) 80 ∧ RdI B w' x' (joined all.first r.1.first) ∧ RdI B w' y' (joined all.last r.1.last) ∧ Blk w' g4 (pB (none, 0, 0) (none, 0, 0) false) 80 ∧ Fi B w w' := fun e he =>
          stP qa10 rfl fun w' fw hbw => ⟨x2, y2, a', f', (h8.below hb810).box qa10 (by decide) fw, by rw [← he]; exact hbw, hx10.box qa10 (by decide) fw, hy2.box qa10 (by decide) fw, fw.blk (q48.keep hb810) na4, (fi8.trans (.below hb810)).new fw fun b hb e => by omega⟩
        refine br (fun he => fin _ (by rw [he]; rfl)) (fun he => ⟨r.1.empty, HS (hp8'.cell 2), fin _ (by rw [he]; rfl)⟩)
    · obtain rfl : k = rows.length := by rw [← hel] at hk ⊢; omega
      rw [List.drop_length] at hu
      simp only [uC] at hu
      rw [← hu] at hR
      refine ldP qa5 (resP q45 rfl fun w' fw _ => ?_)
      exact hR x y a1 f1 w' (h5.box q45 (by decide) fw) (rx.box q45 (by decide) fw) (ry.box q45 (by decide) fw) (fi5.new fw fun b hb e => by omega)
end
end Go.Proofs.Ytkmoeokfgkmlhaa
/- Models: a model's text is written. -/
namespace Go.Mdl
def rC (rows : List (List Part)) (k : Nat) : List UInt8 := if k = 0 then tC rows else tCt (rows.drop k)
def rR (row : List Part) (k : Nat) : List UInt8 := if k = 0 then tR row else tRt (row.drop k)
theorem rC_step {rows : List (List Part)} {k : Nat} (hk : k < rows.length) : rC rows k = (if k = 0 then [] else [124]) ++ (tR rows[k] ++ rC rows (k + 1)) := by
  unfold rC
  rw [if_neg (Nat.succ_ne_zero k)]
  by_cases h : k = 0
  · subst h
    cases rows with
    | nil => simp at hk
    | cons r rs => simp [tC]
  · rw [if_neg h, if_neg h, List.drop_eq_getElem_cons hk]
    simp [tCt]
theorem rC_end (rows : List (List Part)) : rC rows rows.length = [] := by
  unfold rC
  cases rows with
  | nil => simp [tC]
  | cons r rs => simp [tCt]
theorem rR_step {rows : List Part} {k : Nat} (hk : k < rows.length) : rR rows k = (if k = 0 then [] else [44]) ++ (tP rows[k] ++ rR rows (k + 1)) := by
  unfold rR
  rw [if_neg (Nat.succ_ne_zero k)]
  by_cases h : k = 0
  · subst h
    cases rows with
    | nil => simp at hk
    | cons r rs => simp [tR]
  · rw [if_neg h, if_neg h, List.drop_eq_getElem_cons hk]
    simp [tRt]
theorem rR_end (rows : List Part) : rR rows rows.length = [] := by
  unfold rR
  cases rows with
  | nil => simp [tR]
  | cons r rs => simp [tRt]
theorem vC_get {rows : List (List Part)} (h : vC rows) {k : Nat} (hk : k < rows.length) : vR rows[k] := by
  induction rows generalizing k with
  | nil => simp at hk
  | cons r rs ih =>
    simp only [vC] at h
    cases k with
    | zero => exact h.2.1
    | succ k => exact ih h.2.2 (by simpa using hk)
theorem vR_get {rows : List Part} (h : vR rows) {k : Nat} (hk : k < rows.length) : vP rows[k] := by
  induction rows generalizing k with
  | nil => simp at hk
  | cons r rs ih =>
    simp only [vR] at h
    cases k with
    | zero => exact h.1
    | succ k => exact ih h.2 (by simpa using hk)
end Go.Mdl
namespace Go.Proofs.Ytkmoeokfgkmlhaa
open Go.RowKit Go.Vc Go.Mdl
set_option linter.unusedVariables false
set_option linter.unusedSimpArgs false
set_option maxRecDepth 100000
theorem ofNat_sign {s : Nat} (h : signOk s) : (s : Int) = ((UInt8.ofNat s).toNat : Int) := by
  rcases h with rfl | rfl | rfl | rfl <;> rfl
theorem write_calls : ∀ (N : Nat) (rows : List (List Part)), cC rows < N → vC rows → ∀ (w0 : World) (B : Nat) (w : World) (b : Nat) (bs : List UInt8) (v : Sv) (R : Ending → World → Prop), Old w0 B → Sub w0 w → RdC w0 rows v → Bl w B b bs → B ≤ w.heap.size → bs.length + (tC rows).length ≤ 1048576 →
    (∀ w', Bl w' B b (bs ++ tC rows) → Fb B w w' → R (.returned (.tuple #[])) w') → Calls Try.prog 39 #[.pointer (some ⟨b, 0, none⟩), .slice v.1 v.2.1 v.2.2] w R
  | 0, rows, h => by omega
  | N + 1, rows, hN => by
    intro hv w0 B w b bs v R ho hs hp hbl hBw hlen hR
    refine ok39 _ _ _ _ ?_
    unfold F39
    obtain ⟨es, e1, e2, e3⟩ := hp
    have hel := e3.len
    have hsz : rows.length ≤ 9223372036854775807 := by have := e2.1; have := e2.2.1; unfold maxLen at this; omega
    refine ⟨fun i w1 => ∃ (k : Nat) (bk : List UInt8), i = k ∧ k ≤ rows.length ∧ Bl w1 B b bk ∧ Fb B w w1 ∧ bk ++ rC rows k = bs ++ tC rows, fun i _ => rows.length - i.toNat, ⟨0, bs, rfl, by omega, hbl, Fb.refl _ _, rfl⟩, ?_⟩
    rintro i w1 ⟨k, bk, rfl, hk, h1, f1, hb⟩
    unfold F39_l1
    refine brd (fun hlt => ?_) (fun hge => ?_)
    rotate_left
    · obtain rfl : k = rows.length := by rw [← hel] at hk ⊢; omega
      rw [rC_end, List.append_nil] at hb
      subst hb
      exact hR w1 h1 f1
    have hk2 : k < rows.length := by rw [← hel]; omega
    have hk3 : k < es.length := by rw [hel]; exact hk2
    have hstep := rC_step hk2
    have hs1 := f1.sub hs ho.lt
    have hB1 : B ≤ w1.heap.size := Nat.le_trans hBw f1.size
    have hblen : bk.length + (rC rows k).length ≤ 1048576 := by have := congrArg List.length hb; simp at this; omega
    rw [hstep] at hb hblen
    refine (hs1.rd e2).idx e1 (by omega) (by rw [e1]; omega) rfl fun q o hc => ?_
    simp only [Int.toNat_natCast] at hc
    refine lSl (hc 0 _ rfl) ?_
    obtain ⟨ps, p1, p2, p3⟩ := e3.get k hk2 hk3
    have hpl := p3.len
    have hvr := vC_get hv hk2
    have hrc : sR rows[k] ≤ cC rows := Nat.le_trans (mem_sC (List.getElem_mem hk2)) (sC_le rows)
    generalize rows[k] = row at p3 hpl hvr hrc hb hblen hstep
    refine ⟨fun w2 => ∃ b2, Bl w2 B b b2 ∧ Fb B w w2 ∧ b2 ++ (tR row ++ rC rows (k + 1)) = bs ++ tC rows, ?_, ?_⟩
    · rintro w2 ⟨b2, h2, f2, hb2⟩
      unfold F39_j5
      refine ⟨fun i w3 => ∃ (j : Nat) (bj : List UInt8), i = j ∧ j ≤ row.length ∧ Bl w3 B b bj ∧ Fb B w w3 ∧ bj ++ (rR row j ++ rC rows (k + 1)) = bs ++ tC rows, fun i _ => row.length - i.toNat, ⟨0, b2, rfl, by omega, h2, f2, hb2⟩, ?_⟩
      clear h2 f2 hb2
      rintro i w3 ⟨j, bj, rfl, hj, h3, f3, hb3⟩
      unfold F39_l6
      refine brd (fun hlt2 => ?_) (fun hge2 => ?_)
      rotate_left
      · obtain rfl : j = row.length := by rw [← hpl] at hj ⊢; omega
        rw [rR_end, List.nil_append] at hb3
        exact ⟨inR_i64 (by omega) (by omega), ⟨k + 1, bj, by simp, by omega, h3, f3, hb3⟩, by dsimp only; omega⟩
      have hj2 : j < row.length := by rw [← hpl]; omega
      have hj3 : j < ps.length := by rw [hpl]; exact hj2
      have hstep2 := rR_step hj2
      have hs3 := f3.sub hs ho.lt
      have hB3 : B ≤ w3.heap.size := Nat.le_trans hBw f3.size
      have hblen3 : bj.length + (rR row j).length ≤ 1048576 := by have := congrArg List.length hb3; simp at this; omega
      rw [hstep2] at hb3 hblen3
      have hjsz : row.length ≤ 9223372036854775807 := by have := p2.1; have := p2.2.1; unfold maxLen at this; omega
      have hget := p3.get j hj2 hj3
      have hvp := vR_get hvr hj2
      have hcp := mem_sR (List.getElem_mem hj2)
      refine ⟨fun w4 => ∃ b4, Bl w4 B b b4 ∧ Fb B w w4 ∧ b4 ++ (rR row (j + 1) ++ rC rows (k + 1)) = bs ++ tC rows, ?_, ?_⟩
      · rintro w4 ⟨b4, h4, f4, hb4⟩
        unfold F39_j17
        exact ⟨inR_i64 (by omega) (by omega), ⟨j + 1, b4, by simp, by omega, h4, f4, hb4⟩, by dsimp only; omega⟩
      refine (hs3.rd p2).idx p1 (by omega) (by rw [p1]; omega) rfl fun q o hc => ?_
      simp only [Int.toNat_natCast] at hc
      refine lS (hc 0 _ rfl) (lSl (by rw [Addr.add_mk]; exact hc 1 _ rfl) (lI (by rw [Addr.add_mk]; exact hc 2 _ rfl) ?_))
      obtain ⟨a, prows, s, hpe⟩ : ∃ a prows s, row[j] = Part.mk a prows s := by cases row[j]; exact ⟨_, _, _, rfl⟩
      rw [hpe] at hget hvp hcp hb3 hblen3
      generalize ps[j] = ej at hget ⊢
      obtain ⟨ea, esl, es'⟩ := ej
      simp only [RdP] at hget
      obtain ⟨rfl, rfl, hget⟩ := hget
      replace hget : RdC w0 prows esl := hget
      simp only [vP] at hvp
      refine al3 fun p w4 hb4 hp4 hgep => ?_
      have qp : Blk w4 p #[.string ea, .slice esl.1 esl.2.1 esl.2.2, .int .u8 (es' : Int)] 96 := hp4
      have h4 := h3.below hb4
      have f4 : Fb B w w4 := f3.trans (.below hb4)
      -- behind the comma
      refine ⟨fun w5 => ∃ b5, Bl w5 B b b5 ∧ Fb B w w5 ∧ Blk w5 p #[.string ea, .slice esl.1 esl.2.1 esl.2.2, .int .u8 (es' : Int)] 96 ∧ b5 ++ (tP (.mk ea prows es') ++ (rR row (j + 1) ++ rC rows (k + 1))) = bs ++ tC rows ∧ b5.length + (tP (.mk ea prows es')).length ≤ 1048576, ?_, ?_⟩
      · rintro w5 ⟨b5, h5, f5, qp, hb5, hl5⟩
        unfold F39_j10
        have hB5 : B ≤ w5.heap.size := Nat.le_trans hBw f5.size
        simp only [tP] at hb5 hl5
        refine ⟨fun w6 => ∃ b6, Bl w6 B b b6 ∧ Fb B w w6 ∧ Blk w6 p #[.string ea, .slice esl.1 esl.2.1 esl.2.2, .int .u8 (es' : Int)] 96 ∧ b6 ++ ((if es' = 0 then [] else [UInt8.ofNat es']) ++ (rR row (j + 1) ++ rC rows (k + 1))) = bs ++ tC rows ∧ b6.length ≤ 1048576, ?_, ?_⟩
        · rintro w6 ⟨b6, h6, f6, qp, hb6, hl6⟩
          unfold F39_j15
          refine lI (qp.cell 2) ?_
          refine brn (fun hne => ?_) (fun he => ?_)
          · refine lI (qp.cell 2) ?_
            have hne' : es' ≠ 0 := by rintro rfl; exact hne rfl
            rw [if_neg hne'] at hb6
            refine writeByte_calls h6 (Nat.le_trans hBw f6.size) hl6 (ofNat_sign hvp.1) fun w7 h7 f7 => ⟨_, rfl, _, h7, f6.trans f7, ?_⟩
            rw [← hb6]; simp
          · have he' : es' = 0 := by omega
            rw [if_pos he', List.nil_append] at hb6
            exact ⟨b6, h6, f6, hb6⟩
        · refine lS (qp.cell 0) ?_
          rw [bytes_eq]
          refine brd (fun hbr => ?_) (fun hbr => ?_)
          · replace hbr : ea = Mdl.Br := hbr
            rw [if_pos hbr] at hb5 hl5
            simp only [List.length_append, List.length_cons, List.length_nil] at hl5
            refine writeByte_calls h5 hB5 (by omega) (c := 40) rfl fun w6 h6 f6 => ⟨_, rfl, ?_⟩
            have qp6 := f6.blk qp (by decide)
            have f6' := f5.trans f6
            refine lSl (qp6.cell 1) ?_
            have hvc : vC prows := by
              rcases hvp.2 with ⟨_, _, h⟩ | ⟨h, _⟩
              · exact h
              · exact absurd hbr (br_ne h)
            have hcc := cP_lt ea prows es' hbr
            refine write_calls N prows (by omega) hvc w0 B w6 b _ esl _ ho (f6'.sub hs ho.lt) hget h6 (Nat.le_trans hB5 f6.size) (by simp; omega) fun w7 h7 f7 => ⟨rfl, ?_⟩
            have qp7 := f7.blk qp6 (by decide)
            refine writeByte_calls h7 (Nat.le_trans (Nat.le_trans hB5 f6.size) f7.size) (by simp; omega) (c := 41) rfl fun w8 h8 f8 => ⟨_, rfl, _, h8, (f6'.trans f7).trans f8, f8.blk qp7 (by decide), ?_, by simp; omega⟩
            rw [← hb5]; simp
          · replace hbr : ¬ ea = Mdl.Br := hbr
            rw [if_neg hbr] at hb5 hl5
            simp only [List.length_append] at hl5
            refine lS (qp.cell 0) ?_
            have hez : ea.data.toList.length = ea.size := by simp
            refine writeString_calls h5 hB5 (by omega) fun w6 h6 f6 => ⟨_, _, rfl, _, h6, f5.trans f6, f6.blk qp (by decide), ?_, by rw [List.length_append]; omega⟩
            rw [← hb5]; simp
      · refine brd (fun hgt => ?_) (fun hle => ?_)
        · have : j ≠ 0 := by omega
          rw [if_neg this] at hb3 hblen3
          simp only [List.length_append, List.length_cons, List.length_nil] at hblen3
          refine writeByte_calls h4 (Nat.le_trans hB3 hb4.size) (by omega) (c := 44) rfl fun w5 h5 f5 => ⟨_, rfl, _, h5, f4.trans f5, f5.blk qp (by decide), ?_, by simp; omega⟩
          rw [← hb3]; simp
        · have : j = 0 := by omega
          rw [if_pos this, List.nil_append] at hb3 hblen3
          rw [List.length_append] at hblen3
          exact ⟨bj, h4, f4, qp, by rw [← hb3]; simp, by omega⟩
    · refine brd (fun hgt => ?_) (fun hle => ?_)
      · have : k ≠ 0 := by omega
        rw [if_neg this] at hb hblen
        simp only [List.length_append, List.length_cons, List.length_nil] at hblen
        refine writeByte_calls h1 hB1 (by omega) (c := 124) rfl fun w2 h2 f2 => ⟨_, rfl, _, h2, f1.trans f2, ?_⟩
        rw [← hb]; simp
      · have : k = 0 := by omega
        rw [if_pos this, List.nil_append] at hb
        exact ⟨bk, h1, f1, hb⟩
end Go.Proofs.Ytkmoeokfgkmlhaa
/- Models: a model is placed; its text. -/
namespace Go.Mdl
/-- What is asked of places: as many as 128, each list short. -/
structure PlOk (m : Pl) : Prop where
  len : m.atoms.length = m.fol.length
  le : m.atoms.length ≤ 128
  fol : ∀ l ∈ m.fol, Few m.atoms.length l
  first : Few m.atoms.length m.first
  last : Few m.atoms.length m.last
theorem placed_ok {rows : List (List Part)} (h : cC rows ≤ 128) : PlOk (placed rows) := by
  have hi : GI (([], []) : GS) := ⟨rfl, by simp⟩
  obtain ⟨⟨h1, h2, h3⟩, h4, h5⟩ := gi_C rows ([], []) ⟨[], [], false⟩ hi ⟨Few.nil _, Few.nil _⟩
  have := sC_le rows
  exact ⟨h1.1, by simp at h3; unfold placed; dsimp only; omega, h1.2, h4, h5⟩
def lastB (m : Pl) : List Bool := (List.range m.atoms.length).map fun i => m.last.contains i
theorem mark_step (n : Nat) (l : List Nat) (k : Nat) (hk : k < l.length) : ((List.range n).map fun i => (l.take (k + 1)).contains i) = ((List.range n).map fun i => (l.take k).contains i).set l[k] true := by
  refine List.ext_getElem (by simp) fun i h1 h2 => ?_
  rw [List.getElem_set]
  simp only [List.getElem_map, List.getElem_range]
  rw [List.take_add_one, List.getElem?_eq_getElem hk, Option.toList_some]
  by_cases hi : l[k] = i
  · rw [if_pos hi, List.contains_iff_mem]
    simp [hi]
  · rw [if_neg hi, Bool.eq_iff_iff, List.contains_iff_mem, List.contains_iff_mem, List.mem_append, List.mem_singleton]
    constructor
    · rintro (h | h)
      · exact h
      · exact absurd h.symm hi
    · exact .inl
def zeroPl : Pl := ⟨[], [], [], [], false⟩
theorem zero_ok : PlOk zeroPl := ⟨rfl, by simp [zeroPl], by simp [zeroPl], Few.nil _, Few.nil _⟩
end Go.Mdl
namespace Go.Proofs.Ytkmoeokfgkmlhaa
open Go.RowKit Go.Vc Go.Mdl
set_option linter.unusedVariables false
set_option linter.unusedSimpArgs false
set_option maxRecDepth 100000
def LBo : Lay Bool := ⟨1, fun b => [.bool b], fun _ => rfl, fun _ => by simp [Value.oneCell'], by decide⟩
/-- A model in memory, but for its choices. -/
def RdN (w : World) (g : Nat) (sl : Sv) (m : Pl) : Prop := ∃ (a f fs ls : Sv) (vs : List Sv), Blk w g (mB sl a f fs ls m.empty) 60 ∧ (a.2.1 = m.atoms.length ∧ Rd LSt w a.1 a.2.2 m.atoms) ∧ (f.2.1 = vs.length ∧ Rd LSv w f.1 f.2.2 vs ∧ RdF 0 w vs m.fol) ∧ RdI 0 w fs m.first ∧
    (ls.2.1 = m.atoms.length ∧ Rd LBo w ls.1 ls.2.2 (lastB m))
/-- A model in memory. -/
def RdM (w : World) (g : Nat) (rows : List (List Part)) (m : Pl) : Prop := ∃ sl, RdN w g sl m ∧ RdC w rows sl
section
variable {w w1 : World} {R : Ending → World → Prop} {g B : Nat}
theorem sub_below (h : Below w.heap.size w w1) : Sub w w1 := fun b c t f hc => by rw [h.block b (Array.getElem?_eq_some_iff.1 hc).1]; exact hc
theorem RdN.sub {sl : Sv} {m : Pl} (h : RdN w g sl m) (hs : Sub w w1) : RdN w1 g sl m := by
  obtain ⟨a, f, fs, ls, vs, h1, h3, h4, h5, h6⟩ := h
  exact ⟨a, f, fs, ls, vs, hs _ _ _ _ h1, ⟨h3.1, hs.rd h3.2⟩, ⟨h4.1, hs.rd h4.2.1, h4.2.2.1, fun i v l q1 q2 => (h4.2.2.2 i v l q1 q2).sub hs⟩, h5.sub hs, h6.1, hs.rd h6.2⟩
theorem RdM.sub {rows : List (List Part)} {m : Pl} (h : RdM w g rows m) (hs : Sub w w1) : RdM w1 g rows m := by
  obtain ⟨sl, h1, h2⟩ := h
  exact ⟨sl, h1.sub hs, h2.sub hs⟩
theorem RdM.below {rows : List (List Part)} {m : Pl} (h : RdM w g rows m) (hb : Below w.heap.size w w1) : RdM w1 g rows m := h.sub (sub_below hb)
theorem zrowB (n : Nat) : (zrow #[.bool false] (n * 1)).toList = LBo.all (List.replicate n false) := by
  unfold zrow
  rw [Nat.mul_one]
  have e : ∀ k, LBo.all (List.replicate k false) = List.replicate k (.bool false) := by
    intro k
    induction k with
    | zero => rfl
    | succ k ih =>
      simp only [Lay.all, List.replicate_succ, List.flatMap_cons] at *
      rw [ih]; rfl
  rw [e]
  refine List.ext_getElem (by simp) fun i h1 h2 => ?_
  simp [Nat.mod_one]
theorem placed_calls {rows : List (List Part)} {v : Sv} (hp : RdC w rows v) (hc : cC rows ≤ 128) (hR : ∀ g w', RdN (above w.heap.size w') g v (placed rows) → Below w.heap.size w w' → R (.returned (.pointer (some ⟨g, 0, none⟩))) w') :
    Calls Try.prog 20 #[.slice v.1 v.2.1 v.2.2] w R := by
  refine ok20 _ _ _ ?_
  unfold F20
  refine al fun g w1 hb1 hg hge => ?_
  have hold : Old w w.heap.size := ⟨fun b c t f h => (Array.getElem?_eq_some_iff.1 h).1⟩
  have h1 : MI w.heap.size w1 g v (none, 0, 0) (none, 0, 0) (([], []) : GS) := ⟨hge, hg, Own.nil _ _ _ _, [], Own.nil _ _ _ _, rfl, by simp⟩
  have hi : GI (([], []) : GS) := ⟨rfl, by simp⟩
  refine mchoices_calls (cC rows + 1) rows (by omega) w w.heap.size w1 g v _ _ _ v _ hold (sub_below hb1) h1 hi (by simpa using hc) hp ?_
  have hok := placed_ok hc
  have hpl : placed rows = ⟨(uC rows ([], []) ⟨[], [], false⟩).2.1, (uC rows ([], []) ⟨[], [], false⟩).2.2, (uC rows ([], []) ⟨[], [], false⟩).1.first, (uC rows ([], []) ⟨[], [], false⟩).1.last, (uC rows ([], []) ⟨[], [], false⟩).1.empty⟩ := rfl
  rw [hpl] at hR hok
  clear hpl h1 hi
  generalize uC rows ([], []) ⟨[], [], false⟩ = r at hR hok ⊢
  intro x y a f w2 h2 rx ry f2
  refine ⟨_, _, _, _, _, _, _, rfl, ?_⟩
  refine al3 fun p w3 hb3 hp3 hgep => ?_
  have qp : Blk w3 p (pB x y r.1.empty) 80 := hp3
  have h3 := h2.below hb3
  have rx3 := rx.below hb3
  have ry3 := ry.below hb3
  have B2 : Below w.heap.size w w2 := hb1.trans (Fm.toBelow f2 hb1.size fun b hb hm => by have := hm.1; omega)
  have B3 : Below w.heap.size w w3 := btr B2 B2.size hb3
  have hgw3 : g < w3.heap.size := h3.lt
  have hpg : ¬ p = g := by have := h2.lt; omega
  have hlen := h3.lens
  have hd3 : Below w3.heap.size w3 w3.drew := (Below.refl _ _).drew
  have n128 : r.2.1.length ≤ 128 := hok.le
  -- the last step's world
  refine ⟨fun w' => ∃ g25, Blk w' g (mB v a f x (some ⟨g25, 0, none⟩, r.2.1.length, r.2.1.length) r.1.empty) 60 ∧ Blk w' g25 (zrow #[.bool false] (r.2.1.length * 1)) 4 ∧ Blk w' p (pB x y r.1.empty) 80 ∧ w3.heap.size ≤ g25 ∧ Fm (fun b => b = g ∨ w3.heap.size ≤ b) w3 w', ?_, ?_⟩
  · rintro w4 ⟨g25, qg, q25, qp4, hg25, f4⟩
    unfold F20_j4
    refine lSl (qp4.cell 1) ?_
    have hnot : ∀ {q : TypeId → Bool}, q 60 = false → ∀ b, (b = g ∨ w3.heap.size ≤ b) → ¬ tyAt w3 b q := by
      intro q hq b hb
      rcases hb with rfl | hb
      · exact tyAt_blk h3.blk hq
      · rintro ⟨c, t, f', h, _⟩
        have := (Array.getElem?_eq_some_iff.1 h).1
        omega
    let mk := fun (l : List Nat) => (List.range r.2.1.length).map fun i => l.contains i
    have hmk0 : mk [] = List.replicate r.2.1.length false := by
      refine List.ext_getElem (by simp [mk]) fun i h1 h2 => ?_
      simp [mk]
    have own0 : Own LBo w4 w3.heap.size 4 (.slice (some ⟨g25, 0, none⟩) r.2.1.length r.2.1.length) (mk []) := by
      have hml : (mk []).length = r.2.1.length := by simp [mk]
      have := Own.lit' (L := LBo) (xs := mk []) (base := w3.heap.size) q25 hg25 (by rw [hmk0]; exact zrowB _) (by rw [hml]; simp [maxLen]; omega)
      rw [hml] at this
      exact this
    refine ⟨fun i w' => ∃ k : Nat, i = k ∧ k ≤ r.1.last.length ∧ Own LBo w' w3.heap.size 4 (.slice (some ⟨g25, 0, none⟩) r.2.1.length r.2.1.length) (mk (r.1.last.take k)) ∧ Blk w' g (mB v a f x (some ⟨g25, 0, none⟩, r.2.1.length, r.2.1.length) r.1.empty) 60 ∧ Fm (fun b => b = g ∨ w3.heap.size ≤ b) w3 w', fun i _ => r.1.last.length - i.toNat, ⟨0, rfl, by omega, own0, qg, f4⟩, ?_⟩
    clear own0 qg q25 qp4 f4 w4
    rintro i w4 ⟨k, rfl, hk, own, qg, f4⟩
    unfold F20_l5
    have ry4 := ry3.fm f4 (hnot (by decide))
    have hyl := ry4.1
    have hll := Nat.le_trans hok.last.len n128
    dsimp only at hll
    refine brd (fun hlt => ?_) (fun hge => ?_)
    · have hk2 : k < r.1.last.length := by omega
      have hj := hok.last.2 _ (List.getElem_mem hk2)
      refine ry4.2.1.k hyl rfl hk2 fun b o c0 => lI c0 ?_
      refine lSl (by rw [Addr.add_mk]; exact qg.cell 4) ?_
      refine own.put rfl rfl (by simpa [mk] using hj) (x := true) rfl fun w5 own5 f5 => ⟨inR_i64 (by omega) (by omega), ⟨k + 1, by simp, by omega, ?_, ?_, ?_⟩, by dsimp only; omega⟩
      · have e : mk (r.1.last.take (k + 1)) = (mk (r.1.last.take k)).set r.1.last[k] true := mark_step _ _ _ hk2
        rw [e]; exact own5
      · refine f5.blk qg fun hr => ?_
        have := (own.lt g hr).1
        omega
      · exact f4.trans (f5.mono fun b hb hr => .inr (own.lt b hr).1)
    · obtain rfl : k = r.1.last.length := by omega
      rw [List.take_length] at own
      obtain ⟨vs, o1, o2, o3⟩ := h3.fol
      have own_at := h3.at_.fmT f4 (hnot (by decide))
      have own_fol := o1.fmT f4 (hnot (by decide))
      refine hR g w4 ⟨a, f, x, (some ⟨g25, 0, none⟩, r.2.1.length, r.2.1.length), vs, cells_only (ok := fun b => Nat.ble w.heap.size b) (Nat.ble_eq_true_of_le h3.ge) qg, ⟨hlen.1, (own_above own_at (Nat.le_refl _)).rd.2⟩, ⟨o1.rd.1, (own_above own_fol (Nat.le_refl _)).rd.2, o2, fun i v' l q1 q2 => ?_⟩, ?_, rfl, (own_above own B3.size).rd.2⟩ ?_
      · exact ((o3 i v' l q1 q2).fm f4 (hnot (by decide))).above.weak (Nat.zero_le _)
      · exact (rx3.fm f4 (hnot (by decide))).above.weak (Nat.zero_le _)
      · exact B3.trans (f4.toBelow B3.size fun b hb hm => by rcases hm with rfl | hm <;> omega)
  · have HS : ∀ {w' : World} {c : Array Value}, Blk w' p (pB x y r.1.empty) 80 → Blk w' g c 60 → c[1]? = some (.slice a.1 a.2.1 a.2.2) → Blk w' p (pB x y r.1.empty) 80 ∧ w'.cell? ⟨g, 1, none⟩ = some (.slice a.1 a.2.1 a.2.2) := fun h1 h2 h3 => ⟨h1, by rw [h2.cell]; exact h3⟩
    refine ⟨fun w' => Blk w' p (pB x y r.1.empty) 80 ∧ w'.cell? ⟨g, 1, none⟩ = some (.slice a.1 a.2.1 a.2.2), HS (qp.drew) h3.blk.drew rfl, x.1, x.2.1, x.2.2, fun w' h => h.1.cell 0, r.1.empty, fun w' h => h.1.cell 2, a.1, a.2.1, a.2.2, fun w' h => by rw [Addr.add_mk]; exact h.2, ?_⟩
    have hbounds : (0 : Int) ≤ ((a.2.1 : Nat) : Int) ∧ ((a.2.1 : Nat) : Int) ≤ ((a.2.1 : Nat) : Int) ∧ ((1 : Nat) : Int) * ((a.2.1 : Nat) : Int) ≤ 281474976710656 := by rw [hlen.1]; omega
    have hN : (((a.2.1 : Nat) : Int)).toNat = r.2.1.length := by rw [Int.toNat_natCast]; exact hlen.1
    simp only [hN, Addr.add_mk, Nat.zero_add]
    have D : Fm (fun b => b = g ∨ w3.heap.size ≤ b) w3 w3.drew := .below hd3
    have st : ∀ {w4 w5 : World}, Fm (fun b => b = g ∨ w3.heap.size ≤ b) w3 w4 → Fm (· = g) w4 w5 → Fm (fun b => b = g ∨ w3.heap.size ≤ b) w3 w5 := fun h k => h.trans (k.mono fun b _ e => .inl e)
    have al' : ∀ {w4 w5 : World}, Fm (fun b => b = g ∨ w3.heap.size ≤ b) w3 w4 → Below w4.heap.size w4 w5 → Fm (fun b => b = g ∨ w3.heap.size ≤ b) w3 w5 := fun h k => h.tr k
    refine ⟨?_, ?_⟩
    · refine ⟨hbounds.1, hbounds.2.1, hbounds.2.2, al fun g25 w4 hb4 hg25 hge25 => ?_⟩
      have F4 := al' D hb4
      have qp4 := qp.drew.keep hb4
      have qg4 := h3.blk.drew.keep hb4
      have n25 : ¬ g25 = g := by have : w3.heap.size ≤ g25 := hge25; omega
      refine ⟨HS qp4 qg4 rfl, st_blk (g := g) (i := 2) qg4 (by simp) fun w5 qg5 f5 => ⟨HS (f5.blk qp4 hpg) qg5 rfl, st_blk (g := g) (i := 5) qg5 (by simp) fun w6 qg6 f6 => st_blk (g := g) (i := 4) qg6 (by simp) fun w7 qg7 f7 => ?_⟩⟩
      exact ⟨g25, qg7, f7.blk (f6.blk (f5.blk hg25 n25) n25) n25, f7.blk (f6.blk (f5.blk qp4 hpg) hpg) hpg, hge25, st (st (st F4 f5) f6) f7⟩
    · refine st_blk (g := g) (i := 2) h3.blk.drew (by simp) fun w4 qg4 f4 => ?_
      have F4 := st D f4
      refine ⟨HS (f4.blk qp.drew hpg) qg4 rfl, ⟨hbounds.1, hbounds.2.1, hbounds.2.2, al fun g25 w5 hb5 hg25 hge25 => ?_⟩, st_blk (g := g) (i := 5) qg4 (by simp) fun w5 qg5 f5 => ⟨hbounds.1, hbounds.2.1, hbounds.2.2, al fun g25 w6 hb6 hg25 hge25 => ?_⟩⟩
      · have F5 := al' F4 hb5
        have qp5 := (f4.blk qp.drew hpg).keep hb5
        have qg5 := qg4.keep hb5
        have n25 : ¬ g25 = g := by have := qg4.lt; omega
        have hge25' : w3.heap.size ≤ g25 := Nat.le_trans F4.size hge25
        refine ⟨HS qp5 qg5 rfl, st_blk (g := g) (i := 5) qg5 (by simp) fun w6 qg6 f6 => st_blk (g := g) (i := 4) qg6 (by simp) fun w7 qg7 f7 => ?_⟩
        exact ⟨g25, qg7, f7.blk (f6.blk hg25 n25) n25, f7.blk (f6.blk qp5 hpg) hpg, hge25', st (st F5 f6) f7⟩
      · have F5 := st F4 f5
        have F6 := al' F5 hb6
        have qp6 := (f5.blk (f4.blk qp.drew hpg) hpg).keep hb6
        have n25 : ¬ g25 = g := by have := qg5.lt; omega
        have hge25' : w3.heap.size ≤ g25 := Nat.le_trans F5.size hge25
        refine st_blk (g := g) (i := 4) (qg5.keep hb6) (by simp) fun w7 qg7 f7 => ?_
        exact ⟨g25, qg7, f7.blk hg25 n25, f7.blk qp6 hpg, hge25', st F6 f7⟩
theorem text_calls {rows : List (List Part)} {m : Pl} (h : RdM w g rows m) (hv : vC rows) (hl : (tC rows).length ≤ 1048576) (hR : ∀ w', Below w.heap.size w w' → R (.returned (.string ⟨(tC rows).toArray⟩)) w') :
    Calls Try.prog 24 #[.pointer (some ⟨g, 0, none⟩)] w R := by
  refine ok24 _ ?_
  unfold F24
  rw [show (some (⟨g, 0, none⟩ : Addr)).isNone = false from rfl, Br_f]
  refine al fun b w1 hb1 hb hge => ?_
  obtain ⟨sl, ⟨a, f, fs, ls, vs, h1, _⟩, h2⟩ := h
  rw [NonNil_some]
  refine lSl ((h1.keep hb1).cell 0) ?_
  have hold : Old w w.heap.size := ⟨fun b c t f h => (Array.getElem?_eq_some_iff.1 h).1⟩
  have hbl : Bl w1 w.heap.size b [] := ⟨hge, _, _, hb, .inl rfl, .inl ⟨rfl, rfl⟩⟩
  refine write_calls (cC rows + 1) rows (by omega) hv w w.heap.size w1 b [] sl _ hold (sub_below hb1) h2 hbl hb1.size (by simpa using hl) fun w2 h3 f2 => ⟨rfl, ?_⟩
  rw [List.nil_append] at h3
  have B2 : Below w.heap.size w w2 := hb1.trans (Fm.toBelow f2 hb1.size fun b hb hm => by have := hm.1; omega)
  exact string_calls h3 B2.size hl fun w3 hb3 => ⟨_, rfl, hR w3 (B2.trans hb3)⟩
end
end Go.Proofs.Ytkmoeokfgkmlhaa
/- The document's models: Of; places that are made. -/
namespace Go.Mdl
theorem once0 : Tw ([], []) ([], []) := ⟨rfl, ⟨rfl, fun i => by simp [joined]⟩, ⟨rfl, by simp⟩⟩
/-- What follows, as the document keeps it. -/
def folO (rows : List (List Part)) : List (List Nat) := (wC rows ([], []) ⟨[], [], false⟩).2.2
/-- No atom is a bracket or matches nothing. -/
def NoB (l : List ByteArray) : Prop := ∀ a ∈ l, a ≠ Br ∧ a ≠ Mi
mutual
theorem nbP : ∀ (p : Part) (g : GS), NoB g.1 → NoB (uP p g).2.1
  | .mk a rows s, g, h => by
    simp only [uP]
    by_cases c1 : a = Br
    · rw [if_pos c1]; exact nbC rows g _ h
    · rw [if_neg c1]
      by_cases c2 : a = Mi
      · rw [if_pos c2]; exact h
      · rw [if_neg c2]
        intro x hx
        rcases List.mem_append.1 hx with hx | hx
        · exact h x hx
        · simp at hx; subst hx; exact ⟨c1, c2⟩
theorem nbR : ∀ (xs : List Part) (g : GS) (all : Pc), NoB g.1 → NoB (uR xs g all).2.1
  | [], g, all, h => h
  | x :: xs, g, all, h => by simp only [uR]; exact nbR xs _ _ (nbP x g h)
theorem nbC : ∀ (xs : List (List Part)) (g : GS) (all : Pc), NoB g.1 → NoB (uC xs g all).2.1
  | [], g, all, h => h
  | x :: xs, g, all, h => by simp only [uC]; exact nbC xs _ _ (nbR x g _ h)
end
/-- The document's places beside the program's. -/
structure Beside (m : Pl) (fo : List (List Nat)) : Prop where
  ok : PlOk m
  once : Once m.fol fo
  bd : LBd fo 400000
  nob : NoB m.atoms
theorem beside {rows : List (List Part)} (hc : cC rows ≤ 128) : Beside (placed rows) (folO rows) ∧ (wC rows ([], []) ⟨[], [], false⟩).1 = ⟨(placed rows).first, (placed rows).last, (placed rows).empty⟩ ∧ (wC rows ([], []) ⟨[], [], false⟩).2.1 = (placed rows).atoms := by
  have hs := sameC rows ([], []) ([], []) ⟨[], [], false⟩ 0 rfl once0.once once0.gi ⟨Few.nil _, Few.nil _⟩ (isNone _ _ _) (Nat.le_refl _)
  have hsc := sC_le rows
  have hl := (gi_C rows ([], []) ⟨[], [], false⟩ once0.gi ⟨Few.nil _, Few.nil _⟩).1.2.2
  simp only [List.length_nil, Nat.zero_add] at hl
  have hb := bdC rows ([], []) ([], []) ⟨[], [], false⟩ 0 0 (rw1 once0) (fun i l h => by simp at h) (by omega)
  refine ⟨⟨placed_ok hc, hs.2.2, hb.mono (by omega), nbC rows ([], []) _ (by intro a h; cases h)⟩, ?_, hs.2.1⟩
  rw [hs.1]; rfl
end Go.Mdl
namespace Go.Proofs.Ytkmoeokfgkmlhaa
open Go.RowKit Go.Vc Go.Mdl
set_option linter.unusedVariables false
set_option linter.unusedSimpArgs false
set_option maxRecDepth 100000
section
variable {w w1 : World} {R : Ending → World → Prop} {g B : Nat}
structure RdO (w : World) (g : Nat) (m : Pl) (fo : List (List Nat)) (A fi F la : Sv) (es : List E4) (vs : List Sv) : Prop where
  blk : Blk w g #[slV A, slV fi, slV F, slV la, .bool m.empty] 64
  an : A.2.1 = es.length
  ar : Rd LE4 w A.1 A.2.2 es
  at_ : AtR m.atoms es
  fn : F.2.1 = vs.length
  fr : Rd LSv w F.1 F.2.2 vs
  fol : RdF 0 w vs fo
  fst : RdI 0 w fi m.first
  lst : RdI 0 w la m.last
theorem RdO.below {m : Pl} {fo : List (List Nat)} {A fi F la : Sv} {es : List E4} {vs : List Sv} (h : RdO w g m fo A fi F la es vs) (hb : Below w.heap.size w w1) : RdO w1 g m fo A fi F la es vs :=
  ⟨h.blk.keep hb, h.an, h.ar.keep hb, h.at_, h.fn, h.fr.keep hb, ⟨h.fol.1, fun i v l k1 k2 => (h.fol.2 i v l k1 k2).below hb⟩, h.fst.below hb, h.lst.below hb⟩
theorem refOf_calls {rows : List (List Part)} {v : Sv} (hp : QdC w (qC rows) v) (hc : cC rows ≤ 128) (hR : ∀ g w' A fi F la es vs, RdO w' g (placed rows) (folO rows) A fi F la es vs → Below w.heap.size w w' → R (.returned (.pointer (some ⟨g, 0, none⟩))) w') :
    Calls Try.prog 8 #[.slice v.1 v.2.1 v.2.2] w R := by
  refine ok8 _ _ _ ?_
  unfold F8
  obtain ⟨hbe, hr1, hr2⟩ := beside hc
  refine al fun g w1 hb1 hg hge => ?_
  have hold : Old w w.heap.size := ⟨fun b c t f h => (Array.getElem?_eq_some_iff.1 h).1⟩
  have M1 : MJ w.heap.size w1 g (none, 0, 0) (none, 0, 0) ([], []) := ⟨hge, hg, ⟨[], Own.nil _ _ _ _, rfl, fun i e a h => by simp at h⟩, [], Own.nil _ _ _ _, rfl, fun i v l h => by simp at h⟩
  refine jchoices_calls (cC rows + 1) rows (Nat.lt_succ_self _) w w.heap.size w1 g (none, 0, 0) (none, 0, 0) ([], []) ([], []) 0 v _ hold (sub_below hb1) M1 once0 (fun i l h => by simp at h) (by have := sC_le rows; omega) (by simpa using hc) hp ?_
  intro x y A F w2 h2 rx ry f2
  refine ⟨_, _, _, _, _, _, _, rfl, ?_⟩
  rw [hr1] at rx ry ⊢
  dsimp only at rx ry ⊢
  have hB2 : Below w.heap.size w w2 := by
    have := hb1.size
    exact hb1.trans (f2.fm.toBelow hb1.size fun b hb hm => by have := hm.1; omega)
  refine al3 fun g4 w3 hb3 hg4 hge4 => ?_
  have h3 := h2.below hb3
  have n4g : ¬ g4 = g := by have := h2.lt; omega
  have hd : Below w3.heap.size w3 w3.drew := (Below.refl _ _).drew
  have q4 := hg4.keep hd
  have h3d := h3.below hd
  have rx3 := (rx.below hb3).below hd
  have ry3 := (ry.below hb3).below hd
  have hB3 : Below w.heap.size w w3.drew := btr (btr hB2 hB2.size hb3) (Nat.le_trans hB2.size hb3.size) hd
  refine ⟨fun w' => Blk w' g4 #[.slice x.1 x.2.1 x.2.2, .slice y.1 y.2.1 y.2.2, .bool (placed rows).empty] 66, q4, _, _, _, fun w' h => h.cell 0, _, _, _, fun w' h => by rw [Addr.add_mk]; exact h.cell 1, _, fun w' h => by rw [Addr.add_mk]; exact h.cell 2, ?_⟩
  simp only [Addr.add_mk, Nat.zero_add]
  refine st_blk h3d.blk (by simp) fun w4 b4 f4 => ⟨f4.blk q4 n4g, st_blk b4 (by simp) fun w5 b5 f5 => ⟨f5.blk (f4.blk q4 n4g) n4g, st_blk b5 (by simp) fun w6 b6 f6 => ?_⟩⟩
  have ff := (f4.trans f5).trans f6
  have gP : ∀ {q : TypeId → Bool}, q 64 = false → ∀ b, b = g → ¬ tyAt w3.drew b q := fun hq b e => e ▸ tyAt_blk h3d.blk hq
  obtain ⟨es, o1, o2⟩ := h3d.at_
  obtain ⟨vs, o3, o4, o5⟩ := h3d.fol
  have oA := (o1.fmT ff (gP (by decide))).rd
  have oF := (o3.fmT ff (gP (by decide))).rd
  have hB6 : Below w.heap.size w w6 := hB3.trans (ff.toBelow hB3.size fun b hb e => by omega)
  refine hR g w6 A x F y es vs ⟨b6, oA.1, oA.2, by rw [← hr2]; exact o2, oF.1, oF.2, ⟨o4, fun i v l k1 k2 => ((o5 i v l k1 k2).fm ff (gP (by decide))).weak (Nat.zero_le _)⟩, (rx3.fm ff (gP (by decide))).weak (Nat.zero_le _), (ry3.fm ff (gP (by decide))).weak (Nat.zero_le _)⟩ hB6
end
end Go.Proofs.Ytkmoeokfgkmlhaa
/- Models: names are read along the places: run, Match. -/
namespace Go.Mdl
theorem hit_take (m : Pl) (may : List Nat) (x : ByteArray) (k : Nat) (hk : k < may.length) : m.hit (may.take (k + 1)) x = m.hit (may.take k) x ++ (if fits (m.atoms.getD may[k] ByteArray.empty) x then [may[k]] else []) := by
  unfold Pl.hit
  rw [List.take_add_one, List.getElem?_eq_getElem hk, Option.toList_some, List.filter_append]
  congr 1
  simp [List.filter_cons]
theorem next_snoc (m : Pl) (h : List Nat) (k : Nat) : m.next (h ++ [k]) = joined (m.next h) (m.fol.getD k []) := by
  unfold Pl.next
  rw [List.foldl_append]; rfl
theorem fol_few {m : Pl} (h : PlOk m) (k : Nat) : Few m.atoms.length (m.fol.getD k []) := by
  rw [List.getD_eq_getElem?_getD]
  cases hi : m.fol[k]? with
  | none => exact Few.nil _
  | some l => exact h.fol l (List.mem_of_getElem? hi)
theorem next_few {m : Pl} (h : PlOk m) : ∀ (l acc : List Nat), Few m.atoms.length acc → Few m.atoms.length (l.foldl (fun nx k => joined nx (m.fol.getD k [])) acc)
  | [], acc, ha => ha
  | k :: l, acc, ha => by
    rw [List.foldl_cons]
    exact next_few h l _ (ha.joined (fol_few h k).2)
theorem hit_lt {m : Pl} {may : List Nat} {x : ByteArray} (h : Few m.atoms.length may) : ∀ k ∈ m.hit may x, k < m.atoms.length := fun k hk => h.2 k (List.mem_filter.1 hk).1
end Go.Mdl
namespace Go.Proofs.Ytkmoeokfgkmlhaa
open Go.RowKit Go.Vc Go.Mdl
set_option linter.unusedVariables false
set_option linter.unusedSimpArgs false
set_option maxRecDepth 100000
section
variable {w w1 : World} {R : Ending → World → Prop} {g : Nat}
theorem lastB_at {m : Pl} {k : Nat} (hk : k < m.atoms.length) : (lastB m)[k]? = some (m.last.contains k) := by
  simp [lastB, hk]
theorem run_calls {rows : List (List Part)} {m : Pl} {names : Wd} {A : Option Addr} {c : Nat} (h : RdM w g rows m) (ok : PlOk m) (hn : Rd LSt w A c names) (hR : ∀ (v : Sv) w', RdI 0 w' v (m.run names).2.1 → Below w.heap.size w w' → R (.returned (.tuple #[.int .i64 ((m.run names).1 : Int), .slice v.1 v.2.1 v.2.2, .bool (m.run names).2.2])) w') :
    Calls Try.prog 28 #[.pointer (some ⟨g, 0, none⟩), .slice A names.length c] w R := by
  refine ok28 _ _ _ _ ?_
  unfold F28
  refine dr fun w1 hb1 _ => ?_
  have h1 := h.below hb1
  obtain ⟨sl, ⟨a, f, fs, ls, vs, q1, q3, q4, q5, q6⟩, q2⟩ := h1
  have hnl := hn.1
  have hnm := hn.2.1
  unfold maxLen at hnm
  rw [NonNil_some]
  refine lSl (by rw [Addr.add_mk]; exact q1.cell 2) ?_
  rw [NonNil_some]
  refine lB (by rw [Addr.add_mk]; exact q1.cell 5) ?_
  refine ⟨fun mA mN mC is i w' => ∃ (k : Nat) (may : List Nat), i = k ∧ k ≤ names.length ∧ RdI 0 w' (mA, mN, mC) may ∧ Few m.atoms.length may ∧ Below w.heap.size w w' ∧ m.goes (names.drop k) k may is = m.run names, fun mA mN mC is i w' => names.length - i.toNat,
    ⟨0, m.first, rfl, by omega, q5, ok.first, hb1, rfl⟩, ?_⟩
  clear q1 q2 q3 q4 q5 q6 hb1
  rintro mA mN mC is i w2 ⟨k, may, rfl, hk, hmay, hfew, hb2, hgo⟩
  unfold F28_l3
  refine brd (fun hlt => ?_) (fun hge => ?_)
  rotate_left
  · obtain rfl : k = names.length := by omega
    rw [List.drop_length] at hgo
    simp only [Pl.goes] at hgo
    rw [← hgo] at hR
    exact hR (mA, mN, mC) w2 hmay hb2
  have hk2 : k < names.length := by omega
  have hd : names.drop k = names[k] :: names.drop (k + 1) := List.drop_eq_getElem_cons hk2
  rw [hd] at hgo
  simp only [Pl.goes] at hgo
  refine (hn.keep hb2).idx rfl (by omega) (by omega) rfl fun b o hc => ?_
  simp only [Int.toNat_natCast] at hc
  refine lS (hc 0 _ rfl) ?_
  generalize names[k] = x at hgo
  have hmn := hmay.1
  have hm128 := Nat.le_trans hfew.len ok.le
  refine ⟨fun nA nN nC okv last i2 w' => ∃ j : Nat, i2 = j ∧ j ≤ may.length ∧ RdI 0 w' (nA, nN, nC) (m.next (m.hit (may.take j) x)) ∧ okv = !(m.hit (may.take j) x).isEmpty ∧ last = ((m.hit (may.take j) x).any fun k => m.last.contains k) ∧ Below w2.heap.size w2 w', fun nA nN nC okv last i2 w' => may.length - i2.toNat,
    ⟨0, rfl, by omega, RdI.nil _ _, rfl, rfl, Below.refl _ _⟩, ?_⟩
  rintro nA nN nC okv last i2 w3 ⟨j, rfl, hj, hnx, rfl, rfl, hb3⟩
  unfold F28_l8
  have hmay3 := hmay.below hb3
  have hb23 : Below w.heap.size w w3 := btr hb2 hb2.size hb3
  refine brd (fun hlt2 => ?_) (fun hge2 => ?_)
  rotate_left
  · obtain rfl : j = may.length := by dsimp only at hmn; omega
    rw [List.take_length] at hnx ⊢
    cases he : (m.hit may x).isEmpty with
    | true =>
      rw [he] at hgo
      simp only [if_true] at hgo
      rw [← hgo] at hR
      exact hR (mA, mN, mC) w3 hmay3 hb23
    | false =>
      rw [he] at hgo
      simp only [Bool.false_eq_true, if_false] at hgo
      simp only [Bool.not_false, Bool.not_true, Br_f]
      exact ⟨inR_i64 (by omega) (by omega), ⟨k + 1, _, by simp, by omega, hnx, next_few ok _ _ (Few.nil _), hb23, hgo⟩, by first | omega | (dsimp only; omega)⟩
  have hj2 : j < may.length := by dsimp only at hmn; omega
  have hjl := hfew.2 _ (List.getElem_mem hj2)
  have hht := hit_take m may x j hj2
  have h3 := h.below hb23
  obtain ⟨sl, ⟨a, f, fs, ls, vs, q1, q3, q4, q5, q6⟩, q2⟩ := h3
  have hnf := next_few ok (m.hit (may.take j) x) [] (Few.nil _)
  refine ⟨fun nA2 nN2 nC2 ok2 last2 w' => RdI 0 w' (nA2, nN2, nC2) (m.next (m.hit (may.take (j + 1)) x)) ∧ ok2 = !(m.hit (may.take (j + 1)) x).isEmpty ∧ last2 = ((m.hit (may.take (j + 1)) x).any fun k => m.last.contains k) ∧ Below w2.heap.size w2 w', ?_, ?_⟩
  · rintro nA2 nN2 nC2 ok2 last2 w4 ⟨r1, r2, r3, r4⟩
    unfold F28_j14
    exact ⟨inR_i64 (by omega) (by omega), ⟨j + 1, by simp, by omega, r1, r2, r3, r4⟩, by dsimp only; omega⟩
  refine hmay3.2.1.k hmn rfl hj2 fun b o c0 => lI c0 ?_
  rw [NonNil_some]
  refine lSl (by rw [Addr.add_mk]; exact q1.cell 1) ?_
  refine q3.2.idx q3.1 (by omega) (by rw [q3.1]; omega) rfl fun b o hc => ?_
  simp only [Int.toNat_natCast] at hc
  refine lS (hc 0 _ rfl) ?_
  refine fits_calls ⟨_, rfl, ?_⟩
  have hat : m.atoms.getD may[j] ByteArray.empty = m.atoms[may[j]] := by rw [List.getD_eq_getElem?_getD, List.getElem?_eq_getElem hjl]; rfl
  rw [hat] at hht
  cases hft : fits m.atoms[may[j]] x with
  | false =>
    rw [hft] at hht
    simp only [Bool.false_eq_true, if_false, List.append_nil] at hht
    rw [Br_f, hht]
    exact ⟨hnx, rfl, rfl, hb3⟩
  | true =>
    rw [hft] at hht
    simp only [if_true] at hht
    rw [Br_t]
    refine ⟨fun last2 w' => w' = w3 ∧ last2 = (((m.hit (may.take j) x).any fun k => m.last.contains k) || m.last.contains may[j]), ?_, ?_⟩
    · rintro last2 w4 ⟨rfl, rfl⟩
      unfold F28_j13
      rw [NonNil_some]
      refine lSl (by rw [Addr.add_mk]; exact q1.cell 3) ?_
      have hjf : may[j] < m.fol.length := by rw [← ok.len]; exact hjl
      have hjv : may[j] < vs.length := by rw [q4.2.2.1]; exact hjf
      refine q4.2.1.idx q4.1 (by omega) (by rw [q4.1]; omega) rfl fun b o hc => ?_
      simp only [Int.toNat_natCast] at hc
      refine lSl (hc 0 _ rfl) ?_
      have hr := q4.2.2.2 _ _ _ (List.getElem?_eq_getElem hjv) (List.getElem?_eq_getElem hjf)
      have hfe : m.fol[may[j]] = m.fol.getD may[j] [] := by rw [List.getD_eq_getElem?_getD, List.getElem?_eq_getElem hjf]; rfl
      have hl1 := Nat.le_trans hnf.len ok.le
      have hl2 := Nat.le_trans (fol_few ok may[j]).len ok.le
      rw [hfe] at hr
      refine joinI (B := 0) (v := (nA, nN, nC)) (Nat.zero_le _) hnx hr (by unfold Pl.next; omega) fun v w5 hv hb5 => ⟨_, _, _, rfl, ?_⟩
      rw [hht, next_snoc]
      exact ⟨hv, by simp, by simp, btr hb3 hb3.size hb5⟩
    · cases hl : ((m.hit (may.take j) x).any fun k => m.last.contains k) with
      | true => exact ⟨rfl, by simp⟩
      | false =>
        rw [Br_f, NonNil_some]
        refine lSl (by rw [Addr.add_mk]; exact q1.cell 4) ?_
        have hjb : may[j] < (lastB m).length := by simpa [lastB] using hjl
        refine q6.2.idx (by rw [q6.1]; simp [lastB]) (by omega) (by rw [q6.1]; omega) rfl fun b o hc => ?_
        simp only [Int.toNat_natCast] at hc
        refine lB (hc 0 _ rfl) ⟨rfl, ?_⟩
        have := lastB_at hjl
        rw [List.getElem?_eq_getElem hjb] at this
        have := Option.some.inj this
        rw [this, Bool.false_or]
theorem match_calls {rows : List (List Part)} {m : Pl} {names : Wd} {A : Option Addr} {c : Nat} (h : RdM w g rows m) (ok : PlOk m) (hn : Rd LSt w A c names) (hR : ∀ w', Below w.heap.size w w' → R (.returned (.tuple #[.bool (m.mat names).1, .int .i64 ((m.mat names).2 : Int)])) w') :
    Calls Try.prog 11 #[.pointer (some ⟨g, 0, none⟩), .slice A names.length c] w R := by
  refine ok11 _ _ _ _ ?_
  unfold F11
  rw [show (some (⟨g, 0, none⟩ : Addr)).isNone = false from rfl, Br_f]
  refine run_calls h ok hn fun v w1 hv hb1 => ⟨_, _, _, _, _, rfl, ?_⟩
  have hR := hR w1 hb1
  unfold Pl.mat at hR
  cases hb : (m.run names).2.2 with
  | true =>
    rw [hb] at hR
    rw [Br_t]
    have e : (((m.run names).1 : Int) == ((names.length : Nat) : Int)) = ((m.run names).1 == names.length) := by
      rw [Bool.eq_iff_iff, beq_iff_eq, beq_iff_eq]; omega
    rw [e]; simpa using hR
  | false =>
    rw [hb] at hR
    rw [Br_f]; simpa using hR
theorem clear0_calls (h : Blk w g #[.slice none 0 0, .slice none 0 0, .slice none 0 0, .slice none 0 0, .slice none 0 0, .bool false] 60) (hR : ∀ w', Below w.heap.size w w' → R (.returned (.bool true)) w') :
    Calls Try.prog 9 #[.pointer (some ⟨g, 0, none⟩)] w R := by
  refine ok9 _ ?_
  unfold F9
  rw [show (some (⟨g, 0, none⟩ : Addr)).isNone = false from rfl, Br_f]
  have hd : Below w.heap.size w w.drew := (Below.refl _ _).drew
  have HS : ∀ (i : Nat) (u : Value), w.cell? ⟨g, i, none⟩ = some u → Held (fun w' => Below w.heap.size w w') ⟨g, i, none⟩ u := fun i u hc w' hb => kcell hb hc
  simp only [NonNil_some, Addr.add_mk, Nat.zero_add]
  refine ⟨_, hd, none, 0, 0, HS 2 _ (h.cell 2), none, 0, 0, HS 3 _ (h.cell 3), al fun g2 w1 hb1 hg2 hge => ⟨btr hd hd.size hb1, ?_⟩⟩
  have hB1 := btr hd hd.size hb1
  have own1 : Own LSv w1 w.heap.size 56 (.slice (some ⟨g2, 0, none⟩) 1 1) [(none, 0, 0)] := Own.lit' (L := LSv) (xs := [((none, 0, 0) : Sv)]) hg2 hge rfl (by simp [maxLen])
  refine ap (L := LSv) (xs := [((none, 0, 0) : Sv)]) (ys := []) (base := w.heap.size) (.slice none 0 0) 24 rfl rfl rfl rfl own1 (Rd.nil _ _) hB1.size (by simp) (by simp [maxLen]) fun A' c' w2 ho hgr => ⟨_, _, _, rfl, ?_⟩
  have hB2 : Below w.heap.size w w2 := hB1.trans hgr.below
  simp only [List.append_nil] at ho
  refine ⟨fun i w' => ∃ k : Nat, i = k ∧ k ≤ 1 ∧ w' = w2, fun i _ => 1 - i.toNat, ⟨0, rfl, by omega, rfl⟩, ?_⟩
  rintro i w3 ⟨k, rfl, hk, rfl⟩
  unfold F9_l4
  refine brd (fun hlt => ?_) (fun hge => hR w3 hB2)
  have hk0 : k = 0 := by simp at hlt; omega
  subst hk0
  refine ho.rd.2.idx rfl (by omega) (by simp) rfl fun b o hc => ?_
  refine lSl (hc 0 _ rfl) ?_
  refine ⟨fun i w' => i = 0 ∧ w' = w3, fun i _ => 0, ⟨rfl, rfl⟩, ?_⟩
  rintro i w4 ⟨rfl, rfl⟩
  unfold F9_l7
  refine brd (fun hlt => ?_) (fun hge => ⟨inR_i64 (by omega) (by omega), ⟨1, rfl, by omega, rfl⟩, by first | omega | (dsimp only; omega) | simp⟩)
  simp at hlt
end
end Go.Proofs.Ytkmoeokfgkmlhaa
