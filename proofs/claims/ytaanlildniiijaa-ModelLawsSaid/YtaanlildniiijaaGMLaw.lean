import Derived.Test.YtaanlildniiijaaVcSnd9
import Derived.Test.YtaanlildniiijaaProg
set_option linter.unusedVariables false
set_option maxRecDepth 100000
namespace Go.Proofs.Ytaanlildniiijaa
open Go.Vc
-- (*model.Model).Text
def F50 (m_ : Option Addr) (w_ : World) (R : Ending → World → Prop) : Prop :=
 Br (m_).isNone
 (R (.returned (.string (ByteArray.mk #[]))) w_)
 (Al w_ #[(.pointer none), (.slice none 0 0)] 95 fun g7 w1 =>
 NonNil m_ fun p10 =>
 LdSl (w1.cell? p10) fun x12 x12N x12C =>
 Calls Try.prog 76 #[(.pointer (some g7)), (.slice x12 x12N x12C)] w1 (post R fun v w1_2 =>
 v = (.tuple #[]) ∧
 Calls Try.prog 77 #[(.pointer (some g7))] w1_2 (post R fun v2 w1_3 =>
 ∃ (x15 : ByteArray), v2 = (.string x15) ∧
 R (.returned (.string x15)) w1_3)))

def pl50 : Plan := ⟨16, ⟨[]⟩, [], []⟩

theorem eq50 (m_ : Option Addr) (w : World) (R : Ending → World → Prop) : F50 m_ w R = vc Try.prog Try.f50 pl50 R 100000 [.code (bodyOf Try.f50)] (argEnv 0 #[(.pointer m_)].toList) w := by kernel_rfl

theorem ok50 (m_ : Option Addr) {w : World} {R : Ending → World → Prop} (h : F50 m_ w R) : Calls Try.prog 50 #[(.pointer m_)] w R :=
  vc_calls (pl := pl50) Try.func50 (by kernel_rfl) (by kernel_rfl) (by kernel_rfl) (Eq.mp (eq50 m_ w R) h)

-- model.write
def F76_j17 (L6 : Int → World → Prop) (x21 : Int) (w_6 : World) (R : Ending → World → Prop) : Prop :=
 InR .i64 (x21 + (1 : Int)) ∧ L6 (x21 + (1 : Int)) w_6

def F76_j15 (w_ : Option Addr) (J17 : World → Prop) (p : Addr) (w_7 : World) (R : Ending → World → Prop) : Prop :=
 LdI .u8 (w_7.cell? (p.add 2)) fun x46 =>
 Br (x46 != (0 : Int))
 (LdI .u8 (w_7.cell? (p.add 2)) fun x50 =>
 Calls Try.prog 88 #[(.pointer w_), (.int .u8 x50)] w_7 (post R fun v w1_5 =>
 ∃ (x51 : Value), v = x51 ∧
 J17 w1_5))
 (J17 w_7)

def F76_j10 (w_ : Option Addr) (J17 : World → Prop) (p : Addr) (w_6 : World) (R : Ending → World → Prop) : Prop :=
 ∃ J15 : World → Prop, (∀  (w1_5 : World), J15 w1_5 → F76_j15 w_ J17 p w1_5 R) ∧
 (LdStr (w_6.cell? p) fun x31 =>
 Br (x31.toList == (ByteArray.mk #[40]).toList)
 (Calls Try.prog 88 #[(.pointer w_), (.int .u8 40)] w_6 (post R fun v w1_5 =>
 ∃ (x34 : Value), v = x34 ∧
 LdSl (w1_5.cell? (p.add 1)) fun x37 x37N x37C =>
 Calls Try.prog 76 #[(.pointer w_), (.slice x37 x37N x37C)] w1_5 (post R fun v2 w1_6 =>
 v2 = (.tuple #[]) ∧
 Calls Try.prog 88 #[(.pointer w_), (.int .u8 41)] w1_6 (post R fun v3 w1_7 =>
 ∃ (x40 : Value), v3 = x40 ∧
 J15 w1_7))))
 (LdStr (w_6.cell? p) fun x43 =>
 Calls Try.prog 89 #[(.pointer w_), (.string x43)] w_6 (post R fun v w1_5 =>
 ∃ (x44_0 : Int) (x44_1 : Value), v = (.tuple #[(.int .i64 x44_0), x44_1]) ∧
 J15 w1_5)))

def F76_l6 (w_ : Option Addr) (L1 : Int → World → Prop) (x10 : Int) (x14 : Option Addr) (x14N : Nat) (L6 : Int → World → Prop) (x21 : Int) (w_5 : World) (R : Ending → World → Prop) : Prop :=
 Br (decide (x21 < ((x14N : Nat) : Int)))
 (∃ J17 : World → Prop, (∀  (w1 : World), J17 w1 → F76_j17 L6 x21 w1 R) ∧
 (IdxA x14 x14N x21 3 fun q24 =>
 LdStr (w_5.cell? q24) fun x25_0 =>
 LdSl (w_5.cell? (q24.add 1)) fun x25_1 x25_1N x25_1C =>
 LdI .u8 (w_5.cell? (q24.add 2)) fun x25_2 =>
 Al w_5 #[(.string (ByteArray.mk #[])), (.slice none 0 0), (.int .u8 0)] 110 fun p w1 =>
 St w1 p (.string x25_0) fun w1_2 =>
 St w1_2 (p.add 1) (.slice x25_1 x25_1N x25_1C) fun w1_3 =>
 St w1_3 (p.add 2) (.int .u8 x25_2) fun w1_4 =>
 ∃ J10 : World → Prop, (∀  (w1_5 : World), J10 w1_5 → F76_j10 w_ J17 p w1_5 R) ∧
 (Br (decide (x21 > (0 : Int)))
 (Calls Try.prog 88 #[(.pointer w_), (.int .u8 44)] w1_4 (post R fun v w1_5 =>
 ∃ (x29 : Value), v = x29 ∧
 J10 w1_5))
 (J10 w1_4))))
 (InR .i64 (x10 + (1 : Int)) ∧ L1 (x10 + (1 : Int)) w_5)

def F76_j5 (w_ : Option Addr) (L1 : Int → World → Prop) (x10 : Int) (x14 : Option Addr) (x14N : Nat) (w_4 : World) (R : Ending → World → Prop) : Prop :=
 ∃ (I : Int → World → Prop) (m : Int → World → Nat), I (0 : Int) w_4 ∧
 ∀ (x21 : Int) (w1 : World), I x21 w1 → F76_l6 w_ L1 x10 x14 x14N (fun x21' w2 => I x21' w2 ∧ m x21' w2 < m x21 w1) x21 w1 R

def F76_l1 (w_ : Option Addr) (rows : Option Addr) (rowsN : Nat) (L1 : Int → World → Prop) (x10 : Int) (w_3 : World) (R : Ending → World → Prop) : Prop :=
 Br (decide (x10 < ((rowsN : Nat) : Int)))
 (IdxA rows rowsN x10 1 fun q13 =>
 LdSl (w_3.cell? q13) fun x14 x14N x14C =>
 ∃ J5 : World → Prop, (∀  (w1 : World), J5 w1 → F76_j5 w_ L1 x10 x14 x14N w1 R) ∧
 (Br (decide (x10 > (0 : Int)))
 (Calls Try.prog 88 #[(.pointer w_), (.int .u8 124)] w_3 (post R fun v w1 =>
 ∃ (x18 : Value), v = x18 ∧
 J5 w1))
 (J5 w_3)))
 (R (.returned (.tuple #[])) w_3)

def F76 (w_ : Option Addr) (rows : Option Addr) (rowsN : Nat) (rowsC : Nat) (w_2 : World) (R : Ending → World → Prop) : Prop :=
 ∃ (I : Int → World → Prop) (m : Int → World → Nat), I (0 : Int) w_2 ∧
 ∀ (x10 : Int) (w1 : World), I x10 w1 → F76_l1 w_ rows rowsN (fun x10' w2 => I x10' w2 ∧ m x10' w2 < m x10 w1) x10 w1 R

def pl76 : Plan := ⟨54, ⟨[]⟩, [(15, ⟨[], [(30, 45)]⟩), (10, ⟨[], [(26, 30)]⟩), (17, ⟨[], [(6, 8), (23, 52)]⟩), (5, ⟨[], [(15, 19)]⟩)], [(6, ⟨[(21, (.s (.int .i64)))], [(6, 8), (21, 53)]⟩), (1, ⟨[(10, (.s (.int .i64)))], [(4, 8), (10, 54)]⟩)]⟩

theorem eq76 (w_ : Option Addr) (rows : Option Addr) (rowsN : Nat) (rowsC : Nat) (w : World) (R : Ending → World → Prop) : F76 w_ rows rowsN rowsC w R = vc Try.prog Try.f76 pl76 R 100000 [.code (bodyOf Try.f76)] (argEnv 0 #[(.pointer w_), (.slice rows rowsN rowsC)].toList) w := by kernel_rfl

theorem ok76 (w_ : Option Addr) (rows : Option Addr) (rowsN : Nat) (rowsC : Nat) {w : World} {R : Ending → World → Prop} (h : F76 w_ rows rowsN rowsC w R) : Calls Try.prog 76 #[(.pointer w_), (.slice rows rowsN rowsC)] w R :=
  vc_calls (pl := pl76) Try.func76 (by kernel_rfl) (by kernel_rfl) (by kernel_rfl) (Eq.mp (eq76 w_ rows rowsN rowsC w R) h)

-- (*strings.Builder).WriteByte
def F88 (b : Option Addr) (c : Int) (w_ : World) (R : Ending → World → Prop) : Prop :=
 Calls Try.prog 94 #[(.pointer b)] w_ (post R fun v w1 =>
 v = (.tuple #[]) ∧
 NonNil b fun p9 =>
 LdSl (w1.cell? (p9.add 1)) fun x11 x11N x11C =>
 Al w1 #[(.int .u8 c)] 5 fun g13 w1_2 =>
 Raw Try.prog (Builtin.append_ #[93, 93] 93 #[(.slice x11 x11N x11C), (.slice (some g13) 1 1)]) w1_2 fun v2 w1_3 =>
 ∃ (x14 : Option Addr) (x14N : Nat) (x14C : Nat), v2 = (.slice x14 x14N x14C) ∧
 NonNil b fun p15 =>
 St w1_3 (p15.add 1) (.slice x14 x14N x14C) fun w1_4 =>
 R (.returned .nilIface) w1_4)

def pl88 : Plan := ⟨17, ⟨[]⟩, [], []⟩

theorem eq88 (b : Option Addr) (c : Int) (w : World) (R : Ending → World → Prop) : F88 b c w R = vc Try.prog Try.f88 pl88 R 100000 [.code (bodyOf Try.f88)] (argEnv 0 #[(.pointer b), (.int .u8 c)].toList) w := by kernel_rfl

theorem ok88 (b : Option Addr) (c : Int) {w : World} {R : Ending → World → Prop} (h : F88 b c w R) : Calls Try.prog 88 #[(.pointer b), (.int .u8 c)] w R :=
  vc_calls (pl := pl88) Try.func88 (by kernel_rfl) (by kernel_rfl) (by kernel_rfl) (Eq.mp (eq88 b c w R) h)

-- (*strings.Builder).WriteString
def F89 (b : Option Addr) (s : ByteArray) (w_ : World) (R : Ending → World → Prop) : Prop :=
 Calls Try.prog 94 #[(.pointer b)] w_ (post R fun v w1 =>
 v = (.tuple #[]) ∧
 NonNil b fun p10 =>
 LdSl (w1.cell? (p10.add 1)) fun x12 x12N x12C =>
 Raw Try.prog (Builtin.append_ #[93, 9] 93 #[(.slice x12 x12N x12C), (.string s)]) w1 fun v2 w1_2 =>
 ∃ (x14 : Option Addr) (x14N : Nat) (x14C : Nat), v2 = (.slice x14 x14N x14C) ∧
 NonNil b fun p15 =>
 St w1_2 (p15.add 1) (.slice x14 x14N x14C) fun w1_3 =>
 R (.returned (.tuple #[(.int .i64 ((s.size : Nat) : Int)), .nilIface])) w1_3)

def pl89 : Plan := ⟨19, ⟨[]⟩, [], []⟩

theorem eq89 (b : Option Addr) (s : ByteArray) (w : World) (R : Ending → World → Prop) : F89 b s w R = vc Try.prog Try.f89 pl89 R 100000 [.code (bodyOf Try.f89)] (argEnv 0 #[(.pointer b), (.string s)].toList) w := by kernel_rfl

theorem ok89 (b : Option Addr) (s : ByteArray) {w : World} {R : Ending → World → Prop} (h : F89 b s w R) : Calls Try.prog 89 #[(.pointer b), (.string s)] w R :=
  vc_calls (pl := pl89) Try.func89 (by kernel_rfl) (by kernel_rfl) (by kernel_rfl) (Eq.mp (eq89 b s w R) h)

-- espalierlaw23.lives
def F49_j4 (x10_0 : Option Addr) (w_2 : World) (R : Ending → World → Prop) : Prop :=
 Al w_2 #[(.string (ByteArray.mk #[97])), (.string (ByteArray.mk #[97])), (.string (ByteArray.mk #[98])), (.string (ByteArray.mk #[99]))] 9 fun g22 w1_2 =>
 Calls Try.prog 51 #[(.pointer x10_0), (.slice (some g22) 4 4)] w1_2 (post R fun v2 w1_3 =>
 ∃ (x23_0 : Bool) (x23_1 : Int), v2 = (.tuple #[(.bool x23_0), (.int .i64 x23_1)]) ∧
 Al w1_3 #[(.slice none 0 0), (.slice none 0 0), (.slice none 0 0), (.slice none 0 0), (.slice none 0 0), (.bool false)] 91 fun g27 w1_4 =>
 Calls Try.prog 51 #[(.pointer (some g27)), (.slice none 0 0)] w1_4 (post R fun v3 w1_5 =>
 ∃ (x30_0 : Bool) (x30_1 : Int), v3 = (.tuple #[(.bool x30_0), (.int .i64 x30_1)]) ∧
 Br x23_0
 (Br (x23_1 == (4 : Int))
 (Br (!x30_0)
 (Br (x30_1 == (0 : Int))
 (Calls Try.prog 50 #[(.pointer (some g27))] w1_5 (post R fun v4 w1_6 =>
 ∃ (x48 : ByteArray), v4 = (.string x48) ∧
 Br (x48.toList == (ByteArray.mk #[]).toList)
 (Calls Try.prog 75 #[(.pointer (some g27))] w1_6 (post R fun v5 w1_7 =>
 ∃ (x53 : Bool), v5 = (.bool x53) ∧
 R (.returned (.bool x53)) w1_7))
 (R (.returned (.bool false)) w1_6)))
 (R (.returned (.bool false)) w1_5))
 (R (.returned (.bool false)) w1_5))
 (R (.returned (.bool false)) w1_5))
 (R (.returned (.bool false)) w1_5)))

def F49  (w_ : World) (R : Ending → World → Prop) : Prop :=
 Calls Try.prog 48 #[(.string (ByteArray.mk #[40, 97, 44, 32, 98, 63, 41, 42, 44, 32, 99]))] w_ (post R fun v w1 =>
 ∃ (x10_0 : Option Addr) (x10_1 : Int) (x10_2 : Int), v = (.tuple #[(.pointer x10_0), (.int .i64 x10_1), (.int .i64 x10_2)]) ∧
 ∃ J4 : World → Prop, (∀  (w1_2 : World), J4 w1_2 → F49_j4 x10_0 w1_2 R) ∧
 (Br (x10_0).isNone
 (R (.returned (.bool false)) w1)
 (Br (x10_2 != (0 : Int))
 (R (.returned (.bool false)) w1)
 (J4 w1))))

def pl49 : Plan := ⟨55, ⟨[]⟩, [(4, ⟨[], [(0, 1), (14, 20)]⟩)], []⟩

theorem eq49  (w : World) (R : Ending → World → Prop) : F49  w R = vc Try.prog Try.f49 pl49 R 100000 [.code (bodyOf Try.f49)] (argEnv 0 #[].toList) w := by kernel_rfl

theorem ok49  {w : World} {R : Ending → World → Prop} (h : F49  w R) : Calls Try.prog 49 #[] w R :=
  vc_calls (pl := pl49) Try.func49 (by kernel_rfl) (by kernel_rfl) (by kernel_rfl) (Eq.mp (eq49  w R) h)

-- espalierlaw23.ModelLaws
def F8_j12 (L11 : Int → World → Prop) (i : Int) (w_5 : World) (R : Ending → World → Prop) : Prop :=
 InR .i64 (i + (1 : Int)) ∧ L11 (i + (1 : Int)) w_5

def F8_j18 (names : Option Addr) (namesN : Nat) (namesC : Nat) (J12 : World → Prop) (x153_0 : Option Addr) (x163_0 : Option Addr) (w_5 : World) (R : Ending → World → Prop) : Prop :=
 Al w_5 #[] 9 fun g181 w1_11 =>
 Raw Try.prog (Builtin.append_ #[58, 58] 58 #[(.slice (some g181) 0 0), (.slice names namesN namesC)]) w1_11 fun v10 w1_12 =>
 ∃ (x183 : Option Addr) (x183N : Nat) (x183C : Nat), v10 = (.slice x183 x183N x183C) ∧
 Calls Try.prog 51 #[(.pointer x153_0), (.slice x183 x183N x183C)] w1_12 (post R fun v11 w1_13 =>
 ∃ (x184_0 : Bool) (x184_1 : Int), v11 = (.tuple #[(.bool x184_0), (.int .i64 x184_1)]) ∧
 Al w1_13 #[] 9 fun g189 w1_14 =>
 Raw Try.prog (Builtin.append_ #[58, 58] 58 #[(.slice (some g189) 0 0), (.slice names namesN namesC)]) w1_14 fun v12 w1_15 =>
 ∃ (x191 : Option Addr) (x191N : Nat) (x191C : Nat), v12 = (.slice x191 x191N x191C) ∧
 Calls Try.prog 51 #[(.pointer x163_0), (.slice x191 x191N x191C)] w1_15 (post R fun v13 w1_16 =>
 ∃ (x192_0 : Bool) (x192_1 : Int), v13 = (.tuple #[(.bool x192_0), (.int .i64 x192_1)]) ∧
 Br (!(x184_0 == x192_0))
 (R (.returned (.bool false)) w1_16)
 (Br (x184_1 != x192_1)
 (R (.returned (.bool false)) w1_16)
 (J12 w1_16))))

def F8_l11 (names : Option Addr) (namesN : Nat) (namesC : Nat) (g140 : Addr) (L11 : Int → World → Prop) (i : Int) (w_4 : World) (R : Ending → World → Prop) : Prop :=
 Br (decide (i < ((6 : Nat) : Int)))
 (∃ J12 : World → Prop, (∀  (w1_9 : World), J12 w1_9 → F8_j12 L11 i w1_9 R) ∧
 (IdxA (some g140) 6 i 2 fun q150 =>
 IdxR q150 2 (0 : Int) 1 fun q151 =>
 LdStr (w_4.cell? q151) fun x152 =>
 Calls Try.prog 48 #[(.string x152)] w_4 (post R fun v8 w1_9 =>
 ∃ (x153_0 : Option Addr) (x153_1 : Int) (x153_2 : Int), v8 = (.tuple #[(.pointer x153_0), (.int .i64 x153_1), (.int .i64 x153_2)]) ∧
 IdxA (some g140) 6 i 2 fun q160 =>
 IdxR q160 2 (1 : Int) 1 fun q161 =>
 LdStr (w1_9.cell? q161) fun x162 =>
 Calls Try.prog 48 #[(.string x162)] w1_9 (post R fun v9 w1_10 =>
 ∃ (x163_0 : Option Addr) (x163_1 : Int) (x163_2 : Int), v9 = (.tuple #[(.pointer x163_0), (.int .i64 x163_1), (.int .i64 x163_2)]) ∧
 ∃ J18 : World → Prop, (∀  (w1_11 : World), J18 w1_11 → F8_j18 names namesN namesC J12 x153_0 x163_0 w1_11 R) ∧
 (Br (x153_0).isNone
 (Br (x153_2 != (2 : Int))
 (Br (x163_2 != (2 : Int))
 (R (.returned (.bool false)) w1_10)
 (J12 w1_10))
 (J12 w1_10))
 (Br (x163_0).isNone
 (Br (x153_2 != (2 : Int))
 (Br (x163_2 != (2 : Int))
 (R (.returned (.bool false)) w1_10)
 (J12 w1_10))
 (J12 w1_10))
 (J18 w1_10)))))))
 (Calls Try.prog 49 #[] w_4 (post R fun v8 w1_9 =>
 ∃ (x203 : Bool), v8 = (.bool x203) ∧
 R (.returned (.bool x203)) w1_9))

def F8_j8 (names : Option Addr) (namesN : Nat) (namesC : Nat) (x31_0 : Option Addr) (x37_0 : Option Addr) (w_3 : World) (R : Ending → World → Prop) : Prop :=
 Calls Try.prog 50 #[(.pointer x31_0)] w_3 (post R fun v5 w1_5 =>
 ∃ (x77 : ByteArray), v5 = (.string x77) ∧
 (((ByteArray.mk #[40]).size + x77.size : Nat) : Int) ≤ 9223372036854775807 ∧ ((((ByteArray.mk #[40]) ++ x77).size + (ByteArray.mk #[41]).size : Nat) : Int) ≤ 9223372036854775807 ∧ Calls Try.prog 50 #[(.pointer x37_0)] w1_5 (post R fun v6 w1_6 =>
 ∃ (x81 : ByteArray), v6 = (.string x81) ∧
 (((ByteArray.mk #[40]).size + x81.size : Nat) : Int) ≤ 9223372036854775807 ∧ ((((ByteArray.mk #[40]) ++ x81).size + (ByteArray.mk #[41]).size : Nat) : Int) ≤ 9223372036854775807 ∧ Calls Try.prog 50 #[(.pointer x31_0)] w1_6 (post R fun v7 w1_7 =>
 ∃ (x86 : ByteArray), v7 = (.string x86) ∧
 (((((ByteArray.mk #[40]) ++ x77) ++ (ByteArray.mk #[41])).size + (ByteArray.mk #[63]).size : Nat) : Int) ≤ 9223372036854775807 ∧ (((ByteArray.mk #[40]).size + (((ByteArray.mk #[40]) ++ x77) ++ (ByteArray.mk #[41])).size : Nat) : Int) ≤ 9223372036854775807 ∧ ((((ByteArray.mk #[40]) ++ (((ByteArray.mk #[40]) ++ x77) ++ (ByteArray.mk #[41]))).size + (ByteArray.mk #[124, 45, 41]).size : Nat) : Int) ≤ 9223372036854775807 ∧ (((((ByteArray.mk #[40]) ++ x77) ++ (ByteArray.mk #[41])).size + (ByteArray.mk #[43]).size : Nat) : Int) ≤ 9223372036854775807 ∧ (((ByteArray.mk #[40]).size + (((ByteArray.mk #[40]) ++ x77) ++ (ByteArray.mk #[41])).size : Nat) : Int) ≤ 9223372036854775807 ∧ ((((ByteArray.mk #[40]) ++ (((ByteArray.mk #[40]) ++ x77) ++ (ByteArray.mk #[41]))).size + (ByteArray.mk #[44]).size : Nat) : Int) ≤ 9223372036854775807 ∧ (((((ByteArray.mk #[40]) ++ (((ByteArray.mk #[40]) ++ x77) ++ (ByteArray.mk #[41]))) ++ (ByteArray.mk #[44])).size + (((ByteArray.mk #[40]) ++ x77) ++ (ByteArray.mk #[41])).size : Nat) : Int) ≤ 9223372036854775807 ∧ ((((((ByteArray.mk #[40]) ++ (((ByteArray.mk #[40]) ++ x77) ++ (ByteArray.mk #[41]))) ++ (ByteArray.mk #[44])) ++ (((ByteArray.mk #[40]) ++ x77) ++ (ByteArray.mk #[41]))).size + (ByteArray.mk #[42, 41]).size : Nat) : Int) ≤ 9223372036854775807 ∧ (((ByteArray.mk #[40]).size + (((ByteArray.mk #[40]) ++ x77) ++ (ByteArray.mk #[41])).size : Nat) : Int) ≤ 9223372036854775807 ∧ ((((ByteArray.mk #[40]) ++ (((ByteArray.mk #[40]) ++ x77) ++ (ByteArray.mk #[41]))).size + (ByteArray.mk #[42, 41, 42]).size : Nat) : Int) ≤ 9223372036854775807 ∧ (((((ByteArray.mk #[40]) ++ x77) ++ (ByteArray.mk #[41])).size + (ByteArray.mk #[42]).size : Nat) : Int) ≤ 9223372036854775807 ∧ (((ByteArray.mk #[40, 40]).size + (((ByteArray.mk #[40]) ++ x77) ++ (ByteArray.mk #[41])).size : Nat) : Int) ≤ 9223372036854775807 ∧ ((((ByteArray.mk #[40, 40]) ++ (((ByteArray.mk #[40]) ++ x77) ++ (ByteArray.mk #[41]))).size + (ByteArray.mk #[44]).size : Nat) : Int) ≤ 9223372036854775807 ∧ (((((ByteArray.mk #[40, 40]) ++ (((ByteArray.mk #[40]) ++ x77) ++ (ByteArray.mk #[41]))) ++ (ByteArray.mk #[44])).size + (((ByteArray.mk #[40]) ++ x81) ++ (ByteArray.mk #[41])).size : Nat) : Int) ≤ 9223372036854775807 ∧ ((((((ByteArray.mk #[40, 40]) ++ (((ByteArray.mk #[40]) ++ x77) ++ (ByteArray.mk #[41]))) ++ (ByteArray.mk #[44])) ++ (((ByteArray.mk #[40]) ++ x81) ++ (ByteArray.mk #[41]))).size + (ByteArray.mk #[41, 44]).size : Nat) : Int) ≤ 9223372036854775807 ∧ (((((((ByteArray.mk #[40, 40]) ++ (((ByteArray.mk #[40]) ++ x77) ++ (ByteArray.mk #[41]))) ++ (ByteArray.mk #[44])) ++ (((ByteArray.mk #[40]) ++ x81) ++ (ByteArray.mk #[41]))) ++ (ByteArray.mk #[41, 44])).size + (((ByteArray.mk #[40]) ++ x77) ++ (ByteArray.mk #[41])).size : Nat) : Int) ≤ 9223372036854775807 ∧ ((((((((ByteArray.mk #[40, 40]) ++ (((ByteArray.mk #[40]) ++ x77) ++ (ByteArray.mk #[41]))) ++ (ByteArray.mk #[44])) ++ (((ByteArray.mk #[40]) ++ x81) ++ (ByteArray.mk #[41]))) ++ (ByteArray.mk #[41, 44])) ++ (((ByteArray.mk #[40]) ++ x77) ++ (ByteArray.mk #[41]))).size + (ByteArray.mk #[41]).size : Nat) : Int) ≤ 9223372036854775807 ∧ (((((ByteArray.mk #[40]) ++ x77) ++ (ByteArray.mk #[41])).size + (ByteArray.mk #[44, 40]).size : Nat) : Int) ≤ 9223372036854775807 ∧ ((((((ByteArray.mk #[40]) ++ x77) ++ (ByteArray.mk #[41])) ++ (ByteArray.mk #[44, 40])).size + (((ByteArray.mk #[40]) ++ x81) ++ (ByteArray.mk #[41])).size : Nat) : Int) ≤ 9223372036854775807 ∧ (((((((ByteArray.mk #[40]) ++ x77) ++ (ByteArray.mk #[41])) ++ (ByteArray.mk #[44, 40])) ++ (((ByteArray.mk #[40]) ++ x81) ++ (ByteArray.mk #[41]))).size + (ByteArray.mk #[44]).size : Nat) : Int) ≤ 9223372036854775807 ∧ ((((((((ByteArray.mk #[40]) ++ x77) ++ (ByteArray.mk #[41])) ++ (ByteArray.mk #[44, 40])) ++ (((ByteArray.mk #[40]) ++ x81) ++ (ByteArray.mk #[41]))) ++ (ByteArray.mk #[44])).size + (((ByteArray.mk #[40]) ++ x77) ++ (ByteArray.mk #[41])).size : Nat) : Int) ≤ 9223372036854775807 ∧ (((((((((ByteArray.mk #[40]) ++ x77) ++ (ByteArray.mk #[41])) ++ (ByteArray.mk #[44, 40])) ++ (((ByteArray.mk #[40]) ++ x81) ++ (ByteArray.mk #[41]))) ++ (ByteArray.mk #[44])) ++ (((ByteArray.mk #[40]) ++ x77) ++ (ByteArray.mk #[41]))).size + (ByteArray.mk #[41]).size : Nat) : Int) ≤ 9223372036854775807 ∧ (((ByteArray.mk #[40]).size + (((ByteArray.mk #[40]) ++ x77) ++ (ByteArray.mk #[41])).size : Nat) : Int) ≤ 9223372036854775807 ∧ ((((ByteArray.mk #[40]) ++ (((ByteArray.mk #[40]) ++ x77) ++ (ByteArray.mk #[41]))).size + (ByteArray.mk #[124]).size : Nat) : Int) ≤ 9223372036854775807 ∧ (((((ByteArray.mk #[40]) ++ (((ByteArray.mk #[40]) ++ x77) ++ (ByteArray.mk #[41]))) ++ (ByteArray.mk #[124])).size + (((ByteArray.mk #[40]) ++ x81) ++ (ByteArray.mk #[41])).size : Nat) : Int) ≤ 9223372036854775807 ∧ ((((((ByteArray.mk #[40]) ++ (((ByteArray.mk #[40]) ++ x77) ++ (ByteArray.mk #[41]))) ++ (ByteArray.mk #[124])) ++ (((ByteArray.mk #[40]) ++ x81) ++ (ByteArray.mk #[41]))).size + (ByteArray.mk #[41]).size : Nat) : Int) ≤ 9223372036854775807 ∧ (((ByteArray.mk #[40]).size + (((ByteArray.mk #[40]) ++ x81) ++ (ByteArray.mk #[41])).size : Nat) : Int) ≤ 9223372036854775807 ∧ ((((ByteArray.mk #[40]) ++ (((ByteArray.mk #[40]) ++ x81) ++ (ByteArray.mk #[41]))).size + (ByteArray.mk #[124]).size : Nat) : Int) ≤ 9223372036854775807 ∧ (((((ByteArray.mk #[40]) ++ (((ByteArray.mk #[40]) ++ x81) ++ (ByteArray.mk #[41]))) ++ (ByteArray.mk #[124])).size + (((ByteArray.mk #[40]) ++ x77) ++ (ByteArray.mk #[41])).size : Nat) : Int) ≤ 9223372036854775807 ∧ ((((((ByteArray.mk #[40]) ++ (((ByteArray.mk #[40]) ++ x81) ++ (ByteArray.mk #[41]))) ++ (ByteArray.mk #[124])) ++ (((ByteArray.mk #[40]) ++ x77) ++ (ByteArray.mk #[41]))).size + (ByteArray.mk #[41]).size : Nat) : Int) ≤ 9223372036854775807 ∧ Al w1_7 #[(.string (((ByteArray.mk #[40]) ++ x77) ++ (ByteArray.mk #[41]))), (.string x86), (.string ((((ByteArray.mk #[40]) ++ x77) ++ (ByteArray.mk #[41])) ++ (ByteArray.mk #[63]))), (.string (((ByteArray.mk #[40]) ++ (((ByteArray.mk #[40]) ++ x77) ++ (ByteArray.mk #[41]))) ++ (ByteArray.mk #[124, 45, 41]))), (.string ((((ByteArray.mk #[40]) ++ x77) ++ (ByteArray.mk #[41])) ++ (ByteArray.mk #[43]))), (.string (((((ByteArray.mk #[40]) ++ (((ByteArray.mk #[40]) ++ x77) ++ (ByteArray.mk #[41]))) ++ (ByteArray.mk #[44])) ++ (((ByteArray.mk #[40]) ++ x77) ++ (ByteArray.mk #[41]))) ++ (ByteArray.mk #[42, 41]))), (.string (((ByteArray.mk #[40]) ++ (((ByteArray.mk #[40]) ++ x77) ++ (ByteArray.mk #[41]))) ++ (ByteArray.mk #[42, 41, 42]))), (.string ((((ByteArray.mk #[40]) ++ x77) ++ (ByteArray.mk #[41])) ++ (ByteArray.mk #[42]))), (.string (((((((ByteArray.mk #[40, 40]) ++ (((ByteArray.mk #[40]) ++ x77) ++ (ByteArray.mk #[41]))) ++ (ByteArray.mk #[44])) ++ (((ByteArray.mk #[40]) ++ x81) ++ (ByteArray.mk #[41]))) ++ (ByteArray.mk #[41, 44])) ++ (((ByteArray.mk #[40]) ++ x77) ++ (ByteArray.mk #[41]))) ++ (ByteArray.mk #[41]))), (.string ((((((((ByteArray.mk #[40]) ++ x77) ++ (ByteArray.mk #[41])) ++ (ByteArray.mk #[44, 40])) ++ (((ByteArray.mk #[40]) ++ x81) ++ (ByteArray.mk #[41]))) ++ (ByteArray.mk #[44])) ++ (((ByteArray.mk #[40]) ++ x77) ++ (ByteArray.mk #[41]))) ++ (ByteArray.mk #[41]))), (.string (((((ByteArray.mk #[40]) ++ (((ByteArray.mk #[40]) ++ x77) ++ (ByteArray.mk #[41]))) ++ (ByteArray.mk #[124])) ++ (((ByteArray.mk #[40]) ++ x81) ++ (ByteArray.mk #[41]))) ++ (ByteArray.mk #[41]))), (.string (((((ByteArray.mk #[40]) ++ (((ByteArray.mk #[40]) ++ x81) ++ (ByteArray.mk #[41]))) ++ (ByteArray.mk #[124])) ++ (((ByteArray.mk #[40]) ++ x77) ++ (ByteArray.mk #[41]))) ++ (ByteArray.mk #[41])))] 63 fun g140 w1_8 =>
 ∃ (I : Int → World → Prop) (m : Int → World → Nat), I (0 : Int) w1_8 ∧
 ∀ (i : Int) (w1_9 : World), I i w1_9 → F8_l11 names namesN namesC g140 (fun i' w2 => I i' w2 ∧ m i' w2 < m i w1_9) i w1_9 R)))

def F8_j5 (names : Option Addr) (namesN : Nat) (namesC : Nat) (x31_0 : Option Addr) (x37_0 : Option Addr) (w_2 : World) (R : Ending → World → Prop) : Prop :=
 Calls Try.prog 50 #[(.pointer x31_0)] w_2 (post R fun v3 w1_3 =>
 ∃ (x58 : ByteArray), v3 = (.string x58) ∧
 Calls Try.prog 48 #[(.string x58)] w1_3 (post R fun v4 w1_4 =>
 ∃ (x59_0 : Option Addr) (x59_1 : Int) (x59_2 : Int), v4 = (.tuple #[(.pointer x59_0), (.int .i64 x59_1), (.int .i64 x59_2)]) ∧
 ∃ J8 : World → Prop, (∀  (w1_5 : World), J8 w1_5 → F8_j8 names namesN namesC x31_0 x37_0 w1_5 R) ∧
 (Br (x59_2 != (0 : Int))
 (R (.returned (.bool false)) w1_4)
 (Br (x59_0).isNone
 (R (.returned (.bool false)) w1_4)
 (Calls Try.prog 50 #[(.pointer x59_0)] w1_4 (post R fun v5 w1_5 =>
 ∃ (x71 : ByteArray), v5 = (.string x71) ∧
 Calls Try.prog 50 #[(.pointer x31_0)] w1_5 (post R fun v6 w1_6 =>
 ∃ (x73 : ByteArray), v6 = (.string x73) ∧
 Br (!(x71.toList == x73.toList))
 (R (.returned (.bool false)) w1_6)
 (J8 w1_6))))))))

def F8 (s : ByteArray) (t : ByteArray) (names : Option Addr) (namesN : Nat) (namesC : Nat) (w_ : World) (R : Ending → World → Prop) : Prop :=
 Calls Try.prog 48 #[(.string s)] w_ (post R fun v w1 =>
 ∃ (x31_0 : Option Addr) (x31_1 : Int) (x31_2 : Int), v = (.tuple #[(.pointer x31_0), (.int .i64 x31_1), (.int .i64 x31_2)]) ∧
 Calls Try.prog 48 #[(.string t)] w1 (post R fun v2 w1_2 =>
 ∃ (x37_0 : Option Addr) (x37_1 : Int) (x37_2 : Int), v2 = (.tuple #[(.pointer x37_0), (.int .i64 x37_1), (.int .i64 x37_2)]) ∧
 ∃ J5 : World → Prop, (∀  (w1_3 : World), J5 w1_3 → F8_j5 names namesN namesC x31_0 x37_0 w1_3 R) ∧
 (Br (x31_0).isNone
 (Br (x31_2 != (0 : Int))
 (Calls Try.prog 49 #[] w1_2 (post R fun v3 w1_3 =>
 ∃ (x54 : Bool), v3 = (.bool x54) ∧
 R (.returned (.bool x54)) w1_3))
 (Br (x37_2 != (0 : Int))
 (Calls Try.prog 49 #[] w1_2 (post R fun v3 w1_3 =>
 ∃ (x54 : Bool), v3 = (.bool x54) ∧
 R (.returned (.bool x54)) w1_3))
 (R (.returned (.bool false)) w1_2)))
 (Br (x37_0).isNone
 (Br (x31_2 != (0 : Int))
 (Calls Try.prog 49 #[] w1_2 (post R fun v3 w1_3 =>
 ∃ (x54 : Bool), v3 = (.bool x54) ∧
 R (.returned (.bool x54)) w1_3))
 (Br (x37_2 != (0 : Int))
 (Calls Try.prog 49 #[] w1_2 (post R fun v3 w1_3 =>
 ∃ (x54 : Bool), v3 = (.bool x54) ∧
 R (.returned (.bool x54)) w1_3))
 (R (.returned (.bool false)) w1_2)))
 (J5 w1_2)))))

def pl8 : Plan := ⟨204, ⟨[]⟩, [(18, ⟨[], [(6, 7), (167, 179)]⟩), (12, ⟨[], [(6, 7), (19, 203)]⟩), (8, ⟨[], [(6, 7), (63, 76)]⟩), (5, ⟨[], [(6, 7), (41, 56)]⟩)], [(11, ⟨[(18, (.s (.int .i64)))], [(6, 7), (18, 203)]⟩)]⟩

theorem eq8 (s : ByteArray) (t : ByteArray) (names : Option Addr) (namesN : Nat) (namesC : Nat) (w : World) (R : Ending → World → Prop) : F8 s t names namesN namesC w R = vc Try.prog Try.f8 pl8 R 100000 [.code (bodyOf Try.f8)] (argEnv 0 #[(.string s), (.string t), (.slice names namesN namesC)].toList) w := by kernel_rfl

theorem ok8 (s : ByteArray) (t : ByteArray) (names : Option Addr) (namesN : Nat) (namesC : Nat) {w : World} {R : Ending → World → Prop} (h : F8 s t names namesN namesC w R) : Calls Try.prog 8 #[(.string s), (.string t), (.slice names namesN namesC)] w R :=
  vc_calls (pl := pl8) Try.func8 (by kernel_rfl) (by kernel_rfl) (by kernel_rfl) (Eq.mp (eq8 s t names namesN namesC w R) h)

end Go.Proofs.Ytaanlildniiijaa
