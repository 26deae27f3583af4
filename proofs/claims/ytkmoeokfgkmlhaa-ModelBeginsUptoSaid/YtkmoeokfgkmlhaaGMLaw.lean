import Derived.Test.YtkmoeokfgkmlhaaVcSnd9
import Derived.Test.YtkmoeokfgkmlhaaProg
set_option linter.unusedVariables false
set_option maxRecDepth 100000
namespace Go.Proofs.Ytkmoeokfgkmlhaa
open Go.Vc
-- (*model.Model).Text
def F24 (m_ : Option Addr) (w_ : World) (R : Ending → World → Prop) : Prop :=
 Br (m_).isNone
 (R (.returned (.string (ByteArray.mk #[]))) w_)
 (Al w_ #[(.pointer none), (.slice none 0 0)] 85 fun g7 w1 =>
 NonNil m_ fun p10 =>
 LdSl (w1.cell? p10) fun x12 x12N x12C =>
 Calls Try.prog 39 #[(.pointer (some g7)), (.slice x12 x12N x12C)] w1 (post R fun v w1_2 =>
 v = (.tuple #[]) ∧
 Calls Try.prog 40 #[(.pointer (some g7))] w1_2 (post R fun v2 w1_3 =>
 ∃ (x15 : ByteArray), v2 = (.string x15) ∧
 R (.returned (.string x15)) w1_3)))

def pl24 : Plan := ⟨16, ⟨[]⟩, [], []⟩

theorem eq24 (m_ : Option Addr) (w : World) (R : Ending → World → Prop) : F24 m_ w R = vc Try.prog Try.f24 pl24 R 100000 [.code (bodyOf Try.f24)] (argEnv 0 #[(.pointer m_)].toList) w := by kernel_rfl

theorem ok24 (m_ : Option Addr) {w : World} {R : Ending → World → Prop} (h : F24 m_ w R) : Calls Try.prog 24 #[(.pointer m_)] w R :=
  vc_calls (pl := pl24) Try.func24 (by kernel_rfl) (by kernel_rfl) (by kernel_rfl) (Eq.mp (eq24 m_ w R) h)

-- model.write
def F39_j17 (L6 : Int → World → Prop) (x21 : Int) (w_6 : World) (R : Ending → World → Prop) : Prop :=
 InR .i64 (x21 + (1 : Int)) ∧ L6 (x21 + (1 : Int)) w_6

def F39_j15 (w_ : Option Addr) (J17 : World → Prop) (p : Addr) (w_7 : World) (R : Ending → World → Prop) : Prop :=
 LdI .u8 (w_7.cell? (p.add 2)) fun x46 =>
 Br (x46 != (0 : Int))
 (LdI .u8 (w_7.cell? (p.add 2)) fun x50 =>
 Calls Try.prog 53 #[(.pointer w_), (.int .u8 x50)] w_7 (post R fun v w1_5 =>
 ∃ (x51 : Value), v = x51 ∧
 J17 w1_5))
 (J17 w_7)

def F39_j10 (w_ : Option Addr) (J17 : World → Prop) (p : Addr) (w_6 : World) (R : Ending → World → Prop) : Prop :=
 ∃ J15 : World → Prop, (∀  (w1_5 : World), J15 w1_5 → F39_j15 w_ J17 p w1_5 R) ∧
 (LdStr (w_6.cell? p) fun x31 =>
 Br (x31.toList == (ByteArray.mk #[40]).toList)
 (Calls Try.prog 53 #[(.pointer w_), (.int .u8 40)] w_6 (post R fun v w1_5 =>
 ∃ (x34 : Value), v = x34 ∧
 LdSl (w1_5.cell? (p.add 1)) fun x37 x37N x37C =>
 Calls Try.prog 39 #[(.pointer w_), (.slice x37 x37N x37C)] w1_5 (post R fun v2 w1_6 =>
 v2 = (.tuple #[]) ∧
 Calls Try.prog 53 #[(.pointer w_), (.int .u8 41)] w1_6 (post R fun v3 w1_7 =>
 ∃ (x40 : Value), v3 = x40 ∧
 J15 w1_7))))
 (LdStr (w_6.cell? p) fun x43 =>
 Calls Try.prog 54 #[(.pointer w_), (.string x43)] w_6 (post R fun v w1_5 =>
 ∃ (x44_0 : Int) (x44_1 : Value), v = (.tuple #[(.int .i64 x44_0), x44_1]) ∧
 J15 w1_5)))

def F39_l6 (w_ : Option Addr) (L1 : Int → World → Prop) (x10 : Int) (x14 : Option Addr) (x14N : Nat) (L6 : Int → World → Prop) (x21 : Int) (w_5 : World) (R : Ending → World → Prop) : Prop :=
 Br (decide (x21 < ((x14N : Nat) : Int)))
 (∃ J17 : World → Prop, (∀  (w1 : World), J17 w1 → F39_j17 L6 x21 w1 R) ∧
 (IdxA x14 x14N x21 3 fun q24 =>
 LdStr (w_5.cell? q24) fun x25_0 =>
 LdSl (w_5.cell? (q24.add 1)) fun x25_1 x25_1N x25_1C =>
 LdI .u8 (w_5.cell? (q24.add 2)) fun x25_2 =>
 Al w_5 #[(.string (ByteArray.mk #[])), (.slice none 0 0), (.int .u8 0)] 96 fun p w1 =>
 St w1 p (.string x25_0) fun w1_2 =>
 St w1_2 (p.add 1) (.slice x25_1 x25_1N x25_1C) fun w1_3 =>
 St w1_3 (p.add 2) (.int .u8 x25_2) fun w1_4 =>
 ∃ J10 : World → Prop, (∀  (w1_5 : World), J10 w1_5 → F39_j10 w_ J17 p w1_5 R) ∧
 (Br (decide (x21 > (0 : Int)))
 (Calls Try.prog 53 #[(.pointer w_), (.int .u8 44)] w1_4 (post R fun v w1_5 =>
 ∃ (x29 : Value), v = x29 ∧
 J10 w1_5))
 (J10 w1_4))))
 (InR .i64 (x10 + (1 : Int)) ∧ L1 (x10 + (1 : Int)) w_5)

def F39_j5 (w_ : Option Addr) (L1 : Int → World → Prop) (x10 : Int) (x14 : Option Addr) (x14N : Nat) (w_4 : World) (R : Ending → World → Prop) : Prop :=
 ∃ (I : Int → World → Prop) (m : Int → World → Nat), I (0 : Int) w_4 ∧
 ∀ (x21 : Int) (w1 : World), I x21 w1 → F39_l6 w_ L1 x10 x14 x14N (fun x21' w2 => I x21' w2 ∧ m x21' w2 < m x21 w1) x21 w1 R

def F39_l1 (w_ : Option Addr) (rows : Option Addr) (rowsN : Nat) (L1 : Int → World → Prop) (x10 : Int) (w_3 : World) (R : Ending → World → Prop) : Prop :=
 Br (decide (x10 < ((rowsN : Nat) : Int)))
 (IdxA rows rowsN x10 1 fun q13 =>
 LdSl (w_3.cell? q13) fun x14 x14N x14C =>
 ∃ J5 : World → Prop, (∀  (w1 : World), J5 w1 → F39_j5 w_ L1 x10 x14 x14N w1 R) ∧
 (Br (decide (x10 > (0 : Int)))
 (Calls Try.prog 53 #[(.pointer w_), (.int .u8 124)] w_3 (post R fun v w1 =>
 ∃ (x18 : Value), v = x18 ∧
 J5 w1))
 (J5 w_3)))
 (R (.returned (.tuple #[])) w_3)

def F39 (w_ : Option Addr) (rows : Option Addr) (rowsN : Nat) (rowsC : Nat) (w_2 : World) (R : Ending → World → Prop) : Prop :=
 ∃ (I : Int → World → Prop) (m : Int → World → Nat), I (0 : Int) w_2 ∧
 ∀ (x10 : Int) (w1 : World), I x10 w1 → F39_l1 w_ rows rowsN (fun x10' w2 => I x10' w2 ∧ m x10' w2 < m x10 w1) x10 w1 R

def pl39 : Plan := ⟨54, ⟨[]⟩, [(15, ⟨[], [(30, 45)]⟩), (10, ⟨[], [(26, 30)]⟩), (17, ⟨[], [(6, 8), (23, 52)]⟩), (5, ⟨[], [(15, 19)]⟩)], [(6, ⟨[(21, (.s (.int .i64)))], [(6, 8), (21, 53)]⟩), (1, ⟨[(10, (.s (.int .i64)))], [(4, 8), (10, 54)]⟩)]⟩

theorem eq39 (w_ : Option Addr) (rows : Option Addr) (rowsN : Nat) (rowsC : Nat) (w : World) (R : Ending → World → Prop) : F39 w_ rows rowsN rowsC w R = vc Try.prog Try.f39 pl39 R 100000 [.code (bodyOf Try.f39)] (argEnv 0 #[(.pointer w_), (.slice rows rowsN rowsC)].toList) w := by kernel_rfl

theorem ok39 (w_ : Option Addr) (rows : Option Addr) (rowsN : Nat) (rowsC : Nat) {w : World} {R : Ending → World → Prop} (h : F39 w_ rows rowsN rowsC w R) : Calls Try.prog 39 #[(.pointer w_), (.slice rows rowsN rowsC)] w R :=
  vc_calls (pl := pl39) Try.func39 (by kernel_rfl) (by kernel_rfl) (by kernel_rfl) (Eq.mp (eq39 w_ rows rowsN rowsC w R) h)

-- (*strings.Builder).WriteByte
def F53 (b : Option Addr) (c : Int) (w_ : World) (R : Ending → World → Prop) : Prop :=
 Calls Try.prog 76 #[(.pointer b)] w_ (post R fun v w1 =>
 v = (.tuple #[]) ∧
 NonNil b fun p9 =>
 LdSl (w1.cell? (p9.add 1)) fun x11 x11N x11C =>
 Al w1 #[(.int .u8 c)] 5 fun g13 w1_2 =>
 Raw Try.prog (Builtin.append_ #[40, 40] 40 #[(.slice x11 x11N x11C), (.slice (some g13) 1 1)]) w1_2 fun v2 w1_3 =>
 ∃ (x14 : Option Addr) (x14N : Nat) (x14C : Nat), v2 = (.slice x14 x14N x14C) ∧
 NonNil b fun p15 =>
 St w1_3 (p15.add 1) (.slice x14 x14N x14C) fun w1_4 =>
 R (.returned .nilIface) w1_4)

def pl53 : Plan := ⟨17, ⟨[]⟩, [], []⟩

theorem eq53 (b : Option Addr) (c : Int) (w : World) (R : Ending → World → Prop) : F53 b c w R = vc Try.prog Try.f53 pl53 R 100000 [.code (bodyOf Try.f53)] (argEnv 0 #[(.pointer b), (.int .u8 c)].toList) w := by kernel_rfl

theorem ok53 (b : Option Addr) (c : Int) {w : World} {R : Ending → World → Prop} (h : F53 b c w R) : Calls Try.prog 53 #[(.pointer b), (.int .u8 c)] w R :=
  vc_calls (pl := pl53) Try.func53 (by kernel_rfl) (by kernel_rfl) (by kernel_rfl) (Eq.mp (eq53 b c w R) h)

-- (*strings.Builder).WriteString
def F54 (b : Option Addr) (s : ByteArray) (w_ : World) (R : Ending → World → Prop) : Prop :=
 Calls Try.prog 76 #[(.pointer b)] w_ (post R fun v w1 =>
 v = (.tuple #[]) ∧
 NonNil b fun p10 =>
 LdSl (w1.cell? (p10.add 1)) fun x12 x12N x12C =>
 Raw Try.prog (Builtin.append_ #[40, 9] 40 #[(.slice x12 x12N x12C), (.string s)]) w1 fun v2 w1_2 =>
 ∃ (x14 : Option Addr) (x14N : Nat) (x14C : Nat), v2 = (.slice x14 x14N x14C) ∧
 NonNil b fun p15 =>
 St w1_2 (p15.add 1) (.slice x14 x14N x14C) fun w1_3 =>
 R (.returned (.tuple #[(.int .i64 ((s.size : Nat) : Int)), .nilIface])) w1_3)

def pl54 : Plan := ⟨19, ⟨[]⟩, [], []⟩

theorem eq54 (b : Option Addr) (s : ByteArray) (w : World) (R : Ending → World → Prop) : F54 b s w R = vc Try.prog Try.f54 pl54 R 100000 [.code (bodyOf Try.f54)] (argEnv 0 #[(.pointer b), (.string s)].toList) w := by kernel_rfl

theorem ok54 (b : Option Addr) (s : ByteArray) {w : World} {R : Ending → World → Prop} (h : F54 b s w R) : Calls Try.prog 54 #[(.pointer b), (.string s)] w R :=
  vc_calls (pl := pl54) Try.func54 (by kernel_rfl) (by kernel_rfl) (by kernel_rfl) (Eq.mp (eq54 b s w R) h)

-- espalierlaw23.lives
def F7_j4 (x10_0 : Option Addr) (w_2 : World) (R : Ending → World → Prop) : Prop :=
 Al w_2 #[(.string (ByteArray.mk #[97])), (.string (ByteArray.mk #[97])), (.string (ByteArray.mk #[98])), (.string (ByteArray.mk #[99]))] 9 fun g22 w1_2 =>
 Calls Try.prog 11 #[(.pointer x10_0), (.slice (some g22) 4 4)] w1_2 (post R fun v2 w1_3 =>
 ∃ (x23_0 : Bool) (x23_1 : Int), v2 = (.tuple #[(.bool x23_0), (.int .i64 x23_1)]) ∧
 Al w1_3 #[(.slice none 0 0), (.slice none 0 0), (.slice none 0 0), (.slice none 0 0), (.slice none 0 0), (.bool false)] 60 fun g27 w1_4 =>
 Calls Try.prog 11 #[(.pointer (some g27)), (.slice none 0 0)] w1_4 (post R fun v3 w1_5 =>
 ∃ (x30_0 : Bool) (x30_1 : Int), v3 = (.tuple #[(.bool x30_0), (.int .i64 x30_1)]) ∧
 Br x23_0
 (Br (x23_1 == (4 : Int))
 (Br (!x30_0)
 (Br (x30_1 == (0 : Int))
 (Calls Try.prog 24 #[(.pointer (some g27))] w1_5 (post R fun v4 w1_6 =>
 ∃ (x48 : ByteArray), v4 = (.string x48) ∧
 Br (x48.toList == (ByteArray.mk #[]).toList)
 (Calls Try.prog 9 #[(.pointer (some g27))] w1_6 (post R fun v5 w1_7 =>
 ∃ (x53 : Bool), v5 = (.bool x53) ∧
 R (.returned (.bool x53)) w1_7))
 (R (.returned (.bool false)) w1_6)))
 (R (.returned (.bool false)) w1_5))
 (R (.returned (.bool false)) w1_5))
 (R (.returned (.bool false)) w1_5))
 (R (.returned (.bool false)) w1_5)))

def F7  (w_ : World) (R : Ending → World → Prop) : Prop :=
 Calls Try.prog 5 #[(.string (ByteArray.mk #[40, 97, 44, 32, 98, 63, 41, 42, 44, 32, 99]))] w_ (post R fun v w1 =>
 ∃ (x10_0 : Option Addr) (x10_1 : Int) (x10_2 : Int), v = (.tuple #[(.pointer x10_0), (.int .i64 x10_1), (.int .i64 x10_2)]) ∧
 ∃ J4 : World → Prop, (∀  (w1_2 : World), J4 w1_2 → F7_j4 x10_0 w1_2 R) ∧
 (Br (x10_0).isNone
 (R (.returned (.bool false)) w1)
 (Br (x10_2 != (0 : Int))
 (R (.returned (.bool false)) w1)
 (J4 w1))))

def pl7 : Plan := ⟨55, ⟨[]⟩, [(4, ⟨[], [(0, 1), (14, 20)]⟩)], []⟩

theorem eq7  (w : World) (R : Ending → World → Prop) : F7  w R = vc Try.prog Try.f7 pl7 R 100000 [.code (bodyOf Try.f7)] (argEnv 0 #[].toList) w := by kernel_rfl

theorem ok7  {w : World} {R : Ending → World → Prop} (h : F7  w R) : Calls Try.prog 7 #[] w R :=
  vc_calls (pl := pl7) Try.func7 (by kernel_rfl) (by kernel_rfl) (by kernel_rfl) (Eq.mp (eq7  w R) h)

end Go.Proofs.Ytkmoeokfgkmlhaa
