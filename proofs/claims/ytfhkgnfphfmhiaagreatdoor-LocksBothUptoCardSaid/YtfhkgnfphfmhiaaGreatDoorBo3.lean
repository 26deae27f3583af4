/- LocksBoth: the least mode that is both does not hang on the order or on brackets, and what fits with both fits with each. -/
import Derived.Test.YtfhkgnfphfmhiaaGreatDoorProg
import Derived.MapKept
import Derived.Laws.IdiomRangeMap
import Derived.Test.YtfhkgnfphfmhiaaGreatDoorBo2
set_option linter.unusedVariables false
set_option maxRecDepth 100000
namespace Go.Proofs.YtfhkgnfphfmhiaaGreatDoor
open Go.Vc
-- (*locks.Table).Behind
-- (*locks.Table).Free
def F14_j3 (t : Option Addr) (who : Int) (w_2 : World) (R : Ending → World → Prop) : Prop :=
 Calls Tryz.prog 30 #[(.pointer t), (.int .i64 who)] w_2 (post R fun v w1 =>
 ∃ (x14 : Option Addr) (x14N : Nat) (x14C : Nat), v = (.slice x14 x14N x14C) ∧
 R (.returned (.tuple #[(.slice x14 x14N x14C), (.int .i64 0)])) w1)

def F14 (t : Option Addr) (who : Int) (w_ : World) (R : Ending → World → Prop) : Prop :=
 ∃ J3 : World → Prop, (∀  (w1 : World), J3 w1 → F14_j3 t who w1 R) ∧
 (Br (decide (who < (1 : Int)))
 (R (.returned (.tuple #[(.slice none 0 0), (.int .i64 1)])) w_)
 (Br (decide (who > (32 : Int)))
 (R (.returned (.tuple #[(.slice none 0 0), (.int .i64 1)])) w_)
 (J3 w_)))

def pl14 : Plan := ⟨15, ⟨[]⟩, [(3, ⟨[], [(4, 12)]⟩)], []⟩

theorem eq14 (t : Option Addr) (who : Int) (w : World) (R : Ending → World → Prop) : F14 t who w R = vc Tryz.prog Tryz.f14 pl14 R 100000 [.code (bodyOf Tryz.f14)] (argEnv 0 #[(.pointer t), (.int .i64 who)].toList) w := by kernel_rfl

theorem ok14 (t : Option Addr) (who : Int) {w : World} {R : Ending → World → Prop} (h : F14 t who w R) : Calls Tryz.prog 14 #[(.pointer t), (.int .i64 who)] w R :=
  vc_calls (pl := pl14) Tryz.func14 (by kernel_rfl) (by kernel_rfl) (by kernel_rfl) (Eq.mp (eq14 t who w R) h)

-- (*locks.Table).Held
-- (*locks.Table).Lock
def F15 (t : Option Addr) (who : Int) (n : Int) (mode : Int) (w_ : World) (R : Ending → World → Prop) : Prop :=
 Calls Tryz.prog 31 #[(.pointer t), (.int .i64 who), (.int .u64 n), (.int .i64 mode)] w_ (post R fun v w1 =>
 ∃ (x13 : Int), v = (.int .i64 x13) ∧
 R (.returned (.int .i64 x13)) w1)

def pl15 : Plan := ⟨14, ⟨[]⟩, [], []⟩

theorem eq15 (t : Option Addr) (who : Int) (n : Int) (mode : Int) (w : World) (R : Ending → World → Prop) : F15 t who n mode w R = vc Tryz.prog Tryz.f15 pl15 R 100000 [.code (bodyOf Tryz.f15)] (argEnv 0 #[(.pointer t), (.int .i64 who), (.int .u64 n), (.int .i64 mode)].toList) w := by kernel_rfl

theorem ok15 (t : Option Addr) (who : Int) (n : Int) (mode : Int) {w : World} {R : Ending → World → Prop} (h : F15 t who n mode w R) : Calls Tryz.prog 15 #[(.pointer t), (.int .i64 who), (.int .u64 n), (.int .i64 mode)] w R :=
  vc_calls (pl := pl15) Tryz.func15 (by kernel_rfl) (by kernel_rfl) (by kernel_rfl) (Eq.mp (eq15 t who n mode w R) h)

-- (*locks.Table).May
def F13_j14 (L5 : Int → World → Prop) (x24 : Int) (w_3 : World) (R : Ending → World → Prop) : Prop :=
 InR .i64 (x24 + (1 : Int)) ∧ L5 (x24 + (1 : Int)) w_3

def F13_l5 (t : Option Addr) (who : Int) (change : Bool) (x22 : Option Addr) (x22N : Nat) (L5 : Int → World → Prop) (x24 : Int) (w_2 : World) (R : Ending → World → Prop) : Prop :=
 Br (decide (x24 < ((x22N : Nat) : Int)))
 (∃ J14 : World → Prop, (∀  (w1_3 : World), J14 w1_3 → F13_j14 L5 x24 w1_3 R) ∧
 (IdxA x22 x22N x24 2 fun q26 =>
 LdI .u64 (w_2.cell? q26) fun x27_0 =>
 LdI .i64 (w_2.cell? (q26.add 1)) fun x27_1 =>
 Al w_2 #[(.int .u64 0), (.int .i64 0)] 88 fun s w1_3 =>
 St w1_3 s (.int .u64 x27_0) fun w1_4 =>
 St w1_4 (s.add 1) (.int .i64 x27_1) fun w1_5 =>
 LdI .u64 (w1_5.cell? s) fun x31 =>
 Calls Tryz.prog 29 #[(.pointer t), (.int .i64 who), (.int .u64 x31)] w1_5 (post R fun v3 w1_6 =>
 ∃ (x32 : Int), v3 = (.int .i64 x32) ∧
 Br (x32 == (5 : Int))
 (R (.returned (.tuple #[(.bool true), (.int .i64 0)])) w1_6)
 (Br (x32 == (3 : Int))
 (Br (x32 == (3 : Int))
 (Br (!change)
 (R (.returned (.tuple #[(.bool true), (.int .i64 0)])) w1_6)
 (J14 w1_6))
 (J14 w1_6))
 (Br (x32 == (4 : Int))
 (Br (!change)
 (R (.returned (.tuple #[(.bool true), (.int .i64 0)])) w1_6)
 (J14 w1_6))
 (J14 w1_6))))))
 (R (.returned (.tuple #[(.bool false), (.int .i64 0)])) w_2)

def F13 (t : Option Addr) (who : Int) (n : Int) (change : Bool) (w_ : World) (R : Ending → World → Prop) : Prop :=
 Calls Tryz.prog 27 #[(.pointer t), (.int .i64 who), (.int .u64 n)] w_ (post R fun v w1 =>
 ∃ (x16 : Int), v = (.int .i64 x16) ∧
 Br (x16 != (0 : Int))
 (R (.returned (.tuple #[(.bool false), (.int .i64 x16)])) w1)
 (Calls Tryz.prog 28 #[(.pointer t), (.int .u64 n), (.int .i64 1)] w1 (post R fun v2 w1_2 =>
 ∃ (x22 : Option Addr) (x22N : Nat) (x22C : Nat), v2 = (.slice x22 x22N x22C) ∧
 ∃ (I : Int → World → Prop) (m : Int → World → Nat), I (0 : Int) w1_2 ∧
 ∀ (x24 : Int) (w1_3 : World), I x24 w1_3 → F13_l5 t who change x22 x22N (fun x24' w2 => I x24' w2 ∧ m x24' w2 < m x24 w1_3) x24 w1_3 R)))

def pl13 : Plan := ⟨41, ⟨[]⟩, [(14, ⟨[], [(8, 13), (26, 40)]⟩)], [(5, ⟨[(24, (.s (.int .i64)))], [(8, 13), (24, 41)]⟩)]⟩

theorem eq13 (t : Option Addr) (who : Int) (n : Int) (change : Bool) (w : World) (R : Ending → World → Prop) : F13 t who n change w R = vc Tryz.prog Tryz.f13 pl13 R 100000 [.code (bodyOf Tryz.f13)] (argEnv 0 #[(.pointer t), (.int .i64 who), (.int .u64 n), (.bool change)].toList) w := by kernel_rfl

theorem ok13 (t : Option Addr) (who : Int) (n : Int) (change : Bool) {w : World} {R : Ending → World → Prop} (h : F13 t who n change w R) : Calls Tryz.prog 13 #[(.pointer t), (.int .i64 who), (.int .u64 n), (.bool change)] w R :=
  vc_calls (pl := pl13) Tryz.func13 (by kernel_rfl) (by kernel_rfl) (by kernel_rfl) (Eq.mp (eq13 t who n change w R) h)

-- (*locks.Table).Waits
-- (*locks.Table).asks
def F27_j3 (t : Option Addr) (n : Int) (w_2 : World) (R : Ending → World → Prop) : Prop :=
 NonNil t fun p17 =>
 LdP (w_2.cell? p17) fun x19 =>
 Calls Tryz.prog 23 #[(.pointer x19), (.int .u64 n)] w_2 (post R fun v w1 =>
 ∃ (x21_0 : Option Addr) (x21_0N : Nat) (x21_0C : Nat) (x21_1 : Int), v = (.tuple #[(.slice x21_0 x21_0N x21_0C), (.int .i64 x21_1)]) ∧
 R (.returned (.int .i64 x21_1)) w1)

def F27 (t : Option Addr) (who : Int) (n : Int) (w_ : World) (R : Ending → World → Prop) : Prop :=
 ∃ J3 : World → Prop, (∀  (w1 : World), J3 w1 → F27_j3 t n w1 R) ∧
 (Br (decide (who < (1 : Int)))
 (R (.returned (.int .i64 1)) w_)
 (Br (decide (who > (32 : Int)))
 (R (.returned (.int .i64 1)) w_)
 (J3 w_)))

def pl27 : Plan := ⟨25, ⟨[]⟩, [(3, ⟨[], [(6, 15)]⟩)], []⟩

theorem eq27 (t : Option Addr) (who : Int) (n : Int) (w : World) (R : Ending → World → Prop) : F27 t who n w R = vc Tryz.prog Tryz.f27 pl27 R 100000 [.code (bodyOf Tryz.f27)] (argEnv 0 #[(.pointer t), (.int .i64 who), (.int .u64 n)].toList) w := by kernel_rfl

theorem ok27 (t : Option Addr) (who : Int) (n : Int) {w : World} {R : Ending → World → Prop} (h : F27 t who n w R) : Calls Tryz.prog 27 #[(.pointer t), (.int .i64 who), (.int .u64 n)] w R :=
  vc_calls (pl := pl27) Tryz.func27 (by kernel_rfl) (by kernel_rfl) (by kernel_rfl) (Eq.mp (eq27 t who n w R) h)

-- (*locks.Table).behind
def F43_j10 (L6 : Option Addr → Nat → Nat → Int → World → Prop) (x29 : Int) (l2 : Option Addr) (lN2 : Nat) (lC2 : Nat) (w_3 : World) (R : Ending → World → Prop) : Prop :=
 InR .i64 (x29 + (1 : Int)) ∧ L6 l2 lN2 lC2 (x29 + (1 : Int)) w_3

def F43_l12 (x16_1 : Int) (x64 : Option Addr) (L12 : Option Addr → Nat → Nat → Int → World → Prop) (l2 : Option Addr) (lN2 : Nat) (lC2 : Nat) (x68 : Int) (w_3 : World) (R : Ending → World → Prop) : Prop :=
 Br (decide (x68 < (((x16_1).toNat : Nat) : Int)))
 (IdxA x64 (x16_1).toNat x68 4 fun q70 =>
 LdI .i64 (w_3.cell? q70) fun x71_0 =>
 LdI .i64 (w_3.cell? (q70.add 1)) fun x71_1 =>
 LdB (w_3.cell? (q70.add 2)) fun x71_2 =>
 LdSl (w_3.cell? (q70.add 3)) fun x71_3 x71_3N x71_3C =>
 Al w_3 #[(.int .i64 0), (.int .i64 0), (.bool false), (.slice none 0 0)] 92 fun w_4 w1_4 =>
 St w1_4 w_4 (.int .i64 x71_0) fun w1_5 =>
 St w1_5 (w_4.add 1) (.int .i64 x71_1) fun w1_6 =>
 St w1_6 (w_4.add 2) (.bool x71_2) fun w1_7 =>
 St w1_7 (w_4.add 3) (.slice x71_3 x71_3N x71_3C) fun w1_8 =>
 LdI .i64 (w1_8.cell? w_4) fun x74 =>
 Al w1_8 #[(.int .i64 x74)] 3 fun g75 w1_9 =>
 Raw Tryz.prog (Builtin.append_ #[39, 39] 39 #[(.slice l2 lN2 lC2), (.slice (some g75) 1 1)]) w1_9 fun v4 w1_10 =>
 ∃ (x76 : Option Addr) (x76N : Nat) (x76C : Nat), v4 = (.slice x76 x76N x76C) ∧
 InR .i64 (x68 + (1 : Int)) ∧ L12 x76 x76N x76C (x68 + (1 : Int)) w1_10)
 (Calls Tryz.prog 82 #[(.slice l2 lN2 lC2)] w_3 (post R fun v4 w1_4 =>
 v4 = (.tuple #[]) ∧
 Calls Tryz.prog 83 #[(.slice l2 lN2 lC2)] w1_4 (post R fun v5 w1_5 =>
 ∃ (x81 : Option Addr) (x81N : Nat) (x81C : Nat), v5 = (.slice x81 x81N x81C) ∧
 R (.returned (.slice x81 x81N x81C)) w1_5)))

def F43_l6 (t : Option Addr) (who : Int) (x16_0 : Int) (x16_1 : Int) (x27 : Option Addr) (x27N : Nat) (L6 : Option Addr → Nat → Nat → Int → World → Prop) (l : Option Addr) (lN : Nat) (lC : Nat) (x29 : Int) (w_2 : World) (R : Ending → World → Prop) : Prop :=
 Br (decide (x29 < ((x27N : Nat) : Int)))
 (∃ J10 : Option Addr → Nat → Nat → World → Prop, (∀ (l2 : Option Addr) (lN2 : Nat) (lC2 : Nat) (w1_3 : World), J10 l2 lN2 lC2 w1_3 → F43_j10 L6 x29 l2 lN2 lC2 w1_3 R) ∧
 (IdxA x27 x27N x29 2 fun q31 =>
 LdI .i64 (w_2.cell? q31) fun x32_0 =>
 LdI .i64 (w_2.cell? (q31.add 1)) fun x32_1 =>
 Al w_2 #[(.int .i64 0), (.int .i64 0)] 83 fun h_ w1_3 =>
 St w1_3 h_ (.int .i64 x32_0) fun w1_4 =>
 St w1_4 (h_.add 1) (.int .i64 x32_1) fun w1_5 =>
 ∃ S : World → Prop, S w1_5.drew ∧ ∃ (x34 : Int), Held S h_ (.int .i64 x34) ∧ Br (x34 != who)
 (∃ (x39 : Int), Held S (h_.add 1) (.int .i64 x39) ∧ NonNil t fun p41 =>
 ∃ (x43 : Option Nat), Held S (p41.add 3) (.map x43) ∧ Raw Tryz.prog (Instr.lookup 78 (.map x43) (.int .u64 x16_0) false) w1_5.drew fun v3 w1_7 =>
 ∃ (x45 : Option Addr) (x45N : Nat) (x45C : Nat), v3 = (.slice x45 x45N x45C) ∧
 S w1_7 ∧ IdxA x45 x45N x16_1 4 fun q47 =>
 ∃ (x49 : Int), Held S (q47.add 1) (.int .i64 x49) ∧ Calls Tryz.prog 26 #[(.int .i64 x39), (.int .i64 x49)] w1_7 (post R fun v4 w1_8 =>
 ∃ (x50 : Bool), v4 = (.bool x50) ∧
 Br (!x50)
 (LdI .i64 (w1_8.cell? h_) fun x55 =>
 Al w1_8 #[(.int .i64 x55)] 3 fun g56 w1_9 =>
 Raw Tryz.prog (Builtin.append_ #[39, 39] 39 #[(.slice l lN lC), (.slice (some g56) 1 1)]) w1_9 fun v5 w1_10 =>
 ∃ (x57 : Option Addr) (x57N : Nat) (x57C : Nat), v5 = (.slice x57 x57N x57C) ∧
 J10 x57 x57N x57C w1_10)
 (J10 l lN lC w1_8)))
 (J10 l lN lC w1_5.drew)))
 (NonNil t fun p60 =>
 LdM (w_2.cell? (p60.add 3)) fun x62 =>
 Raw Tryz.prog (Instr.lookup 78 (.map x62) (.int .u64 x16_0) false) w_2 fun v3 w1_3 =>
 ∃ (x64 : Option Addr) (x64N : Nat) (x64C : Nat), v3 = (.slice x64 x64N x64C) ∧
 SlB 0 x16_1 ((x64C : Nat) : Int)
 (∃ (I : Option Addr → Nat → Nat → Int → World → Prop) (m : Option Addr → Nat → Nat → Int → World → Nat), I l lN lC (0 : Int) w1_3 ∧
 ∀ (l2 : Option Addr) (lN2 : Nat) (lC2 : Nat) (x68 : Int) (w1_4 : World), I l2 lN2 lC2 x68 w1_4 → F43_l12 x16_1 x64 (fun l2' lN2' lC2' x68' w2 => I l2' lN2' lC2' x68' w2 ∧ m l2' lN2' lC2' x68' w2 < m l2 lN2 lC2 x68 w1_4) l2 lN2 lC2 x68 w1_4 R))

def F43 (t : Option Addr) (who : Int) (w_ : World) (R : Ending → World → Prop) : Prop :=
 Calls Tryz.prog 62 #[(.pointer t), (.int .i64 who)] w_ (post R fun v w1 =>
 ∃ (x16_0 : Int) (x16_1 : Int) (x16_2 : Bool), v = (.tuple #[(.int .u64 x16_0), (.int .i64 x16_1), (.bool x16_2)]) ∧
 Br (!x16_2)
 (R (.returned (.slice none 0 0)) w1)
 (NonNil t fun p23 =>
 LdM (w1.cell? (p23.add 2)) fun x25 =>
 Raw Tryz.prog (Instr.lookup 77 (.map x25) (.int .u64 x16_0) false) w1 fun v2 w1_2 =>
 ∃ (x27 : Option Addr) (x27N : Nat) (x27C : Nat), v2 = (.slice x27 x27N x27C) ∧
 ∃ (I : Option Addr → Nat → Nat → Int → World → Prop) (m : Option Addr → Nat → Nat → Int → World → Nat), I none 0 0 (0 : Int) w1_2 ∧
 ∀ (l : Option Addr) (lN : Nat) (lC : Nat) (x29 : Int) (w1_3 : World), I l lN lC x29 w1_3 → F43_l6 t who x16_0 x16_1 x27 x27N (fun l' lN' lC' x29' w2 => I l' lN' lC' x29' w2 ∧ m l' lN' lC' x29' w2 < m l lN lC x29 w1_3) l lN lC x29 w1_3 R))

def pl43 : Plan := ⟨82, ⟨[]⟩, [(10, ⟨[(8, (.s .slice))], [(8, 11), (31, 58)]⟩)], [(6, ⟨[(8, (.s .slice)), (29, (.s (.int .i64)))], [(8, 11), (29, 59)]⟩), (12, ⟨[(8, (.s .slice)), (68, (.s (.int .i64)))], [(8, 13), (68, 78)]⟩)]⟩

theorem eq43 (t : Option Addr) (who : Int) (w : World) (R : Ending → World → Prop) : F43 t who w R = vc Tryz.prog Tryz.f43 pl43 R 100000 [.code (bodyOf Tryz.f43)] (argEnv 0 #[(.pointer t), (.int .i64 who)].toList) w := by kernel_rfl

theorem ok43 (t : Option Addr) (who : Int) {w : World} {R : Ending → World → Prop} (h : F43 t who w R) : Calls Tryz.prog 43 #[(.pointer t), (.int .i64 who)] w R :=
  vc_calls (pl := pl43) Tryz.func43 (by kernel_rfl) (by kernel_rfl) (by kernel_rfl) (Eq.mp (eq43 t who w R) h)

-- (*locks.Table).free
def F58 (t : Option Addr) (who : Int) (at_ : Int) (mode : Int) (w_ : World) (R : Ending → World → Prop) : Prop :=
 Al w_ #[(.int .i64 who)] 3 fun who2 w1 =>
 Al w1 #[(.int .i64 mode)] 3 fun mode2 w1_2 =>
 NonNil t fun p10 =>
 LdM (w1_2.cell? (p10.add 2)) fun x12 =>
 Raw Tryz.prog (Instr.lookup 77 (.map x12) (.int .u64 at_) false) w1_2 fun v w1_3 =>
 ∃ (x14 : Option Addr) (x14N : Nat) (x14C : Nat), v = (.slice x14 x14N x14C) ∧
 Calls Tryz.prog 93 #[(.slice x14 x14N x14C), (.func (.func 94) #[] #[(.pointer (some who2)), (.pointer (some mode2))])] w1_3 (post R fun v2 w1_4 =>
 ∃ (x16 : Bool), v2 = (.bool x16) ∧
 R (.returned (.bool (!x16))) w1_4)

def pl58 : Plan := ⟨18, ⟨[]⟩, [], []⟩

theorem eq58 (t : Option Addr) (who : Int) (at_ : Int) (mode : Int) (w : World) (R : Ending → World → Prop) : F58 t who at_ mode w R = vc Tryz.prog Tryz.f58 pl58 R 100000 [.code (bodyOf Tryz.f58)] (argEnv 0 #[(.pointer t), (.int .i64 who), (.int .u64 at_), (.int .i64 mode)].toList) w := by kernel_rfl

theorem ok58 (t : Option Addr) (who : Int) (at_ : Int) (mode : Int) {w : World} {R : Ending → World → Prop} (h : F58 t who at_ mode w R) : Calls Tryz.prog 58 #[(.pointer t), (.int .i64 who), (.int .u64 at_), (.int .i64 mode)] w R :=
  vc_calls (pl := pl58) Tryz.func58 (by kernel_rfl) (by kernel_rfl) (by kernel_rfl) (Eq.mp (eq58 t who at_ mode w R) h)

-- (*locks.Table).free$1
def F94 (h_0 : Int) (h_1 : Int) (cap0 : Addr) (cap1 : Addr) (w_ : World) (R : Ending → World → Prop) : Prop :=
 Al w_ #[(.int .i64 h_0), (.int .i64 h_1)] 83 fun h_ w1 =>
 LdI .i64 (w1.cell? h_) fun x6 =>
 LdI .i64 (w1.cell? cap0) fun x7 =>
 Br (x6 != x7)
 (LdI .i64 (w1.cell? (h_.add 1)) fun x11 =>
 LdI .i64 (w1.cell? cap1) fun x12 =>
 Calls Tryz.prog 26 #[(.int .i64 x11), (.int .i64 x12)] w1 (post R fun v w1_2 =>
 ∃ (x13 : Bool), v = (.bool x13) ∧
 R (.returned (.bool (!x13))) w1_2))
 (R (.returned (.bool false)) w1)

def pl94 : Plan := ⟨16, ⟨[]⟩, [], []⟩

theorem eq94 (h_0 : Int) (h_1 : Int) (cap0 : Addr) (cap1 : Addr) (w : World) (R : Ending → World → Prop) : F94 h_0 h_1 cap0 cap1 w R = vc Tryz.prog Tryz.f94 pl94 R 100000 [.code (bodyOf Tryz.f94)] (argEnv 0 #[(.agg #[(.int .i64 h_0), (.int .i64 h_1)]), (.pointer (some cap0)), (.pointer (some cap1))].toList) w := by kernel_rfl

theorem ok94 (h_0 : Int) (h_1 : Int) (cap0 : Addr) (cap1 : Addr) {w : World} {R : Ending → World → Prop} (h : F94 h_0 h_1 cap0 cap1 w R) : Calls Tryz.prog 94 #[(.agg #[(.int .i64 h_0), (.int .i64 h_1)]), (.pointer (some cap0)), (.pointer (some cap1))] w R :=
  vc_calls (pl := pl94) Tryz.func94 (by kernel_rfl) (by kernel_rfl) (by kernel_rfl) (Eq.mp (eq94 h_0 h_1 cap0 cap1 w R) h)

-- (*locks.Table).frees
def F30_j20 (L9 : Option Addr → Nat → Nat → Bool → Int → World → Prop) (x41 : Int) (done3 : Option Addr) (doneN3 : Nat) (doneC3 : Nat) (any2 : Bool) (w_5 : World) (R : Ending → World → Prop) : Prop :=
 InR .i64 (x41 + (1 : Int)) ∧ L9 done3 doneN3 doneC3 any2 (x41 + (1 : Int)) w_5

def F30_j12 (t : Option Addr) (x44 : Int) (L11 : Option Addr → Nat → Nat → Bool → World → Prop) (done3 : Option Addr) (doneN3 : Nat) (doneC3 : Nat) (w_6 : World) (R : Ending → World → Prop) : Prop :=
 NonNil t fun p77 =>
 LdM (w_6.cell? (p77.add 3)) fun x79 =>
 Raw Tryz.prog (Instr.lookup 78 (.map x79) (.int .u64 x44) false) w_6 fun v4 w1_5 =>
 ∃ (x81 : Option Addr) (x81N : Nat) (x81C : Nat), v4 = (.slice x81 x81N x81C) ∧
 IdxA x81 x81N (0 : Int) 4 fun q82 =>
 LdI .i64 (w1_5.cell? q82) fun x83_0 =>
 LdI .i64 (w1_5.cell? (q82.add 1)) fun x83_1 =>
 LdB (w1_5.cell? (q82.add 2)) fun x83_2 =>
 LdSl (w1_5.cell? (q82.add 3)) fun x83_3 x83_3N x83_3C =>
 Al w1_5 #[(.int .i64 0), (.int .i64 0), (.bool false), (.slice none 0 0)] 92 fun w_7 w1_6 =>
 St w1_6 w_7 (.int .i64 x83_0) fun w1_7 =>
 St w1_7 (w_7.add 1) (.int .i64 x83_1) fun w1_8 =>
 St w1_8 (w_7.add 2) (.bool x83_2) fun w1_9 =>
 St w1_9 (w_7.add 3) (.slice x83_3 x83_3N x83_3C) fun w1_10 =>
 ∃ S : World → Prop, S w1_10.drew ∧ NonNil t fun p85 =>
 ∃ (x87 : Option Nat), Held S (p85.add 3) (.map x87) ∧ NonNil t fun p90 =>
 ∃ (x92 : Option Nat), Held S (p90.add 3) (.map x92) ∧ Raw Tryz.prog (Instr.lookup 78 (.map x92) (.int .u64 x44) false) w1_10.drew fun v5 w1_12 =>
 ∃ (x94 : Option Addr) (x94N : Nat) (x94C : Nat), v5 = (.slice x94 x94N x94C) ∧
 S w1_12 ∧ SlB (1 : Int) ((x94N : Nat) : Int) ((x94C : Nat) : Int)
 (Raw Tryz.prog (Instr.mapUpdate 78 (.map x87) (.int .u64 x44) (.slice (SlA x94 x94C ((1 : Int)).toNat 4) ((((x94N : Nat) : Int)).toNat - ((1 : Int)).toNat) (x94C - ((1 : Int)).toNat))) w1_12 fun _ w1_13 =>
 LdI .i64 (w1_13.cell? w_7) fun x98 =>
 LdI .i64 (w1_13.cell? (w_7.add 1)) fun x101 =>
 Calls Tryz.prog 59 #[(.pointer t), (.int .i64 x98), (.int .u64 x44), (.int .i64 x101)] w1_13 (post R fun v6 w1_14 =>
 v6 = (.tuple #[]) ∧
 LdI .i64 (w1_14.cell? w_7) fun x106 =>
 LdSl (w1_14.cell? (w_7.add 3)) fun x108 x108N x108C =>
 Calls Tryz.prog 60 #[(.pointer t), (.int .i64 x106), (.slice x108 x108N x108C)] w1_14 (post R fun v7 w1_15 =>
 ∃ (x109_0_0 : Int) (x109_0_1 : Int) (x109_0_2 : Bool) (x109_0_3 : Option Addr) (x109_0_3N : Nat) (x109_0_3C : Nat) (x109_1 : Int) (x109_2 : Bool), v7 = (.tuple #[(.agg #[(.int .i64 x109_0_0), (.int .i64 x109_0_1), (.bool x109_0_2), (.slice x109_0_3 x109_0_3N x109_0_3C)]), (.int .u64 x109_1), (.bool x109_2)]) ∧
 Al w1_15 #[(.int .i64 0), (.int .i64 0), (.bool false), (.slice none 0 0)] 92 fun g12 w1_16 =>
 St w1_16 g12 (.int .i64 x109_0_0) fun w1_17 =>
 St w1_17 (g12.add 1) (.int .i64 x109_0_1) fun w1_18 =>
 St w1_18 (g12.add 2) (.bool x109_0_2) fun w1_19 =>
 St w1_19 (g12.add 3) (.slice x109_0_3 x109_0_3N x109_0_3C) fun w1_20 =>
 Br x109_2
 (LdI .i64 (w1_20.cell? w_7) fun x116 =>
 Al w1_20 #[(.int .i64 x116)] 3 fun g117 w1_21 =>
 Raw Tryz.prog (Builtin.append_ #[39, 39] 39 #[(.slice done3 doneN3 doneC3), (.slice (some g117) 1 1)]) w1_21 fun v8 w1_22 =>
 ∃ (x118 : Option Addr) (x118N : Nat) (x118C : Nat), v8 = (.slice x118 x118N x118C) ∧
 L11 x118 x118N x118C true w1_22)
 (LdI .i64 (w1_20.cell? g12) fun x120_0 =>
 LdI .i64 (w1_20.cell? (g12.add 1)) fun x120_1 =>
 LdB (w1_20.cell? (g12.add 2)) fun x120_2 =>
 LdSl (w1_20.cell? (g12.add 3)) fun x120_3 x120_3N x120_3C =>
 Calls Tryz.prog 61 #[(.pointer t), (.agg #[(.int .i64 x120_0), (.int .i64 x120_1), (.bool x120_2), (.slice x120_3 x120_3N x120_3C)]), (.int .u64 x109_1)] w1_20 (post R fun v8 w1_21 =>
 v8 = (.tuple #[]) ∧
 L11 done3 doneN3 doneC3 true w1_21)))))

def F30_l11 (t : Option Addr) (J20 : Option Addr → Nat → Nat → Bool → World → Prop) (x44 : Int) (L11 : Option Addr → Nat → Nat → Bool → World → Prop) (done3 : Option Addr) (doneN3 : Nat) (doneC3 : Nat) (any2 : Bool) (w_5 : World) (R : Ending → World → Prop) : Prop :=
 ∃ J12 : World → Prop, (∀  (w1_5 : World), J12 w1_5 → F30_j12 t x44 L11 done3 doneN3 doneC3 w1_5 R) ∧
 (∃ S : World → Prop, S w_5.drew ∧ NonNil t fun p46 =>
 ∃ (x48 : Option Nat), Held S (p46.add 3) (.map x48) ∧ Raw Tryz.prog (Instr.lookup 78 (.map x48) (.int .u64 x44) false) w_5.drew fun v4 w1_6 =>
 ∃ (x50 : Option Addr) (x50N : Nat) (x50C : Nat), v4 = (.slice x50 x50N x50C) ∧
 S w1_6 ∧ Br (decide (((x50N : Nat) : Int) > (0 : Int)))
 (NonNil t fun p56 =>
 ∃ (x58 : Option Nat), Held S (p56.add 3) (.map x58) ∧ NonNil t fun p66 =>
 ∃ (x68 : Option Nat), Held S (p66.add 3) (.map x68) ∧ (Raw Tryz.prog (Instr.lookup 78 (.map x58) (.int .u64 x44) false) w1_6 fun v5 w1_7 =>
 ∃ (x60 : Option Addr) (x60N : Nat) (x60C : Nat), v5 = (.slice x60 x60N x60C) ∧
 S w1_7 ∧ IdxA x60 x60N (0 : Int) 4 fun q61 =>
 ∃ (x63 : Int), Held S q61 (.int .i64 x63) ∧ Raw Tryz.prog (Instr.lookup 78 (.map x68) (.int .u64 x44) false) w1_7 fun v6 w1_8 =>
 ∃ (x70 : Option Addr) (x70N : Nat) (x70C : Nat), v6 = (.slice x70 x70N x70C) ∧
 S w1_8 ∧ IdxA x70 x70N (0 : Int) 4 fun q71 =>
 ∃ (x73 : Int), Held S (q71.add 1) (.int .i64 x73) ∧ Calls Tryz.prog 58 #[(.pointer t), (.int .i64 x63), (.int .u64 x44), (.int .i64 x73)] w1_8 (post R fun v7 w1_9 =>
 ∃ (x74 : Bool), v7 = (.bool x74) ∧
 Br x74
 (J12 w1_9)
 (J20 done3 doneN3 doneC3 any2 w1_9)))
 ∧ (Raw Tryz.prog (Instr.lookup 78 (.map x68) (.int .u64 x44) false) w1_6 fun v5 w1_7 =>
 ∃ (x70 : Option Addr) (x70N : Nat) (x70C : Nat), v5 = (.slice x70 x70N x70C) ∧
 S w1_7 ∧ IdxA x70 x70N (0 : Int) 4 fun q71 =>
 ∃ (x73 : Int), Held S (q71.add 1) (.int .i64 x73) ∧ Raw Tryz.prog (Instr.lookup 78 (.map x58) (.int .u64 x44) false) w1_7 fun v6 w1_8 =>
 ∃ (x60 : Option Addr) (x60N : Nat) (x60C : Nat), v6 = (.slice x60 x60N x60C) ∧
 S w1_8 ∧ IdxA x60 x60N (0 : Int) 4 fun q61 =>
 ∃ (x63 : Int), Held S q61 (.int .i64 x63) ∧ Calls Tryz.prog 58 #[(.pointer t), (.int .i64 x63), (.int .u64 x44), (.int .i64 x73)] w1_8 (post R fun v7 w1_9 =>
 ∃ (x74 : Bool), v7 = (.bool x74) ∧
 Br x74
 (J12 w1_9)
 (J20 done3 doneN3 doneC3 any2 w1_9))))
 ((J20 done3 doneN3 doneC3 any2 w1_6)
 ∧ (J20 done3 doneN3 doneC3 any2 w1_6)))

def F30_l9 (t : Option Addr) (L7 : Option Addr → Nat → Nat → World → Prop) (x39 : Option Addr) (x39N : Nat) (L9 : Option Addr → Nat → Nat → Bool → Int → World → Prop) (done2 : Option Addr) (doneN2 : Nat) (doneC2 : Nat) (any : Bool) (x41 : Int) (w_4 : World) (R : Ending → World → Prop) : Prop :=
 Br (decide (x41 < ((x39N : Nat) : Int)))
 (∃ J20 : Option Addr → Nat → Nat → Bool → World → Prop, (∀ (done3 : Option Addr) (doneN3 : Nat) (doneC3 : Nat) (any2 : Bool) (w1_5 : World), J20 done3 doneN3 doneC3 any2 w1_5 → F30_j20 L9 x41 done3 doneN3 doneC3 any2 w1_5 R) ∧
 (IdxA x39 x39N x41 1 fun q43 =>
 LdI .u64 (w_4.cell? q43) fun x44 =>
 ∃ (I : Option Addr → Nat → Nat → Bool → World → Prop) (m : Option Addr → Nat → Nat → Bool → World → Nat), I done2 doneN2 doneC2 any w_4 ∧
 ∀ (done3 : Option Addr) (doneN3 : Nat) (doneC3 : Nat) (any2 : Bool) (w1_5 : World), I done3 doneN3 doneC3 any2 w1_5 → F30_l11 t J20 x44 (fun done3' doneN3' doneC3' any2' w2 => I done3' doneN3' doneC3' any2' w2 ∧ m done3' doneN3' doneC3' any2' w2 < m done3 doneN3 doneC3 any2 w1_5) done3 doneN3 doneC3 any2 w1_5 R))
 (Br (!any)
 (R (.returned (.slice done2 doneN2 doneC2)) w_4)
 (L7 done2 doneN2 doneC2 w_4))

def F30_l7 (t : Option Addr) (L7 : Option Addr → Nat → Nat → World → Prop) (done : Option Addr) (doneN : Nat) (doneC : Nat) (w_3 : World) (R : Ending → World → Prop) : Prop :=
 NonNil t fun p37 =>
 LdSl (w_3.cell? (p37.add 1)) fun x39 x39N x39C =>
 ∃ (I : Option Addr → Nat → Nat → Bool → Int → World → Prop) (m : Option Addr → Nat → Nat → Bool → Int → World → Nat), I done doneN doneC false (0 : Int) w_3 ∧
 ∀ (done2 : Option Addr) (doneN2 : Nat) (doneC2 : Nat) (any : Bool) (x41 : Int) (w1_5 : World), I done2 doneN2 doneC2 any x41 w1_5 → F30_l9 t L7 x39 x39N (fun done2' doneN2' doneC2' any' x41' w2 => I done2' doneN2' doneC2' any' x41' w2 ∧ m done2' doneN2' doneC2' any' x41' w2 < m done2 doneN2 doneC2 any x41 w1_5) done2 doneN2 doneC2 any x41 w1_5 R

def F30_l2 (t : Option Addr) (who2 : Addr) (it19 : Nat) (L2 : World → Prop) (w_2 : World) (R : Ending → World → Prop) : Prop :=
 Raw Tryz.prog (Instr.next (.pointer (some ⟨it19, 0, none⟩)) false 0) w_2 fun v2 w1_3 => (v2 = .tuple #[.bool false] ∧
 LdI .i64 (w1_3.cell? who2) fun x34 =>
 Calls Tryz.prog 57 #[(.pointer t), (.int .i64 x34)] w1_3 (post R fun v3 w1_4 =>
 v3 = (.tuple #[]) ∧
 ∃ (I : Option Addr → Nat → Nat → World → Prop) (m : Option Addr → Nat → Nat → World → Nat), I none 0 0 w1_4 ∧
 ∀ (done : Option Addr) (doneN : Nat) (doneC : Nat) (w1_5 : World), I done doneN doneC w1_5 → F30_l7 t (fun done' doneN' doneC' w2 => I done' doneN' doneC' w2 ∧ m done' doneN' doneC' w2 < m done doneN doneC w1_5) done doneN doneC w1_5 R)) ∨ (∃ (k : Value) (e : Value), v2 = .tuple #[.bool true, k, e] ∧
 Raw Tryz.prog (Instr.entry (.pointer (some ⟨it19, 0, none⟩))) w1_3 fun v3 w1_4 =>
 ∃ (x22_0 : Int) (x22_1 : Option Addr) (x22_1N : Nat) (x22_1C : Nat), v3 = .tuple #[(.int .u64 x22_0), (.slice x22_1 x22_1N x22_1C)] ∧
 ∃ S : World → Prop, S w1_4.drew ∧ NonNil t fun p26 =>
 ∃ (x28 : Option Nat), Held S (p26.add 2) (.map x28) ∧ Calls Tryz.prog 55 #[(.slice x22_1 x22_1N x22_1C), (.func (.func 56) #[] #[(.pointer (some who2))])] w1_4.drew (post R fun v4 w1_6 =>
 ∃ (x32 : Option Addr) (x32N : Nat) (x32C : Nat), v4 = (.slice x32 x32N x32C) ∧
 S w1_6 ∧ Raw Tryz.prog (Instr.mapUpdate 77 (.map x28) (.int .u64 x22_0) (.slice x32 x32N x32C)) w1_6 fun _ w1_7 =>
 L2 w1_7))

def F30 (t : Option Addr) (who : Int) (w_ : World) (R : Ending → World → Prop) : Prop :=
 Al w_ #[(.int .i64 who)] 3 fun who2 w1 =>
 NonNil t fun p16 =>
 LdM (w1.cell? (p16.add 2)) fun x18 =>
 Raw Tryz.prog (Instr.range 77 (.map x18)) w1 fun v w1_2 => ∃ it19 : Nat, v = .pointer (some ⟨it19, 0, none⟩) ∧
 ∃ (I : World → Prop) (m : World → Nat), I  w1_2 ∧
 ∀  (w1_3 : World), I  w1_3 → F30_l2 t who2 it19 (fun  w2 => I  w2 ∧ m  w2 < m  w1_3)  w1_3 R

def pl30 : Plan := ⟨127, ⟨[]⟩, [(12, ⟨[], [(45, 76)]⟩), (20, ⟨[(7, (.s .slice)), (8, (.s .bool))], [(7, 15), (43, 123)]⟩)], [(2, ⟨[], [(5, 7), (20, 33)]⟩), (11, ⟨[(7, (.s .slice)), (8, (.s .bool))], [(7, 9), (11, 15), (45, 123)]⟩), (9, ⟨[(7, (.s .slice)), (8, (.s .bool)), (41, (.s (.int .i64)))], [(7, 15), (41, 124)]⟩), (7, ⟨[(7, (.s .slice))], [(4, 127)]⟩)]⟩

theorem eq30 (t : Option Addr) (who : Int) (w : World) (R : Ending → World → Prop) : F30 t who w R = vc Tryz.prog Tryz.f30 pl30 R 100000 [.code (bodyOf Tryz.f30)] (argEnv 0 #[(.pointer t), (.int .i64 who)].toList) w := by kernel_rfl

theorem ok30 (t : Option Addr) (who : Int) {w : World} {R : Ending → World → Prop} (h : F30 t who w R) : Calls Tryz.prog 30 #[(.pointer t), (.int .i64 who)] w R :=
  vc_calls (pl := pl30) Tryz.func30 (by kernel_rfl) (by kernel_rfl) (by kernel_rfl) (Eq.mp (eq30 t who w R) h)

-- (*locks.Table).frees$1
def F56 (h_0 : Int) (h_1 : Int) (cap0 : Addr) (w_ : World) (R : Ending → World → Prop) : Prop :=
 Al w_ #[(.int .i64 h_0), (.int .i64 h_1)] 83 fun h_ w1 =>
 LdI .i64 (w1.cell? h_) fun x5 =>
 LdI .i64 (w1.cell? cap0) fun x6 =>
 R (.returned (.bool (x5 == x6))) w1

def pl56 : Plan := ⟨8, ⟨[]⟩, [], []⟩

theorem eq56 (h_0 : Int) (h_1 : Int) (cap0 : Addr) (w : World) (R : Ending → World → Prop) : F56 h_0 h_1 cap0 w R = vc Tryz.prog Tryz.f56 pl56 R 100000 [.code (bodyOf Tryz.f56)] (argEnv 0 #[(.agg #[(.int .i64 h_0), (.int .i64 h_1)]), (.pointer (some cap0))].toList) w := by kernel_rfl

theorem ok56 (h_0 : Int) (h_1 : Int) (cap0 : Addr) {w : World} {R : Ending → World → Prop} (h : F56 h_0 h_1 cap0 w R) : Calls Tryz.prog 56 #[(.agg #[(.int .i64 h_0), (.int .i64 h_1)]), (.pointer (some cap0))] w R :=
  vc_calls (pl := pl56) Tryz.func56 (by kernel_rfl) (by kernel_rfl) (by kernel_rfl) (Eq.mp (eq56 h_0 h_1 cap0 w R) h)

-- (*locks.Table).gives
def F59 (t : Option Addr) (who : Int) (at_ : Int) (mode : Int) (w_ : World) (R : Ending → World → Prop) : Prop :=
 Al w_ #[(.int .i64 who)] 3 fun who2 w1 =>
 NonNil t fun p11 =>
 LdM (w1.cell? (p11.add 2)) fun x13 =>
 Raw Tryz.prog (Instr.lookup 77 (.map x13) (.int .u64 at_) false) w1 fun v w1_2 =>
 ∃ (x15 : Option Addr) (x15N : Nat) (x15C : Nat), v = (.slice x15 x15N x15C) ∧
 Calls Tryz.prog 90 #[(.slice x15 x15N x15C), (.func (.func 95) #[] #[(.pointer (some who2))])] w1_2 (post R fun v2 w1_3 =>
 ∃ (x18 : Int), v2 = (.int .i64 x18) ∧
 Br (decide (x18 ≥ (0 : Int)))
 (IdxA x15 x15N x18 2 fun q24 =>
 St w1_3 (q24.add 1) (.int .i64 mode) fun w1_4 =>
 R (.returned (.tuple #[])) w1_4)
 (LdI .i64 (w1_3.cell? who2) fun x27 =>
 Al w1_3 #[(.int .i64 x27), (.int .i64 mode)] 83 fun g30 w1_4 =>
 Raw Tryz.prog (Builtin.append_ #[81, 81] 81 #[(.slice x15 x15N x15C), (.slice (some g30) 1 1)]) w1_4 fun v3 w1_5 =>
 ∃ (x31 : Option Addr) (x31N : Nat) (x31C : Nat), v3 = (.slice x31 x31N x31C) ∧
 Calls Tryz.prog 96 #[(.slice x31 x31N x31C), (.func (.func 97) #[] #[])] w1_5 (post R fun v4 w1_6 =>
 v4 = (.tuple #[]) ∧
 NonNil t fun p35 =>
 LdM (w1_6.cell? (p35.add 2)) fun x37 =>
 Raw Tryz.prog (Instr.mapUpdate 77 (.map x37) (.int .u64 at_) (.slice x31 x31N x31C)) w1_6 fun _ w1_7 =>
 R (.returned (.tuple #[])) w1_7)))

def pl59 : Plan := ⟨40, ⟨[]⟩, [], []⟩

theorem eq59 (t : Option Addr) (who : Int) (at_ : Int) (mode : Int) (w : World) (R : Ending → World → Prop) : F59 t who at_ mode w R = vc Tryz.prog Tryz.f59 pl59 R 100000 [.code (bodyOf Tryz.f59)] (argEnv 0 #[(.pointer t), (.int .i64 who), (.int .u64 at_), (.int .i64 mode)].toList) w := by kernel_rfl

theorem ok59 (t : Option Addr) (who : Int) (at_ : Int) (mode : Int) {w : World} {R : Ending → World → Prop} (h : F59 t who at_ mode w R) : Calls Tryz.prog 59 #[(.pointer t), (.int .i64 who), (.int .u64 at_), (.int .i64 mode)] w R :=
  vc_calls (pl := pl59) Tryz.func59 (by kernel_rfl) (by kernel_rfl) (by kernel_rfl) (Eq.mp (eq59 t who at_ mode w R) h)

-- (*locks.Table).gives$1
def F95 (h_0 : Int) (h_1 : Int) (cap0 : Addr) (w_ : World) (R : Ending → World → Prop) : Prop :=
 Al w_ #[(.int .i64 h_0), (.int .i64 h_1)] 83 fun h_ w1 =>
 LdI .i64 (w1.cell? h_) fun x5 =>
 LdI .i64 (w1.cell? cap0) fun x6 =>
 R (.returned (.bool (x5 == x6))) w1

def pl95 : Plan := ⟨8, ⟨[]⟩, [], []⟩

theorem eq95 (h_0 : Int) (h_1 : Int) (cap0 : Addr) (w : World) (R : Ending → World → Prop) : F95 h_0 h_1 cap0 w R = vc Tryz.prog Tryz.f95 pl95 R 100000 [.code (bodyOf Tryz.f95)] (argEnv 0 #[(.agg #[(.int .i64 h_0), (.int .i64 h_1)]), (.pointer (some cap0))].toList) w := by kernel_rfl

theorem ok95 (h_0 : Int) (h_1 : Int) (cap0 : Addr) {w : World} {R : Ending → World → Prop} (h : F95 h_0 h_1 cap0 w R) : Calls Tryz.prog 95 #[(.agg #[(.int .i64 h_0), (.int .i64 h_1)]), (.pointer (some cap0))] w R :=
  vc_calls (pl := pl95) Tryz.func95 (by kernel_rfl) (by kernel_rfl) (by kernel_rfl) (Eq.mp (eq95 h_0 h_1 cap0 w R) h)

-- (*locks.Table).gives$2
def F97 (a_0 : Int) (a_1 : Int) (b_0 : Int) (b_1 : Int) (w_ : World) (R : Ending → World → Prop) : Prop :=
 Al w_ #[(.int .i64 a_0), (.int .i64 a_1)] 83 fun a w1 =>
 Al w1 #[(.int .i64 b_0), (.int .i64 b_1)] 83 fun b w1_2 =>
 LdI .i64 (w1_2.cell? a) fun x6 =>
 LdI .i64 (w1_2.cell? b) fun x8 =>
 InR .i64 (x6 - x8) ∧ R (.returned (.int .i64 (x6 - x8))) w1_2

def pl97 : Plan := ⟨10, ⟨[]⟩, [], []⟩

theorem eq97 (a_0 : Int) (a_1 : Int) (b_0 : Int) (b_1 : Int) (w : World) (R : Ending → World → Prop) : F97 a_0 a_1 b_0 b_1 w R = vc Tryz.prog Tryz.f97 pl97 R 100000 [.code (bodyOf Tryz.f97)] (argEnv 0 #[(.agg #[(.int .i64 a_0), (.int .i64 a_1)]), (.agg #[(.int .i64 b_0), (.int .i64 b_1)])].toList) w := by kernel_rfl

theorem ok97 (a_0 : Int) (a_1 : Int) (b_0 : Int) (b_1 : Int) {w : World} {R : Ending → World → Prop} (h : F97 a_0 a_1 b_0 b_1 w R) : Calls Tryz.prog 97 #[(.agg #[(.int .i64 a_0), (.int .i64 a_1)]), (.agg #[(.int .i64 b_0), (.int .i64 b_1)])] w R :=
  vc_calls (pl := pl97) Tryz.func97 (by kernel_rfl) (by kernel_rfl) (by kernel_rfl) (Eq.mp (eq97 a_0 a_1 b_0 b_1 w R) h)

-- (*locks.Table).has
def F29_l2 (who : Int) (x14 : Option Addr) (x14N : Nat) (L2 : Int → World → Prop) (x16 : Int) (w_2 : World) (R : Ending → World → Prop) : Prop :=
 Br (decide (x16 < ((x14N : Nat) : Int)))
 (IdxA x14 x14N x16 2 fun q18 =>
 LdI .i64 (w_2.cell? q18) fun x19_0 =>
 LdI .i64 (w_2.cell? (q18.add 1)) fun x19_1 =>
 Al w_2 #[(.int .i64 0), (.int .i64 0)] 83 fun h_ w1_2 =>
 St w1_2 h_ (.int .i64 x19_0) fun w1_3 =>
 St w1_3 (h_.add 1) (.int .i64 x19_1) fun w1_4 =>
 LdI .i64 (w1_4.cell? h_) fun x21 =>
 Br (x21 == who)
 (LdI .i64 (w1_4.cell? (h_.add 1)) fun x25 =>
 R (.returned (.int .i64 x25)) w1_4)
 (InR .i64 (x16 + (1 : Int)) ∧ L2 (x16 + (1 : Int)) w1_4))
 (R (.returned (.int .i64 0)) w_2)

def F29 (t : Option Addr) (who : Int) (at_ : Int) (w_ : World) (R : Ending → World → Prop) : Prop :=
 NonNil t fun p10 =>
 LdM (w_.cell? (p10.add 2)) fun x12 =>
 Raw Tryz.prog (Instr.lookup 77 (.map x12) (.int .u64 at_) false) w_ fun v w1 =>
 ∃ (x14 : Option Addr) (x14N : Nat) (x14C : Nat), v = (.slice x14 x14N x14C) ∧
 ∃ (I : Int → World → Prop) (m : Int → World → Nat), I (0 : Int) w1 ∧
 ∀ (x16 : Int) (w1_2 : World), I x16 w1_2 → F29_l2 who x14 x14N (fun x16' w2 => I x16' w2 ∧ m x16' w2 < m x16 w1_2) x16 w1_2 R

def pl29 : Plan := ⟨27, ⟨[]⟩, [], [(2, ⟨[(16, (.s (.int .i64)))], [(6, 9), (16, 27)]⟩)]⟩

theorem eq29 (t : Option Addr) (who : Int) (at_ : Int) (w : World) (R : Ending → World → Prop) : F29 t who at_ w R = vc Tryz.prog Tryz.f29 pl29 R 100000 [.code (bodyOf Tryz.f29)] (argEnv 0 #[(.pointer t), (.int .i64 who), (.int .u64 at_)].toList) w := by kernel_rfl

theorem ok29 (t : Option Addr) (who : Int) (at_ : Int) {w : World} {R : Ending → World → Prop} (h : F29 t who at_ w R) : Calls Tryz.prog 29 #[(.pointer t), (.int .i64 who), (.int .u64 at_)] w R :=
  vc_calls (pl := pl29) Tryz.func29 (by kernel_rfl) (by kernel_rfl) (by kernel_rfl) (Eq.mp (eq29 t who at_ w R) h)

-- (*locks.Table).lock
def F31_j3 (t : Option Addr) (who : Int) (n : Int) (mode : Int) (w_2 : World) (R : Ending → World → Prop) : Prop :=
 Calls Tryz.prog 27 #[(.pointer t), (.int .i64 who), (.int .u64 n)] w_2 (post R fun v w1 =>
 ∃ (x30 : Int), v = (.int .i64 x30) ∧
 Br (x30 != (0 : Int))
 (R (.returned (.int .i64 x30)) w1)
 (Calls Tryz.prog 62 #[(.pointer t), (.int .i64 who)] w1 (post R fun v2 w1_2 =>
 ∃ (x37_0 : Int) (x37_1 : Int) (x37_2 : Bool), v2 = (.tuple #[(.int .u64 x37_0), (.int .i64 x37_1), (.bool x37_2)]) ∧
 Br x37_2
 (R (.returned (.int .i64 211)) w1_2)
 (Calls Tryz.prog 28 #[(.pointer t), (.int .u64 n), (.int .i64 mode)] w1_2 (post R fun v3 w1_3 =>
 ∃ (x48 : Option Addr) (x48N : Nat) (x48C : Nat), v3 = (.slice x48 x48N x48C) ∧
 Calls Tryz.prog 60 #[(.pointer t), (.int .i64 who), (.slice x48 x48N x48C)] w1_3 (post R fun v4 w1_4 =>
 ∃ (x49_0_0 : Int) (x49_0_1 : Int) (x49_0_2 : Bool) (x49_0_3 : Option Addr) (x49_0_3N : Nat) (x49_0_3C : Nat) (x49_1 : Int) (x49_2 : Bool), v4 = (.tuple #[(.agg #[(.int .i64 x49_0_0), (.int .i64 x49_0_1), (.bool x49_0_2), (.slice x49_0_3 x49_0_3N x49_0_3C)]), (.int .u64 x49_1), (.bool x49_2)]) ∧
 Al w1_4 #[(.int .i64 0), (.int .i64 0), (.bool false), (.slice none 0 0)] 92 fun w_3 w1_5 =>
 St w1_5 w_3 (.int .i64 x49_0_0) fun w1_6 =>
 St w1_6 (w_3.add 1) (.int .i64 x49_0_1) fun w1_7 =>
 St w1_7 (w_3.add 2) (.bool x49_0_2) fun w1_8 =>
 St w1_8 (w_3.add 3) (.slice x49_0_3 x49_0_3N x49_0_3C) fun w1_9 =>
 Br x49_2
 (R (.returned (.int .i64 0)) w1_9)
 (LdI .i64 (w1_9.cell? w_3) fun x55_0 =>
 LdI .i64 (w1_9.cell? (w_3.add 1)) fun x55_1 =>
 LdB (w1_9.cell? (w_3.add 2)) fun x55_2 =>
 LdSl (w1_9.cell? (w_3.add 3)) fun x55_3 x55_3N x55_3C =>
 Calls Tryz.prog 61 #[(.pointer t), (.agg #[(.int .i64 x55_0), (.int .i64 x55_1), (.bool x55_2), (.slice x55_3 x55_3N x55_3C)]), (.int .u64 x49_1)] w1_9 (post R fun v5 w1_10 =>
 v5 = (.tuple #[]) ∧
 Calls Tryz.prog 63 #[(.pointer t), (.int .i64 who)] w1_10 (post R fun v6 w1_11 =>
 ∃ (x60 : Bool), v6 = (.bool x60) ∧
 Br x60
 (Calls Tryz.prog 57 #[(.pointer t), (.int .i64 who)] w1_11 (post R fun v7 w1_12 =>
 v7 = (.tuple #[]) ∧
 R (.returned (.int .i64 281)) w1_12))
 (R (.returned (.int .i64 280)) w1_11))))))))))

def F31 (t : Option Addr) (who : Int) (n : Int) (mode : Int) (w_ : World) (R : Ending → World → Prop) : Prop :=
 ∃ J3 : World → Prop, (∀  (w1 : World), J3 w1 → F31_j3 t who n mode w1 R) ∧
 (Br (decide (who < (1 : Int)))
 (R (.returned (.int .i64 1)) w_)
 (Br (decide (who > (32 : Int)))
 (R (.returned (.int .i64 1)) w_)
 (Calls Tryz.prog 24 #[(.int .i64 mode)] w_ (post R fun v w1 =>
 ∃ (x24 : Bool), v = (.bool x24) ∧
 Br (!x24)
 (R (.returned (.int .i64 1)) w1)
 (J3 w1)))))

def pl31 : Plan := ⟨64, ⟨[]⟩, [(3, ⟨[], [(8, 27)]⟩)], []⟩

theorem eq31 (t : Option Addr) (who : Int) (n : Int) (mode : Int) (w : World) (R : Ending → World → Prop) : F31 t who n mode w R = vc Tryz.prog Tryz.f31 pl31 R 100000 [.code (bodyOf Tryz.f31)] (argEnv 0 #[(.pointer t), (.int .i64 who), (.int .u64 n), (.int .i64 mode)].toList) w := by kernel_rfl

theorem ok31 (t : Option Addr) (who : Int) (n : Int) (mode : Int) {w : World} {R : Ending → World → Prop} (h : F31 t who n mode w R) : Calls Tryz.prog 31 #[(.pointer t), (.int .i64 who), (.int .u64 n), (.int .i64 mode)] w R :=
  vc_calls (pl := pl31) Tryz.func31 (by kernel_rfl) (by kernel_rfl) (by kernel_rfl) (Eq.mp (eq31 t who n mode w R) h)

-- (*locks.Table).ring
def F63_l3 (t : Option Addr) (who : Int) (r10 : Nat) (L3 : Option Addr → Nat → Nat → World → Prop) (l : Option Addr) (lN : Nat) (lC : Nat) (w_2 : World) (R : Ending → World → Prop) : Prop :=
 Br (decide (((lN : Nat) : Int) > (0 : Int)))
 (IdxA l lN (0 : Int) 1 fun q18 =>
 LdI .i64 (w_2.cell? q18) fun x19 =>
 SlB (1 : Int) ((lN : Nat) : Int) ((lC : Nat) : Int)
 (Br (x19 == who)
 (R (.returned (.bool true)) w_2)
 (Raw Tryz.prog (Instr.lookup 170 (.map (some r10)) (.int .i64 x19) true) w_2 fun v2 w1_3 =>
 ∃ (x28_1 : Bool), v2 = (.tuple #[(.agg #[]), (.bool x28_1)]) ∧
 Al w1_3 #[] 171 fun g8 w1_4 =>
 Br (!x28_1)
 (Raw Tryz.prog (Instr.mapUpdate 170 (.map (some r10)) (.int .i64 x19) (.agg #[])) w1_4 fun _ w1_5 =>
 Calls Tryz.prog 43 #[(.pointer t), (.int .i64 x19)] w1_5 (post R fun v3 w1_6 =>
 ∃ (x39 : Option Addr) (x39N : Nat) (x39C : Nat), v3 = (.slice x39 x39N x39C) ∧
 Raw Tryz.prog (Builtin.append_ #[39, 39] 39 #[(.slice (SlA l lC ((1 : Int)).toNat 1) ((((lN : Nat) : Int)).toNat - ((1 : Int)).toNat) (lC - ((1 : Int)).toNat)), (.slice x39 x39N x39C)]) w1_6 fun v4 w1_7 =>
 ∃ (x40 : Option Addr) (x40N : Nat) (x40C : Nat), v4 = (.slice x40 x40N x40C) ∧
 L3 x40 x40N x40C w1_7))
 (L3 (SlA l lC ((1 : Int)).toNat 1) ((((lN : Nat) : Int)).toNat - ((1 : Int)).toNat) (lC - ((1 : Int)).toNat) w1_4))))
 (R (.returned (.bool false)) w_2)

def F63 (t : Option Addr) (who : Int) (w_ : World) (R : Ending → World → Prop) : Prop :=
 AlM w_ fun r10 w1 =>
 Calls Tryz.prog 43 #[(.pointer t), (.int .i64 who)] w1 (post R fun v w1_2 =>
 ∃ (x13 : Option Addr) (x13N : Nat) (x13C : Nat), v = (.slice x13 x13N x13C) ∧
 ∃ (I : Option Addr → Nat → Nat → World → Prop) (m : Option Addr → Nat → Nat → World → Nat), I x13 x13N x13C w1_2 ∧
 ∀ (l : Option Addr) (lN : Nat) (lC : Nat) (w1_3 : World), I l lN lC w1_3 → F63_l3 t who r10 (fun l' lN' lC' w2 => I l' lN' lC' w2 ∧ m l' lN' lC' w2 < m l lN lC w1_3) l lN lC w1_3 R)

def pl63 : Plan := ⟨41, ⟨[]⟩, [], [(3, ⟨[(6, (.s .slice))], [(4, 5), (6, 41)]⟩)]⟩

theorem eq63 (t : Option Addr) (who : Int) (w : World) (R : Ending → World → Prop) : F63 t who w R = vc Tryz.prog Tryz.f63 pl63 R 100000 [.code (bodyOf Tryz.f63)] (argEnv 0 #[(.pointer t), (.int .i64 who)].toList) w := by kernel_rfl

theorem ok63 (t : Option Addr) (who : Int) {w : World} {R : Ending → World → Prop} (h : F63 t who w R) : Calls Tryz.prog 63 #[(.pointer t), (.int .i64 who)] w R :=
  vc_calls (pl := pl63) Tryz.func63 (by kernel_rfl) (by kernel_rfl) (by kernel_rfl) (Eq.mp (eq63 t who w R) h)

-- (*locks.Table).steps
def F28_l8 (t : Option Addr) (around : Int) (L8 : Option Addr → Nat → Nat → Int → World → Prop) (l : Option Addr) (lN : Nat) (lC : Nat) (p : Int) (w_3 : World) (R : Ending → World → Prop) : Prop :=
 Br (p != (0 : Int))
 (Al w_3 #[(.int .u64 p), (.int .i64 around)] 88 fun g48 w1_3 =>
 Raw Tryz.prog (Builtin.append_ #[85, 85] 85 #[(.slice l lN lC), (.slice (some g48) 1 1)]) w1_3 fun v2 w1_4 =>
 ∃ (x49 : Option Addr) (x49N : Nat) (x49C : Nat), v2 = (.slice x49 x49N x49C) ∧
 NonNil t fun p37 =>
 LdP (w1_4.cell? p37) fun x39 =>
 Calls Tryz.prog 53 #[(.pointer x39), (.int .u64 p)] w1_4 (post R fun v3 w1_5 =>
 ∃ (x41_0 : Int) (x41_1 : Int), v3 = (.tuple #[(.int .u64 x41_0), (.int .i64 x41_1)]) ∧
 L8 x49 x49N x49C x41_0 w1_5))
 (Al w_3 #[(.int .u64 0), (.int .i64 around)] 88 fun g53 w1_3 =>
 Raw Tryz.prog (Builtin.append_ #[85, 85] 85 #[(.slice l lN lC), (.slice (some g53) 1 1)]) w1_3 fun v2 w1_4 =>
 ∃ (x54 : Option Addr) (x54N : Nat) (x54C : Nat), v2 = (.slice x54 x54N x54C) ∧
 Calls Tryz.prog 54 #[(.slice x54 x54N x54C)] w1_4 (post R fun v3 w1_5 =>
 v3 = (.tuple #[]) ∧
 R (.returned (.slice x54 x54N x54C)) w1_5))

def F28_j7 (t : Option Addr) (n : Int) (g14 : Addr) (around : Int) (w_2 : World) (R : Ending → World → Prop) : Prop :=
 NonNil t fun p26 =>
 LdP (w_2.cell? p26) fun x28 =>
 Calls Tryz.prog 53 #[(.pointer x28), (.int .u64 n)] w_2 (post R fun v w1_2 =>
 ∃ (x30_0 : Int) (x30_1 : Int), v = (.tuple #[(.int .u64 x30_0), (.int .i64 x30_1)]) ∧
 ∃ (I : Option Addr → Nat → Nat → Int → World → Prop) (m : Option Addr → Nat → Nat → Int → World → Nat), I (some g14) 1 1 x30_0 w1_2 ∧
 ∀ (l : Option Addr) (lN : Nat) (lC : Nat) (p : Int) (w1_3 : World), I l lN lC p w1_3 → F28_l8 t around (fun l' lN' lC' p' w2 => I l' lN' lC' p' w2 ∧ m l' lN' lC' p' w2 < m l lN lC p w1_3) l lN lC p w1_3 R)

def F28 (t : Option Addr) (n : Int) (mode : Int) (w_ : World) (R : Ending → World → Prop) : Prop :=
 Al w_ #[(.int .u64 n), (.int .i64 mode)] 88 fun g14 w1 =>
 Br (n == (0 : Int))
 (R (.returned (.slice (some g14) 1 1)) w1)
 (∃ J7 : Int → World → Prop, (∀ (around : Int) (w1_2 : World), J7 around w1_2 → F28_j7 t n g14 around w1_2 R) ∧
 (Br (mode == (1 : Int))
 (J7 (1 : Int) w1)
 (Br (mode == (3 : Int))
 (J7 (1 : Int) w1)
 (J7 (2 : Int) w1))))

def pl28 : Plan := ⟨58, ⟨[]⟩, [(7, ⟨[(8, (.s (.int .i64)))], [(8, 24)]⟩)], [(8, ⟨[(7, (.s .slice)), (9, (.s (.int .u64)))], [(7, 8), (9, 50)]⟩)]⟩

theorem eq28 (t : Option Addr) (n : Int) (mode : Int) (w : World) (R : Ending → World → Prop) : F28 t n mode w R = vc Tryz.prog Tryz.f28 pl28 R 100000 [.code (bodyOf Tryz.f28)] (argEnv 0 #[(.pointer t), (.int .u64 n), (.int .i64 mode)].toList) w := by kernel_rfl

theorem ok28 (t : Option Addr) (n : Int) (mode : Int) {w : World} {R : Ending → World → Prop} (h : F28 t n mode w R) : Calls Tryz.prog 28 #[(.pointer t), (.int .u64 n), (.int .i64 mode)] w R :=
  vc_calls (pl := pl28) Tryz.func28 (by kernel_rfl) (by kernel_rfl) (by kernel_rfl) (Eq.mp (eq28 t n mode w R) h)

-- (*locks.Table).takes
def F60_j10 (L2 : Int → World → Prop) (x15 : Int) (w_3 : World) (R : Ending → World → Prop) : Prop :=
 InR .i64 (x15 + (1 : Int)) ∧ L2 (x15 + (1 : Int)) w_3

def F60_j9 (t : Option Addr) (who : Int) (J10 : World → Prop) (s : Addr) (x28 : Int) (w_3 : World) (R : Ending → World → Prop) : Prop :=
 LdI .u64 (w_3.cell? s) fun x68 =>
 Calls Tryz.prog 59 #[(.pointer t), (.int .i64 who), (.int .u64 x68), (.int .i64 x28)] w_3 (post R fun v3 w1_7 =>
 v3 = (.tuple #[]) ∧
 J10 w1_7)

def F60_l2 (t : Option Addr) (who : Int) (l : Option Addr) (lN : Nat) (lC : Nat) (g6 : Addr) (L2 : Int → World → Prop) (x15 : Int) (w_2 : World) (R : Ending → World → Prop) : Prop :=
 Br (decide (x15 < ((lN : Nat) : Int)))
 (∃ J10 : World → Prop, (∀  (w1_2 : World), J10 w1_2 → F60_j10 L2 x15 w1_2 R) ∧
 (IdxA l lN x15 2 fun q18 =>
 LdI .u64 (w_2.cell? q18) fun x19_0 =>
 LdI .i64 (w_2.cell? (q18.add 1)) fun x19_1 =>
 Al w_2 #[(.int .u64 0), (.int .i64 0)] 88 fun s w1_2 =>
 St w1_2 s (.int .u64 x19_0) fun w1_3 =>
 St w1_3 (s.add 1) (.int .i64 x19_1) fun w1_4 =>
 LdI .u64 (w1_4.cell? s) fun x23 =>
 Calls Tryz.prog 29 #[(.pointer t), (.int .i64 who), (.int .u64 x23)] w1_4 (post R fun v w1_5 =>
 ∃ (x24 : Int), v = (.int .i64 x24) ∧
 LdI .i64 (w1_5.cell? (s.add 1)) fun x27 =>
 Calls Tryz.prog 25 #[(.int .i64 x24), (.int .i64 x27)] w1_5 (post R fun v2 w1_6 =>
 ∃ (x28 : Int), v2 = (.int .i64 x28) ∧
 Br (x28 == x24)
 (J10 w1_6)
 (∃ J9 : World → Prop, (∀  (w1_7 : World), J9 w1_7 → F60_j9 t who J10 s x28 w1_7 R) ∧
 (∃ S : World → Prop, S w1_6.drew ∧ ∃ (x35 : Int), Held S s (.int .u64 x35) ∧ Calls Tryz.prog 58 #[(.pointer t), (.int .i64 who), (.int .u64 x35), (.int .i64 x28)] w1_6.drew (post R fun v3 w1_8 =>
 ∃ (x37 : Bool), v3 = (.bool x37) ∧
 S w1_8 ∧ Br (!x37)
 (∃ S2 : World → Prop, S2 w1_8.drew ∧ InR .i64 (x15 + (1 : Int)) ∧ SlB (x15 + (1 : Int)) ((lN : Nat) : Int) ((lC : Nat) : Int)
 (∃ (x64 : Int), Held S2 s (.int .u64 x64) ∧ St w1_8.drew g6 (.int .i64 who) fun w1_10 =>
 St w1_10 (g6.add 1) (.int .i64 x28) fun w1_11 =>
 St w1_11 (g6.add 2) (.bool (x24 != (0 : Int))) fun w1_12 =>
 St w1_12 (g6.add 3) (.slice (SlA l lC ((x15 + (1 : Int))).toNat 2) ((((lN : Nat) : Int)).toNat - ((x15 + (1 : Int))).toNat) (lC - ((x15 + (1 : Int))).toNat)) fun w1_13 =>
 S2 w1_13 ∧ LdI .i64 (w1_13.cell? g6) fun res0_0 =>
 LdI .i64 (w1_13.cell? (g6.add 1)) fun res0_1 =>
 LdB (w1_13.cell? (g6.add 2)) fun res0_2 =>
 LdSl (w1_13.cell? (g6.add 3)) fun res0_3 res0_3N res0_3C =>
 R (.returned (.tuple #[(.agg #[(.int .i64 res0_0), (.int .i64 res0_1), (.bool res0_2), (.slice res0_3 res0_3N res0_3C)]), (.int .u64 x64), (.bool false)])) w1_13))
 (NonNil t fun p41 =>
 ∃ (x43 : Option Nat), Held S (p41.add 3) (.map x43) ∧ ∃ (x45 : Int), Held S s (.int .u64 x45) ∧ Raw Tryz.prog (Instr.lookup 78 (.map x43) (.int .u64 x45) false) w1_8 fun v4 w1_9 =>
 ∃ (x46 : Option Addr) (x46N : Nat) (x46C : Nat), v4 = (.slice x46 x46N x46C) ∧
 Br (decide (((x46N : Nat) : Int) > (0 : Int)))
 (Br (x24 == (0 : Int))
 (∃ S2 : World → Prop, S2 w1_9.drew ∧ InR .i64 (x15 + (1 : Int)) ∧ SlB (x15 + (1 : Int)) ((lN : Nat) : Int) ((lC : Nat) : Int)
 (∃ (x64 : Int), Held S2 s (.int .u64 x64) ∧ St w1_9.drew g6 (.int .i64 who) fun w1_11 =>
 St w1_11 (g6.add 1) (.int .i64 x28) fun w1_12 =>
 St w1_12 (g6.add 2) (.bool (x24 != (0 : Int))) fun w1_13 =>
 St w1_13 (g6.add 3) (.slice (SlA l lC ((x15 + (1 : Int))).toNat 2) ((((lN : Nat) : Int)).toNat - ((x15 + (1 : Int))).toNat) (lC - ((x15 + (1 : Int))).toNat)) fun w1_14 =>
 S2 w1_14 ∧ LdI .i64 (w1_14.cell? g6) fun res0_0 =>
 LdI .i64 (w1_14.cell? (g6.add 1)) fun res0_1 =>
 LdB (w1_14.cell? (g6.add 2)) fun res0_2 =>
 LdSl (w1_14.cell? (g6.add 3)) fun res0_3 res0_3N res0_3C =>
 R (.returned (.tuple #[(.agg #[(.int .i64 res0_0), (.int .i64 res0_1), (.bool res0_2), (.slice res0_3 res0_3N res0_3C)]), (.int .u64 x64), (.bool false)])) w1_14))
 (J9 w1_9))
 (J9 w1_9)))))))))
 (St w_2 g6 (.int .i64 0) fun w1_2 =>
 St w1_2 (g6.add 1) (.int .i64 0) fun w1_3 =>
 St w1_3 (g6.add 2) (.bool false) fun w1_4 =>
 St w1_4 (g6.add 3) (.slice none 0 0) fun w1_5 =>
 LdI .i64 (w1_5.cell? g6) fun res0_0 =>
 LdI .i64 (w1_5.cell? (g6.add 1)) fun res0_1 =>
 LdB (w1_5.cell? (g6.add 2)) fun res0_2 =>
 LdSl (w1_5.cell? (g6.add 3)) fun res0_3 res0_3N res0_3C =>
 R (.returned (.tuple #[(.agg #[(.int .i64 res0_0), (.int .i64 res0_1), (.bool res0_2), (.slice res0_3 res0_3N res0_3C)]), (.int .u64 0), (.bool true)])) w1_5)

def F60 (t : Option Addr) (who : Int) (l : Option Addr) (lN : Nat) (lC : Nat) (w_ : World) (R : Ending → World → Prop) : Prop :=
 Al w_ #[(.int .i64 0), (.int .i64 0), (.bool false), (.slice none 0 0)] 92 fun g6 w1 =>
 ∃ (I : Int → World → Prop) (m : Int → World → Nat), I (0 : Int) w1 ∧
 ∀ (x15 : Int) (w1_2 : World), I x15 w1_2 → F60_l2 t who l lN lC g6 (fun x15' w2 => I x15' w2 ∧ m x15' w2 < m x15 w1_2) x15 w1_2 R

def pl60 : Plan := ⟨73, ⟨[]⟩, [(9, ⟨[], [(7, 9), (32, 65)]⟩), (10, ⟨[], [(7, 13), (17, 71)]⟩)], [(2, ⟨[(15, (.s (.int .i64)))], [(7, 13), (15, 72)]⟩)]⟩

theorem eq60 (t : Option Addr) (who : Int) (l : Option Addr) (lN : Nat) (lC : Nat) (w : World) (R : Ending → World → Prop) : F60 t who l lN lC w R = vc Tryz.prog Tryz.f60 pl60 R 100000 [.code (bodyOf Tryz.f60)] (argEnv 0 #[(.pointer t), (.int .i64 who), (.slice l lN lC)].toList) w := by kernel_rfl

theorem ok60 (t : Option Addr) (who : Int) (l : Option Addr) (lN : Nat) (lC : Nat) {w : World} {R : Ending → World → Prop} (h : F60 t who l lN lC w R) : Calls Tryz.prog 60 #[(.pointer t), (.int .i64 who), (.slice l lN lC)] w R :=
  vc_calls (pl := pl60) Tryz.func60 (by kernel_rfl) (by kernel_rfl) (by kernel_rfl) (Eq.mp (eq60 t who l lN lC w R) h)

-- (*locks.Table).unwait
def F57_l2 (t : Option Addr) (who2 : Addr) (it10 : Nat) (L2 : World → Prop) (w_2 : World) (R : Ending → World → Prop) : Prop :=
 Raw Tryz.prog (Instr.next (.pointer (some ⟨it10, 0, none⟩)) false 0) w_2 fun v2 w1_3 => (v2 = .tuple #[.bool false] ∧
 R (.returned (.tuple #[])) w1_3) ∨ (∃ (k : Value) (e : Value), v2 = .tuple #[.bool true, k, e] ∧
 Raw Tryz.prog (Instr.entry (.pointer (some ⟨it10, 0, none⟩))) w1_3 fun v3 w1_4 =>
 ∃ (x13_0 : Int) (x13_1 : Option Addr) (x13_1N : Nat) (x13_1C : Nat), v3 = .tuple #[(.int .u64 x13_0), (.slice x13_1 x13_1N x13_1C)] ∧
 ∃ S : World → Prop, S w1_4.drew ∧ NonNil t fun p17 =>
 ∃ (x19 : Option Nat), Held S (p17.add 3) (.map x19) ∧ Calls Tryz.prog 91 #[(.slice x13_1 x13_1N x13_1C), (.func (.func 92) #[] #[(.pointer (some who2))])] w1_4.drew (post R fun v4 w1_6 =>
 ∃ (x23 : Option Addr) (x23N : Nat) (x23C : Nat), v4 = (.slice x23 x23N x23C) ∧
 S w1_6 ∧ Raw Tryz.prog (Instr.mapUpdate 78 (.map x19) (.int .u64 x13_0) (.slice x23 x23N x23C)) w1_6 fun _ w1_7 =>
 L2 w1_7))

def F57 (t : Option Addr) (who : Int) (w_ : World) (R : Ending → World → Prop) : Prop :=
 Al w_ #[(.int .i64 who)] 3 fun who2 w1 =>
 NonNil t fun p7 =>
 LdM (w1.cell? (p7.add 3)) fun x9 =>
 Raw Tryz.prog (Instr.range 78 (.map x9)) w1 fun v w1_2 => ∃ it10 : Nat, v = .pointer (some ⟨it10, 0, none⟩) ∧
 ∃ (I : World → Prop) (m : World → Nat), I  w1_2 ∧
 ∀  (w1_3 : World), I  w1_3 → F57_l2 t who2 it10 (fun  w2 => I  w2 ∧ m  w2 < m  w1_3)  w1_3 R

def pl57 : Plan := ⟨24, ⟨[]⟩, [], [(2, ⟨[], [(4, 6), (11, 24)]⟩)]⟩

theorem eq57 (t : Option Addr) (who : Int) (w : World) (R : Ending → World → Prop) : F57 t who w R = vc Tryz.prog Tryz.f57 pl57 R 100000 [.code (bodyOf Tryz.f57)] (argEnv 0 #[(.pointer t), (.int .i64 who)].toList) w := by kernel_rfl

theorem ok57 (t : Option Addr) (who : Int) {w : World} {R : Ending → World → Prop} (h : F57 t who w R) : Calls Tryz.prog 57 #[(.pointer t), (.int .i64 who)] w R :=
  vc_calls (pl := pl57) Tryz.func57 (by kernel_rfl) (by kernel_rfl) (by kernel_rfl) (Eq.mp (eq57 t who w R) h)

-- (*locks.Table).unwait$1
def F92 (w_0 : Int) (w_1 : Int) (w_2 : Bool) (w_3 : Option Addr) (w_3N : Nat) (w_3C : Nat) (cap0 : Addr) (w_ : World) (R : Ending → World → Prop) : Prop :=
 Al w_ #[(.int .i64 w_0), (.int .i64 w_1), (.bool w_2), (.slice w_3 w_3N w_3C)] 92 fun w_4 w1 =>
 LdI .i64 (w1.cell? w_4) fun x5 =>
 LdI .i64 (w1.cell? cap0) fun x6 =>
 R (.returned (.bool (x5 == x6))) w1

def pl92 : Plan := ⟨8, ⟨[]⟩, [], []⟩

theorem eq92 (w_0 : Int) (w_1 : Int) (w_2 : Bool) (w_3 : Option Addr) (w_3N : Nat) (w_3C : Nat) (cap0 : Addr) (w : World) (R : Ending → World → Prop) : F92 w_0 w_1 w_2 w_3 w_3N w_3C cap0 w R = vc Tryz.prog Tryz.f92 pl92 R 100000 [.code (bodyOf Tryz.f92)] (argEnv 0 #[(.agg #[(.int .i64 w_0), (.int .i64 w_1), (.bool w_2), (.slice w_3 w_3N w_3C)]), (.pointer (some cap0))].toList) w := by kernel_rfl

theorem ok92 (w_0 : Int) (w_1 : Int) (w_2 : Bool) (w_3 : Option Addr) (w_3N : Nat) (w_3C : Nat) (cap0 : Addr) {w : World} {R : Ending → World → Prop} (h : F92 w_0 w_1 w_2 w_3 w_3N w_3C cap0 w R) : Calls Tryz.prog 92 #[(.agg #[(.int .i64 w_0), (.int .i64 w_1), (.bool w_2), (.slice w_3 w_3N w_3C)]), (.pointer (some cap0))] w R :=
  vc_calls (pl := pl92) Tryz.func92 (by kernel_rfl) (by kernel_rfl) (by kernel_rfl) (Eq.mp (eq92 w_0 w_1 w_2 w_3 w_3N w_3C cap0 w R) h)

-- (*locks.Table).wait
def F61_j7 (t : Option Addr) (at_ : Int) (w_4 : Addr) (x13 : Option Addr) (x13N : Nat) (x13C : Nat) (i : Int) (w_5 : World) (R : Ending → World → Prop) : Prop :=
 ∃ S : World → Prop, S w_5.drew ∧ NonNil t fun p32 =>
 ∃ (x34 : Option Nat), Held S (p32.add 3) (.map x34) ∧ ∃ (x38_0 : Int), Held S w_4 (.int .i64 x38_0) ∧ ∃ (x38_1 : Int), Held S (w_4.add 1) (.int .i64 x38_1) ∧ ∃ (x38_2 : Bool), Held S (w_4.add 2) (.bool x38_2) ∧ ∃ (x38_3 : Option Addr) (x38_3N : Nat) (x38_3C : Nat), Held S (w_4.add 3) (.slice x38_3 x38_3N x38_3C) ∧ Al w_5.drew #[(.int .i64 x38_0), (.int .i64 x38_1), (.bool x38_2), (.slice x38_3 x38_3N x38_3C)] 92 fun g39 w1_4 =>
 S w1_4 ∧ Calls Tryz.prog 98 #[(.slice x13 x13N x13C), (.int .i64 i), (.slice (some g39) 1 1)] w1_4 (post R fun v2 w1_5 =>
 ∃ (x40 : Option Addr) (x40N : Nat) (x40C : Nat), v2 = (.slice x40 x40N x40C) ∧
 S w1_5 ∧ Raw Tryz.prog (Instr.mapUpdate 78 (.map x34) (.int .u64 at_) (.slice x40 x40N x40C)) w1_5 fun _ w1_6 =>
 R (.returned (.tuple #[])) w1_6)

def F61_l5 (x13 : Option Addr) (x13N : Nat) (J7 : Int → World → Prop) (L5 : Int → World → Prop) (i : Int) (w_5 : World) (R : Ending → World → Prop) : Prop :=
 Br (decide (i < ((x13N : Nat) : Int)))
 (IdxA x13 x13N i 4 fun q25 =>
 LdB (w_5.cell? (q25.add 2)) fun x27 =>
 Br x27
 (InR .i64 (i + (1 : Int)) ∧ L5 (i + (1 : Int)) w_5)
 (J7 i w_5))
 (J7 i w_5)

def F61 (t : Option Addr) (w_0 : Int) (w_1 : Int) (w_2 : Bool) (w_3 : Option Addr) (w_3N : Nat) (w_3C : Nat) (at_ : Int) (w_ : World) (R : Ending → World → Prop) : Prop :=
 Al w_ #[(.int .i64 w_0), (.int .i64 w_1), (.bool w_2), (.slice w_3 w_3N w_3C)] 92 fun w_4 w1 =>
 NonNil t fun p9 =>
 LdM (w1.cell? (p9.add 3)) fun x11 =>
 Raw Tryz.prog (Instr.lookup 78 (.map x11) (.int .u64 at_) false) w1 fun v w1_2 =>
 ∃ (x13 : Option Addr) (x13N : Nat) (x13C : Nat), v = (.slice x13 x13N x13C) ∧
 ∃ J7 : Int → World → Prop, (∀ (i : Int) (w1_3 : World), J7 i w1_3 → F61_j7 t at_ w_4 x13 x13N x13C i w1_3 R) ∧
 (LdB (w1_2.cell? (w_4.add 2)) fun x17 =>
 Br x17
 (∃ (I : Int → World → Prop) (m : Int → World → Nat), I (0 : Int) w1_2 ∧
 ∀ (i : Int) (w1_3 : World), I i w1_3 → F61_l5 x13 x13N J7 (fun i' w2 => I i' w2 ∧ m i' w2 < m i w1_3) i w1_3 R)
 (J7 ((x13N : Nat) : Int) w1_2))

def pl61 : Plan := ⟨41, ⟨[]⟩, [(7, ⟨[(7, (.s (.int .i64)))], [(7, 31)]⟩)], [(5, ⟨[(7, (.s (.int .i64)))], [(7, 31)]⟩)]⟩

theorem eq61 (t : Option Addr) (w_0 : Int) (w_1 : Int) (w_2 : Bool) (w_3 : Option Addr) (w_3N : Nat) (w_3C : Nat) (at_ : Int) (w : World) (R : Ending → World → Prop) : F61 t w_0 w_1 w_2 w_3 w_3N w_3C at_ w R = vc Tryz.prog Tryz.f61 pl61 R 100000 [.code (bodyOf Tryz.f61)] (argEnv 0 #[(.pointer t), (.agg #[(.int .i64 w_0), (.int .i64 w_1), (.bool w_2), (.slice w_3 w_3N w_3C)]), (.int .u64 at_)].toList) w := by kernel_rfl

theorem ok61 (t : Option Addr) (w_0 : Int) (w_1 : Int) (w_2 : Bool) (w_3 : Option Addr) (w_3N : Nat) (w_3C : Nat) (at_ : Int) {w : World} {R : Ending → World → Prop} (h : F61 t w_0 w_1 w_2 w_3 w_3N w_3C at_ w R) : Calls Tryz.prog 61 #[(.pointer t), (.agg #[(.int .i64 w_0), (.int .i64 w_1), (.bool w_2), (.slice w_3 w_3N w_3C)]), (.int .u64 at_)] w R :=
  vc_calls (pl := pl61) Tryz.func61 (by kernel_rfl) (by kernel_rfl) (by kernel_rfl) (Eq.mp (eq61 t w_0 w_1 w_2 w_3 w_3N w_3C at_ w R) h)

-- (*locks.Table).waiting
def F62_l2 (who2 : Addr) (it14 : Nat) (L2 : World → Prop) (w_2 : World) (R : Ending → World → Prop) : Prop :=
 Raw Tryz.prog (Instr.next (.pointer (some ⟨it14, 0, none⟩)) false 0) w_2 fun v2 w1_3 => (v2 = .tuple #[.bool false] ∧
 R (.returned (.tuple #[(.int .u64 0), (.int .i64 0), (.bool false)])) w1_3) ∨ (∃ (k : Value) (e : Value), v2 = .tuple #[.bool true, k, e] ∧
 Raw Tryz.prog (Instr.entry (.pointer (some ⟨it14, 0, none⟩))) w1_3 fun v3 w1_4 =>
 ∃ (x17_0 : Int) (x17_1 : Option Addr) (x17_1N : Nat) (x17_1C : Nat), v3 = .tuple #[(.int .u64 x17_0), (.slice x17_1 x17_1N x17_1C)] ∧
 Calls Tryz.prog 99 #[(.slice x17_1 x17_1N x17_1C), (.func (.func 100) #[] #[(.pointer (some who2))])] w1_4 (post R fun v4 w1_5 =>
 ∃ (x22 : Int), v4 = (.int .i64 x22) ∧
 Br (decide (x22 ≥ (0 : Int)))
 (R (.returned (.tuple #[(.int .u64 x17_0), (.int .i64 x22), (.bool true)])) w1_5)
 (L2 w1_5)))

def F62 (t : Option Addr) (who : Int) (w_ : World) (R : Ending → World → Prop) : Prop :=
 Al w_ #[(.int .i64 who)] 3 fun who2 w1 =>
 NonNil t fun p11 =>
 LdM (w1.cell? (p11.add 3)) fun x13 =>
 Raw Tryz.prog (Instr.range 78 (.map x13)) w1 fun v w1_2 => ∃ it14 : Nat, v = .pointer (some ⟨it14, 0, none⟩) ∧
 ∃ (I : World → Prop) (m : World → Nat), I  w1_2 ∧
 ∀  (w1_3 : World), I  w1_3 → F62_l2 who2 it14 (fun  w2 => I  w2 ∧ m  w2 < m  w1_3)  w1_3 R

def pl62 : Plan := ⟨27, ⟨[]⟩, [], [(2, ⟨[], [(4, 10), (15, 27)]⟩)]⟩

theorem eq62 (t : Option Addr) (who : Int) (w : World) (R : Ending → World → Prop) : F62 t who w R = vc Tryz.prog Tryz.f62 pl62 R 100000 [.code (bodyOf Tryz.f62)] (argEnv 0 #[(.pointer t), (.int .i64 who)].toList) w := by kernel_rfl

theorem ok62 (t : Option Addr) (who : Int) {w : World} {R : Ending → World → Prop} (h : F62 t who w R) : Calls Tryz.prog 62 #[(.pointer t), (.int .i64 who)] w R :=
  vc_calls (pl := pl62) Tryz.func62 (by kernel_rfl) (by kernel_rfl) (by kernel_rfl) (Eq.mp (eq62 t who w R) h)

-- (*locks.Table).waiting$1
def F100 (w_0 : Int) (w_1 : Int) (w_2 : Bool) (w_3 : Option Addr) (w_3N : Nat) (w_3C : Nat) (cap0 : Addr) (w_ : World) (R : Ending → World → Prop) : Prop :=
 Al w_ #[(.int .i64 w_0), (.int .i64 w_1), (.bool w_2), (.slice w_3 w_3N w_3C)] 92 fun w_4 w1 =>
 LdI .i64 (w1.cell? w_4) fun x5 =>
 LdI .i64 (w1.cell? cap0) fun x6 =>
 R (.returned (.bool (x5 == x6))) w1

def pl100 : Plan := ⟨8, ⟨[]⟩, [], []⟩

theorem eq100 (w_0 : Int) (w_1 : Int) (w_2 : Bool) (w_3 : Option Addr) (w_3N : Nat) (w_3C : Nat) (cap0 : Addr) (w : World) (R : Ending → World → Prop) : F100 w_0 w_1 w_2 w_3 w_3N w_3C cap0 w R = vc Tryz.prog Tryz.f100 pl100 R 100000 [.code (bodyOf Tryz.f100)] (argEnv 0 #[(.agg #[(.int .i64 w_0), (.int .i64 w_1), (.bool w_2), (.slice w_3 w_3N w_3C)]), (.pointer (some cap0))].toList) w := by kernel_rfl

theorem ok100 (w_0 : Int) (w_1 : Int) (w_2 : Bool) (w_3 : Option Addr) (w_3N : Nat) (w_3C : Nat) (cap0 : Addr) {w : World} {R : Ending → World → Prop} (h : F100 w_0 w_1 w_2 w_3 w_3N w_3C cap0 w R) : Calls Tryz.prog 100 #[(.agg #[(.int .i64 w_0), (.int .i64 w_1), (.bool w_2), (.slice w_3 w_3N w_3C)]), (.pointer (some cap0))] w R :=
  vc_calls (pl := pl100) Tryz.func100 (by kernel_rfl) (by kernel_rfl) (by kernel_rfl) (Eq.mp (eq100 w_0 w_1 w_2 w_3 w_3N w_3C cap0 w R) h)

-- locks.Both
def F9_j3 (a : Int) (b : Int) (w_2 : World) (R : Ending → World → Prop) : Prop :=
 Calls Tryz.prog 25 #[(.int .i64 a), (.int .i64 b)] w_2 (post R fun v w1 =>
 ∃ (x15 : Int), v = (.int .i64 x15) ∧
 R (.returned (.int .i64 x15)) w1)

def F9 (a : Int) (b : Int) (w_ : World) (R : Ending → World → Prop) : Prop :=
 ∃ J3 : World → Prop, (∀  (w1 : World), J3 w1 → F9_j3 a b w1 R) ∧
 (Calls Tryz.prog 24 #[(.int .i64 a)] w_ (post R fun v w1 =>
 ∃ (x6 : Bool), v = (.bool x6) ∧
 Br (!x6)
 (R (.returned (.int .i64 0)) w1)
 (Calls Tryz.prog 24 #[(.int .i64 b)] w1 (post R fun v2 w1_2 =>
 ∃ (x10 : Bool), v2 = (.bool x10) ∧
 Br (!x10)
 (R (.returned (.int .i64 0)) w1_2)
 (J3 w1_2)))))

def pl9 : Plan := ⟨16, ⟨[]⟩, [(3, ⟨[], [(4, 13)]⟩)], []⟩

theorem eq9 (a : Int) (b : Int) (w : World) (R : Ending → World → Prop) : F9 a b w R = vc Tryz.prog Tryz.f9 pl9 R 100000 [.code (bodyOf Tryz.f9)] (argEnv 0 #[(.int .i64 a), (.int .i64 b)].toList) w := by kernel_rfl

theorem ok9 (a : Int) (b : Int) {w : World} {R : Ending → World → Prop} (h : F9 a b w R) : Calls Tryz.prog 9 #[(.int .i64 a), (.int .i64 b)] w R :=
  vc_calls (pl := pl9) Tryz.func9 (by kernel_rfl) (by kernel_rfl) (by kernel_rfl) (Eq.mp (eq9 a b w R) h)

-- locks.Fits
def F10 (a : Int) (b : Int) (w_ : World) (R : Ending → World → Prop) : Prop :=
 Calls Tryz.prog 24 #[(.int .i64 a)] w_ (post R fun v w1 =>
 ∃ (x6 : Bool), v = (.bool x6) ∧
 Br x6
 (Calls Tryz.prog 24 #[(.int .i64 b)] w1 (post R fun v2 w1_2 =>
 ∃ (x9 : Bool), v2 = (.bool x9) ∧
 Br x9
 (Calls Tryz.prog 26 #[(.int .i64 a), (.int .i64 b)] w1_2 (post R fun v3 w1_3 =>
 ∃ (x14 : Bool), v3 = (.bool x14) ∧
 R (.returned (.bool x14)) w1_3))
 (R (.returned (.bool false)) w1_2)))
 (R (.returned (.bool false)) w1))

def pl10 : Plan := ⟨16, ⟨[]⟩, [], []⟩

theorem eq10 (a : Int) (b : Int) (w : World) (R : Ending → World → Prop) : F10 a b w R = vc Tryz.prog Tryz.f10 pl10 R 100000 [.code (bodyOf Tryz.f10)] (argEnv 0 #[(.int .i64 a), (.int .i64 b)].toList) w := by kernel_rfl

theorem ok10 (a : Int) (b : Int) {w : World} {R : Ending → World → Prop} (h : F10 a b w R) : Calls Tryz.prog 10 #[(.int .i64 a), (.int .i64 b)] w R :=
  vc_calls (pl := pl10) Tryz.func10 (by kernel_rfl) (by kernel_rfl) (by kernel_rfl) (Eq.mp (eq10 a b w R) h)

-- locks.New
def F20 (d : Option Addr) (w_ : World) (R : Ending → World → Prop) : Prop :=
 Calls Tryz.prog 42 #[(.pointer d)] w_ (post R fun v w1 =>
 ∃ (x5_0 : Option Addr) (x5_1 : Int), v = (.tuple #[(.pointer x5_0), (.int .i64 x5_1)]) ∧
 R (.returned (.tuple #[(.pointer x5_0), (.int .i64 x5_1)])) w1)

def pl20 : Plan := ⟨8, ⟨[]⟩, [], []⟩

theorem eq20 (d : Option Addr) (w : World) (R : Ending → World → Prop) : F20 d w R = vc Tryz.prog Tryz.f20 pl20 R 100000 [.code (bodyOf Tryz.f20)] (argEnv 0 #[(.pointer d)].toList) w := by kernel_rfl

theorem ok20 (d : Option Addr) {w : World} {R : Ending → World → Prop} (h : F20 d w R) : Calls Tryz.prog 20 #[(.pointer d)] w R :=
  vc_calls (pl := pl20) Tryz.func20 (by kernel_rfl) (by kernel_rfl) (by kernel_rfl) (Eq.mp (eq20 d w R) h)

-- locks.begun
def F42 (d : Option Addr) (w_ : World) (R : Ending → World → Prop) : Prop :=
 Br (d).isNone
 (R (.returned (.tuple #[(.pointer none), (.int .i64 1)])) w_)
 (Calls Tryz.prog 81 #[(.pointer d)] w_ (post R fun v w1 =>
 ∃ (x10 : Option Addr), v = (.pointer x10) ∧
 AlM w1 fun r11 w1_2 =>
 AlM w1_2 fun r12 w1_3 =>
 Al w1_3 #[(.pointer x10), (.slice none 0 0), (.map (some r11)), (.map (some r12))] 80 fun g14 w1_4 =>
 LdP (w1_4.cell? g14) fun x19 =>
 Calls Tryz.prog 23 #[(.pointer x19), (.int .u64 0)] w1_4 (post R fun v2 w1_5 =>
 ∃ (x20_0 : Option Addr) (x20_0N : Nat) (x20_0C : Nat) (x20_1 : Int), v2 = (.tuple #[(.slice x20_0 x20_0N x20_0C), (.int .i64 x20_1)]) ∧
 Al w1_5 #[(.int .u64 0)] 41 fun g24 w1_6 =>
 Raw Tryz.prog (Builtin.append_ #[27, 27] 27 #[(.slice (some g24) 1 1), (.slice x20_0 x20_0N x20_0C)]) w1_6 fun v3 w1_7 =>
 ∃ (x26 : Option Addr) (x26N : Nat) (x26C : Nat), v3 = (.slice x26 x26N x26C) ∧
 St w1_7 (g14.add 1) (.slice x26 x26N x26C) fun w1_8 =>
 R (.returned (.tuple #[(.pointer (some g14)), (.int .i64 0)])) w1_8)))

def pl42 : Plan := ⟨30, ⟨[]⟩, [], []⟩

theorem eq42 (d : Option Addr) (w : World) (R : Ending → World → Prop) : F42 d w R = vc Tryz.prog Tryz.f42 pl42 R 100000 [.code (bodyOf Tryz.f42)] (argEnv 0 #[(.pointer d)].toList) w := by kernel_rfl

theorem ok42 (d : Option Addr) {w : World} {R : Ending → World → Prop} (h : F42 d w R) : Calls Tryz.prog 42 #[(.pointer d)] w R :=
  vc_calls (pl := pl42) Tryz.func42 (by kernel_rfl) (by kernel_rfl) (by kernel_rfl) (Eq.mp (eq42 d w R) h)

-- locks.both
def F25_j5 (b2 : Int) (w_3 : World) (R : Ending → World → Prop) : Prop :=
 R (.returned (.int .i64 b2)) w_3

def F25_j3 (a2 : Int) (b2 : Int) (w_2 : World) (R : Ending → World → Prop) : Prop :=
 ∃ J5 : World → Prop, (∀  (w1 : World), J5 w1 → F25_j5 b2 w1 R) ∧
 (Br (a2 == (2 : Int))
 (Br (b2 == (3 : Int))
 (R (.returned (.int .i64 4)) w_2)
 (J5 w_2))
 (J5 w_2))

def F25 (a : Int) (b : Int) (w_ : World) (R : Ending → World → Prop) : Prop :=
 ∃ J3 : Int → Int → World → Prop, (∀ (a2 : Int) (b2 : Int) (w1 : World), J3 a2 b2 w1 → F25_j3 a2 b2 w1 R) ∧
 (Br (decide (a > b))
 (J3 b a w_)
 (J3 a b w_))

def pl25 : Plan := ⟨17, ⟨[]⟩, [(5, ⟨[], [(4, 16)]⟩), (3, ⟨[(0, (.s (.int .i64))), (1, (.s (.int .i64)))], [(0, 10)]⟩)], []⟩

theorem eq25 (a : Int) (b : Int) (w : World) (R : Ending → World → Prop) : F25 a b w R = vc Tryz.prog Tryz.f25 pl25 R 100000 [.code (bodyOf Tryz.f25)] (argEnv 0 #[(.int .i64 a), (.int .i64 b)].toList) w := by kernel_rfl

theorem ok25 (a : Int) (b : Int) {w : World} {R : Ending → World → Prop} (h : F25 a b w R) : Calls Tryz.prog 25 #[(.int .i64 a), (.int .i64 b)] w R :=
  vc_calls (pl := pl25) Tryz.func25 (by kernel_rfl) (by kernel_rfl) (by kernel_rfl) (Eq.mp (eq25 a b w R) h)

-- locks.fits
def F26_j3 (a2 : Int) (b2 : Int) (w_2 : World) (R : Ending → World → Prop) : Prop :=
 Br (a2 == (1 : Int))
 (R (.returned (.bool (b2 != (5 : Int)))) w_2)
 (Br (a2 == (2 : Int))
 (R (.returned (.bool (b2 == (2 : Int)))) w_2)
 (Br (a2 == (3 : Int))
 (R (.returned (.bool (b2 == (3 : Int)))) w_2)
 (R (.returned (.bool false)) w_2)))

def F26 (a : Int) (b : Int) (w_ : World) (R : Ending → World → Prop) : Prop :=
 ∃ J3 : Int → Int → World → Prop, (∀ (a2 : Int) (b2 : Int) (w1 : World), J3 a2 b2 w1 → F26_j3 a2 b2 w1 R) ∧
 (Br (decide (a > b))
 (J3 b a w_)
 (J3 a b w_))

def pl26 : Plan := ⟨23, ⟨[]⟩, [(3, ⟨[(0, (.s (.int .i64))), (1, (.s (.int .i64)))], [(0, 10)]⟩)], []⟩

theorem eq26 (a : Int) (b : Int) (w : World) (R : Ending → World → Prop) : F26 a b w R = vc Tryz.prog Tryz.f26 pl26 R 100000 [.code (bodyOf Tryz.f26)] (argEnv 0 #[(.int .i64 a), (.int .i64 b)].toList) w := by kernel_rfl

theorem ok26 (a : Int) (b : Int) {w : World} {R : Ending → World → Prop} (h : F26 a b w R) : Calls Tryz.prog 26 #[(.int .i64 a), (.int .i64 b)] w R :=
  vc_calls (pl := pl26) Tryz.func26 (by kernel_rfl) (by kernel_rfl) (by kernel_rfl) (Eq.mp (eq26 a b w R) h)

-- locks.known
def F24 (mode : Int) (w_ : World) (R : Ending → World → Prop) : Prop :=
 Br (decide (mode ≥ (1 : Int)))
 (R (.returned (.bool (decide (mode ≤ (5 : Int))))) w_)
 (R (.returned (.bool false)) w_)

def pl24 : Plan := ⟨9, ⟨[]⟩, [], []⟩

theorem eq24 (mode : Int) (w : World) (R : Ending → World → Prop) : F24 mode w R = vc Tryz.prog Tryz.f24 pl24 R 100000 [.code (bodyOf Tryz.f24)] (argEnv 0 #[(.int .i64 mode)].toList) w := by kernel_rfl

theorem ok24 (mode : Int) {w : World} {R : Ending → World → Prop} (h : F24 mode w R) : Calls Tryz.prog 24 #[(.int .i64 mode)] w R :=
  vc_calls (pl := pl24) Tryz.func24 (by kernel_rfl) (by kernel_rfl) (by kernel_rfl) (Eq.mp (eq24 mode w R) h)

-- (*espalierref28.Table).Behind
-- (*espalierref28.Table).Free
-- (*espalierref28.Table).Held
-- (*espalierref28.Table).Lock
-- (*espalierref28.Table).May
-- (*espalierref28.Table).Waiting
-- (*espalierref28.Table).around
-- (*espalierref28.Table).away
-- (*espalierref28.Table).can
-- (*espalierref28.Table).fits
-- (*espalierref28.Table).look
-- (*espalierref28.Table).place
-- (*espalierref28.Table).queue
-- (*espalierref28.Table).ring
-- (*espalierref28.Table).steps
-- (*espalierref28.Table).take
-- (*espalierref28.Table).waits
-- (*espalierref28.Table).walk
-- espalierref28.Both
-- espalierref28.Fits
-- espalierref28.New
-- espalierref28.mode
-- espalierref28.owner
end Go.Proofs.YtfhkgnfphfmhiaaGreatDoor
/- Locks: modes: which fit together, which is the least that is both; by both sides. -/
namespace Go.Proofs.YtfhkgnfphfmhiaaGreatDoor
open Go.RowKit Go.Vc
set_option linter.unusedSimpArgs false
def knownB (m : Int) : Bool := decide (1 ≤ m ∧ m ≤ 5)
def fits0 (a b : Int) : Bool := if a = 1 then b != 5 else if a = 2 then b == 2 else if a = 3 then b == 3 else false
def fitsL (a b : Int) : Bool := if a > b then fits0 b a else fits0 a b
def bothL (a b : Int) : Int := if a > b then (if b = 2 ∧ a = 3 then 4 else a) else (if a = 2 ∧ b = 3 then 4 else b)
def FitsL (a b : Int) : Bool := knownB a && knownB b && fitsL a b
def BothL (a b : Int) : Int := if knownB a = true ∧ knownB b = true then bothL a b else 0
section
variable {w : World} {R : Ending → World → Prop}
theorem known_F {m : Int} (h : R (.returned (.bool (knownB m))) w) : Br (decide (m ≥ (1 : Int))) (R (.returned (.bool (decide (m ≤ (5 : Int))))) w) (R (.returned (.bool false)) w) := by
  unfold knownB at h
  refine brd (fun h1 => ?_) (fun h1 => ?_)
  · rw [show decide (1 ≤ m ∧ m ≤ 5) = decide (m ≤ 5) by rw [decide_eq_decide]; omega] at h; exact h
  · rw [decide_eq_false (by omega)] at h; exact h
theorem known_calls {m : Int} (h : R (.returned (.bool (knownB m))) w) : Calls Tryz.prog 24 #[.int .i64 m] w R := ok24 m (known_F h)
theorem fits_calls {a b : Int} (h : R (.returned (.bool (fitsL a b))) w) : Calls Tryz.prog 26 #[.int .i64 a, .int .i64 b] w R := by
  refine ok26 a b ?_
  unfold F26
  refine ⟨fun x y w' => w = w' ∧ fits0 x y = fitsL a b, ?_, ?_⟩
  · rintro x y _ ⟨rfl, e⟩
    unfold F26_j3
    rw [← e] at h
    unfold fits0 at h
    refine bre (fun h1 => ?_) (fun h1 => ?_)
    · rw [if_pos h1] at h; exact h
    rw [if_neg h1] at h
    refine bre (fun h1 => ?_) (fun h1 => ?_)
    · rw [if_pos h1] at h; exact h
    rw [if_neg h1] at h
    refine bre (fun h1 => ?_) (fun h1 => ?_)
    · rw [if_pos h1] at h; exact h
    rw [if_neg h1] at h
    exact h
  · exact brd (fun h1 => ⟨rfl, by unfold fitsL; rw [if_pos h1]⟩) (fun h1 => ⟨rfl, by unfold fitsL; rw [if_neg h1]⟩)
theorem both_calls {a b : Int} (h : R (.returned (.int .i64 (bothL a b))) w) : Calls Tryz.prog 25 #[.int .i64 a, .int .i64 b] w R := by
  refine ok25 a b ?_
  unfold F25
  refine ⟨fun x y w' => w = w' ∧ (if x = 2 ∧ y = 3 then 4 else y) = bothL a b, ?_, ?_⟩
  · rintro x y _ ⟨rfl, e⟩
    unfold F25_j3
    rw [← e] at h
    refine ⟨fun w' => w = w' ∧ ¬ (x = 2 ∧ y = 3), ?_, ?_⟩
    · rintro _ ⟨rfl, h1⟩
      unfold F25_j5
      rw [if_neg h1] at h; exact h
    · refine bre (fun h1 => bre (fun h2 => ?_) (fun h2 => ⟨rfl, fun e => h2 e.2⟩)) (fun h1 => ⟨rfl, fun e => h1 e.1⟩)
      rw [if_pos ⟨h1, h2⟩] at h; exact h
  · exact brd (fun h1 => ⟨rfl, by unfold bothL; rw [if_pos h1]⟩) (fun h1 => ⟨rfl, by unfold bothL; rw [if_neg h1]⟩)
theorem Fits_calls {a b : Int} (h : R (.returned (.bool (FitsL a b))) w) : Calls Tryz.prog 10 #[.int .i64 a, .int .i64 b] w R := by
  refine ok10 a b ?_
  unfold F10
  unfold FitsL at h
  refine known_calls ⟨_, rfl, ?_⟩
  refine br (fun h1 => ?_) (fun h1 => ?_)
  · rw [h1, Bool.true_and] at h
    refine known_calls ⟨_, rfl, ?_⟩
    refine br (fun h2 => ?_) (fun h2 => ?_)
    · rw [h2, Bool.true_and] at h
      exact fits_calls ⟨_, rfl, h⟩
    · rw [h2, Bool.false_and] at h; exact h
  · rw [h1, Bool.false_and, Bool.false_and] at h; exact h
theorem Both_calls {a b : Int} (h : R (.returned (.int .i64 (BothL a b))) w) : Calls Tryz.prog 9 #[.int .i64 a, .int .i64 b] w R := by
  refine ok9 a b ?_
  unfold F9
  unfold BothL at h
  refine ⟨fun w' => w = w' ∧ knownB a = true ∧ knownB b = true, ?_, ?_⟩
  · rintro _ ⟨rfl, h1⟩
    unfold F9_j3
    rw [if_pos h1] at h
    exact both_calls ⟨_, rfl, h⟩
  · refine known_calls ⟨_, rfl, ?_⟩
    rw [brnot]
    refine br (fun h1 => ?_) (fun h1 => ?_)
    · refine known_calls ⟨_, rfl, ?_⟩
      rw [brnot]
      refine br (fun h2 => ⟨rfl, h1, h2⟩) (fun h2 => ?_)
      rw [if_neg (by rw [h2]; simp)] at h; exact h
    · rw [if_neg (by rw [h1]; simp)] at h; exact h
end
end Go.Proofs.YtfhkgnfphfmhiaaGreatDoor
/- Documents of the reference: handles, slots, how they hang together. -/
namespace Go.Proofs.YtfhkgnfphfmhiaaGreatDoor
open Go.RowKit Go.Vc
set_option linter.unusedSimpArgs false
theorem inR_u64 {z : Int} (h0 : 0 ≤ z) (h1 : z ≤ 18446744073709551615) : InR .u64 z := ⟨by simpa [IntKind.min, IntKind.signed, IntKind.bits] using h0, by simpa [IntKind.max, IntKind.signed, IntKind.bits] using h1⟩
section
variable {w w1 : World} {g : Nat} {D : Im} {vs vr : Sv}
end
end Go.Proofs.YtfhkgnfphfmhiaaGreatDoor
/- Documents of the program: handles, nodes by their handles. -/
namespace Go.Proofs.YtfhkgnfphfmhiaaGreatDoor
open Go.RowKit Go.Vc
set_option linter.unusedSimpArgs false
/-- A document's nodes: which blocks they are; their numbers, generations, whether they live. -/
structure PRd (w : World) (dg : Nat) (sl : List Sl) (bs : List Nat) : Prop where
  len : bs.length = sl.length
  few : sl.length ≤ 1048576
  row : ∃ A c, w.cell? ⟨dg, 0, none⟩ = some (.slice A bs.length c) ∧ Rd LPt w A c bs
  c0 : ∀ i (h : i < bs.length), w.cell? ⟨bs[i], 0, none⟩ = some (.int .u32 (i + 1 : Nat))
  c1 : ∀ i (h : i < bs.length) (h' : i < sl.length), w.cell? ⟨bs[i], 1, none⟩ = some (.int .u32 (sl[i].gen : Nat))
  c2 : ∀ i (h : i < bs.length) (h' : i < sl.length), w.cell? ⟨bs[i], 2, none⟩ = some (.bool sl[i].live)
  gen : ∀ s ∈ sl, s.gen < 4294967296
section
variable {w w1 : World} {dg : Nat} {sl : List Sl} {bs : List Nat}
theorem PRd.sub (hs : Sub w w1) (h : PRd w dg sl bs) : PRd w1 dg sl bs := by
  obtain ⟨A, c, h1, h2⟩ := h.row
  exact ⟨h.len, h.few, ⟨A, c, hs.cell h1, hs.rd h2⟩, fun i h' => hs.cell (h.c0 i h'), fun i h' h2 => hs.cell (h.c1 i h' h2), fun i h' h2 => hs.cell (h.c2 i h' h2), h.gen⟩
theorem PRd.keep (h : PRd w dg sl bs) (hb : Below w.heap.size w w1) : PRd w1 dg sl bs := h.sub (sub_below hb)
theorem hndP_calls (h : PRd w dg sl bs) {i : Nat} (hi : i < bs.length) (hi' : i < sl.length) {R : Ending → World → Prop} (hK : ∀ w', Below w.heap.size w w' → R (.returned (.int .u64 (hnd sl[i].gen i : Nat))) w') :
    Calls Tryz.prog 51 #[.pointer (some ⟨bs[i], 0, none⟩)] w R := by
  have hfew := h.few
  have hg := h.gen _ (List.getElem_mem hi')
  refine ok51 (some ⟨bs[i], 0, none⟩) ?_
  unfold F51
  rw [show (some (⟨bs[i], 0, none⟩ : Addr)).isNone = false from rfl, Br_f]
  refine dr fun w2 hb2 _ => ?_
  have h2 := h.keep hb2
  simp only [NonNil_some, Addr.add_mk, Nat.zero_add, h2.c0 i hi, h2.c1 i hi hi', Addr.add_mk, List.getElem?_toArray, List.getElem?_cons_zero, List.getElem?_cons_succ, LdI_some, LdB_some, LdStr_some, LdP_some, LdSl_some, LdM_some, Nat.zero_add, Br_t, Br_f]
  have e1 : ((sl[i].gen : Nat) : Int) * (2 ^ (min ((32 : Int)).toNat 64)) = ((sl[i].gen * 4294967296 : Nat) : Int) := by simp
  rw [e1, bOr_hnd hg (by omega)]
  exact ⟨inR_u64 (by omega) (by omega), inR_u64 (by omega) (by omega), inR_u64 (by omega) (by omega), hK w2 hb2⟩
theorem hndN_calls {R : Ending → World → Prop} (hK : R (.returned (.int .u64 0)) w) : Calls Tryz.prog 51 #[.pointer none] w R := by
  refine ok51 none ?_
  unfold F51
  rw [show (none : Option Addr).isNone = true from rfl, Br_t]
  exact hK
/-- The pointer to a node. -/
def ptrN (bs : List Nat) (o : Option Nat) : Option Addr := match o with | some k => (bs[k]?).map fun b => ⟨b, 0, none⟩ | none => none
theorem ptrN_some {k : Nat} (h : k < bs.length) : ptrN bs (some k) = some ⟨bs[k], 0, none⟩ := by
  unfold ptrN; simp only [List.getElem?_eq_getElem h, Option.map_some]
theorem atP_calls (h : PRd w dg sl bs) {x : Nat} (hx : x < 18446744073709551616) {R : Ending → World → Prop} (hK : ∀ w', Below w.heap.size w w' → R (.returned (.pointer (ptrN bs (atF sl x)))) w') :
    Calls Tryz.prog 46 #[.pointer (some ⟨dg, 0, none⟩), .int .u64 (x : Nat)] w R := by
  have hfew := h.few
  have hbl := h.len
  obtain ⟨A, c, h1, h2⟩ := h.row
  refine ok46 (some ⟨dg, 0, none⟩) x ?_
  unfold F46
  rw [bAnd_low hx]
  have H := hK w (Below.refl _ _)
  refine ⟨fun w' => w = w' ∧ 0 < x % 4294967296 ∧ x % 4294967296 ≤ bs.length, ?_, ?_⟩
  · rintro _ ⟨rfl, hp, hle⟩
    unfold F46_j4
    rw [bAnd_low hx]
    simp only [NonNil_some, h1, Addr.add_mk, List.getElem?_toArray, List.getElem?_cons_zero, List.getElem?_cons_succ, LdI_some, LdB_some, LdStr_some, LdP_some, LdSl_some, LdM_some, Nat.zero_add, Br_t, Br_f]
    have hk : x % 4294967296 - 1 < bs.length := by omega
    have hk' : x % 4294967296 - 1 < sl.length := by omega
    have e1 : ((x % 4294967296 : Nat) : Int) - 1 = ((x % 4294967296 - 1 : Nat) : Int) := by omega
    refine ⟨inR_u64 (by omega) (by omega), ?_⟩
    refine h2.pt rfl e1 hk fun b o c0 => ?_
    simp only [c0, Addr.add_mk, List.getElem?_toArray, List.getElem?_cons_zero, List.getElem?_cons_succ, LdI_some, LdB_some, LdStr_some, LdP_some, LdSl_some, LdM_some, Nat.zero_add, Br_t, Br_f]
    have hat : atF sl x = if sl[x % 4294967296 - 1].live = true ∧ hnd sl[x % 4294967296 - 1].gen (x % 4294967296 - 1) = x then some (x % 4294967296 - 1) else none := by
      unfold atF; rw [if_neg (by omega), List.getElem?_eq_getElem hk']
    refine ⟨fun w' => Below w.heap.size w w' ∧ atF sl x = some (x % 4294967296 - 1), ?_, ?_⟩
    · rintro w' ⟨hb, ha⟩
      unfold F46_j7
      have H := hK w' hb
      rw [ha, ptrN_some hk] at H; exact H
    · simp only [NonNil_some, Addr.add_mk, Nat.zero_add, h.c2 _ hk hk', Addr.add_mk, List.getElem?_toArray, List.getElem?_cons_zero, List.getElem?_cons_succ, LdI_some, LdB_some, LdStr_some, LdP_some, LdSl_some, LdM_some, Nat.zero_add, Br_t, Br_f]
      rw [brnot]
      refine br (fun hl => ?_) (fun hl => ?_)
      · refine hndP_calls h hk hk' fun w' hb => ⟨_, rfl, ?_⟩
        refine brn (fun hne => ?_) (fun he => ⟨hb, by rw [hat, if_pos ⟨hl, by omega⟩]⟩)
        have H := hK w' hb
        rw [hat, if_neg (by rintro ⟨-, h3⟩; exact hne (by rw [h3]))] at H
        exact H
      · rw [hat, if_neg (by rintro ⟨h3, -⟩; rw [hl] at h3; cases h3)] at H
        exact H
  · refine bre (fun h0 => ?_) (fun h0 => ?_)
    · have : atF sl x = none := by unfold atF; rw [if_pos (by omega)]
      rw [this] at H; exact H
    · simp only [NonNil_some, h1, Addr.add_mk, List.getElem?_toArray, List.getElem?_cons_zero, List.getElem?_cons_succ, LdI_some, LdB_some, LdStr_some, LdP_some, LdSl_some, LdM_some, Nat.zero_add, Br_t, Br_f]
      refine ⟨inR_u64 (by omega) (by omega), ?_⟩
      refine brd (fun hgt => ?_) (fun hle => ⟨trivial, by omega, by omega⟩)
      have : atF sl x = none := by unfold atF; rw [if_neg (by omega), List.getElem?_eq_none (by omega)]
      rw [this] at H; exact H
end
end Go.Proofs.YtfhkgnfphfmhiaaGreatDoor
/- Documents of the reference: the slots hang together. -/
namespace Go.Proofs.YtfhkgnfphfmhiaaGreatDoor
open Go.RowKit Go.Vc
set_option linter.unusedSimpArgs false
section
variable {sl : List Sl}
end
end Go.Proofs.YtfhkgnfphfmhiaaGreatDoor
/- Documents of the reference: all nodes in their order; parents. -/
namespace Go.Proofs.YtfhkgnfphfmhiaaGreatDoor
open Go.RowKit Go.Vc
set_option linter.unusedSimpArgs false
section
variable {w : World} {g : Nat} {D : Im} {vs vr : Sv}
end
end Go.Proofs.YtfhkgnfphfmhiaaGreatDoor
/- Documents of the reference: a copy. -/
namespace Go.Proofs.YtfhkgnfphfmhiaaGreatDoor
open Go.RowKit Go.Vc
set_option linter.unusedSimpArgs false
end Go.Proofs.YtfhkgnfphfmhiaaGreatDoor
/- Locks of the document's answer: a place's number. -/
namespace Go.Proofs.YtfhkgnfphfmhiaaGreatDoor
open Go.RowKit Go.Vc
set_option linter.unusedSimpArgs false
end Go.Proofs.YtfhkgnfphfmhiaaGreatDoor
namespace Go.Proofs.YtfhkgnfphfmhiaaGreatDoor
open Go.Vc
-- slices.Compact[[]int,int]
def F83_j10 (L9 : Int → Int → World → Prop) (k2_2 : Int) (k3 : Int) (w_4 : World) (R : Ending → World → Prop) : Prop :=
 InR .i64 (k2_2 + (1 : Int)) ∧ L9 k3 (k2_2 + (1 : Int)) w_4

def F83_l9 (s : Option Addr) (sN : Nat) (sC : Nat) (k : Int) (L9 : Int → Int → World → Prop) (k2 : Int) (k2_2 : Int) (w_3 : World) (R : Ending → World → Prop) : Prop :=
 Br (decide (k2_2 < ((((((sN : Nat) : Int)).toNat - (k).toNat) : Nat) : Int)))
 (∃ J10 : Int → World → Prop, (∀ (k3 : Int) (w1_2 : World), J10 k3 w1_2 → F83_j10 L9 k2_2 k3 w1_2 R) ∧
 (Dr w_3 fun w1_2 =>
 IdxA (SlA s sC (k).toNat 1) ((((sN : Nat) : Int)).toNat - (k).toNat) k2_2 1 fun q37 =>
 LdI .i64 (w1_2.cell? q37) fun x38 =>
 InR .i64 (k2_2 - (1 : Int)) ∧ IdxA (SlA s sC (k).toNat 1) ((((sN : Nat) : Int)).toNat - (k).toNat) (k2_2 - (1 : Int)) 1 fun q42 =>
 LdI .i64 (w1_2.cell? q42) fun x43 =>
 Br (x38 != x43)
 (IdxA (SlA s sC (k).toNat 1) ((((sN : Nat) : Int)).toNat - (k).toNat) k2_2 1 fun q49 =>
 LdI .i64 (w1_2.cell? q49) fun x50 =>
 IdxA s sN k2 1 fun q51 =>
 St w1_2 q51 (.int .i64 x50) fun w1_3 =>
 InR .i64 (k2 + (1 : Int)) ∧ J10 (k2 + (1 : Int)) w1_3)
 (J10 k2 w1_2)))
 (SlB k2 ((sN : Nat) : Int) ((sC : Nat) : Int)
 (Raw Tryz.prog (Builtin.clear_ #[39] 0 #[(.slice (SlA s sC (k2).toNat 1) ((((sN : Nat) : Int)).toNat - (k2).toNat) (sC - (k2).toNat))]) w_3 fun v w1_2 =>
 SlB 0 k2 ((sC : Nat) : Int)
 (R (.returned (.slice s (k2).toNat sC)) w1_2)))

def F83_l4 (s : Option Addr) (sN : Nat) (sC : Nat) (L4 : Int → World → Prop) (k : Int) (w_2 : World) (R : Ending → World → Prop) : Prop :=
 Br (decide (k < ((sN : Nat) : Int)))
 (Dr w_2 fun w1 =>
 IdxA s sN k 1 fun q18 =>
 LdI .i64 (w1.cell? q18) fun x19 =>
 InR .i64 (k - (1 : Int)) ∧ IdxA s sN (k - (1 : Int)) 1 fun q23 =>
 LdI .i64 (w1.cell? q23) fun x24 =>
 Br (x19 == x24)
 (SlB k ((sN : Nat) : Int) ((sC : Nat) : Int)
 (∃ (I : Int → Int → World → Prop) (m : Int → Int → World → Nat), I k (1 : Int) w1 ∧
 ∀ (k2 : Int) (k2_2 : Int) (w1_2 : World), I k2 k2_2 w1_2 → F83_l9 s sN sC k (fun k2' k2_2' w2 => I k2' k2_2' w2 ∧ m k2' k2_2' w2 < m k2 k2_2 w1_2) k2 k2_2 w1_2 R))
 (InR .i64 (k + (1 : Int)) ∧ L4 (k + (1 : Int)) w1))
 (R (.returned (.slice s sN sC)) w_2)

def F83 (s : Option Addr) (sN : Nat) (sC : Nat) (w_ : World) (R : Ending → World → Prop) : Prop :=
 Br (decide (((sN : Nat) : Int) < (2 : Int)))
 (R (.returned (.slice s sN sC)) w_)
 (∃ (I : Int → World → Prop) (m : Int → World → Nat), I (1 : Int) w_ ∧
 ∀ (k : Int) (w1 : World), I k w1 → F83_l4 s sN sC (fun k' w2 => I k' w2 ∧ m k' w2 < m k w1) k w1 R)

def pl83 : Plan := ⟨61, ⟨[]⟩, [(10, ⟨[(3, (.s (.int .i64)))], [(3, 4), (35, 54)]⟩)], [(9, ⟨[(3, (.s (.int .i64))), (5, (.s (.int .i64)))], [(3, 4), (5, 54)]⟩), (4, ⟨[(3, (.s (.int .i64)))], [(2, 60)]⟩)]⟩

theorem eq83 (s : Option Addr) (sN : Nat) (sC : Nat) (w : World) (R : Ending → World → Prop) : F83 s sN sC w R = vc Tryz.prog Tryz.f83 pl83 R 100000 [.code (bodyOf Tryz.f83)] (argEnv 0 #[(.slice s sN sC)].toList) w := by kernel_rfl

theorem ok83 (s : Option Addr) (sN : Nat) (sC : Nat) {w : World} {R : Ending → World → Prop} (h : F83 s sN sC w R) : Calls Tryz.prog 83 #[(.slice s sN sC)] w R :=
  vc_calls (pl := pl83) Tryz.func83 (by kernel_rfl) (by kernel_rfl) (by kernel_rfl) (Eq.mp (eq83 s sN sC w R) h)

-- slices.ContainsFunc[[]locks.held,locks.held]
def F93 (s : Option Addr) (sN : Nat) (sC : Nat) (f : Value) (w_ : World) (R : Ending → World → Prop) : Prop :=
 Calls Tryz.prog 90 #[(.slice s sN sC), f] w_ (post R fun v w1 =>
 ∃ (x7 : Int), v = (.int .i64 x7) ∧
 R (.returned (.bool (decide (x7 ≥ (0 : Int))))) w1)

def pl93 : Plan := ⟨9, ⟨[]⟩, [], []⟩

theorem eq93 (s : Option Addr) (sN : Nat) (sC : Nat) (f : Value) (w : World) (R : Ending → World → Prop) : F93 s sN sC f w R = vc Tryz.prog Tryz.f93 pl93 R 100000 [.code (bodyOf Tryz.f93)] (argEnv 0 #[(.slice s sN sC), f].toList) w := by kernel_rfl

theorem ok93 (s : Option Addr) (sN : Nat) (sC : Nat) (f : Value) {w : World} {R : Ending → World → Prop} (h : F93 s sN sC f w R) : Calls Tryz.prog 93 #[(.slice s sN sC), f] w R :=
  vc_calls (pl := pl93) Tryz.func93 (by kernel_rfl) (by kernel_rfl) (by kernel_rfl) (Eq.mp (eq93 s sN sC f w R) h)

-- slices.DeleteFunc[[]locks.held,locks.held]
def F55_j6 (L5 : Int → Int → World → Prop) (j : Int) (i2 : Int) (w_3 : World) (R : Ending → World → Prop) : Prop :=
 InR .i64 (j + (1 : Int)) ∧ L5 i2 (j + (1 : Int)) w_3

def F55_l5 (s : Option Addr) (sN : Nat) (sC : Nat) (del : Value) (L5 : Int → Int → World → Prop) (i : Int) (j : Int) (w_2 : World) (R : Ending → World → Prop) : Prop :=
 Br (decide (j < ((sN : Nat) : Int)))
 (∃ J6 : Int → World → Prop, (∀ (i2 : Int) (w1_2 : World), J6 i2 w1_2 → F55_j6 L5 j i2 w1_2 R) ∧
 (IdxA s sN j 2 fun q24 =>
 LdI .i64 (w_2.cell? q24) fun x25_0 =>
 LdI .i64 (w_2.cell? (q24.add 1)) fun x25_1 =>
 Al w_2 #[(.int .i64 0), (.int .i64 0)] 83 fun v2 w1_2 =>
 St w1_2 v2 (.int .i64 x25_0) fun w1_3 =>
 St w1_3 (v2.add 1) (.int .i64 x25_1) fun w1_4 =>
 LdI .i64 (w1_4.cell? v2) fun x27_0 =>
 LdI .i64 (w1_4.cell? (v2.add 1)) fun x27_1 =>
 CallV Tryz.prog del #[(.agg #[(.int .i64 x27_0), (.int .i64 x27_1)])] w1_4 R (fun v3 w1_5 =>
 ∃ (x28 : Bool), v3 = (.bool x28) ∧
 Br (!x28)
 (LdI .i64 (w1_5.cell? v2) fun x32_0 =>
 LdI .i64 (w1_5.cell? (v2.add 1)) fun x32_1 =>
 IdxA s sN i 2 fun q33 =>
 St w1_5 q33 (.int .i64 x32_0) fun w1_6 =>
 St w1_6 (q33.add 1) (.int .i64 x32_1) fun w1_7 =>
 InR .i64 (i + (1 : Int)) ∧ J6 (i + (1 : Int)) w1_7)
 (J6 i w1_5))))
 (SlB i ((sN : Nat) : Int) ((sC : Nat) : Int)
 (Raw Tryz.prog (Builtin.clear_ #[81] 0 #[(.slice (SlA s sC (i).toNat 2) ((((sN : Nat) : Int)).toNat - (i).toNat) (sC - (i).toNat))]) w_2 fun v2 w1_2 =>
 SlB 0 i ((sC : Nat) : Int)
 (R (.returned (.slice s (i).toNat sC)) w1_2)))

def F55 (s : Option Addr) (sN : Nat) (sC : Nat) (del : Value) (w_ : World) (R : Ending → World → Prop) : Prop :=
 Calls Tryz.prog 90 #[(.slice s sN sC), del] w_ (post R fun v w1 =>
 ∃ (x10 : Int), v = (.int .i64 x10) ∧
 Br (x10 == ((-1) : Int))
 (R (.returned (.slice s sN sC)) w1)
 (InR .i64 (x10 + (1 : Int)) ∧ ∃ (I : Int → Int → World → Prop) (m : Int → Int → World → Nat), I x10 (x10 + (1 : Int)) w1 ∧
 ∀ (i : Int) (j : Int) (w1_2 : World), I i j w1_2 → F55_l5 s sN sC del (fun i' j' w2 => I i' j' w2 ∧ m i' j' w2 < m i j w1_2) i j w1_2 R))

def pl55 : Plan := ⟨42, ⟨[]⟩, [(6, ⟨[(5, (.s (.int .i64)))], [(5, 6), (7, 36)]⟩)], [(5, ⟨[(5, (.s (.int .i64))), (6, (.s (.int .i64)))], [(5, 36)]⟩)]⟩

theorem eq55 (s : Option Addr) (sN : Nat) (sC : Nat) (del : Value) (w : World) (R : Ending → World → Prop) : F55 s sN sC del w R = vc Tryz.prog Tryz.f55 pl55 R 100000 [.code (bodyOf Tryz.f55)] (argEnv 0 #[(.slice s sN sC), del].toList) w := by kernel_rfl

theorem ok55 (s : Option Addr) (sN : Nat) (sC : Nat) (del : Value) {w : World} {R : Ending → World → Prop} (h : F55 s sN sC del w R) : Calls Tryz.prog 55 #[(.slice s sN sC), del] w R :=
  vc_calls (pl := pl55) Tryz.func55 (by kernel_rfl) (by kernel_rfl) (by kernel_rfl) (Eq.mp (eq55 s sN sC del w R) h)

-- slices.DeleteFunc[[]locks.waiter,locks.waiter]
def F91_j6 (L5 : Int → Int → World → Prop) (j : Int) (i2 : Int) (w_3 : World) (R : Ending → World → Prop) : Prop :=
 InR .i64 (j + (1 : Int)) ∧ L5 i2 (j + (1 : Int)) w_3

def F91_l5 (s : Option Addr) (sN : Nat) (sC : Nat) (del : Value) (L5 : Int → Int → World → Prop) (i : Int) (j : Int) (w_2 : World) (R : Ending → World → Prop) : Prop :=
 Br (decide (j < ((sN : Nat) : Int)))
 (∃ J6 : Int → World → Prop, (∀ (i2 : Int) (w1_2 : World), J6 i2 w1_2 → F91_j6 L5 j i2 w1_2 R) ∧
 (IdxA s sN j 4 fun q24 =>
 LdI .i64 (w_2.cell? q24) fun x25_0 =>
 LdI .i64 (w_2.cell? (q24.add 1)) fun x25_1 =>
 LdB (w_2.cell? (q24.add 2)) fun x25_2 =>
 LdSl (w_2.cell? (q24.add 3)) fun x25_3 x25_3N x25_3C =>
 Al w_2 #[(.int .i64 0), (.int .i64 0), (.bool false), (.slice none 0 0)] 92 fun v2 w1_2 =>
 St w1_2 v2 (.int .i64 x25_0) fun w1_3 =>
 St w1_3 (v2.add 1) (.int .i64 x25_1) fun w1_4 =>
 St w1_4 (v2.add 2) (.bool x25_2) fun w1_5 =>
 St w1_5 (v2.add 3) (.slice x25_3 x25_3N x25_3C) fun w1_6 =>
 LdI .i64 (w1_6.cell? v2) fun x27_0 =>
 LdI .i64 (w1_6.cell? (v2.add 1)) fun x27_1 =>
 LdB (w1_6.cell? (v2.add 2)) fun x27_2 =>
 LdSl (w1_6.cell? (v2.add 3)) fun x27_3 x27_3N x27_3C =>
 CallV Tryz.prog del #[(.agg #[(.int .i64 x27_0), (.int .i64 x27_1), (.bool x27_2), (.slice x27_3 x27_3N x27_3C)])] w1_6 R (fun v3 w1_7 =>
 ∃ (x28 : Bool), v3 = (.bool x28) ∧
 Br (!x28)
 (LdI .i64 (w1_7.cell? v2) fun x32_0 =>
 LdI .i64 (w1_7.cell? (v2.add 1)) fun x32_1 =>
 LdB (w1_7.cell? (v2.add 2)) fun x32_2 =>
 LdSl (w1_7.cell? (v2.add 3)) fun x32_3 x32_3N x32_3C =>
 IdxA s sN i 4 fun q33 =>
 St w1_7 q33 (.int .i64 x32_0) fun w1_8 =>
 St w1_8 (q33.add 1) (.int .i64 x32_1) fun w1_9 =>
 St w1_9 (q33.add 2) (.bool x32_2) fun w1_10 =>
 St w1_10 (q33.add 3) (.slice x32_3 x32_3N x32_3C) fun w1_11 =>
 InR .i64 (i + (1 : Int)) ∧ J6 (i + (1 : Int)) w1_11)
 (J6 i w1_7))))
 (SlB i ((sN : Nat) : Int) ((sC : Nat) : Int)
 (Raw Tryz.prog (Builtin.clear_ #[90] 0 #[(.slice (SlA s sC (i).toNat 4) ((((sN : Nat) : Int)).toNat - (i).toNat) (sC - (i).toNat))]) w_2 fun v2 w1_2 =>
 SlB 0 i ((sC : Nat) : Int)
 (R (.returned (.slice s (i).toNat sC)) w1_2)))

def F91 (s : Option Addr) (sN : Nat) (sC : Nat) (del : Value) (w_ : World) (R : Ending → World → Prop) : Prop :=
 Calls Tryz.prog 99 #[(.slice s sN sC), del] w_ (post R fun v w1 =>
 ∃ (x10 : Int), v = (.int .i64 x10) ∧
 Br (x10 == ((-1) : Int))
 (R (.returned (.slice s sN sC)) w1)
 (InR .i64 (x10 + (1 : Int)) ∧ ∃ (I : Int → Int → World → Prop) (m : Int → Int → World → Nat), I x10 (x10 + (1 : Int)) w1 ∧
 ∀ (i : Int) (j : Int) (w1_2 : World), I i j w1_2 → F91_l5 s sN sC del (fun i' j' w2 => I i' j' w2 ∧ m i' j' w2 < m i j w1_2) i j w1_2 R))

def pl91 : Plan := ⟨42, ⟨[]⟩, [(6, ⟨[(5, (.s (.int .i64)))], [(5, 6), (7, 36)]⟩)], [(5, ⟨[(5, (.s (.int .i64))), (6, (.s (.int .i64)))], [(5, 36)]⟩)]⟩

theorem eq91 (s : Option Addr) (sN : Nat) (sC : Nat) (del : Value) (w : World) (R : Ending → World → Prop) : F91 s sN sC del w R = vc Tryz.prog Tryz.f91 pl91 R 100000 [.code (bodyOf Tryz.f91)] (argEnv 0 #[(.slice s sN sC), del].toList) w := by kernel_rfl

theorem ok91 (s : Option Addr) (sN : Nat) (sC : Nat) (del : Value) {w : World} {R : Ending → World → Prop} (h : F91 s sN sC del w R) : Calls Tryz.prog 91 #[(.slice s sN sC), del] w R :=
  vc_calls (pl := pl91) Tryz.func91 (by kernel_rfl) (by kernel_rfl) (by kernel_rfl) (Eq.mp (eq91 s sN sC del w R) h)

-- slices.IndexFunc[[]locks.held,locks.held]
def F90_l2 (s : Option Addr) (sN : Nat) (f : Value) (L2 : Int → World → Prop) (x8 : Int) (w_2 : World) (R : Ending → World → Prop) : Prop :=
 Br (decide (x8 < ((sN : Nat) : Int)))
 (IdxA s sN x8 2 fun q14 =>
 LdI .i64 (w_2.cell? q14) fun x15_0 =>
 LdI .i64 (w_2.cell? (q14.add 1)) fun x15_1 =>
 CallV Tryz.prog f #[(.agg #[(.int .i64 x15_0), (.int .i64 x15_1)])] w_2 R (fun v w1 =>
 ∃ (x16 : Bool), v = (.bool x16) ∧
 Br x16
 (R (.returned (.int .i64 x8)) w1)
 (InR .i64 (x8 + (1 : Int)) ∧ L2 (x8 + (1 : Int)) w1)))
 (R (.returned (.int .i64 (-1))) w_2)

def F90 (s : Option Addr) (sN : Nat) (sC : Nat) (f : Value) (w_ : World) (R : Ending → World → Prop) : Prop :=
 ∃ (I : Int → World → Prop) (m : Int → World → Nat), I (0 : Int) w_ ∧
 ∀ (x8 : Int) (w1 : World), I x8 w1 → F90_l2 s sN f (fun x8' w2 => I x8' w2 ∧ m x8' w2 < m x8 w1) x8 w1 R

def pl90 : Plan := ⟨19, ⟨[]⟩, [], [(2, ⟨[(8, (.s (.int .i64)))], [(4, 6), (8, 19)]⟩)]⟩

theorem eq90 (s : Option Addr) (sN : Nat) (sC : Nat) (f : Value) (w : World) (R : Ending → World → Prop) : F90 s sN sC f w R = vc Tryz.prog Tryz.f90 pl90 R 100000 [.code (bodyOf Tryz.f90)] (argEnv 0 #[(.slice s sN sC), f].toList) w := by kernel_rfl

theorem ok90 (s : Option Addr) (sN : Nat) (sC : Nat) (f : Value) {w : World} {R : Ending → World → Prop} (h : F90 s sN sC f w R) : Calls Tryz.prog 90 #[(.slice s sN sC), f] w R :=
  vc_calls (pl := pl90) Tryz.func90 (by kernel_rfl) (by kernel_rfl) (by kernel_rfl) (Eq.mp (eq90 s sN sC f w R) h)

-- slices.IndexFunc[[]locks.waiter,locks.waiter]
def F99_l2 (s : Option Addr) (sN : Nat) (f : Value) (L2 : Int → World → Prop) (x8 : Int) (w_2 : World) (R : Ending → World → Prop) : Prop :=
 Br (decide (x8 < ((sN : Nat) : Int)))
 (IdxA s sN x8 4 fun q14 =>
 LdI .i64 (w_2.cell? q14) fun x15_0 =>
 LdI .i64 (w_2.cell? (q14.add 1)) fun x15_1 =>
 LdB (w_2.cell? (q14.add 2)) fun x15_2 =>
 LdSl (w_2.cell? (q14.add 3)) fun x15_3 x15_3N x15_3C =>
 CallV Tryz.prog f #[(.agg #[(.int .i64 x15_0), (.int .i64 x15_1), (.bool x15_2), (.slice x15_3 x15_3N x15_3C)])] w_2 R (fun v w1 =>
 ∃ (x16 : Bool), v = (.bool x16) ∧
 Br x16
 (R (.returned (.int .i64 x8)) w1)
 (InR .i64 (x8 + (1 : Int)) ∧ L2 (x8 + (1 : Int)) w1)))
 (R (.returned (.int .i64 (-1))) w_2)

def F99 (s : Option Addr) (sN : Nat) (sC : Nat) (f : Value) (w_ : World) (R : Ending → World → Prop) : Prop :=
 ∃ (I : Int → World → Prop) (m : Int → World → Nat), I (0 : Int) w_ ∧
 ∀ (x8 : Int) (w1 : World), I x8 w1 → F99_l2 s sN f (fun x8' w2 => I x8' w2 ∧ m x8' w2 < m x8 w1) x8 w1 R

def pl99 : Plan := ⟨19, ⟨[]⟩, [], [(2, ⟨[(8, (.s (.int .i64)))], [(4, 6), (8, 19)]⟩)]⟩

theorem eq99 (s : Option Addr) (sN : Nat) (sC : Nat) (f : Value) (w : World) (R : Ending → World → Prop) : F99 s sN sC f w R = vc Tryz.prog Tryz.f99 pl99 R 100000 [.code (bodyOf Tryz.f99)] (argEnv 0 #[(.slice s sN sC), f].toList) w := by kernel_rfl

theorem ok99 (s : Option Addr) (sN : Nat) (sC : Nat) (f : Value) {w : World} {R : Ending → World → Prop} (h : F99 s sN sC f w R) : Calls Tryz.prog 99 #[(.slice s sN sC), f] w R :=
  vc_calls (pl := pl99) Tryz.func99 (by kernel_rfl) (by kernel_rfl) (by kernel_rfl) (Eq.mp (eq99 s sN sC f w R) h)

-- slices.Insert[[]locks.waiter,locks.waiter]
def F98 (s : Option Addr) (sN : Nat) (sC : Nat) (i : Int) (v : Option Addr) (vN : Nat) (vC : Nat) (w_ : World) (R : Ending → World → Prop) : Prop :=
 SlB i ((sN : Nat) : Int) ((sC : Nat) : Int)
 (Br (((vN : Nat) : Int) == (0 : Int))
 (R (.returned (.slice s sN sC)) w_)
 (Br (i == ((sN : Nat) : Int))
 (Raw Tryz.prog (Builtin.append_ #[90, 90] 90 #[(.slice s sN sC), (.slice v vN vC)]) w_ fun v2 w1 =>
 ∃ (x25 : Option Addr) (x25N : Nat) (x25C : Nat), v2 = (.slice x25 x25N x25C) ∧
 R (.returned (.slice x25 x25N x25C)) w1)
 (InR .i64 (((sN : Nat) : Int) + ((vN : Nat) : Int)) ∧ Br (decide ((((sN : Nat) : Int) + ((vN : Nat) : Int)) > ((sC : Nat) : Int)))
 (SlB 0 i ((sC : Nat) : Int)
 (InR .i64 (((sN : Nat) : Int) + ((vN : Nat) : Int)) ∧ InR .i64 ((((sN : Nat) : Int) + ((vN : Nat) : Int)) - i) ∧ Raw Tryz.prog (Builtin.append_ #[90, 3] 90 #[(.slice s (i).toNat sC), (.int .i64 ((((sN : Nat) : Int) + ((vN : Nat) : Int)) - i))]) w_ fun v2 w1 =>
 ∃ (x40 : Option Addr) (x40N : Nat) (x40C : Nat), v2 = (.slice x40 x40N x40C) ∧
 SlB i ((x40N : Nat) : Int) ((x40C : Nat) : Int)
 (Raw Tryz.prog (Builtin.copy_ #[90, 90] 3 #[(.slice (SlA x40 x40C (i).toNat 4) ((((x40N : Nat) : Int)).toNat - (i).toNat) (x40C - (i).toNat)), (.slice v vN vC)]) w1 fun v3 w1_2 =>
 ∃ (x45 : Int), v3 = (.int .i64 x45) ∧
 ∃ S : World → Prop, S w1_2.drew ∧ InR .i64 (i + ((vN : Nat) : Int)) ∧ SlB (i + ((vN : Nat) : Int)) ((x40N : Nat) : Int) ((x40C : Nat) : Int)
 (SlB i ((sN : Nat) : Int) ((sC : Nat) : Int)
 (Raw Tryz.prog (Builtin.copy_ #[90, 90] 3 #[(.slice (SlA x40 x40C ((i + ((vN : Nat) : Int))).toNat 4) ((((x40N : Nat) : Int)).toNat - ((i + ((vN : Nat) : Int))).toNat) (x40C - ((i + ((vN : Nat) : Int))).toNat)), (.slice (SlA s sC (i).toNat 4) ((((sN : Nat) : Int)).toNat - (i).toNat) (sC - (i).toNat))]) w1_2.drew fun v4 w1_4 =>
 ∃ (x54 : Int), v4 = (.int .i64 x54) ∧
 R (.returned (.slice x40 x40N x40C)) w1_4)))))
 (InR .i64 (((sN : Nat) : Int) + ((vN : Nat) : Int)) ∧ SlB 0 (((sN : Nat) : Int) + ((vN : Nat) : Int)) ((sC : Nat) : Int)
 (InR .i64 (i + ((vN : Nat) : Int)) ∧ SlB (i + ((vN : Nat) : Int)) ((((((sN : Nat) : Int) + ((vN : Nat) : Int))).toNat : Nat) : Int) ((sC : Nat) : Int)
 (ByRow Tryz.prog 121 #[(.slice v vN vC), (.slice (SlA s sC ((i + ((vN : Nat) : Int))).toNat 4) ((((((((sN : Nat) : Int) + ((vN : Nat) : Int))).toNat : Nat) : Int)).toNat - ((i + ((vN : Nat) : Int))).toNat) (sC - ((i + ((vN : Nat) : Int))).toNat))] w_ (fun v2 w1 =>
 ∃ (x67 : Bool), v2 = (.bool x67) ∧
 Br (!x67)
 (∃ S : World → Prop, S w1.drew ∧ InR .i64 (i + ((vN : Nat) : Int)) ∧ SlB (i + ((vN : Nat) : Int)) ((((((sN : Nat) : Int) + ((vN : Nat) : Int))).toNat : Nat) : Int) ((sC : Nat) : Int)
 (SlB i ((((((sN : Nat) : Int) + ((vN : Nat) : Int))).toNat : Nat) : Int) ((sC : Nat) : Int)
 (Raw Tryz.prog (Builtin.copy_ #[90, 90] 3 #[(.slice (SlA s sC ((i + ((vN : Nat) : Int))).toNat 4) ((((((((sN : Nat) : Int) + ((vN : Nat) : Int))).toNat : Nat) : Int)).toNat - ((i + ((vN : Nat) : Int))).toNat) (sC - ((i + ((vN : Nat) : Int))).toNat)), (.slice (SlA s sC (i).toNat 4) ((((((((sN : Nat) : Int) + ((vN : Nat) : Int))).toNat : Nat) : Int)).toNat - (i).toNat) (sC - (i).toNat))]) w1.drew fun v3 w1_3 =>
 ∃ (x77 : Int), v3 = (.int .i64 x77) ∧
 SlB i ((((((sN : Nat) : Int) + ((vN : Nat) : Int))).toNat : Nat) : Int) ((sC : Nat) : Int)
 (Raw Tryz.prog (Builtin.copy_ #[90, 90] 3 #[(.slice (SlA s sC (i).toNat 4) ((((((((sN : Nat) : Int) + ((vN : Nat) : Int))).toNat : Nat) : Int)).toNat - (i).toNat) (sC - (i).toNat)), (.slice v vN vC)]) w1_3 fun v4 w1_4 =>
 ∃ (x82 : Int), v4 = (.int .i64 x82) ∧
 R (.returned (.slice s ((((sN : Nat) : Int) + ((vN : Nat) : Int))).toNat sC)) w1_4))))
 (SlB ((sN : Nat) : Int) ((((((sN : Nat) : Int) + ((vN : Nat) : Int))).toNat : Nat) : Int) ((sC : Nat) : Int)
 (Raw Tryz.prog (Builtin.copy_ #[90, 90] 3 #[(.slice (SlA s sC (((sN : Nat) : Int)).toNat 4) ((((((((sN : Nat) : Int) + ((vN : Nat) : Int))).toNat : Nat) : Int)).toNat - (((sN : Nat) : Int)).toNat) (sC - (((sN : Nat) : Int)).toNat)), (.slice v vN vC)]) w1 fun v3 w1_2 =>
 ∃ (x88 : Int), v3 = (.int .i64 x88) ∧
 SlB i ((((((sN : Nat) : Int) + ((vN : Nat) : Int))).toNat : Nat) : Int) ((sC : Nat) : Int)
 (Calls Tryz.prog 122 #[(.slice (SlA s sC (i).toNat 4) ((((((((sN : Nat) : Int) + ((vN : Nat) : Int))).toNat : Nat) : Int)).toNat - (i).toNat) (sC - (i).toNat)), (.int .i64 ((vN : Nat) : Int))] w1_2 (post R fun v4 w1_3 =>
 v4 = (.tuple #[]) ∧
 R (.returned (.slice s ((((sN : Nat) : Int) + ((vN : Nat) : Int))).toNat sC)) w1_3)))))))))))

def pl98 : Plan := ⟨95, ⟨[]⟩, [], []⟩

theorem eq98 (s : Option Addr) (sN : Nat) (sC : Nat) (i : Int) (v : Option Addr) (vN : Nat) (vC : Nat) (w : World) (R : Ending → World → Prop) : F98 s sN sC i v vN vC w R = vc Tryz.prog Tryz.f98 pl98 R 100000 [.code (bodyOf Tryz.f98)] (argEnv 0 #[(.slice s sN sC), (.int .i64 i), (.slice v vN vC)].toList) w := by kernel_rfl

theorem ok98 (s : Option Addr) (sN : Nat) (sC : Nat) (i : Int) (v : Option Addr) (vN : Nat) (vC : Nat) {w : World} {R : Ending → World → Prop} (h : F98 s sN sC i v vN vC w R) : Calls Tryz.prog 98 #[(.slice s sN sC), (.int .i64 i), (.slice v vN vC)] w R :=
  vc_calls (pl := pl98) Tryz.func98 (by kernel_rfl) (by kernel_rfl) (by kernel_rfl) (Eq.mp (eq98 s sN sC i v vN vC w R) h)

-- slices.Reverse[[]locks.step,locks.step]
def F54_l1 (s : Option Addr) (sN : Nat) (L1 : Int → Int → World → Prop) (i : Int) (j : Int) (w_2 : World) (R : Ending → World → Prop) : Prop :=
 Br (decide (i < j))
 (∃ S : World → Prop, S w_2.drew ∧ IdxA s sN j 2 fun q20 =>
 ∃ (x21_0 : Int), Held S q20 (.int .u64 x21_0) ∧ ∃ (x21_1 : Int), Held S (q20.add 1) (.int .i64 x21_1) ∧ IdxA s sN i 2 fun q24 =>
 ∃ (x25_0 : Int), Held S q24 (.int .u64 x25_0) ∧ ∃ (x25_1 : Int), Held S (q24.add 1) (.int .i64 x25_1) ∧ IdxA s sN i 2 fun q26 =>
 St w_2.drew q26 (.int .u64 x21_0) fun w1_2 =>
 St w1_2 (q26.add 1) (.int .i64 x21_1) fun w1_3 =>
 IdxA s sN j 2 fun q27 =>
 St w1_3 q27 (.int .u64 x25_0) fun w1_4 =>
 St w1_4 (q27.add 1) (.int .i64 x25_1) fun w1_5 =>
 InR .i64 (i + (1 : Int)) ∧ InR .i64 (j - (1 : Int)) ∧ L1 (i + (1 : Int)) (j - (1 : Int)) w1_5)
 (R (.returned (.tuple #[])) w_2)

def F54 (s : Option Addr) (sN : Nat) (sC : Nat) (w_ : World) (R : Ending → World → Prop) : Prop :=
 InR .i64 (((sN : Nat) : Int) - (1 : Int)) ∧ ∃ (I : Int → Int → World → Prop) (m : Int → Int → World → Nat), I (0 : Int) (((sN : Nat) : Int) - (1 : Int)) w_ ∧
 ∀ (i : Int) (j : Int) (w1 : World), I i j w1 → F54_l1 s sN (fun i' j' w2 => I i' j' w2 ∧ m i' j' w2 < m i j w1) i j w1 R

def pl54 : Plan := ⟨28, ⟨[]⟩, [], [(1, ⟨[(2, (.s (.int .i64))), (3, (.s (.int .i64)))], [(2, 28)]⟩)]⟩

theorem eq54 (s : Option Addr) (sN : Nat) (sC : Nat) (w : World) (R : Ending → World → Prop) : F54 s sN sC w R = vc Tryz.prog Tryz.f54 pl54 R 100000 [.code (bodyOf Tryz.f54)] (argEnv 0 #[(.slice s sN sC)].toList) w := by kernel_rfl

theorem ok54 (s : Option Addr) (sN : Nat) (sC : Nat) {w : World} {R : Ending → World → Prop} (h : F54 s sN sC w R) : Calls Tryz.prog 54 #[(.slice s sN sC)] w R :=
  vc_calls (pl := pl54) Tryz.func54 (by kernel_rfl) (by kernel_rfl) (by kernel_rfl) (Eq.mp (eq54 s sN sC w R) h)

-- slices.Reverse[[]locks.waiter,locks.waiter]
end Go.Proofs.YtfhkgnfphfmhiaaGreatDoor
/- Locks: IndexFunc, ContainsFunc over locks that are held; whose lock. -/
namespace Go.Proofs.YtfhkgnfphfmhiaaGreatDoor
open Go.RowKit Go.Vc
set_option linter.unusedSimpArgs false
/-- A lock that is held: whose, in which mode. -/
def LHd : Lay (Int × Int) := ⟨2, fun p => [.int .i64 p.1, .int .i64 p.2], fun _ => rfl, fun _ => by simp [Value.oneCell'], by decide⟩
theorem Rd.hd {w : World} {A : Option Addr} {c : Nat} {xs : List (Int × Int)} (h : Rd LHd w A c xs) {n : Nat} (hn : n = xs.length) {i : Int} {k : Nat} (hi : i = k) (hk : k < xs.length) {K : Addr → Prop}
    (hK : ∀ b o, w.cell? ⟨b, o, none⟩ = some (.int .i64 xs[k].1) → w.cell? ⟨b, o + 1, none⟩ = some (.int .i64 xs[k].2) → K ⟨b, o, none⟩) : IdxA A n i 2 K := by
  subst hi
  refine h.idx hn (by omega) (by omega) rfl fun b o hc => ?_
  simp only [Int.toNat_natCast] at hc
  exact hK b o (hc 0 _ rfl) (hc 1 _ rfl)
/-- The first one that is meant, counted from i on. -/
def idxI (p : Int × Int → Bool) : List (Int × Int) → Nat → Int
  | [], _ => -1
  | y :: l, i => if p y = true then (i : Nat) else idxI p l (i + 1)
theorem idxI_ge (p : Int × Int → Bool) : ∀ (l : List (Int × Int)) (i : Nat), (0 ≤ idxI p l i) ↔ l.any p = true
  | [], i => by simp [idxI]
  | y :: l, i => by
    rw [idxI, List.any_cons, Bool.or_eq_true]
    by_cases h : p y = true
    · rw [if_pos h]; simp [h]
    · rw [if_neg h, idxI_ge p l (i + 1)]; simp [h]
theorem indexH_calls (l : List (Int × Int)) (v : Sv) (f : Value) (p : Int × Int → Bool) {w : World} {R : Ending → World → Prop} (hl : RR LHd w l v)
    (hf : ∀ y ∈ l, ∀ (w1 : World) (K : Value → World → Prop) (R' : Ending → World → Prop), Below w.heap.size w w1 → (∀ w2, Below w1.heap.size w1 w2 → K (.bool (p y)) w2) → CallV Tryz.prog f #[.agg #[.int .i64 y.1, .int .i64 y.2]] w1 R' K)
    (h : ∀ w', Below w.heap.size w w' → R (.returned (.int .i64 (idxI p l 0))) w') : Calls Tryz.prog 90 #[.slice v.1 v.2.1 v.2.2, f] w R := by
  obtain ⟨z0, z1, z2⟩ := hl
  refine ok90 v.1 v.2.1 v.2.2 f ?_
  unfold F90
  refine ⟨fun i w' => ∃ k : Nat, i = k ∧ k ≤ l.length ∧ Below w.heap.size w w' ∧ idxI p (l.drop k) k = idxI p l 0, fun i _ => l.length - i.toNat, ⟨0, rfl, by omega, Below.refl _ _, by simp⟩, ?_⟩
  rintro i w1 ⟨k, rfl, hk, hb1, hF⟩
  unfold F90_l2
  refine brd (fun hlt => ?_) (fun hge => ?_)
  · have hk2 : k < l.length := by omega
    rw [List.drop_eq_getElem_cons hk2, idxI] at hF
    refine (z2.keep hb1).hd z1 rfl (k := k) hk2 fun b o c0 c1 => ?_
    simp only [Addr.add_mk, c0, c1, Addr.add_mk, List.getElem?_toArray, List.getElem?_cons_zero, List.getElem?_cons_succ, LdI_some, LdB_some, LdStr_some, LdP_some, LdSl_some, LdM_some, Nat.zero_add, Br_t, Br_f]
    refine hf _ (List.getElem_mem hk2) w1 _ R hb1 fun w2 hb2 => ⟨_, rfl, ?_⟩
    have B2 := btr hb1 hb1.size hb2
    refine br (fun hp => ?_) (fun hp => ?_)
    · rw [if_pos hp] at hF
      rw [hF]; exact h w2 B2
    · rw [if_neg (by rw [hp]; decide)] at hF
      exact ⟨inR_i64 (by omega) (by omega), ⟨k + 1, by simp, by omega, B2, hF⟩, (by first | omega | (dsimp only; omega))⟩
  · have hk2 : k = l.length := by omega
    subst hk2
    rw [List.drop_length, idxI] at hF
    rw [hF]; exact h w1 hb1
theorem containsH_calls (l : List (Int × Int)) (v : Sv) (f : Value) (p : Int × Int → Bool) {w : World} {R : Ending → World → Prop} (hl : RR LHd w l v)
    (hf : ∀ y ∈ l, ∀ (w1 : World) (K : Value → World → Prop) (R' : Ending → World → Prop), Below w.heap.size w w1 → (∀ w2, Below w1.heap.size w1 w2 → K (.bool (p y)) w2) → CallV Tryz.prog f #[.agg #[.int .i64 y.1, .int .i64 y.2]] w1 R' K)
    (h : ∀ w', Below w.heap.size w w' → R (.returned (.bool (l.any p))) w') : Calls Tryz.prog 93 #[.slice v.1 v.2.1 v.2.2, f] w R := by
  refine ok93 v.1 v.2.1 v.2.2 f ?_
  unfold F93
  refine indexH_calls l v f p hl hf fun w' hb => ⟨_, rfl, ?_⟩
  have e : decide (idxI p l 0 ≥ 0) = l.any p := by
    rw [Bool.eq_iff_iff, decide_eq_true_iff]; exact idxI_ge p l 0
  rw [e]; exact h w' hb
end Go.Proofs.YtfhkgnfphfmhiaaGreatDoor
/- Maps whose keys are integers: what their operations do, over a plain function. -/
namespace Go.Proofs.YtfhkgnfphfmhiaaGreatDoor
open Go.RowKit Go.Vc
set_option linter.unusedSimpArgs false
/-- The entries are those of a function. -/
structure MpE (q : IntKind) (es : Array MapEntry) (clock : Nat) (f : Int → Option Value) : Prop where
  key : ∀ x ∈ es.toList, ∃ k, x.key = .int q k ∧ f k = some x.val
  has : ∀ k v, f k = some v → ∃ x ∈ es.toList, x.key = .int q k
  one : (es.toList.map (·.key)).Nodup
  born : ∀ x ∈ es.toList, x.born < clock
  age : (es.toList.map (·.born)).Nodup
def Mp (q : IntKind) (w : World) (b : Nat) (f : Int → Option Value) : Prop := ∃ es clock, w.heap[b]? = some (.map es clock) ∧ MpE q es clock f
theorem nodup_map_inj {α β : Type} {f : α → β} : ∀ {l : List α}, (l.map f).Nodup → ∀ x ∈ l, ∀ y ∈ l, f x = f y → x = y
  | [], _, x, hx, _, _, _ => by simp at hx
  | a :: l, h, x, hx, y, hy, e => by
    rw [List.map_cons, List.nodup_cons] at h
    rcases List.mem_cons.1 hx with h1 | h1 <;> rcases List.mem_cons.1 hy with h2 | h2
    · rw [h1, h2]
    · subst h1; exact absurd (List.mem_map.2 ⟨y, h2, e.symm⟩) h.1
    · subst h2; exact absurd (List.mem_map.2 ⟨x, h1, e⟩) h.1
    · exact nodup_map_inj h.2 x h1 y h2 e
theorem findNow_int {q : IntKind} {k : Int} : ∀ (l : List MapEntry) (i : Nat), (∀ x ∈ l, ∃ a, x.key = .int q a) →
    (Instr.findNow (.int q) (.int q k) l i = some none ∧ ∀ x ∈ l, x.key ≠ .int q k) ∨ ∃ j x, l[j]? = some x ∧ x.key = .int q k ∧ Instr.findNow (.int q) (.int q k) l i = some (some (i + j, x.val))
  | [], i, _ => .inl ⟨rfl, fun x h => by simp at h⟩
  | x :: l, i, h => by
    obtain ⟨a, ha⟩ := h x (by simp)
    by_cases hk : k = a
    · subst hk
      refine .inr ⟨0, x, rfl, ha, ?_⟩
      simp [Instr.findNow, ha, Instr.sameNow]
    · have e : Instr.findNow (.int q) (.int q k) (x :: l) i = Instr.findNow (.int q) (.int q k) l (i + 1) := by
        have hb : (k == a) = false := by simpa using hk
        simp [Instr.findNow, ha, Instr.sameNow, hb]
      rcases findNow_int l (i + 1) fun y hy => h y (by simp [hy]) with ⟨h1, h2⟩ | ⟨j, y, h1, h2, h3⟩
      · refine .inl ⟨by rw [e, h1], fun y hy => ?_⟩
        rcases List.mem_cons.1 hy with rfl | hy
        · rw [ha]; intro h; injection h with _ h; exact hk h.symm
        · exact h2 y hy
      · exact .inr ⟨j + 1, y, by simpa using h1, h2, by rw [e, h3]; congr 2; simp; omega⟩
section
variable {P : Program} {q : IntKind} {w : World} {b : Nat} {f : Int → Option Value} {t kt et : TypeId}
theorem Mp.find (h : Mp q w b f) (k : Int) : ∃ es clock, w.heap[b]? = some (.map es clock) ∧ MpE q es clock f ∧
    ((f k = none ∧ Instr.findNow (.int q) (.int q k) es.toList 0 = some none) ∨ ∃ j x, es.toList[j]? = some x ∧ x.key = .int q k ∧ f k = some x.val ∧ Instr.findNow (.int q) (.int q k) es.toList 0 = some (some (j, x.val))) := by
  obtain ⟨es, clock, hb, he⟩ := h
  refine ⟨es, clock, hb, he, ?_⟩
  rcases findNow_int (k := k) es.toList 0 fun x hx => (he.key x hx).imp fun _ h => h.1 with ⟨h1, h2⟩ | ⟨j, x, h1, h2, h3⟩
  · refine .inl ⟨?_, h1⟩
    cases hf : f k with
    | none => rfl
    | some v =>
      obtain ⟨x, hx, hk⟩ := he.has k v hf
      exact absurd hk (h2 x hx)
  · refine .inr ⟨j, x, h1, h2, ?_, by simpa using h3⟩
    obtain ⟨a, ha, hv⟩ := he.key x (List.mem_of_getElem? h1)
    rw [h2] at ha; injection ha with _ ha; subst ha; exact hv
/-- `v, ok := m[k]`, and `v := m[k]`. -/
theorem Mp.look (h : Mp q w b f) (ht : P.underlying t = some (.map kt et)) (hk : P.underlying kt = some (.int q)) {z : Value} (hz : (zeroValue et).run P w = .ok z w) (k : Int) (c : Bool) {K : Value → World → Prop}
    (hK : K (if c then .tuple #[(f k).getD z, .bool (f k).isSome] else (f k).getD z) w) : Raw P (Instr.lookup t (.map (some b)) (.int q k) c) w K := by
  obtain ⟨es, clock, hb, he, h2⟩ := h.find k
  have hc : (Instr.checkKey es.isEmpty 10000 kt (.int q k)).run P w = .ok () w := MapKept.run_checkKey (k := .int q k) hk (by simp [MapKept.IsKey]) _ 9999
  rcases h2 with ⟨h1, h2⟩ | ⟨j, x, h3, h4, h1, h2⟩
  · rw [h1] at hK
    refine ⟨_, w, ?_, hK⟩
    simp [Instr.lookup, run_underlying ht, MapKept.run_getObj_map hb, hc, MapKept.run_findKey hk h2, hz, Result.andThen]
  · rw [h1] at hK
    refine ⟨_, w, ?_, hK⟩
    simp [Instr.lookup, run_underlying ht, MapKept.run_getObj_map hb, hc, MapKept.run_findKey hk h2, Result.andThen]
def upd (f : Int → Option Value) (k : Int) (v : Option Value) : Int → Option Value := fun j => if j = k then v else f j
theorem Mp.lt (h : Mp q w b f) : b < w.heap.size := by
  obtain ⟨es, clock, hb, _⟩ := h; exact (Array.getElem?_eq_some_iff.1 hb).1
theorem MpE.push {es : Array MapEntry} {clock : Nat} (he : MpE q es clock f) {k : Int} (hk : f k = none) (v : Value) : MpE q (es.push ⟨.int q k, v, clock⟩) (clock + 1) (upd f k (some v)) := by
  have hne : ∀ x ∈ es.toList, ∀ a, x.key = .int q a → a ≠ k := fun x hx a ha e => by
    obtain ⟨a', h1, h2⟩ := he.key x hx
    rw [ha] at h1; injection h1 with _ h1; subst h1; subst e; rw [hk] at h2; cases h2
  refine ⟨fun x hx => ?_, fun j u hu => ?_, ?_, fun x hx => ?_, ?_⟩
  · rw [Array.toList_push] at hx
    rcases List.mem_append.1 hx with hx | hx
    · obtain ⟨a, h1, h2⟩ := he.key x hx
      exact ⟨a, h1, by unfold upd; rw [if_neg (hne x hx a h1)]; exact h2⟩
    · rw [List.mem_singleton] at hx; subst hx
      exact ⟨k, rfl, by unfold upd; rw [if_pos rfl]⟩
  · unfold upd at hu
    by_cases e : j = k
    · subst e; exact ⟨⟨.int q j, v, clock⟩, by simp, rfl⟩
    · rw [if_neg e] at hu
      obtain ⟨x, hx, h1⟩ := he.has j u hu
      exact ⟨x, by simp [Array.mem_toList_iff.1 hx], h1⟩
  · rw [Array.toList_push, List.map_append, List.nodup_append]
    refine ⟨he.one, by simp, fun x hx y hy e => ?_⟩
    rw [List.map_singleton, List.mem_singleton] at hy
    obtain ⟨z, hz, rfl⟩ := List.mem_map.1 hx
    obtain ⟨a, h1, -⟩ := he.key z hz
    rw [h1, hy] at e; injection e with _ e
    exact hne z hz a h1 e
  · rw [Array.toList_push] at hx
    rcases List.mem_append.1 hx with hx | hx
    · have := he.born x hx; omega
    · rw [List.mem_singleton] at hx; subst hx; exact Nat.lt_succ_self _
  · rw [Array.toList_push, List.map_append, List.nodup_append]
    refine ⟨he.age, by simp, fun x hx y hy e => ?_⟩
    rw [List.map_singleton, List.mem_singleton] at hy
    obtain ⟨z, hz, rfl⟩ := List.mem_map.1 hx
    have := he.born z hz
    simp only at hy e
    omega
theorem modify_list (es : Array MapEntry) (j : Nat) (g : MapEntry → MapEntry) : (es.modify j g).toList = es.toList.modify j g := Array.toList_modify
theorem map_modify_same {α β : Type} (p : α → β) (g : α → α) : ∀ (l : List α) (j : Nat), (∀ x, l[j]? = some x → p (g x) = p x) → (l.modify j g).map p = l.map p
  | [], j, _ => by cases j <;> rfl
  | x :: l, 0, h => by simp [List.modify, h x rfl]
  | x :: l, j + 1, h => by simpa using map_modify_same p g l j fun y hy => h y (by simpa using hy)
theorem mem_modify {α : Type} (g : α → α) : ∀ (l : List α) (j : Nat) (y : α), l[j]? = some y → ∀ x, x ∈ l.modify j g → x = g y ∨ ∃ i, i ≠ j ∧ l[i]? = some x
  | [], j, y, h, x, hx => by simp at h
  | a :: l, 0, y, h, x, hx => by
    simp at h; subst h
    rw [List.modify_zero_cons] at hx
    rcases List.mem_cons.1 hx with rfl | hx
    · exact .inl rfl
    · obtain ⟨i, hi⟩ := List.mem_iff_getElem?.1 hx
      exact .inr ⟨i + 1, by omega, by simpa using hi⟩
  | a :: l, j + 1, y, h, x, hx => by
    rw [List.modify_succ_cons] at hx
    rcases List.mem_cons.1 hx with rfl | hx
    · exact .inr ⟨0, by omega, rfl⟩
    · rcases mem_modify g l j y (by simpa using h) x hx with h1 | ⟨i, h1, h2⟩
      · exact .inl h1
      · exact .inr ⟨i + 1, by omega, by simpa using h2⟩
theorem MpE.put {es : Array MapEntry} {clock : Nat} (he : MpE q es clock f) {k : Int} {j : Nat} {y : MapEntry} (hj : es.toList[j]? = some y) (hy : y.key = .int q k) (v : Value) :
    MpE q (es.modify j fun e => { e with key := .int q k, val := v }) clock (upd f k (some v)) := by
  have hym := List.mem_of_getElem? hj
  have hkeys : (es.modify j fun e => { e with key := .int q k, val := v }).toList.map (·.key) = es.toList.map (·.key) := by
    rw [modify_list]; exact map_modify_same _ _ _ _ fun x hx => by rw [hj] at hx; cases hx; exact hy.symm
  have hborn : (es.modify j fun e => { e with key := .int q k, val := v }).toList.map (·.born) = es.toList.map (·.born) := by
    rw [modify_list]; exact map_modify_same _ _ _ _ fun x hx => rfl
  refine ⟨fun x hx => ?_, fun i u hu => ?_, by rw [hkeys]; exact he.one, fun x hx => ?_, by rw [hborn]; exact he.age⟩
  · rw [modify_list] at hx
    rcases mem_modify _ _ _ y hj x hx with rfl | ⟨i, hi, hx2⟩
    · exact ⟨k, rfl, by unfold upd; rw [if_pos rfl]⟩
    · obtain ⟨a, h1, h2⟩ := he.key x (List.mem_of_getElem? hx2)
      refine ⟨a, h1, ?_⟩
      have hne : a ≠ k := fun e => by
        subst e
        obtain ⟨l1, l2⟩ := List.getElem?_eq_some_iff.1 hx2
        obtain ⟨m1, m2⟩ := List.getElem?_eq_some_iff.1 hj
        have hpw := List.pairwise_iff_getElem.1 he.one
        rcases Nat.lt_or_gt_of_ne hi with h3 | h3
        · have := hpw i j (by simpa using l1) (by simpa using m1) h3
          simp only [List.getElem_map, l2, m2] at this
          exact this (by rw [h1, hy])
        · have := hpw j i (by simpa using m1) (by simpa using l1) h3
          simp only [List.getElem_map, l2, m2] at this
          exact this (by rw [h1, hy])
      unfold upd; rw [if_neg hne]; exact h2
  · have hex : ∃ x ∈ es.toList, x.key = .int q i := by
      unfold upd at hu
      by_cases e : i = k
      · subst e; exact ⟨y, hym, hy⟩
      · rw [if_neg e] at hu; exact he.has i u hu
    obtain ⟨x, hx, h1⟩ := hex
    have : Value.int q i ∈ (es.modify j fun e => { e with key := .int q k, val := v }).toList.map (·.key) := by
      rw [hkeys]; exact List.mem_map.2 ⟨x, hx, h1⟩
    obtain ⟨x', hx', h2⟩ := List.mem_map.1 this
    exact ⟨x', hx', h2⟩
  · have : x.born ∈ es.toList.map (·.born) := by rw [← hborn]; exact List.mem_map.2 ⟨x, hx, rfl⟩
    obtain ⟨z, hz, h1⟩ := List.mem_map.1 this
    rw [← h1]; exact he.born z hz
theorem set_fm (w : World) (b : Nat) (o : Obj) : Fm (· = b) w { w with heap := w.heap.setIfInBounds b o } :=
  ⟨rfl, rfl, rfl, by simp, fun i hi hne => by
    show (w.heap.setIfInBounds b o)[i]? = _
    rw [Array.getElem?_setIfInBounds_ne (fun e => hne e.symm)]⟩
/-- `m[k] = v`. -/
theorem Mp.update (h : Mp q w b f) (ht : P.underlying t = some (.map kt et)) (hk : P.underlying kt = some (.int q)) (k : Int) (v : Value) {K : World → Prop}
    (hK : ∀ w', Mp q w' b (upd f k (some v)) → Fm (· = b) w w' → K w') : Raw P (Instr.mapUpdate t (.map (some b)) (.int q k) v) w fun _ w' => K w' := by
  obtain ⟨es, clock, hb, he, h2⟩ := h.find k
  have hlt := (Array.getElem?_eq_some_iff.1 hb).1
  have hc : (Instr.checkKey false 10000 kt (.int q k)).run P w = .ok () w := MapKept.run_checkKey (k := .int q k) hk (by simp [MapKept.IsKey]) _ 9999
  rcases h2 with ⟨h1, h2⟩ | ⟨j, x, h3, h4, h1, h2⟩
  · refine ⟨(), { w with heap := w.heap.setIfInBounds b (.map (es.push ⟨.int q k, v, clock⟩) (clock + 1)) }, ?_, hK _ ⟨_, _, ?_, he.push h1 v⟩ (set_fm _ _ _)⟩
    · simp [Instr.mapUpdate, run_underlying ht, MapKept.run_getObj_map hb, hc, MapKept.run_findKey hk h2, MapKept.run_setObj_map _ hb, Result.andThen]
    · simp [hlt]
  · refine ⟨(), { w with heap := w.heap.setIfInBounds b (.map (es.modify j fun e => { e with key := .int q k, val := v }) clock) }, ?_, hK _ ⟨_, _, ?_, he.put h3 h4 v⟩ (set_fm _ _ _)⟩
    · have hj : (es[j]?).map (·.key) = some (.int q k) := by
        rw [← Array.getElem?_toList, h3, Option.map_some, h4]
      have hst : (Instr.keyThatStays (.int q k) (.int q k)).run P w = .ok (.int q k) w := MapKept.run_keyThatStays (d := .int q) (by simp [MapKept.IsKey])
      simp only [Instr.mapUpdate, Sem.run_bind, run_underlying ht, MapKept.run_getObj_map hb, hc, MapKept.run_findKey hk h2, MapKept.run_setObj_map _ hb, Result.andThen, hj, hst, Option.getD_some]
    · simp [hlt]
theorem Mp.made (w : World) (q : IntKind) : Mp q (w.alloc (.map #[] 0)) w.heap.size fun _ => none :=
  ⟨#[], 0, heap_alloc_new _ _, ⟨fun x hx => by simp at hx, fun k v h => by simp at h, by simp, fun x hx => by simp at hx, by simp⟩⟩
theorem Mp.fm {M : Nat → Prop} {w1 : World} (h : Mp q w b f) (hf : Fm M w w1) (hm : ¬ M b) : Mp q w1 b f := by
  obtain ⟨es, clock, hb, he⟩ := h
  exact ⟨es, clock, by rw [hf.block b (Array.getElem?_eq_some_iff.1 hb).1 hm]; exact hb, he⟩
end
end Go.Proofs.YtfhkgnfphfmhiaaGreatDoor
/- Ranges over maps whose keys are integers, in whatever order. -/
namespace Go.Proofs.YtfhkgnfphfmhiaaGreatDoor
open Go.RowKit Go.Vc
set_option linter.unusedSimpArgs false
/-- Keys with their stamps. -/
def kb (es : Array MapEntry) : List (Value × Nat) := es.toList.map fun x => (x.key, x.born)
/-- Block g goes over map b: which keys are left, which one came last. -/
def Itr (q : IntKind) (w : World) (b g : Nat) (f : Int → Option Value) (left : Int → Prop) (cur : Option Int) : Prop :=
  ∃ es clock since seen last, w.heap[b]? = some (.map es clock) ∧ MpE q es clock f ∧ w.heap[g]? = some (.mapIter (some b) since seen last) ∧ since ≤ last ∧ since ≤ clock ∧ (∀ p ∈ kb es, p.2 < since) ∧
    (∀ k, left k ↔ ∃ s, (Value.int q k, s) ∈ kb es ∧ seen.contains s = false) ∧ ∀ k, cur = some k → last = clock ∧ ∃ s, (Value.int q k, s) ∈ kb es ∧ seen.back? = some s
theorem kb_mem {es : Array MapEntry} {p : Value × Nat} : p ∈ kb es ↔ ∃ x ∈ es.toList, x.key = p.1 ∧ x.born = p.2 := by
  unfold kb
  rw [List.mem_map]
  constructor
  · rintro ⟨x, hx, rfl⟩; exact ⟨x, hx, rfl, rfl⟩
  · rintro ⟨x, hx, h1, h2⟩; exact ⟨x, hx, by rw [h1, h2]⟩
section
variable {P : Program} {q : IntKind} {w : World} {b g : Nat} {f : Int → Option Value} {t kt et : TypeId} {left : Int → Prop} {cur : Option Int}
theorem Itr.mp (h : Itr q w b g f left cur) : Mp q w b f := by
  obtain ⟨es, clock, since, seen, last, h1, h2, _⟩ := h
  exact ⟨es, clock, h1, h2⟩
theorem Itr.ne (h : Itr q w b g f left cur) : b ≠ g := by
  obtain ⟨es, clock, since, seen, last, h1, h2, h3, _⟩ := h
  intro e; subst e; rw [h1] at h3; cases h3
/-- It begins. -/
theorem Mp.range (h : Mp q w b f) (ht : P.underlying t = some (.map kt et)) {K : Value → World → Prop}
    (hK : ∀ w', Below w.heap.size w w' → Itr q w' b w.heap.size f (fun k => f k ≠ none) none → K (.pointer (some ⟨w.heap.size, 0, none⟩)) w') : Raw P (Instr.range t (.map (some b))) w K := by
  obtain ⟨es, clock, hb, he⟩ := h
  have hlt := (Array.getElem?_eq_some_iff.1 hb).1
  refine ⟨_, _, run_range_map w t kt et b es clock ht hb, hK _ ((Below.refl _ _).alloc (Nat.le_refl _) _) ⟨es, clock, clock, #[], clock, by first | (rw [heap_alloc_old w _ hlt]; exact hb) | (rw [heap_alloc_old w _ _ hlt]; exact hb), he, heap_alloc_new _ _, Nat.le_refl _, Nat.le_refl _, ?_, fun k => ?_, fun k h => by cases h⟩⟩
  · intro p hp
    obtain ⟨x, hx, h1, h2⟩ := kb_mem.1 hp
    rw [← h2]; exact he.born x hx
  · constructor
    · intro hk
      cases hf : f k with
      | none => exact absurd hf hk
      | some v =>
        obtain ⟨x, hx, h1⟩ := he.has k v hf
        exact ⟨x.born, kb_mem.2 ⟨x, hx, h1, rfl⟩, by simp⟩
    · rintro ⟨s, hs, -⟩
      obtain ⟨x, hx, h1, h2⟩ := kb_mem.1 hs
      obtain ⟨a, h3, h4⟩ := he.key x hx
      rw [h1] at h3; injection h3 with _ h3; subst h3; rw [h4]; simp
theorem Itr.next (h : Itr q w b g f left cur) (ty : TypeId) {K : Value → World → Prop} (h0 : (∀ k, ¬ left k) → K (.tuple #[.bool false]) w)
    (h1 : ∀ k v w1, left k → f k = some v → Fm (· = g) w w1 → Itr q w1 b g f (fun j => left j ∧ j ≠ k) (some k) → K (.tuple #[.bool true, .int q k, v]) w1) : Raw P (Instr.next (.pointer (some ⟨g, 0, none⟩)) false ty) w K := by
  have hne := h.ne
  obtain ⟨es, clock, since, seen, last, hb, he, hg, hsl, hsc, hold, hleft, -⟩ := h
  have hold' : ∀ x ∈ es.toList, x.born < since := fun x hx => hold (x.key, x.born) (kb_mem.2 ⟨x, hx, rfl, rfl⟩)
  unfold Raw
  simp only [Instr.next, getObj, Sem.run_bind, Sem.run, hg, hb, Result.andThen, next_test_false seen es since last hold' hsl, Bool.false_eq_true, if_false]
  have hmem : ∀ x ∈ (Array.filter (fun e => !seen.contains e.born) es).toList, x.born < since := fun x hx => hold' x (by simp at hx ⊢; exact hx.1)
  have hL : ∀ x, x ∈ Array.filter (fun e => !seen.contains e.born) es ↔ x ∈ es.toList ∧ seen.contains x.born = false := fun x => by simp
  generalize Array.filter (fun e => !seen.contains e.born) es = L at hmem hL ⊢
  have e1 : L.filter (fun x => decide (x.born < since)) = L := Array.filter_eq_self.2 (fun x hx => by simpa using hmem x (by simpa using hx))
  have e2 : L.filter (fun x => decide (x.born ≥ since)) = #[] := by
    rw [Array.filter_eq_empty_iff]
    intro x hx
    have := hmem x (by simpa using hx)
    simp
    omega
  simp only [e1, e2, Array.append_empty]
  by_cases hz : L.size = 0
  · have hLe : L = #[] := Array.eq_empty_of_size_eq_zero hz
    refine ⟨.tuple #[.bool false], w, ?_, h0 fun k hk => ?_⟩
    · subst hLe
      simp [choose, Sem.run, Question.forced]
    · obtain ⟨s, hs, hc⟩ := (hleft k).1 hk
      obtain ⟨x, hx, h3, h4⟩ := kb_mem.1 hs
      have : x ∈ L := (hL x).2 ⟨hx, by rw [h4]; exact hc⟩
      rw [hLe] at this; simp at this
  · have hne0 : L.isEmpty = false := by simp [Array.isEmpty, hz]
    simp only [hne0, Bool.false_eq_true, if_false, Array.empty_append, Array.size_map]
    have hch : ∃ (j : Nat) (w1 : World), j < L.size ∧ w1.heap = w.heap ∧ Below w.heap.size w w1 ∧ (choose (Question.mapNext L.size)).run P w = .ok j w1 := by
      by_cases hf : L.size ≤ 1
      · exact ⟨0, w, by omega, rfl, Below.refl _ _, by simp [choose, Sem.run, Question.forced, hf]⟩
      · exact ⟨_, w.drew, Nat.mod_lt _ (by omega), rfl, (Below.refl _ _).drew, by
          simp only [choose, Sem.run, Question.forced, decide_eq_true_eq, hf, if_false, Question.cut]
          rfl⟩
    obtain ⟨j, w1, hj, hh, hbel, hrun⟩ := hch
    have hset : ∀ (o' : Obj), (setObj g o').run P w1 = .ok () { w1 with heap := w1.heap.setIfInBounds g o' } := fun o' => by
      simp [setObj, Sem.run, hh, hg]
    have hxm : L[j] ∈ L := Array.getElem_mem hj
    obtain ⟨hx1, hx2⟩ := (hL _).1 hxm
    obtain ⟨k, hk1, hk2⟩ := he.key _ hx1
    have hglt := (Array.getElem?_eq_some_iff.1 hg).1
    refine ⟨.tuple #[.bool true, .int q k, L[j].val], { w1 with heap := w1.heap.setIfInBounds g (.mapIter (some b) since (seen.push L[j].born) clock) }, ?_, ?_⟩
    · simp only [hrun, Array.getElem?_map, Array.getElem?_eq_getElem hj, Option.map_some, Sem.run_bind, hset, Result.andThen, hk1]
      rfl
    · refine h1 k L[j].val _ ((hleft k).2 ⟨L[j].born, kb_mem.2 ⟨_, hx1, hk1, rfl⟩, hx2⟩) hk2 ((Fm.below hbel).trans (set_fm _ _ _)) ⟨es, clock, since, seen.push L[j].born, clock, ?_, he, ?_, hsc, hsc, hold, fun i => ?_, fun i hi => ?_⟩
      · show (w1.heap.setIfInBounds g _)[b]? = _
        rw [Array.getElem?_setIfInBounds_ne (fun e => hne e.symm), hh]; exact hb
      · show (w1.heap.setIfInBounds g _)[g]? = _
        rw [hh]; simp [hglt]
      · constructor
        · rintro ⟨h3, h4⟩
          obtain ⟨s, hs, hc⟩ := (hleft i).1 h3
          obtain ⟨y, hy, h5, h6⟩ := kb_mem.1 hs
          refine ⟨s, hs, ?_⟩
          have hsx : s ≠ L[j].born := fun e => by
            have : y = L[j] := nodup_map_inj he.age y hy _ hx1 (by rw [h6, e])
            rw [this, hk1] at h5; injection h5 with _ h5; exact h4 h5.symm
          simp only [Array.contains_eq_mem, Array.mem_push, decide_eq_false_iff_not, not_or] at hc ⊢
          exact ⟨hc, hsx⟩
        · rintro ⟨s, hs, hc⟩
          obtain ⟨y, hy, h5, h6⟩ := kb_mem.1 hs
          simp only [Array.contains_eq_mem, Array.mem_push, decide_eq_false_iff_not, not_or] at hc
          refine ⟨(hleft i).2 ⟨s, hs, by simpa using hc.1⟩, fun e => ?_⟩
          subst e
          have : y = L[j] := nodup_map_inj he.one y hy _ hx1 (by rw [h5, hk1])
          exact hc.2 (by rw [← show y.born = s from h6, this])
      · cases hi
        exact ⟨rfl, L[j].born, kb_mem.2 ⟨_, hx1, hk1, rfl⟩, by simp⟩
/-- The round's key and value. -/
theorem Itr.entry {k : Int} (h : Itr q w b g f left (some k)) {v : Value} (hv : f k = some v) {K : Value → World → Prop} (hK : K (.tuple #[.int q k, v]) w) : Raw P (Instr.entry (.pointer (some ⟨g, 0, none⟩))) w K := by
  obtain ⟨es, clock, since, seen, last, hb, he, hg, hsl, hsc, hold, hleft, hcur⟩ := h
  obtain ⟨rfl, s, hs, hback⟩ := hcur k rfl
  obtain ⟨x, hx, h1, h2⟩ := kb_mem.1 hs
  have hf : es.find? (·.born == s) = some x := by rw [← Array.find?_toList, ← show x.born = s from h2]; exact find_born x es.toList he.age hx
  obtain ⟨a, h3, h4⟩ := he.key x hx
  rw [h1] at h3; injection h3 with _ h3; subst h3
  have hxv : x.val = v := by rw [hv] at h4; exact (Option.some.inj h4).symm
  refine ⟨_, w, ?_, hK⟩
  simp only [Instr.entry, getObj, Sem.run_bind, Sem.run, hg, hb, Result.andThen, hback, bne_self_eq_false, Bool.false_eq_true, if_false, hf]
  rw [← hxv, ← show x.key = Value.int q k from h1]
  rfl
/-- A store at a key that is there, while it goes on. -/
theorem Itr.update (h : Itr q w b g f left cur) (ht : P.underlying t = some (.map kt et)) (hk : P.underlying kt = some (.int q)) (k : Int) (hfk : f k ≠ none) (v : Value) {K : World → Prop}
    (hK : ∀ w', Itr q w' b g (upd f k (some v)) left cur → Fm (· = b) w w' → K w') : Raw P (Instr.mapUpdate t (.map (some b)) (.int q k) v) w fun _ w' => K w' := by
  have hne := h.ne
  have hm := h.mp
  obtain ⟨es, clock, since, seen, last, hb, he, hg, hsl, hsc, hold, hleft, hcur⟩ := h
  obtain ⟨es', clock', hb', he', h2⟩ := hm.find k
  rw [hb] at hb'; cases hb'
  have hlt := (Array.getElem?_eq_some_iff.1 hb).1
  have hc : (Instr.checkKey false 10000 kt (.int q k)).run P w = .ok () w := MapKept.run_checkKey (k := .int q k) hk (by simp [MapKept.IsKey]) _ 9999
  rcases h2 with ⟨h1, h2⟩ | ⟨j, x, h3, h4, h1, h2⟩
  · exact absurd h1 hfk
  · have hkb : kb (es.modify j fun e => { e with key := .int q k, val := v }) = kb es := by
      unfold kb
      rw [modify_list]
      exact map_modify_same _ _ _ _ fun y hy => by rw [h3] at hy; cases hy; simp [h4]
    refine ⟨(), { w with heap := w.heap.setIfInBounds b (.map (es.modify j fun e => { e with key := .int q k, val := v }) clock) }, ?_, hK _ ⟨_, clock, since, seen, last, ?_, he.put h3 h4 v, ?_, hsl, hsc, by rw [hkb]; exact hold, by rw [hkb]; exact hleft, by rw [hkb]; exact hcur⟩ (set_fm _ _ _)⟩
    · have hj : (es[j]?).map (·.key) = some (.int q k) := by
        rw [← Array.getElem?_toList, h3, Option.map_some, h4]
      have hst : (Instr.keyThatStays (.int q k) (.int q k)).run P w = .ok (.int q k) w := MapKept.run_keyThatStays (d := .int q) (by simp [MapKept.IsKey])
      simp only [Instr.mapUpdate, Sem.run_bind, run_underlying ht, MapKept.run_getObj_map hb, hc, MapKept.run_findKey hk h2, MapKept.run_setObj_map _ hb, Result.andThen, hj, hst, Option.getD_some]
    · simp [hlt]
    · show (w.heap.setIfInBounds b _)[g]? = _
      rw [Array.getElem?_setIfInBounds_ne hne]; exact hg
theorem Itr.fm {M : Nat → Prop} {w1 : World} (h : Itr q w b g f left cur) (hf : Fm M w w1) (hm : ¬ M b) (hm2 : ¬ M g) : Itr q w1 b g f left cur := by
  obtain ⟨es, clock, since, seen, last, hb, he, hg, h⟩ := h
  exact ⟨es, clock, since, seen, last, by rw [hf.block b (Array.getElem?_eq_some_iff.1 hb).1 hm]; exact hb, he, by rw [hf.block g (Array.getElem?_eq_some_iff.1 hg).1 hm2]; exact hg, h⟩
end
end Go.Proofs.YtfhkgnfphfmhiaaGreatDoor
/- Locks: an owner's lock at a place. -/
namespace Go.Proofs.YtfhkgnfphfmhiaaGreatDoor
open Go.RowKit Go.Vc
set_option linter.unusedSimpArgs false
theorem lkMap : Tryz.prog.underlying 77 = some (.map 41 81) := by kernel_rfl
theorem lkKey : Tryz.prog.underlying 41 = some (.int .u64) := by kernel_rfl
theorem lkZero (w : World) : (zeroValue 81).run Tryz.prog w = .ok (.slice none 0 0) w := by kernel_rfl
/-- What is held at a place. -/
def HeldAt (w : World) (f : Int → Option Value) (x : Int) (hs : List (Int × Int)) : Prop := ∃ v : Sv, (f x).getD (.slice none 0 0) = .slice v.1 v.2.1 v.2.2 ∧ RR LHd w hs v
def hasF : List (Int × Int) → Int → Int
  | [], _ => 0
  | y :: l, who => if y.1 = who then y.2 else hasF l who
theorem has_calls {w : World} {tg b : Nat} {f : Int → Option Value} {x : Nat} {hs : List (Int × Int)} (hc : w.cell? ⟨tg, 2, none⟩ = some (.map (some b))) (hm : Mp .u64 w b f) (hh : HeldAt w f x hs) (who : Int) {R : Ending → World → Prop}
    (h : ∀ w', Below w.heap.size w w' → R (.returned (.int .i64 (hasF hs who))) w') : Calls Tryz.prog 29 #[.pointer (some ⟨tg, 0, none⟩), .int .i64 who, .int .u64 (x : Nat)] w R := by
  obtain ⟨v, hv, z0, z1, z2⟩ := hh
  refine ok29 (some ⟨tg, 0, none⟩) who x ?_
  unfold F29
  simp only [NonNil_some, Addr.add_mk, Nat.zero_add, hc, LdM_some, Addr.add_mk, List.getElem?_toArray, List.getElem?_cons_zero, List.getElem?_cons_succ, LdI_some, LdB_some, LdStr_some, LdP_some, LdSl_some, LdM_some, Nat.zero_add, Br_t, Br_f]
  refine hm.look lkMap lkKey (lkZero w) x false ?_
  simp only [Bool.false_eq_true, if_false, hv]
  refine ⟨_, _, _, rfl, ?_⟩
  refine ⟨fun i w' => ∃ k : Nat, i = k ∧ k ≤ hs.length ∧ Below w.heap.size w w' ∧ hasF (hs.drop k) who = hasF hs who, fun i _ => hs.length - i.toNat, ⟨0, rfl, by omega, Below.refl _ _, by simp⟩, ?_⟩
  rintro i w1 ⟨k, rfl, hk, hb1, hF⟩
  unfold F29_l2
  refine brd (fun hlt => ?_) (fun hge => ?_)
  · have hk2 : k < hs.length := by omega
    rw [List.drop_eq_getElem_cons hk2, hasF] at hF
    refine (z2.keep hb1).hd z1 rfl (k := k) hk2 fun b o c0 c1 => ?_
    simp only [Addr.add_mk, c0, c1, Addr.add_mk, List.getElem?_toArray, List.getElem?_cons_zero, List.getElem?_cons_succ, LdI_some, LdB_some, LdStr_some, LdP_some, LdSl_some, LdM_some, Nat.zero_add, Br_t, Br_f]
    refine al fun gh w2 hb2 b2 hge2 => st_blk b2 (by simp) fun w3 b3 f3 => st_blk b3 (by simp) fun w4 b4 f4 => ?_
    simp only [List.setIfInBounds_toArray, List.set_cons_zero, List.set_cons_succ] at b4
    have f : Fm (· = gh) w2 w4 := Fm.trans f3 f4
    have B4 := btr hb1 hb1.size (hb2.trans (f.toBelow hb2.size fun b hb e => by have e : b = gh := e; omega))
    simp only [Addr.add_mk, Nat.zero_add, b4.cell, List.getElem?_toArray, List.getElem?_cons_zero, List.getElem?_cons_succ, Addr.add_mk, List.getElem?_toArray, List.getElem?_cons_zero, List.getElem?_cons_succ, LdI_some, LdB_some, LdStr_some, LdP_some, LdSl_some, LdM_some, Nat.zero_add, Br_t, Br_f]
    refine bre (fun he => ?_) (fun hne => ?_)
    · rw [if_pos he] at hF
      rw [hF]; exact h w4 B4
    · rw [if_neg hne] at hF
      exact ⟨inR_i64 (by omega) (by omega), ⟨k + 1, by simp, by omega, B4, hF⟩, (by first | omega | (dsimp only; omega))⟩
  · have hk2 : k = hs.length := by omega
    subst hk2
    rw [List.drop_length, hasF] at hF
    rw [hF]; exact h w1 hb1
end Go.Proofs.YtfhkgnfphfmhiaaGreatDoor
/- Locks: whether a mode fits with all that others have at a place. -/
namespace Go.Proofs.YtfhkgnfphfmhiaaGreatDoor
open Go.RowKit Go.Vc
set_option linter.unusedSimpArgs false
def freeP (who mode : Int) (y : Int × Int) : Bool := (y.1 != who) && !fitsL y.2 mode
theorem free1_calls {y : Int × Int} {who mode : Int} {gw gm : Nat} {w : World} {R : Ending → World → Prop} (hw : w.cell? ⟨gw, 0, none⟩ = some (.int .i64 who)) (hm : w.cell? ⟨gm, 0, none⟩ = some (.int .i64 mode)) (hlw : gw < w.heap.size) (hlm : gm < w.heap.size)
    (h : ∀ w', Below w.heap.size w w' → R (.returned (.bool (freeP who mode y))) w') : Calls Tryz.prog 94 #[.agg #[.int .i64 y.1, .int .i64 y.2], .pointer (some ⟨gw, 0, none⟩), .pointer (some ⟨gm, 0, none⟩)] w R := by
  refine ok94 y.1 y.2 ⟨gw, 0, none⟩ ⟨gm, 0, none⟩ ?_
  unfold F94
  refine al fun g w1 hb1 b1 hge => ?_
  have hw1 : w1.cell? ⟨gw, 0, none⟩ = some (.int .i64 who) := (sub_below hb1).cell hw
  have hm1 : w1.cell? ⟨gm, 0, none⟩ = some (.int .i64 mode) := (sub_below hb1).cell hm
  simp only [Addr.add_mk, Nat.zero_add, b1.cell, hw1, hm1, List.getElem?_toArray, List.getElem?_cons_zero, List.getElem?_cons_succ, Addr.add_mk, List.getElem?_toArray, List.getElem?_cons_zero, List.getElem?_cons_succ, LdI_some, LdB_some, LdStr_some, LdP_some, LdSl_some, LdM_some, Nat.zero_add, Br_t, Br_f]
  have H := h w1 hb1
  unfold freeP at H
  refine brn (fun hne => ?_) (fun he => ?_)
  · rw [show (y.1 != who) = true by simpa using hne, Bool.true_and] at H
    exact fits_calls ⟨_, rfl, H⟩
  · rw [show (y.1 != who) = false by simpa using he, Bool.false_and] at H
    exact H
theorem free_calls {w : World} {tg b : Nat} {f : Int → Option Value} {x : Nat} {hs : List (Int × Int)} (hc : w.cell? ⟨tg, 2, none⟩ = some (.map (some b))) (hm : Mp .u64 w b f) (hh : HeldAt w f x hs) (who mode : Int) {R : Ending → World → Prop}
    (h : ∀ w', Below w.heap.size w w' → R (.returned (.bool (!hs.any (freeP who mode)))) w') : Calls Tryz.prog 58 #[.pointer (some ⟨tg, 0, none⟩), .int .i64 who, .int .u64 (x : Nat), .int .i64 mode] w R := by
  obtain ⟨v, hv, hr⟩ := hh
  refine ok58 (some ⟨tg, 0, none⟩) who x mode ?_
  unfold F58
  refine al fun gw w1 hb1 b1 hge1 => al fun gm w2 hb2 b2 hge2 => ?_
  have B2 := btr hb1 hb1.size hb2
  have hc2 : w2.cell? ⟨tg, 2, none⟩ = some (.map (some b)) := (sub_below B2).cell hc
  have hm2 : Mp .u64 w2 b f := hm.fm (M := fun _ => False) (.below B2) (fun h => h)
  have b12 := b1.keep hb2
  simp only [NonNil_some, Addr.add_mk, Nat.zero_add, hc2, LdM_some, Addr.add_mk, List.getElem?_toArray, List.getElem?_cons_zero, List.getElem?_cons_succ, LdI_some, LdB_some, LdStr_some, LdP_some, LdSl_some, LdM_some, Nat.zero_add, Br_t, Br_f]
  refine hm2.look lkMap lkKey (lkZero w2) x false ?_
  simp only [Bool.false_eq_true, if_false, hv]
  refine ⟨_, _, _, rfl, ?_⟩
  refine containsH_calls hs v _ (freeP who mode) (hr.keep B2) (fun y hy w3 K R' hb3 hK => ?_) fun w3 hb3 => ⟨_, rfl, h w3 (btr B2 B2.size hb3)⟩
  refine ⟨by kernel_rfl, ?_⟩
  exact free1_calls (by rw [(b12.keep hb3).cell]; rfl) (by rw [(b2.keep hb3).cell]; rfl) (b12.keep hb3).lt (b2.keep hb3).lt hK
end Go.Proofs.YtfhkgnfphfmhiaaGreatDoor
/- Locks: the small functions that are handed to the library. -/
namespace Go.Proofs.YtfhkgnfphfmhiaaGreatDoor
open Go.RowKit Go.Vc
set_option linter.unusedSimpArgs false
section
variable {w : World} {R : Ending → World → Prop}
theorem gives1_calls {y : Int × Int} {who : Int} {gw : Nat} (hw : w.cell? ⟨gw, 0, none⟩ = some (.int .i64 who)) (h : ∀ w', Below w.heap.size w w' → R (.returned (.bool (y.1 == who))) w') : Calls Tryz.prog 95 #[.agg #[.int .i64 y.1, .int .i64 y.2], .pointer (some ⟨gw, 0, none⟩)] w R := by
  refine ok95 y.1 y.2 ⟨gw, 0, none⟩ ?_
  unfold F95
  refine al fun g w1 hb1 b1 hge => ?_; 
  have hw1 : w1.cell? ⟨gw, 0, none⟩ = some (.int .i64 who) := (sub_below hb1).cell hw; 
  simp only [Addr.add_mk, Nat.zero_add, b1.cell, hw1, List.getElem?_toArray, List.getElem?_cons_zero, List.getElem?_cons_succ, Addr.add_mk, List.getElem?_toArray, List.getElem?_cons_zero, List.getElem?_cons_succ, LdI_some, LdB_some, LdStr_some, LdP_some, LdSl_some, LdM_some, Nat.zero_add, Br_t, Br_f]; 
  exact h w1 hb1
theorem frees1_calls {y : Int × Int} {who : Int} {gw : Nat} (hw : w.cell? ⟨gw, 0, none⟩ = some (.int .i64 who)) (h : ∀ w', Below w.heap.size w w' → R (.returned (.bool (y.1 == who))) w') : Calls Tryz.prog 56 #[.agg #[.int .i64 y.1, .int .i64 y.2], .pointer (some ⟨gw, 0, none⟩)] w R := by
  refine ok56 y.1 y.2 ⟨gw, 0, none⟩ ?_
  unfold F56
  refine al fun g w1 hb1 b1 hge => ?_; 
  have hw1 : w1.cell? ⟨gw, 0, none⟩ = some (.int .i64 who) := (sub_below hb1).cell hw; 
  simp only [Addr.add_mk, Nat.zero_add, b1.cell, hw1, List.getElem?_toArray, List.getElem?_cons_zero, List.getElem?_cons_succ, Addr.add_mk, List.getElem?_toArray, List.getElem?_cons_zero, List.getElem?_cons_succ, LdI_some, LdB_some, LdStr_some, LdP_some, LdSl_some, LdM_some, Nat.zero_add, Br_t, Br_f]; 
  exact h w1 hb1
theorem unwait1_calls {a m : Int} {hd : Bool} {v : Sv} {who : Int} {gw : Nat} (hw : w.cell? ⟨gw, 0, none⟩ = some (.int .i64 who)) (h : ∀ w', Below w.heap.size w w' → R (.returned (.bool (a == who))) w') : Calls Tryz.prog 92 #[.agg #[.int .i64 a, .int .i64 m, .bool hd, .slice v.1 v.2.1 v.2.2], .pointer (some ⟨gw, 0, none⟩)] w R := by
  refine ok92 a m hd v.1 v.2.1 v.2.2 ⟨gw, 0, none⟩ ?_
  unfold F92
  refine al fun g w1 hb1 b1 hge => ?_; 
  have hw1 : w1.cell? ⟨gw, 0, none⟩ = some (.int .i64 who) := (sub_below hb1).cell hw; 
  simp only [Addr.add_mk, Nat.zero_add, b1.cell, hw1, List.getElem?_toArray, List.getElem?_cons_zero, List.getElem?_cons_succ, Addr.add_mk, List.getElem?_toArray, List.getElem?_cons_zero, List.getElem?_cons_succ, LdI_some, LdB_some, LdStr_some, LdP_some, LdSl_some, LdM_some, Nat.zero_add, Br_t, Br_f]; 
  exact h w1 hb1
theorem waiting1_calls {a m : Int} {hd : Bool} {v : Sv} {who : Int} {gw : Nat} (hw : w.cell? ⟨gw, 0, none⟩ = some (.int .i64 who)) (h : ∀ w', Below w.heap.size w w' → R (.returned (.bool (a == who))) w') : Calls Tryz.prog 100 #[.agg #[.int .i64 a, .int .i64 m, .bool hd, .slice v.1 v.2.1 v.2.2], .pointer (some ⟨gw, 0, none⟩)] w R := by
  refine ok100 a m hd v.1 v.2.1 v.2.2 ⟨gw, 0, none⟩ ?_
  unfold F100
  refine al fun g w1 hb1 b1 hge => ?_; 
  have hw1 : w1.cell? ⟨gw, 0, none⟩ = some (.int .i64 who) := (sub_below hb1).cell hw; 
  simp only [Addr.add_mk, Nat.zero_add, b1.cell, hw1, List.getElem?_toArray, List.getElem?_cons_zero, List.getElem?_cons_succ, Addr.add_mk, List.getElem?_toArray, List.getElem?_cons_zero, List.getElem?_cons_succ, LdI_some, LdB_some, LdStr_some, LdP_some, LdSl_some, LdM_some, Nat.zero_add, Br_t, Br_f]; 
  exact h w1 hb1
end
end Go.Proofs.YtfhkgnfphfmhiaaGreatDoor
/- Locks: waiters in a row: one is put in. -/
namespace Go.Proofs.YtfhkgnfphfmhiaaGreatDoor
open Go.RowKit Go.Vc
set_option linter.unusedSimpArgs false
/-- A waiter's cells. -/
structure Ew where
  who : Int
  mode : Int
  had : Bool
  rest : Sv
def LWt : Lay Ew := ⟨4, fun x => [.int .i64 x.who, .int .i64 x.mode, .bool x.had, .slice x.rest.1 x.rest.2.1 x.rest.2.2], fun _ => rfl, fun _ => by simp [Value.oneCell'], by decide⟩
section
variable {α : Type} {L : Lay α} {w w1 : World} {e : TypeId} {k : Nat} {P : Program}
theorem OwnO.row1 {v : Sv} {xs : List α} (h : OwnO L w k e (slV v) xs) (h0 : 0 < xs.length) : ∃ (g c : Nat) (pre rest : List Value), v = (some ⟨g, pre.length, none⟩, xs.length, c) ∧ rowOf (slV v) = some g ∧ k ≤ g ∧ Blk w g (pre ++ (L.all xs ++ rest)).toArray e ∧ xs.length ≤ c ∧ c ≤ maxLen ∧ c * L.n ≤ (L.all xs ++ rest).length := by
  rcases h with ⟨_, rfl⟩ | ⟨_, rfl⟩ | ⟨g, o, c, l, hv, hb, hh, hn, hm, hs, ht⟩
  · simp at h0
  · simp at h0
  · obtain ⟨v1, v2, v3⟩ := v
    unfold slV at hv
    simp only [Value.slice.injEq] at hv
    obtain ⟨rfl, rfl, rfl⟩ := hv
    have ho : (l.take o).length = o := by rw [List.length_take]; omega
    have e2 : l.take o ++ (L.all xs ++ (l.drop o).drop (xs.length * L.n)) = l := by rw [← ht, List.take_append_drop, List.take_append_drop]
    refine ⟨g, c + 1, l.take o, (l.drop o).drop (xs.length * L.n), by rw [ho], rfl, hb, by rw [e2]; exact hh, hn, hm, ?_⟩
    rw [← ht, List.take_append_drop, List.length_drop]; omega
theorem OwnO.ofBlk {g c : Nat} {xs : List α} {pre rest : List Value} (hB : Blk w g (pre ++ (L.all xs ++ rest)).toArray e) (hk : k ≤ g) (hn : xs.length ≤ c) (h0 : 0 < c) (hm : c ≤ maxLen) (hs : c * L.n ≤ (L.all xs ++ rest).length) : OwnO L w k e (.slice (some ⟨g, pre.length, none⟩) xs.length c) xs := by
  obtain ⟨c', rfl⟩ : ∃ c', c = c' + 1 := ⟨c - 1, by omega⟩
  exact .inr (.inr ⟨g, _, c', _, rfl, hk, hB, hn, hm, by rw [List.length_append]; omega, by rw [List.drop_left, ← L.all_length, List.take_left]⟩)
theorem copy_blkP {g : Nat} {pre l : List Value} {t dT sT ty elem : TypeId} {sz : Nat} (hg : Blk w g (pre ++ l).toArray t) (hu : P.underlying dT = some (.slice elem)) (hsz : sizeT P elem = some sz) {o dLen dCap : Nat} {a : Addr} {sLen sCap : Nat} {cs : List Value}
    (hn : cs.length = Nat.min sLen dLen * sz) (hsrc : ∀ j v, cs[j]? = some v → w.cell? (a.add j) = some v) (hfit : o + cs.length ≤ l.length) (h1 : ∀ v ∈ cs, v.oneCell' = true) {K : Value → World → Prop}
    (hK : ∀ w', Blk w' g (pre ++ (l.take o ++ cs ++ l.drop (o + cs.length))).toArray t → Fm (· = g) w w' → K (goInt (Nat.min sLen dLen)) w') :
    Raw P (Builtin.copy_ #[dT, sT] ty #[.slice (some ⟨g, pre.length + o, none⟩) dLen dCap, .slice (some a) sLen sCap]) w K := by
  refine copy_blk (o := pre.length + o) hg hu hsz hn hsrc (by rw [List.length_append]; omega) h1 fun w' hb hf => hK w' ?_ hf
  have e1 : (pre ++ l).take (pre.length + o) ++ cs ++ (pre ++ l).drop (pre.length + o + cs.length) = pre ++ (l.take o ++ cs ++ l.drop (o + cs.length)) := by
    rw [List.take_length_add_append, Nat.add_assoc, List.drop_length_add_append]; simp
  rw [← e1]; exact hb
end
theorem insW_calls {w : World} {v : Sv} {xs : List Ew} {x : Ew} {i gx : Nat} {cx : Array Value} {B : Nat} (hO : OwnO LWt w B 92 (slV v) xs) (hBw : B ≤ w.heap.size) (hi : i ≤ xs.length) (hx : Blk w gx cx 92) (hcx : cx.toList = LWt.cells x) (hgx : rowOf (slV v) ≠ some gx) (hl : xs.length + 1 ≤ 1048576) {R : Ending → World → Prop}
    (h : ∀ v' w', OwnO LWt w' B 92 (slV v') (xs.take i ++ x :: xs.drop i) → Fm (fun b => rowOf (slV v) = some b) w w' → (rowOf (slV v') = rowOf (slV v) ∨ rowOf (slV v') = none ∨ ∃ g, rowOf (slV v') = some g ∧ w.heap.size ≤ g) → R (.returned (slV v')) w') :
    Calls Tryz.prog 98 #[slV v, .int .i64 (i : Nat), .slice (some ⟨gx, 0, none⟩) 1 1] w R := by
  have hz : zeroT Tryz.prog 92 = some (.agg #[.int .i64 0, .int .i64 0, .bool false, .slice none 0 0]) := by kernel_rfl
  have hsz : sizeT Tryz.prog 92 = some 4 := by kernel_rfl
  have hst : Tryz.prog.underlying 90 = some (.slice 92) := by kernel_rfl
  have hxl : cx.toList.length = 4 := by rw [hcx]; exact LWt.len x
  obtain ⟨A, c, hv0, hrd⟩ := hO.form
  have hv : v = (A, xs.length, c) := by obtain ⟨v1, v2, v3⟩ := v; unfold slV at hv0; simp only [Value.slice.injEq] at hv0; obtain ⟨rfl, rfl, rfl⟩ := hv0; rfl
  have hle := hrd.1
  have hmx := hrd.2.1
  unfold maxLen at hmx
  refine ok98 v.1 v.2.1 v.2.2 (i : Nat) (some ⟨gx, 0, none⟩) 1 1 ?_
  unfold F98
  subst hv
  dsimp only
  refine ⟨by omega, by omega, by omega, ?_⟩
  refine bre (fun h0 => absurd h0 (by decide)) (fun _ => ?_)
  refine bre (fun hin => ?_) (fun hin => ?_)
  · have hin : i = xs.length := by omega
    refine apO (L := LWt) (xs := xs) (ys := [x]) (base := B) (.agg #[.int .i64 0, .int .i64 0, .bool false, .slice none 0 0]) 48 rfl hst (by kernel_rfl) (by kernel_rfl) hO ?_ hBw (by simp; omega) (by simp [maxLen]; omega) fun A' c' w1 o1 g1 => ⟨A', _, c', rfl, ?_⟩
    · refine ⟨by simp, by simp [maxLen], fun h0 => (by cases h0), fun _ => ⟨gx, 0, rfl, fun j u hj => ?_⟩⟩
      rw [LWt.all_one, ← hcx] at hj
      rw [hx.cell]; simpa using hj
    · refine h (A', _, c') w1 ?_ (Fm.grown g1.grown fun b hb => hb) g1.row
      rw [insAtT hin]; exact o1
  · have hin : i < xs.length := by omega
    obtain ⟨g, c9, pre, rest, hvv, hrow, hBg, hB, hc1, hc2, hN⟩ := hO.row1 (by omega)
    simp only [Prod.mk.injEq] at hvv
    obtain ⟨rfl, -, rfl⟩ := hvv
    have hgg : g ≠ gx := fun e => hgx (by rw [hrow, e])
    have hgl := hB.lt
    have hgxl := hx.lt
    have hx' : Blk w gx cx.toList.toArray 92 := by simpa using hx
    have hall := LWt.all_length xs
    have hLn : LWt.n = 4 := rfl
    rw [hLn] at hall hN
    generalize hc3 : (LWt.all xs ++ rest).length = N at hN
    refine ⟨inR_i64 (by omega) (by omega), brd (fun hgr => ?_) (fun hgr => ?_)⟩
    · -- a new row
      refine ⟨by omega, by omega, by omega, inR_i64 (by omega) (by omega), inR_i64 (by omega) (by omega), ?_⟩
      have e1 : ((xs.length : Nat) : Int) + ((1 : Nat) : Int) - (i : Nat) = ((xs.length + 1 - i : Nat) : Int) := by omega
      rw [e1, Int.toNat_natCast]
      obtain ⟨inf, hinf, hiz⟩ := sizeT_info hsz
      have hib : inf.zero = some (.agg #[.int .i64 0, .int .i64 0, .bool false, .slice none 0 0]) ∧ inf.bytes = 48 := by
        have h1 : (Tryz.prog.info? 92).map (fun i => (i.zero, i.bytes)) = some (some (.agg #[.int .i64 0, .int .i64 0, .bool false, .slice none 0 0]), 48) := by kernel_rfl
        rw [hinf] at h1
        simp only [Option.map_some, Option.some.injEq, Prod.mk.injEq] at h1
        exact h1
      have e2 : i + (xs.length + 1 - i) = xs.length + 1 := by omega
      refine apz (u := 3) (k := .i64) (olds := LWt.all (xs.take i)) hst (by kernel_rfl) hinf hib.1 (by rw [LWt.all_length, List.length_take, Nat.min_eq_left hi, hiz]; rfl) (cell_add (o := pre.length) hB fun j u hj => ?_) (by omega) (by omega) (by omega) ?_ (by rw [hib.2]; omega) ?_
      · rw [LWt.all_take] at hj
        have hjl := (List.getElem?_eq_some_iff.1 hj).1
        rw [List.length_take] at hjl
        rw [List.getElem?_append_right (by omega), Nat.add_sub_cancel_left, List.getElem?_append_left (by omega), ← hj, List.getElem?_take_of_lt (by omega)]
      · rw [e2, hib.2]
        refine Nat.le_trans (growslice_fits (by omega) (show (xs.length + 1) * 48 ≤ 140737488355328 by omega)) (Nat.le_refl _)
      rw [e2, hiz]
      rw [if_neg (by omega)]
      have hge := grownCap_ge w (xs.length + 1) c 92
      have hcm : grownCap w (xs.length + 1) c 92 ≤ maxLen := grownCap_le_maxLen w _ c 92 (by simp [maxLen]; omega)
      generalize grownCap w (xs.length + 1) c 92 = q at hge hcm ⊢
      refine ⟨_, _, _, rfl, by omega, by omega, by omega, ?_⟩
      simp only [Int.toNat_natCast]
      have hSl : ∀ j : Nat, j < q → SlA (some ⟨w.heap.size, 0, none⟩) q j 4 = some ⟨w.heap.size, j * 4, none⟩ := fun j hj => by
        unfold SlA; rw [if_neg (by omega)]; simp [Addr.add_mk]
      rw [hSl i (by omega)]
      have hb1 : Below w.heap.size w (w.drew.alloc (.cells ((LWt.all (xs.take i)).toArray ++ Builtin.zeroCells ((.agg #[.int .i64 0, .int .i64 0, .bool false, .slice none 0 0]) : Value).cells (xs.length + 1 - i) ++ Builtin.zeroCells ((.agg #[.int .i64 0, .int .i64 0, .bool false, .slice none 0 0]) : Value).cells (q - (xs.length + 1))) 92)) := ((Below.refl _ _).drew).alloc (Nat.le_refl _) _
      have hB1 := Blk.alloc_new w.drew ((LWt.all (xs.take i)).toArray ++ Builtin.zeroCells ((.agg #[.int .i64 0, .int .i64 0, .bool false, .slice none 0 0]) : Value).cells (xs.length + 1 - i) ++ Builtin.zeroCells ((.agg #[.int .i64 0, .int .i64 0, .bool false, .slice none 0 0]) : Value).cells (q - (xs.length + 1))) 92
      have hzc : ∀ n, (Builtin.zeroCells ((.agg #[.int .i64 0, .int .i64 0, .bool false, .slice none 0 0]) : Value).cells n).toList.length = n * 4 := fun n => by
        have : ((.agg #[.int .i64 0, .int .i64 0, .bool false, .slice none 0 0]) : Value).cells.size = 4 := by kernel_rfl
        simp [Builtin.zeroCells, this]
      generalize hl0 : (LWt.all (xs.take i)).toArray ++ Builtin.zeroCells ((.agg #[.int .i64 0, .int .i64 0, .bool false, .slice none 0 0]) : Value).cells (xs.length + 1 - i) ++ Builtin.zeroCells ((.agg #[.int .i64 0, .int .i64 0, .bool false, .slice none 0 0]) : Value).cells (q - (xs.length + 1)) = l0 at hb1 hB1 ⊢
      have hl0' : l0.toList = LWt.all (xs.take i) ++ ((Builtin.zeroCells ((.agg #[.int .i64 0, .int .i64 0, .bool false, .slice none 0 0]) : Value).cells (xs.length + 1 - i)).toList ++ (Builtin.zeroCells ((.agg #[.int .i64 0, .int .i64 0, .bool false, .slice none 0 0]) : Value).cells (q - (xs.length + 1))).toList) := by rw [← hl0]; simp
      have hti : (LWt.all (xs.take i)).length = i * 4 := by rw [LWt.all_length, List.length_take, Nat.min_eq_left hi]; rfl
      have hl0l : l0.toList.length = q * 4 := by
        rw [hl0', List.length_append, List.length_append, hzc, hzc, hti]; omega
      generalize w.drew.alloc (.cells l0 92) = w1 at hb1 hB1 ⊢
      have hB1' : Blk w1 w.heap.size l0.toList.toArray 92 := by simpa using hB1
      have hx1 := hx'.keep hb1
      have hg1 := hB.keep hb1
      refine copy_blk (o := i * 4) hB1' hst hsz (cs := cx.toList) ?_ (cell_add (o := 0) hx1 fun j u hj => by rw [Nat.zero_add]; exact hj) (by rw [hxl, hl0l]; omega) ?_ fun w2 hB2 f2 => ⟨_, rfl, ?_⟩
      · rw [hxl, show Nat.min 1 (xs.length + 1 - i) = 1 from (by simp only [Nat.min_def]; split <;> omega)]
      · rw [hcx]; exact LWt.one x
      have hd2 : Below w2.heap.size w2 w2.drew := (Below.refl _ _).drew
      refine ⟨fun w' => Below w2.heap.size w2 w', hd2, inR_i64 (by omega) (by omega), by omega, by omega, by omega, by omega, by omega, by omega, ?_⟩
      have e3 : (((i : Nat) : Int) + ((1 : Nat) : Int)).toNat = i + 1 := by omega
      simp only [e3, Int.toNat_natCast]
      have hrow2 : w.heap.size ≠ g := by omega
      have hg2 : Blk w2.drew g (pre ++ (LWt.all xs ++ rest)).toArray 92 := (f2.blk hg1 (fun e => hrow2 e.symm))
      have hS3 : SlA (some ⟨g, pre.length, none⟩) c i 4 = some ⟨g, pre.length + i * 4, none⟩ := by unfold SlA; rw [if_neg (by omega)]; simp [Addr.add_mk]
      rw [hS3]
      have hfin : ∀ l3 rest3 w3, Blk w3 w.heap.size l3 92 → l3.toList = LWt.all (xs.take i ++ x :: xs.drop i) ++ rest3 → l3.toList.length = q * 4 → Fm (· = w.heap.size) w2.drew w3 → R (.returned (.slice (some ⟨w.heap.size, 0, none⟩) (xs.length + 1) q)) w3 := by
        intro l3 rest3 w3 hB3 he3 hl3 f3
        have hln : (xs.take i ++ x :: xs.drop i).length = xs.length + 1 := by simp; omega
        have hB3' : Blk w3 w.heap.size (LWt.all (xs.take i ++ x :: xs.drop i) ++ rest3).toArray 92 := by rw [← he3]; simpa using hB3
        have hO3 := Own.ofBlk (k := B) (c := q) hB3' (by omega) (by rw [hln]; exact hge) (by omega) hcm (by rw [← he3]; exact hl3)
        rw [hln] at hO3
        have hO3 := hO3.o
        refine h (some ⟨w.heap.size, 0, none⟩, xs.length + 1, q) w3 hO3 ?_ (.inr (.inr ⟨w.heap.size, ?_, Nat.le_refl _⟩))
        · have F1 : Fm (fun b => rowOf (slV (some ⟨g, pre.length, none⟩, xs.length, c)) = some b) w w1 := .below hb1
          exact ((F1.trans' f2 fun b hb e => by have e : b = w.heap.size := e; omega).tr hd2).trans' f3 fun b hb e => by have e : b = w.heap.size := e; omega
        · obtain ⟨q', rfl⟩ : ∃ q', q = q' + 1 := ⟨q - 1, by omega⟩
          rfl
      have hl2l : (l0.toList.take (i * 4) ++ cx.toList ++ l0.toList.drop (i * 4 + cx.toList.length)).length = q * 4 := by
        simp only [List.length_append, List.length_take, List.length_drop, hl0l, hxl]; omega
      have hl2p : l0.toList.take (i * 4) ++ cx.toList = LWt.all (xs.take i ++ [x]) := by
        rw [LWt.all_append, LWt.all_one, ← hcx, hl0', ← hti, List.take_left]
      have hl2q : (l0.toList.take (i * 4) ++ cx.toList ++ l0.toList.drop (i * 4 + cx.toList.length)).take ((i + 1) * 4) = LWt.all (xs.take i ++ [x]) := by
        rw [hl2p, List.take_left' (by rw [LWt.all_length]; simp [hLn]; omega)]
      generalize l0.toList.take (i * 4) ++ cx.toList ++ l0.toList.drop (i * 4 + cx.toList.length) = l2 at hl2l hl2q hB2
      have hdl : (LWt.all (xs.drop i)).length = (xs.length - i) * 4 := by rw [LWt.all_length, List.length_drop]; rfl
      have hS4 : SlA (some ⟨w.heap.size, 0, none⟩) q (i + 1) 4 = some ⟨w.heap.size, (i + 1) * 4, none⟩ ∨ (xs.length - i = 0) := by
        rcases Nat.lt_or_ge (i + 1) q with h4 | h4
        · exact .inl (hSl _ h4)
        · omega
      rcases hS4 with hS4 | hS4
      · rw [hS4]
        have hB2' : Blk w2.drew w.heap.size l2.toArray 92 := hB2
        refine copy_blk (o := (i + 1) * 4) hB2' hst hsz (cs := LWt.all (xs.drop i)) ?_ (cell_add (o := pre.length + i * 4) hg2 fun j u hj => ?_) (by rw [hdl, hl2l]; omega) (LWt.all_ones _) fun w3 hB3 f3 => ⟨_, rfl, ?_⟩
        · rw [hdl, show Nat.min (xs.length - i) (xs.length + 1 - (i + 1)) = xs.length - i from (by simp only [Nat.min_def]; split <;> omega)]
        · have hjl := (List.getElem?_eq_some_iff.1 hj).1
          rw [hdl] at hjl
          rw [Nat.add_assoc, List.getElem?_append_right (by omega), Nat.add_sub_cancel_left, List.getElem?_append_left (by omega)]
          rw [LWt.all_drop _ _ hi, List.getElem?_drop] at hj
          exact hj
        · refine hfin _ (l2.drop ((i + 1) * 4 + (LWt.all (xs.drop i)).length)) w3 hB3 ?_ ?_ f3
          · rw [List.toList_toArray, hl2q]
            have : xs.take i ++ x :: xs.drop i = (xs.take i ++ [x]) ++ xs.drop i := by simp
            rw [this, LWt.all_append (xs.take i ++ [x]) (xs.drop i)]
          · rw [List.toList_toArray, List.length_append, List.length_append, List.length_take, List.length_drop, hdl, hl2l]; omega
      · omega
    · -- in place
      refine ⟨inR_i64 (by omega) (by omega), by omega, by omega, by omega, inR_i64 (by omega) (by omega), by omega, by omega, by omega, ?_⟩
      have e3 : (((i : Nat) : Int) + ((1 : Nat) : Int)).toNat = i + 1 := by omega
      have e4 : (((xs.length : Nat) : Int) + ((1 : Nat) : Int)).toNat = xs.length + 1 := by omega
      simp only [e3, e4, Int.toNat_natCast]
      have hS : ∀ j : Nat, j < c → SlA (some ⟨g, pre.length, none⟩) c j 4 = some ⟨g, pre.length + j * 4, none⟩ := fun j hj => by
        unfold SlA; rw [if_neg (by omega)]; simp [Addr.add_mk]
      rw [hS (i + 1) (by omega), hS i (by omega)]
      have hov : ∀ la ca lb cb, (callFunc 121 #[.slice (some ⟨gx, 0, none⟩) la ca, .slice (some ⟨g, pre.length + (i + 1) * 4, none⟩) lb cb]).run Tryz.prog w = .ok (.value (.bool false)) w := fun la ca lb cb => by
        rw [run_callFunc_extern Tryz.func121 (by kernel_rfl) (by kernel_rfl) (by kernel_rfl) (e := Extern.SlicesOverlaps.overlaps #[90, 90] #[4]) (by kernel_rfl),
          Lib.run_overlaps_apart w 90 4 92 hst 4 (run_size hsz) ⟨gx, 0, none⟩ ⟨g, pre.length + (i + 1) * 4, none⟩ la ca lb cb (Ne.symm hgg) 92 92 cx.size (pre ++ (LWt.all xs ++ rest)).length (by unfold Blk at hx; simp [World.shape?, hx]) (by unfold Blk at hB; simp [World.shape?, hB]) (by rw [List.length_append, hc3]; omega) (hx.frozen 0) (hx.frozen _)]
        rfl
      refine ⟨.bool false, w, hov _ _ _ _, false, rfl, ?_⟩
      rw [Bool.not_false, Br_t]
      have hd2 : Below w.heap.size w w.drew := (Below.refl _ _).drew
      refine ⟨fun w' => True, trivial, inR_i64 (by omega) (by omega), by omega, by omega, by omega, by omega, by omega, by omega, ?_⟩
      have hdl : (LWt.all (xs.drop i)).length = (xs.length - i) * 4 := by rw [LWt.all_length, List.length_drop]; rfl
      have hB1 : Blk w.drew g (pre ++ (LWt.all xs ++ rest)).toArray 92 := hB
      refine copy_blkP (o := (i + 1) * 4) hB1 hst hsz (cs := LWt.all (xs.drop i)) ?_ (cell_add (o := pre.length + i * 4) hB1 fun j u hj => ?_) (by rw [hdl, hc3]; omega) (LWt.all_ones _) fun w2 hB2 f2 => ⟨_, rfl, ?_⟩
      · rw [hdl, show Nat.min (xs.length + 1 - i) (xs.length + 1 - (i + 1)) = xs.length - i from (by simp only [Nat.min_def]; split <;> omega)]
      · have hjl := (List.getElem?_eq_some_iff.1 hj).1
        rw [hdl] at hjl
        rw [Nat.add_assoc, List.getElem?_append_right (by omega), Nat.add_sub_cancel_left, List.getElem?_append_left (by omega)]
        rw [LWt.all_drop _ _ hi, List.getElem?_drop] at hj
        exact hj
      have hx2 : Blk w2 gx cx.toList.toArray 92 := f2.blk (show Blk w.drew gx cx.toList.toArray 92 from hx') (fun e => hgg e.symm)
      have hl2l : ((LWt.all xs ++ rest).take ((i + 1) * 4) ++ LWt.all (xs.drop i) ++ (LWt.all xs ++ rest).drop ((i + 1) * 4 + (LWt.all (xs.drop i)).length)).length = N := by
        rw [List.length_append, List.length_append, List.length_take, List.length_drop, hdl, hc3]; omega
      have hl2t : ((LWt.all xs ++ rest).take ((i + 1) * 4) ++ LWt.all (xs.drop i) ++ (LWt.all xs ++ rest).drop ((i + 1) * 4 + (LWt.all (xs.drop i)).length)).take (i * 4) = LWt.all (xs.take i) := by
        rw [List.append_assoc, List.take_append_of_le_length (by rw [List.length_take, hc3]; omega), List.take_take, Nat.min_eq_left (by omega), List.take_append_of_le_length (by omega), LWt.all_take]; rfl
      have hl2d : ∃ r3, ((LWt.all xs ++ rest).take ((i + 1) * 4) ++ LWt.all (xs.drop i) ++ (LWt.all xs ++ rest).drop ((i + 1) * 4 + (LWt.all (xs.drop i)).length)).drop ((i + 1) * 4) = LWt.all (xs.drop i) ++ r3 := by
        refine ⟨(LWt.all xs ++ rest).drop ((i + 1) * 4 + (LWt.all (xs.drop i)).length), ?_⟩
        rw [List.append_assoc, List.drop_left' (by rw [List.length_take, hc3]; omega)]
      generalize (LWt.all xs ++ rest).take ((i + 1) * 4) ++ LWt.all (xs.drop i) ++ (LWt.all xs ++ rest).drop ((i + 1) * 4 + (LWt.all (xs.drop i)).length) = l2 at hl2l hl2t hl2d hB2
      obtain ⟨r3, hl2d⟩ := hl2d
      refine ⟨by omega, by omega, by omega, ?_⟩
      refine copy_blkP (o := i * 4) hB2 hst hsz (cs := cx.toList) ?_ (cell_add (o := 0) hx2 fun j u hj => by rw [Nat.zero_add]; exact hj) (by rw [hxl, hl2l]; omega) ?_ fun w3 hB3 f3 => ⟨_, rfl, ?_⟩
      · rw [hxl, show Nat.min 1 (xs.length + 1 - i) = 1 from (by simp only [Nat.min_def]; split <;> omega)]
      · rw [hcx]; exact LWt.one x
      have e5 : i * 4 + cx.toList.length = (i + 1) * 4 := by rw [hxl]; omega
      rw [hl2t, e5, hl2d, hcx] at hB3
      have hln : (xs.take i ++ x :: xs.drop i).length = xs.length + 1 := by simp; omega
      have he3 : LWt.all (xs.take i) ++ LWt.cells x ++ (LWt.all (xs.drop i) ++ r3) = LWt.all (xs.take i ++ x :: xs.drop i) ++ r3 := by
        have : xs.take i ++ x :: xs.drop i = xs.take i ++ ([x] ++ xs.drop i) := by simp
        rw [this, LWt.all_append, LWt.all_append, LWt.all_one]; simp
      rw [he3] at hB3
      have hl3l : (LWt.all (xs.take i ++ x :: xs.drop i) ++ r3).length = N := by
        have h6 : (l2.drop ((i + 1) * 4)).length = N - (i + 1) * 4 := by rw [List.length_drop, hl2l]
        rw [hl2d, List.length_append, hdl] at h6
        rw [List.length_append, LWt.all_length, hln, hLn]
        omega
      have hO3 := OwnO.ofBlk (k := B) (c := c) hB3 hBg (by rw [hln]; omega) (by omega) hc2 (by rw [hl3l, hLn]; exact hN)
      rw [hln] at hO3
      refine h (some ⟨g, pre.length, none⟩, xs.length + 1, c) w3 hO3 ?_ (.inl ?_)
      · have F2 : Fm (fun b => rowOf (slV (some ⟨g, pre.length, none⟩, xs.length, c)) = some b) w w2 := (Fm.below (w := w) (w1 := w.drew) hd2).trans (f2.mono fun b _ e => by have e : b = g := e; rw [hrow, e])
        exact F2.trans (f3.mono fun b _ e => by have e : b = g := e; rw [hrow, e])
      · obtain ⟨c', rfl⟩ : ∃ c', c = c' + 1 := ⟨c - 1, by omega⟩
        rfl

end Go.Proofs.YtfhkgnfphfmhiaaGreatDoor
/- Locks: those that are meant are taken out of a row; printed by wip/tools/mklkdel.py. -/
namespace Go.Proofs.YtfhkgnfphfmhiaaGreatDoor
open Go.RowKit Go.Vc
set_option linter.unusedSimpArgs false
def idxQ {α : Type} (p : α → Bool) : List α → Nat → Int
  | [], _ => -1
  | y :: l, i => if p y = true then (i : Nat) else idxQ p l (i + 1)
theorem idxQ_cases {α : Type} (p : α → Bool) : ∀ (l : List α) (i : Nat), (idxQ p l i = -1 ∧ l.filter (fun y => !p y) = l) ∨ ∃ k, idxQ p l i = ((i + k : Nat) : Int) ∧ k < l.length ∧ (∃ h : k < l.length, p l[k] = true) ∧ (l.take (k + 1)).filter (fun y => !p y) = l.take k
  | [], i => .inl ⟨rfl, rfl⟩
  | y :: l, i => by
    rw [idxQ]
    by_cases h : p y = true
    · rw [if_pos h]
      exact .inr ⟨0, rfl, by simp, ⟨by simp, h⟩, by simp [h]⟩
    · rw [if_neg h]
      have h2 : p y = false := by simpa using h
      rcases idxQ_cases p l (i + 1) with ⟨h3, h4⟩ | ⟨k, h3, h4, ⟨h6, h7⟩, h5⟩
      · exact .inl ⟨h3, by rw [List.filter_cons, h2, h4]; rfl⟩
      · exact .inr ⟨k + 1, by rw [h3]; congr 1; omega, by simp; omega, ⟨by simp; omega, by simpa using h7⟩, by rw [List.take_succ_cons, List.filter_cons, h2, h5]; rfl⟩
theorem idxI_eq (p : Int × Int → Bool) : ∀ (l : List (Int × Int)) (i : Nat), idxI p l i = idxQ p l i
  | [], _ => rfl
  | y :: l, i => by rw [idxI, idxQ, idxI_eq p l (i + 1)]
def StL (q : Addr) : World → List Value → Nat → (World → Prop) → Prop
  | w, [], _, K => K w
  | w, v :: vs, i, K => St w (q.add i) v fun w' => StL q w' vs (i + 1) K
section
variable {α : Type} {L : Lay α} {w w1 : World} {e : TypeId} {B : Nat} {P : Program}
theorem stL_blk {g o : Nat} {t : TypeId} {K : World → Prop} : ∀ (vs : List Value) (i : Nat) {w : World} {l : List Value}, Blk w g l.toArray t → o + i + vs.length ≤ l.length →
    (∀ (w1 : World) (l' : List Value), Blk w1 g l'.toArray t → l'.length = l.length → (∀ j, (j < o + i ∨ o + i + vs.length ≤ j) → l'[j]? = l[j]?) → (∀ j u, vs[j]? = some u → l'[o + i + j]? = some u) → Fm (· = g) w w1 → K w1) → StL ⟨g, o, none⟩ w vs i K
  | [], i, w, l, hb, hl, hK => hK w l hb rfl (fun _ _ => rfl) (fun j u hj => by simp at hj) (.refl _ _)
  | v :: vs, i, w, l, hb, hl, hK => by
    rw [StL, Addr.add_mk]
    simp only [List.length_cons] at hl
    refine st_blk hb (by simp; omega) fun w1 b1 f1 => ?_
    rw [List.setIfInBounds_toArray] at b1
    refine stL_blk vs (i + 1) b1 (by rw [List.length_set]; omega) fun w2 l2 b2 e2 h1 h2 f2 => hK w2 l2 b2 (by rw [e2, List.length_set]) (fun j hj => ?_) (fun j u hj => ?_) (f1.trans f2)
    · simp only [List.length_cons] at hj
      rw [h1 j (by omega), List.getElem?_set_ne (by omega)]
    · cases j with
      | zero =>
        rw [List.getElem?_cons_zero] at hj
        rw [Nat.add_zero, h1 (o + i) (by omega), List.getElem?_set_self (by omega)]; exact hj
      | succ j =>
        rw [List.getElem?_cons_succ] at hj
        have := h2 j u hj
        rw [show o + i + (j + 1) = o + (i + 1) + j by omega]; exact this
theorem OwnO.put {A : Option Addr} {n c : Nat} {xs : List α} (h : OwnO L w B e (.slice A n c) xs) {i : Int} {k : Nat} (hi : i = k) (hk : k < xs.length) (x : α) {sz : Nat} (hsz : sz = L.n) {K : World → Prop}
    (hK : ∀ w1, OwnO L w1 B e (.slice A n c) (xs.set k x) → Fm (fun b => rowOf (.slice A n c) = some b) w w1 → K w1) : IdxA A n i sz fun q => StL q w (L.cells x) 0 K := by
  subst hi hsz
  obtain ⟨g, o, l, rfl, hr, hb, hl, _, hput⟩ := h.elem hk
  have hn := h.rd.1
  rw [IdxA_some (by omega) (by omega)]
  simp only [Addr.add_mk, Int.toNat_natCast]
  have hin : (k + 1) * L.n ≤ xs.length * L.n := Nat.mul_le_mul_right _ hk
  rw [Nat.add_mul, Nat.one_mul] at hin
  refine stL_blk (L.cells x) 0 hb (by rw [L.len]; omega) fun w1 l' b1 e1 h1 h2 f1 => hK w1 ?_ (f1.mono fun b _ e => by have e : b = g := e; rw [hr, e])
  refine hput w1 l' x b1 e1 (fun j hj => h1 j ?_) fun j u hj => h2 j u hj
  rw [L.len]
  rw [Nat.add_mul, Nat.one_mul] at hj
  omega
theorem OwnO.clear {A : Option Addr} {n c a : Nat} {xs : List α} (h : OwnO L w B e (.slice A n c) xs) (ha : a < xs.length) {dT : TypeId} {z : Value} (hu : P.underlying dT = some (.slice e)) (hz : zeroT P e = some z) (hzs : z.cells.size = L.n) (h1 : ∀ v ∈ z.cells.toList, v.oneCell' = true) {K : World → Prop}
    (hK : ∀ w1, OwnO L w1 B e (.slice A a c) (xs.take a) → Fm (fun b => rowOf (.slice A n c) = some b) w w1 → K w1) : Raw P (Builtin.clear_ #[dT] 0 #[.slice (SlA A c a L.n) (n - a) (c - a)]) w (fun _ w' => K w') := by
  rcases h with ⟨_, rfl⟩ | ⟨_, rfl⟩ | ⟨g, o, c', l, hsl, hb, hh, hn, hm, hs, ht⟩
  · simp at ha
  · simp at ha
  · simp only [Value.slice.injEq] at hsl
    obtain ⟨rfl, rfl, rfl⟩ := hsl
    have e1 : SlA (some ⟨g, o, none⟩) (c' + 1) a L.n = some ⟨g, o + a * L.n, none⟩ := by
      unfold SlA
      rw [if_neg (by omega), Option.map_some, Addr.add_mk]
    rw [e1]
    have hxl : xs.length * L.n ≤ (c' + 1) * L.n := Nat.mul_le_mul_right _ hn
    have hal : a * L.n + (xs.length - a) * L.n = xs.length * L.n := by rw [← Nat.add_mul]; congr 1; omega
    refine clear_blk (o := o + a * L.n) hh hu hz (by rw [hzs]; omega) h1 fun w1 cs hcs hB hf => ?_
    refine hK w1 (.inr (.inr ⟨g, o, c', _, ?_, hb, hB, ?_, hm, ?_, ?_⟩)) (hf.mono fun b _ e => by subst e; rfl)
    · rw [List.length_take, Nat.min_eq_left (by omega)]
    · rw [List.length_take]; omega
    · rw [List.length_append, List.length_append, List.length_take, List.length_drop, hcs, hzs]; omega
    · rw [List.length_take, Nat.min_eq_left (by omega), L.all_take, ← ht, List.take_take, Nat.min_eq_left (by omega), List.append_assoc, List.drop_append_of_le_length (by rw [List.length_take]; omega),
        List.take_append_of_le_length (by rw [List.length_drop, List.length_take]; omega), List.drop_take, List.take_take, Nat.min_eq_left (by omega)]
end

theorem indexW_calls (l : List Ew) (v : Sv) (f : Value) (p : Ew → Bool) {w : World} {R : Ending → World → Prop} (hl : RR LWt w l v)
    (hf : ∀ y ∈ l, ∀ (w1 : World) (K : Value → World → Prop) (R' : Ending → World → Prop), Below w.heap.size w w1 → (∀ w2, Below w1.heap.size w1 w2 → K (.bool (p y)) w2) → CallV Tryz.prog f #[.agg #[.int .i64 y.who, .int .i64 y.mode, .bool y.had, .slice y.rest.1 y.rest.2.1 y.rest.2.2]] w1 R' K)
    (h : ∀ w', Below w.heap.size w w' → R (.returned (.int .i64 (idxQ p l 0))) w') : Calls Tryz.prog 99 #[.slice v.1 v.2.1 v.2.2, f] w R := by
  obtain ⟨z0, z1, z2⟩ := hl
  refine ok99 v.1 v.2.1 v.2.2 f ?_
  unfold F99
  refine ⟨fun i w' => ∃ k : Nat, i = k ∧ k ≤ l.length ∧ Below w.heap.size w w' ∧ idxQ p (l.drop k) k = idxQ p l 0, fun i _ => l.length - i.toNat, ⟨0, rfl, by omega, Below.refl _ _, by simp⟩, ?_⟩
  rintro i w1 ⟨k, rfl, hk, hb1, hF⟩
  unfold F99_l2
  refine brd (fun hlt => ?_) (fun hge => ?_)
  · have hk2 : k < l.length := by omega
    rw [List.drop_eq_getElem_cons hk2, idxQ] at hF
    refine (z2.keep hb1).idx z1 (by omega) (by omega) rfl fun b o hc => ?_
    simp only [Int.toNat_natCast] at hc
    have c0 := hc 0 _ rfl
    have c1 := hc 1 _ rfl
    have c2 := hc 2 _ rfl
    have c3 := hc 3 _ rfl
    simp only [Nat.add_zero] at c0
    simp only [Addr.add_mk, c0, c1, c2, c3, Addr.add_mk, List.getElem?_toArray, List.getElem?_cons_zero, List.getElem?_cons_succ, LdI_some, LdB_some, LdStr_some, LdP_some, LdSl_some, LdM_some, Nat.zero_add, Br_t, Br_f]
    refine hf _ (List.getElem_mem hk2) w1 _ R hb1 fun w2 hb2 => ⟨_, rfl, ?_⟩
    have B2 := btr hb1 hb1.size hb2
    refine br (fun hp => ?_) (fun hp => ?_)
    · rw [if_pos hp] at hF
      rw [hF]; exact h w2 B2
    · rw [if_neg (by rw [hp]; decide)] at hF
      exact ⟨inR_i64 (by omega) (by omega), ⟨k + 1, by simp, by omega, B2, hF⟩, (by first | omega | (dsimp only; omega))⟩
  · have hk2 : k = l.length := by omega
    subst hk2
    rw [List.drop_length, idxQ] at hF
    rw [hF]; exact h w1 hb1

section
variable {w : World} {R : Ending → World → Prop} {B : Nat}
theorem delW_calls {l : List Ew} {v : Sv} {f : Value} (p : Ew → Bool) (ho : OwnO LWt w B 92 (slV v) l) (hl : l.length ≤ 1048576)
    (hf : ∀ y ∈ l, ∀ (w1 : World) (K : Value → World → Prop) (R' : Ending → World → Prop), Fm (fun b => rowOf (slV v) = some b) w w1 → (∀ w2, Below w1.heap.size w1 w2 → K (.bool (p y)) w2) → CallV Tryz.prog f #[.agg #[.int .i64 y.who, .int .i64 y.mode, .bool y.had, .slice y.rest.1 y.rest.2.1 y.rest.2.2]] w1 R' K)
    (h : ∀ v' w', OwnO LWt w' B 92 (slV v') (l.filter fun y => !p y) → Fm (fun b => rowOf (slV v) = some b) w w' → (∀ b, rowOf (slV v') = some b → rowOf (slV v) = some b) → R (.returned (slV v')) w') :
    Calls Tryz.prog 91 #[.slice v.1 v.2.1 v.2.2, f] w R := by
  refine ok91 v.1 v.2.1 v.2.2 f ?_
  unfold F91
  have hrd := ho.rd
  refine indexW_calls l v f p ⟨by omega, hrd⟩ (fun y hy w1 K R' hb hK => hf y hy w1 K R' (.below hb) hK) fun w1 hb1 => ⟨_, rfl, ?_⟩
  skip
  rcases idxQ_cases p l 0 with ⟨h3, h4⟩ | ⟨a, h3, h4, _, h5⟩
  · rw [h3]
    refine bre (fun _ => ?_) (fun hn => absurd rfl hn)
    exact h v w1 (by rw [h4]; exact ho.keep hb1) (.below hb1) fun b hb => hb
  · rw [h3, Nat.zero_add]
    refine bre (fun hn => by omega) (fun _ => ?_)
    have hn := hrd.1
    refine ⟨inR_i64 (by omega) (by omega), ?_⟩
    refine ⟨fun i j w' => ∃ (a k : Nat) (xs : List Ew), i = a ∧ j = k ∧ a < k ∧ k ≤ l.length ∧ xs.length = l.length ∧ xs.take a = (l.take k).filter (fun y => !p y) ∧ xs.drop k = l.drop k ∧ OwnO LWt w' B 92 (slV v) xs ∧ Fm (fun b => rowOf (slV v) = some b) w w', fun _ j _ => l.length - j.toNat,
      ⟨a, a + 1, l, rfl, by simp, by omega, by omega, rfl, h5.symm, rfl, ho.keep hb1, .below hb1⟩, ?_⟩
    rintro _ _ w2 ⟨a, k, xs, rfl, rfl, hak, hk, hx, ht, hd, o2, f2⟩
    unfold F91_l5
    have hrd2 := o2.rd
    refine brd (fun hlt => ?_) (fun hge => ?_)
    · have hk2 : k < l.length := by omega
      have hxk : xs[k]'(by omega) = l[k] := by
        have h6 : (xs.drop k)[0]? = (l.drop k)[0]? := by rw [hd]
        rw [List.getElem?_drop, List.getElem?_drop, Nat.add_zero, List.getElem?_eq_getElem (by omega), List.getElem?_eq_getElem hk2] at h6
        exact Option.some.inj h6
      have htk : (l.take (k + 1)).filter (fun y => !p y) = xs.take a ++ (if (!p l[k]) = true then [l[k]] else []) := by
        rw [List.take_succ_eq_append_getElem hk2, List.filter_append, ht]
        congr 1
        rw [List.filter_cons]; rfl
      have hdk : xs.drop (k + 1) = l.drop (k + 1) := by
        rw [← List.drop_drop, ← List.drop_drop, hd]
      refine ⟨fun i w' => ∃ (a : Nat) (xs : List Ew), i = a ∧ a < k + 1 ∧ xs.length = l.length ∧ xs.take a = (l.take (k + 1)).filter (fun y => !p y) ∧ xs.drop (k + 1) = l.drop (k + 1) ∧ OwnO LWt w' B 92 (slV v) xs ∧ Fm (fun b => rowOf (slV v) = some b) w w', ?_, ?_⟩
      · rintro _ w3 ⟨a', xs', rfl, q1, q2, q3, q4, q5, q6⟩
        unfold F91_j6
        exact ⟨inR_i64 (by omega) (by omega), ⟨a', k + 1, xs', rfl, by simp, q1, by omega, q2, q3, q4, q5, q6⟩, (by first | omega | (dsimp only; omega))⟩
      obtain ⟨gg, oo, ll, hA, hrr, hbb, hll, hcells, -⟩ := o2.elem (i := k) (by omega)
      rw [hxk] at hcells
      have hin : (k + 1) * LWt.n ≤ xs.length * LWt.n := Nat.mul_le_mul_right _ (by omega)
      rw [hA, IdxA_some (by omega) (by omega)]
      simp only [Addr.add_mk, Int.toNat_natCast]
      have c0 : w2.cell? ⟨gg, oo + k * 4, none⟩ = _ := (cellL hbb _).trans (hcells 0 _ rfl)
      have c1 : w2.cell? ⟨gg, oo + k * 4 + 1, none⟩ = _ := (cellL hbb _).trans (hcells 1 _ rfl)
      have c2 : w2.cell? ⟨gg, oo + k * 4 + 2, none⟩ = _ := (cellL hbb _).trans (hcells 2 _ rfl)
      have c3 : w2.cell? ⟨gg, oo + k * 4 + 3, none⟩ = _ := (cellL hbb _).trans (hcells 3 _ rfl)
      simp only [c0, c1, c2, c3, Addr.add_mk, List.getElem?_toArray, List.getElem?_cons_zero, List.getElem?_cons_succ, LdI_some, LdB_some, LdStr_some, LdP_some, LdSl_some, LdM_some, Nat.zero_add, Br_t, Br_f]
      refine al4 fun g3 w3 hb3 b3 hge3 => ?_
      simp only [Addr.add_mk, Nat.zero_add, b3.cell, List.getElem?_toArray, List.getElem?_cons_zero, List.getElem?_cons_succ, Addr.add_mk, List.getElem?_toArray, List.getElem?_cons_zero, List.getElem?_cons_succ, LdI_some, LdB_some, LdStr_some, LdP_some, LdSl_some, LdM_some, Nat.zero_add, Br_t, Br_f]
      have b5 := b3
      have B5 := hb3
      refine hf _ (List.getElem_mem hk2) _ _ R (f2.trans (Fm.below B5)) fun w6 hb6 => ⟨_, rfl, ?_⟩
      have o6 := (o2.keep B5).keep hb6
      have f6 := (f2.trans (Fm.below B5)).trans (Fm.below hb6)
      have b6 := b5.keep hb6
      refine br (fun hp => ?_) (fun hp => ?_)
      · simp only [b6.cell, Addr.add_mk, List.getElem?_toArray, List.getElem?_cons_zero, List.getElem?_cons_succ, LdI_some, LdB_some, LdStr_some, LdP_some, LdSl_some, LdM_some, Nat.zero_add, Br_t, Br_f]
        rw [← hA]
        have hput := o6.put rfl (k := a) (by omega) l[k] (sz := 4) rfl (K := fun w' => InR .i64 (((a : Nat) : Int) + (1 : Int)) ∧ (∃ (a' : Nat) (xs : List Ew), (((a : Nat) : Int) + (1 : Int)) = a' ∧ a' < k + 1 ∧ xs.length = l.length ∧ xs.take a' = (l.take (k + 1)).filter (fun y => !p y) ∧ xs.drop (k + 1) = l.drop (k + 1) ∧ OwnO LWt w' B 92 (slV v) xs ∧ Fm (fun b => rowOf (slV v) = some b) w w')) fun w7 o7 f7 => ?_
        · simp only [LWt, StL] at hput
          revert hput
          rw [hA, IdxA_some (by omega) (by omega)]
          simp only [Addr.add_mk, Nat.add_zero, Nat.zero_add]
          rw [IdxA_some (by omega) (by omega)]
          simp only [Addr.add_mk, Nat.add_zero, Nat.zero_add]
          exact id
        · refine ⟨inR_i64 (by omega) (by omega), a + 1, xs.set a l[k], by simp, by omega, by rw [List.length_set]; exact hx, ?_, ?_, o7, f6.trans f7⟩
          · rw [htk, if_pos hp, List.take_succ_eq_append_getElem (by rw [List.length_set]; omega), List.getElem_set_self, List.take_set, List.set_eq_of_length_le (by rw [List.length_take]; omega)]
          · rw [List.drop_set_of_lt (by omega), hdk]
      · refine ⟨a, xs, rfl, by omega, hx, ?_, hdk, o6, f6⟩
        rw [htk, hp]; simp
    · have hk2 : k = l.length := by omega
      subst hk2
      rw [List.take_length] at ht
      have hcap := hrd2.2.1
      refine ⟨by omega, by omega, by omega, ?_⟩
      have e1 : (((v.2.1 : Nat) : Int)).toNat = v.2.1 := by omega
      have e2 : (((a : Nat) : Int)).toNat = a := by omega
      rw [e1, e2]
      refine (o2.clear (P := Tryz.prog) (a := a) (by omega) (by kernel_rfl) (z := .agg #[.int .i64 0, .int .i64 0, .bool false, .slice none 0 0]) (by kernel_rfl) (by kernel_rfl) (by simp [Value.cells, Value.oneCell']) (K := fun w' => SlB 0 (a : Nat) ((v.2.2 : Nat) : Int) (R (.returned (.slice v.1 a v.2.2)) w')) fun w3 o3 f3 => ?_)
      refine ⟨by omega, by omega, by omega, ?_⟩
      refine h (v.1, a, v.2.2) w3 (by rw [← ht]; exact o3) (f2.trans f3) fun b hb => ?_
      obtain ⟨v1, v2, v3⟩ := v
      revert hb
      unfold slV rowOf
      cases v1 <;> cases v3 <;> simp
end

section
variable {w : World} {R : Ending → World → Prop} {B : Nat}
theorem delH_calls {l : List (Int × Int)} {v : Sv} {f : Value} (p : (Int × Int) → Bool) (ho : OwnO LHd w B 83 (slV v) l) (hl : l.length ≤ 1048576)
    (hf : ∀ y ∈ l, ∀ (w1 : World) (K : Value → World → Prop) (R' : Ending → World → Prop), Fm (fun b => rowOf (slV v) = some b) w w1 → (∀ w2, Below w1.heap.size w1 w2 → K (.bool (p y)) w2) → CallV Tryz.prog f #[.agg #[.int .i64 y.1, .int .i64 y.2]] w1 R' K)
    (h : ∀ v' w', OwnO LHd w' B 83 (slV v') (l.filter fun y => !p y) → Fm (fun b => rowOf (slV v) = some b) w w' → (∀ b, rowOf (slV v') = some b → rowOf (slV v) = some b) → R (.returned (slV v')) w') :
    Calls Tryz.prog 55 #[.slice v.1 v.2.1 v.2.2, f] w R := by
  refine ok55 v.1 v.2.1 v.2.2 f ?_
  unfold F55
  have hrd := ho.rd
  refine indexH_calls l v f p ⟨by omega, hrd⟩ (fun y hy w1 K R' hb hK => hf y hy w1 K R' (.below hb) hK) fun w1 hb1 => ⟨_, rfl, ?_⟩
  rw [idxI_eq]
  rcases idxQ_cases p l 0 with ⟨h3, h4⟩ | ⟨a, h3, h4, _, h5⟩
  · rw [h3]
    refine bre (fun _ => ?_) (fun hn => absurd rfl hn)
    exact h v w1 (by rw [h4]; exact ho.keep hb1) (.below hb1) fun b hb => hb
  · rw [h3, Nat.zero_add]
    refine bre (fun hn => by omega) (fun _ => ?_)
    have hn := hrd.1
    refine ⟨inR_i64 (by omega) (by omega), ?_⟩
    refine ⟨fun i j w' => ∃ (a k : Nat) (xs : List (Int × Int)), i = a ∧ j = k ∧ a < k ∧ k ≤ l.length ∧ xs.length = l.length ∧ xs.take a = (l.take k).filter (fun y => !p y) ∧ xs.drop k = l.drop k ∧ OwnO LHd w' B 83 (slV v) xs ∧ Fm (fun b => rowOf (slV v) = some b) w w', fun _ j _ => l.length - j.toNat,
      ⟨a, a + 1, l, rfl, by simp, by omega, by omega, rfl, h5.symm, rfl, ho.keep hb1, .below hb1⟩, ?_⟩
    rintro _ _ w2 ⟨a, k, xs, rfl, rfl, hak, hk, hx, ht, hd, o2, f2⟩
    unfold F55_l5
    have hrd2 := o2.rd
    refine brd (fun hlt => ?_) (fun hge => ?_)
    · have hk2 : k < l.length := by omega
      have hxk : xs[k]'(by omega) = l[k] := by
        have h6 : (xs.drop k)[0]? = (l.drop k)[0]? := by rw [hd]
        rw [List.getElem?_drop, List.getElem?_drop, Nat.add_zero, List.getElem?_eq_getElem (by omega), List.getElem?_eq_getElem hk2] at h6
        exact Option.some.inj h6
      have htk : (l.take (k + 1)).filter (fun y => !p y) = xs.take a ++ (if (!p l[k]) = true then [l[k]] else []) := by
        rw [List.take_succ_eq_append_getElem hk2, List.filter_append, ht]
        congr 1
        rw [List.filter_cons]; rfl
      have hdk : xs.drop (k + 1) = l.drop (k + 1) := by
        rw [← List.drop_drop, ← List.drop_drop, hd]
      refine ⟨fun i w' => ∃ (a : Nat) (xs : List (Int × Int)), i = a ∧ a < k + 1 ∧ xs.length = l.length ∧ xs.take a = (l.take (k + 1)).filter (fun y => !p y) ∧ xs.drop (k + 1) = l.drop (k + 1) ∧ OwnO LHd w' B 83 (slV v) xs ∧ Fm (fun b => rowOf (slV v) = some b) w w', ?_, ?_⟩
      · rintro _ w3 ⟨a', xs', rfl, q1, q2, q3, q4, q5, q6⟩
        unfold F55_j6
        exact ⟨inR_i64 (by omega) (by omega), ⟨a', k + 1, xs', rfl, by simp, q1, by omega, q2, q3, q4, q5, q6⟩, (by first | omega | (dsimp only; omega))⟩
      obtain ⟨gg, oo, ll, hA, hrr, hbb, hll, hcells, -⟩ := o2.elem (i := k) (by omega)
      rw [hxk] at hcells
      have hin : (k + 1) * LHd.n ≤ xs.length * LHd.n := Nat.mul_le_mul_right _ (by omega)
      rw [hA, IdxA_some (by omega) (by omega)]
      simp only [Addr.add_mk, Int.toNat_natCast]
      have c0 : w2.cell? ⟨gg, oo + k * 2, none⟩ = _ := (cellL hbb _).trans (hcells 0 _ rfl)
      have c1 : w2.cell? ⟨gg, oo + k * 2 + 1, none⟩ = _ := (cellL hbb _).trans (hcells 1 _ rfl)
      simp only [c0, c1, Addr.add_mk, List.getElem?_toArray, List.getElem?_cons_zero, List.getElem?_cons_succ, LdI_some, LdB_some, LdStr_some, LdP_some, LdSl_some, LdM_some, Nat.zero_add, Br_t, Br_f]
      refine al2 fun g3 w3 hb3 b3 hge3 => ?_
      simp only [Addr.add_mk, Nat.zero_add, b3.cell, List.getElem?_toArray, List.getElem?_cons_zero, List.getElem?_cons_succ, Addr.add_mk, List.getElem?_toArray, List.getElem?_cons_zero, List.getElem?_cons_succ, LdI_some, LdB_some, LdStr_some, LdP_some, LdSl_some, LdM_some, Nat.zero_add, Br_t, Br_f]
      have b5 := b3
      have B5 := hb3
      refine hf _ (List.getElem_mem hk2) _ _ R (f2.trans (Fm.below B5)) fun w6 hb6 => ⟨_, rfl, ?_⟩
      have o6 := (o2.keep B5).keep hb6
      have f6 := (f2.trans (Fm.below B5)).trans (Fm.below hb6)
      have b6 := b5.keep hb6
      refine br (fun hp => ?_) (fun hp => ?_)
      · simp only [b6.cell, Addr.add_mk, List.getElem?_toArray, List.getElem?_cons_zero, List.getElem?_cons_succ, LdI_some, LdB_some, LdStr_some, LdP_some, LdSl_some, LdM_some, Nat.zero_add, Br_t, Br_f]
        rw [← hA]
        have hput := o6.put rfl (k := a) (by omega) l[k] (sz := 2) rfl (K := fun w' => InR .i64 (((a : Nat) : Int) + (1 : Int)) ∧ (∃ (a' : Nat) (xs : List (Int × Int)), (((a : Nat) : Int) + (1 : Int)) = a' ∧ a' < k + 1 ∧ xs.length = l.length ∧ xs.take a' = (l.take (k + 1)).filter (fun y => !p y) ∧ xs.drop (k + 1) = l.drop (k + 1) ∧ OwnO LHd w' B 83 (slV v) xs ∧ Fm (fun b => rowOf (slV v) = some b) w w')) fun w7 o7 f7 => ?_
        · simp only [LHd, StL] at hput
          revert hput
          rw [hA, IdxA_some (by omega) (by omega)]
          simp only [Addr.add_mk, Nat.add_zero, Nat.zero_add]
          rw [IdxA_some (by omega) (by omega)]
          simp only [Addr.add_mk, Nat.add_zero, Nat.zero_add]
          exact id
        · refine ⟨inR_i64 (by omega) (by omega), a + 1, xs.set a l[k], by simp, by omega, by rw [List.length_set]; exact hx, ?_, ?_, o7, f6.trans f7⟩
          · rw [htk, if_pos hp, List.take_succ_eq_append_getElem (by rw [List.length_set]; omega), List.getElem_set_self, List.take_set, List.set_eq_of_length_le (by rw [List.length_take]; omega)]
          · rw [List.drop_set_of_lt (by omega), hdk]
      · refine ⟨a, xs, rfl, by omega, hx, ?_, hdk, o6, f6⟩
        rw [htk, hp]; simp
    · have hk2 : k = l.length := by omega
      subst hk2
      rw [List.take_length] at ht
      have hcap := hrd2.2.1
      refine ⟨by omega, by omega, by omega, ?_⟩
      have e1 : (((v.2.1 : Nat) : Int)).toNat = v.2.1 := by omega
      have e2 : (((a : Nat) : Int)).toNat = a := by omega
      rw [e1, e2]
      refine (o2.clear (P := Tryz.prog) (a := a) (by omega) (by kernel_rfl) (z := .agg #[.int .i64 0, .int .i64 0]) (by kernel_rfl) (by kernel_rfl) (by simp [Value.cells, Value.oneCell']) (K := fun w' => SlB 0 (a : Nat) ((v.2.2 : Nat) : Int) (R (.returned (.slice v.1 a v.2.2)) w')) fun w3 o3 f3 => ?_)
      refine ⟨by omega, by omega, by omega, ?_⟩
      refine h (v.1, a, v.2.2) w3 (by rw [← ht]; exact o3) (f2.trans f3) fun b hb => ?_
      obtain ⟨v1, v2, v3⟩ := v
      revert hb
      unfold slV rowOf
      cases v1 <;> cases v3 <;> simp
end
end Go.Proofs.YtfhkgnfphfmhiaaGreatDoor
/- Locks in plain: who has what at a place (places by number), who waits there; steps, waiting, letting in. -/
namespace Go.Proofs.YtfhkgnfphfmhiaaGreatDoor
open Go.RowKit Go.Vc
set_option linter.unusedSimpArgs false
structure Wt where
  who : Nat
  mode : Int
  rest : List (Nat × Int)
structure TS where
  has : Nat → Nat → Int
  wt : Nat → List Wt
def updN {β : Type} (f : Nat → β) (k : Nat) (v : β) : Nat → β := fun j => if j = k then v else f j
theorem updN_same {β : Type} (f : Nat → β) (k : Nat) (v : β) : updN f k v k = v := by simp [updN]
theorem updN_ne {β : Type} (f : Nat → β) {k j : Nat} (v : β) (h : j ≠ k) : updN f k v j = f j := by simp [updN, h]
def own32 : List Nat := List.range' 1 32
theorem own32_mem {i : Nat} : i ∈ own32 ↔ 1 ≤ i ∧ i ≤ 32 := by
  unfold own32; rw [List.mem_range'_1]; omega
def TS.put (T : TS) (p i : Nat) (m : Int) : TS := ⟨updN T.has p (updN (T.has p) i m), T.wt⟩
def TS.setW (T : TS) (p : Nat) (l : List Wt) : TS := ⟨T.has, updN T.wt p l⟩
def TS.fits (T : TS) (who p : Nat) (m : Int) : Bool := own32.all fun i => decide (i = who ∨ T.has p i = 0) || FitsL m (T.has p i)
def wantT (h m : Int) : Int := if h = 0 then m else BothL h m
def TS.step (T : TS) (who : Nat) (s : Nat × Int) : Option TS :=
  if T.has s.1 who ≠ 0 ∧ wantT (T.has s.1 who) s.2 = T.has s.1 who then some T
  else if T.fits who s.1 (wantT (T.has s.1 who) s.2) = true ∧ (T.has s.1 who ≠ 0 ∨ T.wt s.1 = []) then some (T.put s.1 who (wantT (T.has s.1 who) s.2)) else none
def TS.walk (who : Nat) : TS → List (Nat × Int) → TS × Option (Nat × Wt)
  | T, [] => (T, none)
  | T, s :: l => match T.step who s with
    | some T' => TS.walk who T' l
    | none => (T, some (s.1, ⟨who, wantT (T.has s.1 who) s.2, l⟩))
def TS.spot (T : TS) (p who : Nat) : Nat := if T.has p who = 0 then (T.wt p).length else ((T.wt p).takeWhile fun x => decide (T.has p x.who ≠ 0)).length
def TS.queue (T : TS) (p : Nat) (w : Wt) : TS := T.setW p ((T.wt p).take (T.spot p w.who) ++ w :: (T.wt p).drop (T.spot p w.who))
def TS.away (T : TS) (who : Nat) : TS := ⟨T.has, fun p => (T.wt p).filter fun x => decide (x.who ≠ who)⟩
def TS.drop (T : TS) (who : Nat) : TS := ⟨fun p i => if i = who then 0 else T.has p i, T.wt⟩
def TS.waits (T : TS) (n who : Nat) : Bool := (List.range n).any fun p => (T.wt p).any fun x => decide (x.who = who)
/-- Whether one has to go behind another one. -/
def TS.behB (T : TS) (n who i : Nat) : Bool := (List.range n).any fun p => (List.range (T.wt p).length).any fun k =>
  match (T.wt p)[k]? with
  | some x => decide (x.who = who) && ((decide (i ≠ who ∧ T.has p i ≠ 0) && !FitsL x.mode (T.has p i)) || ((T.wt p).take k).any fun y => decide (y.who = i))
  | none => false
def TS.behind (T : TS) (n who : Nat) : List Nat := own32.filter (T.behB n who)
def ringF (f : Nat → List Nat) (who : Nat) : Nat → List Nat → List Nat → Bool
  | 0, _, _ => false
  | _ + 1, [], _ => false
  | k + 1, x :: q, seen => if x = who then true else if x ∈ seen then ringF f who k q seen else ringF f who k (q ++ f x) (x :: seen)
def TS.ring (T : TS) (n who : Nat) : Bool := ringF (T.behind n) who 2000 (T.behind n who) []
def TS.lock (T : TS) (n who : Nat) (l : List (Nat × Int)) : TS × Int :=
  if T.waits n who = true then (T, 211)
  else match TS.walk who T l with
    | (T', none) => (T', 0)
    | (T', some (p, w)) => if (T'.queue p w).ring n who = true then ((T'.queue p w).away who, 281) else (T'.queue p w, 280)
/-- One place's first ones, as long as they fit. -/
def TS.look : Nat → TS → Nat → List Nat → Bool → TS × List Nat × Bool
  | 0, T, _, out, any => (T, out, any)
  | k + 1, T, p, out, any => match T.wt p with
    | [] => (T, out, any)
    | w :: l => if T.fits w.who p w.mode = true then
        match TS.walk w.who ((T.setW p l).put p w.who w.mode) w.rest with
        | (T2, none) => TS.look k T2 p (out ++ [w.who]) true
        | (T2, some (q, x)) => TS.look k (T2.queue q x) p out true
      else (T, out, any)
def TS.pass (k : Nat) : TS → List Nat → List Nat → Bool → TS × List Nat × Bool
  | T, [], out, any => (T, out, any)
  | T, p :: ps, out, any => match TS.look k T p out any with
    | (T2, out2, any2) => TS.pass k T2 ps out2 any2
def TS.freeL (k n : Nat) : Nat → TS → List Nat → TS × List Nat
  | 0, T, out => (T, out)
  | f + 1, T, out => match TS.pass k T (List.range n) out false with
    | (T2, out2, true) => TS.freeL k n f T2 out2
    | (T2, out2, false) => (T2, out2)
/-- How much is still asked for. -/
def restL (l : List Wt) : Nat := (l.map fun x => x.rest.length + 1).sum
def TS.ask (T : TS) (n : Nat) : Nat := ((List.range n).map fun p => restL (T.wt p)).sum
def TS.free (T : TS) (n who : Nat) : TS × List Nat := TS.freeL (((T.drop who).away who).ask n + 1) n (((T.drop who).away who).ask n + 1) ((T.drop who).away who) []
structure WtI (n : Nat) (x : Wt) : Prop where
  lo : 1 ≤ x.who
  hi : x.who ≤ 32
  m0 : 1 ≤ x.mode
  m1 : x.mode ≤ 5
  st : ∀ s ∈ x.rest, s.1 < n ∧ 1 ≤ s.2 ∧ s.2 ≤ 5
structure TI (n : Nat) (T : TS) : Prop where
  own : ∀ p i, T.has p i ≠ 0 → p < n ∧ 1 ≤ i ∧ i ≤ 32 ∧ 1 ≤ T.has p i ∧ T.has p i ≤ 5
  wn : ∀ p, n ≤ p → T.wt p = []
  ww : ∀ p, ∀ x ∈ T.wt p, WtI n x
  once : ∀ p q, ∀ x ∈ T.wt p, ∀ y ∈ T.wt q, x.who = y.who → p = q
  nd : ∀ p, ((T.wt p).map (·.who)).Nodup
end Go.Proofs.YtfhkgnfphfmhiaaGreatDoor
/- Locks: a map of rows, one for each place. -/
namespace Go.Proofs.YtfhkgnfphfmhiaaGreatDoor
open Go.RowKit Go.Vc
set_option linter.unusedSimpArgs false
theorem nodup_idx {l : List Nat} (hn : l.Nodup) {i j : Nat} (hi : i < l.length) (hj : j < l.length) (h : l[i] = l[j]) : i = j := by
  rcases Nat.lt_trichotomy i j with h1 | h1 | h1
  · exact absurd h (List.pairwise_iff_getElem.1 hn i j hi hj h1)
  · exact h1
  · exact absurd h.symm (List.pairwise_iff_getElem.1 hn j i hj hi h1)
structure Rows {α : Type} (L : Lay α) (w : World) (B : Nat) (e : TypeId) (pl : List Nat) (X : Nat → List α) (f : Int → Option Value) (v : Nat → Sv) : Prop where
  key : ∀ k, f k ≠ none → ∃ p, ∃ h : p < pl.length, k = ((pl[p] : Nat) : Int)
  val : ∀ p (h : p < pl.length), (f ((pl[p] : Nat) : Int)).getD (.slice none 0 0) = slV (v p)
  own : ∀ p, p < pl.length → OwnO L w B e (slV (v p)) (X p)
  ap : ∀ p q, p < pl.length → q < pl.length → p ≠ q → Apart (slV (v p)) (slV (v q))
section
variable {α : Type} {L : Lay α} {w w1 : World} {B : Nat} {e : TypeId} {pl : List Nat} {X X' : Nat → List α} {f : Int → Option Value} {v : Nat → Sv} {M : Nat → Prop}
theorem Rows.fm (h : Rows L w B e pl X f v) (hf : Fm M w w1) (hm : ∀ b, B ≤ b → IsE w e b → ¬ M b) : Rows L w1 B e pl X f v :=
  ⟨h.key, h.val, fun p hp => (h.own p hp).fm hf fun b hb => hm b ((h.own p hp).row b hb).1 ((h.own p hp).row b hb).2, h.ap⟩
theorem Rows.as (h : Rows L w B e pl X f v) (hx : ∀ p, p < pl.length → X p = X' p) : Rows L w B e pl X' f v := ⟨h.key, h.val, fun p hp => by rw [← hx p hp]; exact h.own p hp, h.ap⟩
theorem apart_symm {a b : Value} (h : Apart a b) : Apart b a := by
  rcases h with h | h
  · cases hb : rowOf b with
    | none => exact .inl hb
    | some k => exact .inr (by rw [hb, h]; simp)
  · exact .inr (Ne.symm h)
/-- One row turned, and is put back. -/
theorem Rows.turn (h : Rows L w B e pl X f v) (hn : pl.Nodup) {p : Nat} (hp : p < pl.length) {u : Sv} {xs : List α} (hf : Fm (fun b => rowOf (slV (v p)) = some b) w w1) (ho : OwnO L w1 B e (slV u) xs)
    (hr : rowOf (slV u) = rowOf (slV (v p)) ∨ rowOf (slV u) = none ∨ ∃ g, rowOf (slV u) = some g ∧ w.heap.size ≤ g) : Rows L w1 B e pl (updN X p xs) (upd f ((pl[p] : Nat) : Int) (some (slV u))) (updN v p u) := by
  have hap : ∀ q, q < pl.length → q ≠ p → OwnO L w1 B e (slV (v q)) (X q) ∧ Apart (slV (v q)) (slV u) := fun q hq hne => by
    have o1 := h.own q hq
    have a1 := h.ap q p hq hp hne
    refine ⟨o1.fm hf fun b hb hm => ?_, ?_⟩
    · rcases a1 with a1 | a1
      · rw [hb] at a1; cases a1
      · exact a1 (by rw [hb, hm])
    · cases hb : rowOf (slV (v q)) with
      | none => exact .inl hb
      | some k =>
        refine .inr ?_
        rw [hb]
        rcases hr with hr | hr | ⟨g, hr, hg⟩
        · rw [hr]; intro e1
          rcases a1 with a1 | a1
          · rw [hb] at a1; cases a1
          · exact a1 (by rw [hb, e1])
        · rw [hr]; simp
        · rw [hr]; intro e1; cases e1
          have := (o1.lt k hb).2; omega
  have hinj : ∀ q (hq : q < pl.length), ((pl[q] : Nat) : Int) = ((pl[p] : Nat) : Int) → q = p := fun q hq e1 => nodup_idx hn hq hp (by omega)
  refine ⟨fun k hk => ?_, fun q hq => ?_, fun q hq => ?_, fun q r hq hr2 hne => ?_⟩
  · by_cases e1 : k = ((pl[p] : Nat) : Int)
    · exact ⟨p, hp, e1⟩
    · unfold upd at hk; rw [if_neg e1] at hk; exact h.key k hk
  · by_cases e1 : q = p
    · subst e1; rw [updN_same]; unfold upd; rw [if_pos rfl]; rfl
    · rw [updN_ne _ _ e1]; unfold upd; rw [if_neg fun e2 => e1 (hinj q hq e2)]; exact h.val q hq
  · by_cases e1 : q = p
    · subst e1; rw [updN_same, updN_same]; exact ho
    · rw [updN_ne _ _ e1, updN_ne _ _ e1]; exact (hap q hq e1).1
  · by_cases e1 : q = p
    · subst e1; rw [updN_same, updN_ne _ _ (Ne.symm hne)]; exact apart_symm (hap r hr2 (Ne.symm hne)).2
    · rw [updN_ne _ _ e1]
      by_cases e2 : r = p
      · subst e2; rw [updN_same]; exact (hap q hq e1).2
      · rw [updN_ne _ _ e2]; exact h.ap q r hq hr2 hne
/-- One row turned where it lies. -/
theorem Rows.place (h : Rows L w B e pl X f v) (hn : pl.Nodup) {p : Nat} (hp : p < pl.length) {xs : List α} (hf : Fm (fun b => rowOf (slV (v p)) = some b) w w1) (ho : OwnO L w1 B e (slV (v p)) xs) : Rows L w1 B e pl (updN X p xs) f v := by
  have h2 := h.turn hn hp hf ho (.inl rfl)
  have hv : updN v p (v p) = v := by funext j; unfold updN; split <;> simp_all
  rw [hv] at h2
  exact ⟨h.key, h.val, h2.own, h2.ap⟩
theorem Rows.row (h : Rows L w B e pl X f v) {p : Nat} (hp : p < pl.length) : ∀ b, rowOf (slV (v p)) = some b → B ≤ b ∧ IsE w e b := (h.own p hp).row
theorem Rows.rr (h : Rows L w B e pl X f v) {p : Nat} (hp : p < pl.length) (hl : (X p).length ≤ 1048576) : RR L w (X p) (v p) := ⟨hl, (h.own p hp).rd⟩
end
end Go.Proofs.YtfhkgnfphfmhiaaGreatDoor
/- Documents: trees in plain, in memory. -/
namespace Go.Proofs.YtfhkgnfphfmhiaaGreatDoor
open Go.RowKit Go.Vc
set_option linter.unusedSimpArgs false
/-- A tree's cells. -/
structure E5 where
  kind : Int
  nm : ByteArray
  ats : Sv
  text : ByteArray
  kids : Sv
def E5.cells (e : E5) : List Value := [.int .i64 e.kind, .string e.nm, .slice e.ats.1 e.ats.2.1 e.ats.2.2, .string e.text, .slice e.kids.1 e.kids.2.1 e.kids.2.2]
def LE5 : Lay E5 := ⟨5, E5.cells, fun _ => rfl, fun _ => by simp [E5.cells, Value.oneCell'], by decide⟩
mutual
def RTr (w : World) : Tr → E5 → Prop
  | .mk kind nm attrs text ks, e => e.kind = kind ∧ e.nm = nm ∧ e.text = text ∧ RR LAt w attrs e.ats ∧ ks.length ≤ 1048576 ∧ ∃ es, e.kids.2.1 = es.length ∧ Rd LE5 w e.kids.1 e.kids.2.2 es ∧ RTl w ks es
def RTl (w : World) : List Tr → List E5 → Prop
  | [], es => es = []
  | t :: ts, es => ∃ e es', es = e :: es' ∧ RTr w t e ∧ RTl w ts es'
end
mutual
theorem RTr.sub {w w1 : World} (h : Sub w w1) : ∀ (t : Tr) (e : E5), RTr w t e → RTr w1 t e
  | .mk kind nm attrs text ks, e, hp => by
    simp only [RTr] at hp ⊢
    obtain ⟨h1, h2, h3, h4, h0, es, h5, h6, h7⟩ := hp
    exact ⟨h1, h2, h3, h4.sub h, h0, es, h5, h.rd h6, RTl.sub h ks es h7⟩
theorem RTl.sub {w w1 : World} (h : Sub w w1) : ∀ (ts : List Tr) (es : List E5), RTl w ts es → RTl w1 ts es
  | [], es, hp => by simp only [RTl] at hp ⊢; exact hp
  | t :: ts, es, hp => by
    simp only [RTl] at hp ⊢
    obtain ⟨e, es', h1, h2, h3⟩ := hp
    exact ⟨e, es', h1, RTr.sub h t e h2, RTl.sub h ts es' h3⟩
end
theorem RTl.len {w : World} : ∀ {ts : List Tr} {es : List E5}, RTl w ts es → es.length = ts.length
  | [], es, hp => by simp only [RTl] at hp; subst hp; rfl
  | t :: ts, es, hp => by
    simp only [RTl] at hp
    obtain ⟨e, es', rfl, _, h3⟩ := hp
    simp [h3.len]
theorem RTl.get {w : World} : ∀ {ts : List Tr} {es : List E5}, RTl w ts es → ∀ (i : Nat) (h : i < ts.length) (h' : i < es.length), RTr w ts[i] es[i]
  | [], es, _, i, h, _ => by simp at h
  | t :: ts, es, hp, i, h, h' => by
    simp only [RTl] at hp
    obtain ⟨e, es', rfl, h2, h3⟩ := hp
    cases i with
    | zero => exact h2
    | succ i => exact RTl.get h3 i (by simpa using h) (by simpa using h')
section
variable {w : World} {A : Option Addr} {c : Nat}
theorem Rd.e5 {xs : List E5} (h : Rd LE5 w A c xs) {n : Nat} (hn : n = xs.length) {i : Int} {k : Nat} (hi : i = k) (hk : k < xs.length) {K : Addr → Prop}
    (hK : ∀ b o, w.cell? ⟨b, o, none⟩ = some (.int .i64 xs[k].kind) → w.cell? ⟨b, o + 1, none⟩ = some (.string xs[k].nm) → w.cell? ⟨b, o + 2, none⟩ = some (.slice xs[k].ats.1 xs[k].ats.2.1 xs[k].ats.2.2) → w.cell? ⟨b, o + 3, none⟩ = some (.string xs[k].text) →
      w.cell? ⟨b, o + 4, none⟩ = some (.slice xs[k].kids.1 xs[k].kids.2.1 xs[k].kids.2.2) → K ⟨b, o, none⟩) : IdxA A n i 5 K := by
  subst hi
  refine h.idx hn (by omega) (by omega) rfl fun b o hc => ?_
  simp only [Int.toNat_natCast] at hc
  exact hK b o (hc 0 _ rfl) (hc 1 _ rfl) (hc 2 _ rfl) (hc 3 _ rfl) (hc 4 _ rfl)
end
end Go.Proofs.YtfhkgnfphfmhiaaGreatDoor
/- Documents of the program: how they lie in memory; every block has a colour. -/
namespace Go.Proofs.YtfhkgnfphfmhiaaGreatDoor
open Go.RowKit Go.Vc
set_option linter.unusedSimpArgs false
/-- The block of a handle's node; the pointer to it. -/
def pb (bs : List Nat) (h : Nat) : Nat := bs.getD (h % 4294967296 - 1) 0
def ptrH (bs : List Nat) (h : Nat) : Option Addr := if h = 0 then none else some ⟨pb bs h, 0, none⟩
/-- A colour of the document's: 1 the document, 2 its row of nodes, 3 its row of roots, 8 + 4 i a node, 9 + 4 i its children's row, 10 + 4 i its attributes' row. -/
def pc (c : Nat) : Prop := c = 1 ∨ c = 2 ∨ c = 3 ∨ (8 ≤ c ∧ c % 4 ≠ 3)
structure NodeR (w : World) (o : Nat → Nat) (bs : List Nat) (i b : Nat) (s : Sl) (a kv : Sv) : Prop where
  blk : Blk w b (nodeC i s a (ptrH bs s.parent) kv) 152
  at1 : Own LAt w 0 156 (slV a) s.attrs
  at2 : ∀ x, rowOf (slV a) = some x → o x = 10 + 4 * i
  kd1 : Own LPt w 0 102 (slV kv) (s.kids.map (pb bs))
  kd2 : ∀ x, rowOf (slV kv) = some x → o x = 9 + 4 * i
def inN (n h : Nat) : Prop := 1 ≤ h % 4294967296 ∧ h % 4294967296 ≤ n
structure RngS (n : Nat) (s : Sl) : Prop where
  gen : s.gen < 4294967296
  par : s.parent = 0 ∨ inN n s.parent
  kids : ∀ h ∈ s.kids, inN n h
  few : s.kids.length ≤ 1048576
  atf : s.attrs.length ≤ 1048576
/-- Which document it is; how it stands. -/
structure Th where
  g : Nat
  t : TypeId
  tl : List Value
structure PS where
  D : Im
  bs : List Nat
  lv : Nat
  wn : Nat
  lo : Nat
def docC (nv rv : Sv) (lv wn lo : Nat) (tl : List Value) : Array Value := (slV nv :: slV rv :: .int .i64 (lv : Nat) :: .int .i64 (wn : Nat) :: .int .i64 (lo : Nat) :: tl).toArray
structure DocR (w : World) (o : Nat → Nat) (θ : Th) (S : PS) (nv rv : Sv) : Prop where
  blk : Blk w θ.g (docC nv rv S.lv S.wn S.lo θ.tl) θ.t
  n1 : Own LPt w 0 102 (slV nv) S.bs
  n2 : ∀ x, rowOf (slV nv) = some x → o x = 2
  r1 : Own LPt w 0 102 (slV rv) (S.D.roots.map (pb S.bs))
  r2 : ∀ x, rowOf (slV rv) = some x → o x = 3
structure PM (w : World) (o : Nat → Nat) (θ : Th) (S : PS) : Prop where
  col : o θ.g = 1
  lt : ∀ b, o b ≠ 0 → b < w.heap.size
  len : S.bs.length = S.D.sl.length
  few : S.D.sl.length ≤ 4096
  nc : ∀ (i b : Nat), S.bs[i]? = some b → o b = 8 + 4 * i
  doc : ∃ nv rv, DocR w o θ S nv rv
  nodes : ∀ (i b : Nat) (s : Sl), S.bs[i]? = some b → S.D.sl[i]? = some s → ∃ a kv, NodeR w o S.bs i b s a kv
  rng : ∀ s ∈ S.D.sl, RngS S.D.sl.length s
  rts : (∀ h ∈ S.D.roots, inN S.D.sl.length h) ∧ S.D.roots.length ≤ 1048576
  cnt : S.lv ≤ 4096 ∧ S.wn ≤ 4096 ∧ S.lo ≤ 4096
/-- Only blocks of some colours turned; colours stay, but for what is new. -/
structure EvC (C : Nat → Prop) (w : World) (o : Nat → Nat) (w1 : World) (o1 : Nat → Nat) : Prop where
  fm : Fm (fun b => C (o b)) w w1
  same : ∀ b, o b ≠ 0 → o1 b = o b
  old : ∀ b, b < w.heap.size → o b = 0 → o1 b = 0
  new : ∀ b, o1 b ≠ 0 → o b ≠ 0 ∨ pc (o1 b)
abbrev EvP := EvC pc
section
variable {w w1 w2 : World} {o o1 o2 : Nat → Nat} {θ : Th} {S : PS} {M : Nat → Prop} {bs : List Nat}
theorem EvC.refl {C : Nat → Prop} : EvC C w o w o := ⟨Fm.refl _ _, fun _ _ => rfl, fun _ _ h => h, fun _ h => .inl h⟩
theorem EvC.mono {C C' : Nat → Prop} (h : EvC C w o w1 o1) (hc : ∀ c, C c → C' c) : EvC C' w o w1 o1 := ⟨h.fm.mono fun b _ k => hc _ k, h.same, h.old, h.new⟩
theorem EvC.trans {C C' : Nat → Prop} (h : EvC C w o w1 o1) (h0 : ¬ C 0) (hlt : ∀ b, o b ≠ 0 → b < w.heap.size) (hc' : ∀ b, b < w.heap.size → C' (o b) → C (o b)) (k : EvC C' w1 o1 w2 o2) : EvC C w o w2 o2 := by
  refine ⟨⟨k.fm.os.trans h.fm.os, k.fm.tape.trans h.fm.tape, k.fm.output.trans h.fm.output, Nat.le_trans h.fm.size k.fm.size, fun b hb hm => ?_⟩, fun b hb => ?_, fun b hb h1 => k.old b (Nat.lt_of_lt_of_le hb h.fm.size) (h.old b hb h1), fun b hb => ?_⟩
  · rw [k.fm.block b (Nat.lt_of_lt_of_le hb h.fm.size) fun e => ?_]
    · exact h.fm.block b hb hm
    · by_cases h1 : o b = 0
      · rw [h.old b hb h1] at e
        exact hm (hc' b hb (by rw [h1]; exact e))
      · rw [h.same b h1] at e
        exact hm (hc' b hb e)
  · rw [k.same b (by rw [h.same b hb]; exact hb), h.same b hb]
  · rcases k.new b hb with h1 | h1
    · rcases h.new b h1 with h2 | h2
      · exact .inl h2
      · rw [k.same b h1]; exact .inr h2
    · exact .inr h1
theorem EvP.trans (h : EvP w o w1 o1) (k : EvP w1 o1 w2 o2) : EvP w o w2 o2 := by
  refine ⟨⟨k.fm.os.trans h.fm.os, k.fm.tape.trans h.fm.tape, k.fm.output.trans h.fm.output, Nat.le_trans h.fm.size k.fm.size, fun b hb hm => ?_⟩, fun b hb => ?_, fun b hb h1 => k.old b (Nat.lt_of_lt_of_le hb h.fm.size) (h.old b hb h1), fun b hb => ?_⟩
  · rw [k.fm.block b (Nat.lt_of_lt_of_le hb h.fm.size) fun e => ?_]
    · exact h.fm.block b hb hm
    · by_cases h1 : o b = 0
      · rw [h.old b hb h1] at e; exact hm (by rw [h1]; exact e)
      · rw [h.same b h1] at e; exact hm e
  · rw [k.same b (by rw [h.same b hb]; exact hb), h.same b hb]
  · rcases k.new b hb with h1 | h1
    · rcases h.new b h1 with h2 | h2
      · exact .inl h2
      · rw [k.same b h1]; exact .inr h2
    · exact .inr h1
theorem EvC.below {C : Nat → Prop} (hb : Below w.heap.size w w1) : EvC C w o w1 o := ⟨.below hb, fun _ _ => rfl, fun _ _ h => h, fun _ h => .inl h⟩
theorem not_pc0 : ¬ pc 0 := by rintro (h3 | h3 | h3 | h3) <;> omega
/-- What is not coloured is still seen. -/
def wc (o : Nat → Nat) (w : World) : World := wOnly (fun b => Nat.beq (o b) 0) w
theorem EvP.sub (h : EvP w o w1 o1) : Sub (wc o w) (wc o1 w1) :=
  sub_only (fun b hb h1 => by
    have h2 := Nat.eq_of_beq_eq_true h1
    rw [h.old b hb h2]; rfl) fun b hb h1 => by
    have h2 := Nat.eq_of_beq_eq_true h1
    exact h.fm.block b hb (by rw [h2]; exact not_pc0)
theorem NodeR.keep {i b : Nat} {s : Sl} {a kv : Sv} (h : NodeR w o bs i b s a kv) (hb : o b = 8 + 4 * i) (hf : Fm M w w1) (hm : ∀ x, (o x = 8 + 4 * i ∨ o x = 9 + 4 * i ∨ o x = 10 + 4 * i) → ¬ M x) (ho : ∀ x, (o x = 9 + 4 * i ∨ o x = 10 + 4 * i) → o1 x = o x) : NodeR w1 o1 bs i b s a kv :=
  ⟨hf.blk h.blk (hm b (.inl hb)), own_fm h.at1 hf fun x hx => hm x (.inr (.inr (h.at2 x hx))), fun x hx => by rw [ho x (.inr (h.at2 x hx))]; exact h.at2 x hx,
    own_fm h.kd1 hf fun x hx => hm x (.inr (.inl (h.kd2 x hx))), fun x hx => by rw [ho x (.inl (h.kd2 x hx))]; exact h.kd2 x hx⟩
theorem DocR.keep {nv rv : Sv} (h : DocR w o θ S nv rv) (hc : o θ.g = 1) (hf : Fm M w w1) (hm : ∀ x, (o x = 1 ∨ o x = 2 ∨ o x = 3) → ¬ M x) (ho : ∀ x, (o x = 2 ∨ o x = 3) → o1 x = o x) : DocR w1 o1 θ S nv rv :=
  ⟨hf.blk h.blk (hm _ (.inl hc)), own_fm h.n1 hf fun x hx => hm x (.inr (.inl (h.n2 x hx))), fun x hx => by rw [ho x (.inl (h.n2 x hx))]; exact h.n2 x hx,
    own_fm h.r1 hf fun x hx => hm x (.inr (.inr (h.r2 x hx))), fun x hx => by rw [ho x (.inr (h.r2 x hx))]; exact h.r2 x hx⟩
theorem pc_nd (i : Nat) : pc (8 + 4 * i) ∧ pc (9 + 4 * i) ∧ pc (10 + 4 * i) := by unfold pc; omega
theorem PM.keep (h : PM w o θ S) (hf : Fm M w w1) (hm : ∀ b, pc (o b) → ¬ M b) (ho : ∀ b, pc (o b) → o1 b = o b) (hl : ∀ b, o1 b ≠ 0 → b < w1.heap.size) : PM w1 o1 θ S := by
  have p1 : pc 1 := .inl rfl
  have p2 : pc 2 := .inr (.inl rfl)
  have p3 : pc 3 := .inr (.inr (.inl rfl))
  obtain ⟨nv, rv, hd⟩ := h.doc
  refine ⟨by rw [ho _ (by rw [h.col]; exact p1)]; exact h.col, hl, h.len, h.few, fun i b hb => ?_, ⟨nv, rv, hd.keep h.col hf (fun x hx => hm x ?_) (fun x hx => ho x ?_)⟩, fun i b s hb hs => ?_, h.rng, h.rts, h.cnt⟩
  · have := h.nc i b hb
    rw [ho b (by rw [this]; exact (pc_nd i).1)]; exact this
  · rcases hx with e | e | e <;> rw [e] <;> assumption
  · rcases hx with e | e <;> rw [e] <;> assumption
  · obtain ⟨a, kv, hn⟩ := h.nodes i b s hb hs
    obtain ⟨q1, q2, q3⟩ := pc_nd i
    refine ⟨a, kv, hn.keep (h.nc i b hb) hf (fun x hx => hm x ?_) (fun x hx => ho x ?_)⟩
    · rcases hx with e | e | e <;> rw [e] <;> assumption
    · rcases hx with e | e <;> rw [e] <;> assumption
theorem PM.below (h : PM w o θ S) (hb : Below w.heap.size w w1) : PM w1 o θ S :=
  h.keep (M := fun _ => False) (.below hb) (fun _ _ h => h) (fun _ _ => rfl) fun b hb2 => Nat.lt_of_lt_of_le (h.lt b hb2) hb.size
/-- A row's block gets its colour. -/
def cl (o : Nat → Nat) (r : Option Nat) (c : Nat) : Nat → Nat := fun x => if r = some x ∧ o x = 0 then c else o x
theorem cl_old {r : Option Nat} {c x : Nat} (h : o x ≠ 0) : cl o r c x = o x := by unfold cl; rw [if_neg (fun e => h e.2)]
theorem cl_none {c : Nat} : cl o none c = o := funext fun x => by unfold cl; rw [if_neg (fun e => by cases e.1)]
theorem cl_row {r : Option Nat} {c x : Nat} (h : r = some x) (hx : o x = 0 ∨ o x = c) : cl o r c x = c := by
  unfold cl
  rcases hx with hx | hx
  · rw [if_pos ⟨h, hx⟩]
  · split
    · rfl
    · exact hx
/-- A slot is replaced. -/
def PS.setS (S : PS) (i : Nat) (s : Sl) : PS := { S with D := { S.D with sl := S.D.sl.set i s } }
theorem nodup_col (h : PM w o θ S) {i j b : Nat} (hi : S.bs[i]? = some b) (hj : S.bs[j]? = some b) : i = j := by
  have h1 := h.nc i b hi
  have h2 := h.nc j b hj
  omega
theorem PM.setNode (h : PM w o θ S) {i b : Nat} {s s' : Sl} {a kv : Sv} (hb : S.bs[i]? = some b) (hs : S.D.sl[i]? = some s) (hf : Fm M w w1) (hM : ∀ x, M x → (o x = 8 + 4 * i ∨ o x = 9 + 4 * i ∨ o x = 10 + 4 * i) ∨ w.heap.size ≤ x)
    {r : Option Nat} {c : Nat} (hc : c = 9 + 4 * i ∨ c = 10 + 4 * i) (hr : ∀ x, r = some x → (o x = 0 → w.heap.size ≤ x) ∧ x < w1.heap.size) (hN : NodeR w1 (cl o r c) S.bs i b s' a kv) (hg : RngS S.D.sl.length s') :
    PM w1 (cl o r c) θ (S.setS i s') ∧ EvC (fun c => c = 8 + 4 * i ∨ c = 9 + 4 * i ∨ c = 10 + 4 * i) w o w1 (cl o r c) := by
  have hlt : i < S.D.sl.length := (List.getElem?_eq_some_iff.1 hs).1
  have hold : ∀ x, o x ≠ 0 → cl o r c x = o x := fun x hx => cl_old hx
  have hMc : ∀ x, M x → x < w.heap.size → (o x = 8 + 4 * i ∨ o x = 9 + 4 * i ∨ o x = 10 + 4 * i) := fun x hx hl => (hM x hx).resolve_right (by omega)
  have hMn : ∀ x, o x ≠ 0 → (o x ≠ 8 + 4 * i ∧ o x ≠ 9 + 4 * i ∧ o x ≠ 10 + 4 * i) → ¬ M x := fun x h0 hx hm => by
    have := hMc x hm (h.lt x h0); omega
  obtain ⟨nv, rv, hd⟩ := h.doc
  refine ⟨⟨by rw [hold _ (by rw [h.col]; decide)]; exact h.col, fun x hx => ?_, by simpa [PS.setS] using h.len, by simpa [PS.setS] using h.few, fun j b' hb' => ?_, ⟨nv, rv, ?_⟩, fun j b' s2 hb' hs2 => ?_, fun s2 hs2 => ?_, by simpa [PS.setS] using h.rts, h.cnt⟩, ⟨?_, hold, fun x hx hp => ?_, fun x hx => ?_⟩⟩
  · unfold cl at hx
    split at hx
    · rename_i e; exact (hr x e.1).2
    · exact Nat.lt_of_lt_of_le (h.lt x hx) hf.size
  · rw [hold _ (by rw [h.nc j b' hb']; omega)]; exact h.nc j b' hb'
  · have k := hd.keep (o1 := cl o r c) h.col hf (fun x hx => hMn x (by omega) (by omega)) fun x hx => hold x (by omega)
    exact ⟨k.blk, k.n1, k.n2, k.r1, k.r2⟩
  · by_cases e : i = j
    · subst e
      have hb' : S.bs[i]? = some b' := hb'
      rw [hb] at hb'; cases hb'
      have hs2 : (S.D.sl.set i s')[i]? = some s2 := hs2
      rw [List.getElem?_set_self hlt] at hs2; cases hs2
      exact ⟨a, kv, hN⟩
    · have hs2 : (S.D.sl.set i s')[j]? = some s2 := hs2
      rw [List.getElem?_set_ne e] at hs2
      obtain ⟨a', kv', hn⟩ := h.nodes j b' s2 hb' hs2
      exact ⟨a', kv', hn.keep (h.nc j b' hb') hf (fun x hx => hMn x (by omega) (by omega)) fun x hx => hold x (by omega)⟩
  · have e : (S.setS i s').D.sl.length = S.D.sl.length := by simp [PS.setS]
    rw [e]
    rcases List.mem_or_eq_of_mem_set hs2 with h3 | h3
    · exact h.rng s2 h3
    · rw [h3]; exact hg
  · exact ⟨hf.os, hf.tape, hf.output, hf.size, fun x hx hp => hf.block x hx fun hm => hp (hMc x hm hx)⟩
  · unfold cl
    rw [if_neg]
    · exact hp
    · rintro ⟨e1, e2⟩
      have := (hr x e1).1 e2; omega
  · obtain ⟨q1, q2, q3⟩ := pc_nd i
    unfold cl at hx ⊢
    split
    · rcases hc with e | e <;> rw [e] <;> exact .inr (by assumption)
    · rename_i e
      rw [if_neg e] at hx
      exact .inl hx
end
end Go.Proofs.YtfhkgnfphfmhiaaGreatDoor
/- Documents of the program: their lists, their counters, one more node. -/
namespace Go.Proofs.YtfhkgnfphfmhiaaGreatDoor
open Go.RowKit Go.Vc
set_option linter.unusedSimpArgs false
section
variable {w w1 w2 : World} {o o1 o2 : Nat → Nat} {θ : Th} {S : PS} {M : Nat → Prop} {bs : List Nat}
/-- The document itself is changed, its nodes are not. -/
theorem PM.setDoc (h : PM w o θ S) {nv rv : Sv} {ro : List Nat} {lv wn lo : Nat} (hf : Fm M w w1) (hM : ∀ x, M x → (o x = 1 ∨ o x = 2 ∨ o x = 3) ∨ w.heap.size ≤ x)
    {r : Option Nat} {c : Nat} (hc : c = 2 ∨ c = 3) (hr : ∀ x, r = some x → (o x = 0 → w.heap.size ≤ x) ∧ x < w1.heap.size) (hN : DocR w1 (cl o r c) θ { S with D := { S.D with roots := ro }, lv := lv, wn := wn, lo := lo } nv rv)
    (hro : (∀ h ∈ ro, inN S.D.sl.length h) ∧ ro.length ≤ 1048576) (hcn : lv ≤ 4096 ∧ wn ≤ 4096 ∧ lo ≤ 4096) :
    PM w1 (cl o r c) θ { S with D := { S.D with roots := ro }, lv := lv, wn := wn, lo := lo } ∧ EvC (fun c => c = 1 ∨ c = 2 ∨ c = 3) w o w1 (cl o r c) := by
  have hold : ∀ x, o x ≠ 0 → cl o r c x = o x := fun x hx => cl_old hx
  have hMc : ∀ x, M x → x < w.heap.size → (o x = 1 ∨ o x = 2 ∨ o x = 3) := fun x hx hl => (hM x hx).resolve_right (by omega)
  have hMn : ∀ x, o x ≠ 0 → (o x ≠ 1 ∧ o x ≠ 2 ∧ o x ≠ 3) → ¬ M x := fun x h0 hx hm => by
    have := hMc x hm (h.lt x h0); omega
  refine ⟨⟨by rw [hold _ (by rw [h.col]; decide)]; exact h.col, fun x hx => ?_, h.len, h.few, fun j b' hb' => ?_, ⟨nv, rv, hN⟩, fun j b' s2 hb' hs2 => ?_, h.rng, hro, hcn⟩, ⟨?_, hold, fun x hx hp => ?_, fun x hx => ?_⟩⟩
  · unfold cl at hx
    split at hx
    · rename_i e; exact (hr x e.1).2
    · exact Nat.lt_of_lt_of_le (h.lt x hx) hf.size
  · rw [hold _ (by rw [h.nc j b' hb']; omega)]; exact h.nc j b' hb'
  · obtain ⟨a', kv', hn⟩ := h.nodes j b' s2 hb' hs2
    exact ⟨a', kv', hn.keep (h.nc j b' hb') hf (fun x hx => hMn x (by omega) (by omega)) fun x hx => hold x (by omega)⟩
  · exact ⟨hf.os, hf.tape, hf.output, hf.size, fun x hx hp => hf.block x hx fun hm => hp (hMc x hm hx)⟩
  · unfold cl
    rw [if_neg]
    · exact hp
    · rintro ⟨e1, e2⟩
      have := (hr x e1).1 e2; omega
  · unfold cl at hx ⊢
    split
    · rcases hc with e | e <;> rw [e]
      · exact .inr (.inr (.inl rfl))
      · exact .inr (.inr (.inr (.inl rfl)))
    · rename_i e
      rw [if_neg e] at hx
      exact .inl hx
/-- The counters. -/
theorem PM.cells (h : PM w o θ S) : (∃ v : Sv, w.cell? ⟨θ.g, 0, none⟩ = some (slV v) ∧ Own LPt w 0 102 (slV v) S.bs ∧ ∀ x, rowOf (slV v) = some x → o x = 2) ∧ w.cell? ⟨θ.g, 2, none⟩ = some (.int .i64 (S.lv : Nat)) ∧ w.cell? ⟨θ.g, 3, none⟩ = some (.int .i64 (S.wn : Nat)) ∧ w.cell? ⟨θ.g, 4, none⟩ = some (.int .i64 (S.lo : Nat)) := by
  obtain ⟨nv, rv, hd⟩ := h.doc
  exact ⟨⟨nv, by rw [hd.blk.cell]; rfl, hd.n1, hd.n2⟩, by rw [hd.blk.cell]; rfl, by rw [hd.blk.cell]; rfl, by rw [hd.blk.cell]; rfl⟩
theorem doc_set2 {nv rv : Sv} {lv wn lo : Nat} {tl : List Value} (x : Nat) : (docC nv rv lv wn lo tl).setIfInBounds 2 (.int .i64 (x : Nat)) = docC nv rv x wn lo tl := by simp [docC]
theorem doc_set4 {nv rv : Sv} {lv wn lo : Nat} {tl : List Value} (x : Nat) : (docC nv rv lv wn lo tl).setIfInBounds 4 (.int .i64 (x : Nat)) = docC nv rv lv wn x tl := by simp [docC]
theorem doc_set1 {nv rv v : Sv} {lv wn lo : Nat} {tl : List Value} : (docC nv rv lv wn lo tl).setIfInBounds 1 (slV v) = docC nv v lv wn lo tl := by simp [docC]
theorem doc_set0 {nv rv v : Sv} {lv wn lo : Nat} {tl : List Value} : (docC nv rv lv wn lo tl).setIfInBounds 0 (slV v) = docC v rv lv wn lo tl := by simp [docC]
theorem doc_size {nv rv : Sv} {lv wn lo : Nat} {tl : List Value} : 5 ≤ (docC nv rv lv wn lo tl).size := by simp [docC]
theorem PM.stC (h : PM w o θ S) {j : Nat} {v : Value} {lv wn lo : Nat} (hcn : lv ≤ 4096 ∧ wn ≤ 4096 ∧ lo ≤ 4096) (hj : j < 5) (he : ∀ nv rv, (docC nv rv S.lv S.wn S.lo θ.tl).setIfInBounds j v = docC nv rv lv wn lo θ.tl) {K : World → Prop}
    (hK : ∀ w1, PM w1 o θ { S with lv := lv, wn := wn, lo := lo } → EvC (fun c => c = 1 ∨ c = 2 ∨ c = 3) w o w1 o → K w1) : St w ⟨θ.g, j, none⟩ v K := by
  obtain ⟨nv, rv, hd⟩ := h.doc
  refine st_blk hd.blk (Nat.lt_of_lt_of_le hj doc_size) fun w1 b1 f1 => ?_
  rw [he] at b1
  have hcol := h.col
  have hd1 : DocR w1 o θ { S with lv := lv, wn := wn, lo := lo } nv rv := ⟨b1,
    own_fm hd.n1 f1 fun x hx e => by have e : x = θ.g := e; have := hd.n2 x hx; rw [e, hcol] at this; omega, hd.n2,
    own_fm hd.r1 f1 fun x hx e => by have e : x = θ.g := e; have := hd.r2 x hx; rw [e, hcol] at this; omega, hd.r2⟩
  have := h.setDoc (r := none) (c := 2) (ro := S.D.roots) (nv := nv) (rv := rv) (lv := lv) (wn := wn) (lo := lo) f1 (fun x hx => .inl (.inl (by have e : x = θ.g := hx; rw [e]; exact hcol))) (.inl rfl) (fun x hx => by cases hx) (by rw [cl_none]; exact hd1) h.rts hcn
  rw [cl_none] at this
  exact hK w1 this.1 this.2
theorem PM.stLive (h : PM w o θ S) (x : Nat) (hx : x ≤ 4096) {K : World → Prop} (hK : ∀ w1, PM w1 o θ { S with lv := x } → EvC (fun c => c = 1 ∨ c = 2 ∨ c = 3) w o w1 o → K w1) : St w ⟨θ.g, 2, none⟩ (.int .i64 (x : Nat)) K :=
  h.stC ⟨hx, h.cnt.2.1, h.cnt.2.2⟩ (by omega) (fun _ _ => doc_set2 x) hK
theorem PM.stLow (h : PM w o θ S) (x : Nat) (hx : x ≤ 4096) {K : World → Prop} (hK : ∀ w1, PM w1 o θ { S with lo := x } → EvC (fun c => c = 1 ∨ c = 2 ∨ c = 3) w o w1 o → K w1) : St w ⟨θ.g, 4, none⟩ (.int .i64 (x : Nat)) K :=
  h.stC ⟨h.cnt.1, h.cnt.2.1, hx⟩ (by omega) (fun _ _ => doc_set4 x) hK
/-! ### The lists of children -/
/-- Where a list lies; its colour; what it is. -/
def lad (g : Nat) (bs : List Nat) (p : Nat) : Addr := if p = 0 then ⟨g, 1, none⟩ else ⟨pb bs p, 8, none⟩
/-- The colours that turn with a list. -/
def lcC (p : Nat) (c : Nat) : Prop := if p = 0 then c = 1 ∨ c = 2 ∨ c = 3 else c = 8 + 4 * (p % 4294967296 - 1) ∨ c = 9 + 4 * (p % 4294967296 - 1) ∨ c = 10 + 4 * (p % 4294967296 - 1)
def lcl (p : Nat) : Nat := if p = 0 then 3 else 9 + 4 * (p % 4294967296 - 1)
def lstR (D : Im) (p : Nat) : List Nat := if p = 0 then D.roots else match D.sl[p % 4294967296 - 1]? with | some s => s.kids | none => []
theorem pb_get (hl : S.bs.length = S.D.sl.length) {p : Nat} (hp : inN S.D.sl.length p) : S.bs[p % 4294967296 - 1]? = some (pb S.bs p) ∧ ∃ s, S.D.sl[p % 4294967296 - 1]? = some s := by
  obtain ⟨h1, h2⟩ := hp
  have h3 : p % 4294967296 - 1 < S.bs.length := by omega
  unfold pb
  refine ⟨by rw [List.getD_eq_getElem?_getD, List.getElem?_eq_getElem h3]; rfl, _, List.getElem?_eq_getElem (by omega)⟩
theorem PM.list (h : PM w o θ S) {p : Nat} (hp : p = 0 ∨ inN S.D.sl.length p) : ∃ v : Sv, w.cell? (lad θ.g S.bs p) = some (slV v) ∧ Own LPt w 0 102 (slV v) ((lstR S.D p).map (pb S.bs)) ∧ (∀ x, rowOf (slV v) = some x → o x = lcl p) ∧ (lstR S.D p).length ≤ 1048576 := by
  unfold lad lcl lstR
  by_cases h0 : p = 0
  · simp only [if_pos h0]
    obtain ⟨nv, rv, hd⟩ := h.doc
    exact ⟨rv, by rw [hd.blk.cell]; rfl, hd.r1, hd.r2, h.rts.2⟩
  · simp only [if_neg h0]
    obtain ⟨h1, s, h2⟩ := pb_get h.len (hp.resolve_left h0)
    obtain ⟨a, kv, hn⟩ := h.nodes _ _ _ h1 h2
    simp only [h2]
    exact ⟨kv, by rw [hn.blk.cell]; rfl, hn.kd1, hn.kd2, (h.rng s (List.mem_of_getElem? h2)).few⟩
theorem node_set8 {i : Nat} {s : Sl} {a kv v : Sv} {par : Option Addr} {l : List Nat} : (nodeC i s a par kv).setIfInBounds 8 (slV v) = nodeC i { s with kids := l } a par v := by simp [nodeC, slV]
theorem PM.setList (h : PM w o θ S) {p : Nat} (hp : p = 0 ∨ inN S.D.sl.length p) {v v' : Sv} {l : List Nat} (hc : ∀ x, rowOf (slV v) = some x → o x = lcl p) (hfm : Fm (fun x => rowOf (slV v) = some x) w w1)
    (hO : Own LPt w1 0 102 (slV v') (l.map (pb S.bs))) (hr : rowOf (slV v') = rowOf (slV v) ∨ rowOf (slV v') = none ∨ ∃ g, rowOf (slV v') = some g ∧ w.heap.size ≤ g) (hl : (∀ x ∈ l, inN S.D.sl.length x) ∧ l.length ≤ 1048576) {K : World → Prop}
    (hK : ∀ w2 o2, PM w2 o2 θ { S with D := setI S.D p l } → EvC (lcC p) w o w2 o2 → K w2) : St w1 (lad θ.g S.bs p) (slV v') K := by
  have hrc : ∀ x, rowOf (slV v') = some x → (o x = lcl p ∨ (o x = 0 ∧ w.heap.size ≤ x)) := fun x hx => by
    rcases hr with e | e | ⟨g, e, hge⟩
    · exact .inl (hc x (by rw [← e]; exact hx))
    · rw [e] at hx; cases hx
    · rw [e] at hx; cases hx
      refine .inr ⟨Classical.byContradiction fun h0 => ?_, hge⟩
      have := h.lt _ h0; omega
  have hpos : lcl p ≠ 0 := by unfold lcl; split <;> omega
  unfold lad lcl at *
  by_cases h0 : p = 0
  · simp only [if_pos h0] at *
    obtain ⟨nv, rv, hd⟩ := h.doc
    have hb1 : Blk w1 θ.g (docC nv rv S.lv S.wn S.lo θ.tl) θ.t := hfm.blk hd.blk fun e => by have := hc _ e; rw [h.col] at this; omega
    refine st_blk hb1 (Nat.lt_of_lt_of_le (by omega) doc_size) fun w2 b2 f2 => ?_
    rw [doc_set1] at b2
    have hg1 : o θ.g = 1 := h.col
    have F : Fm (fun x => o x = 1 ∨ o x = 2 ∨ o x = 3) w w2 := (hfm.mono fun x _ e => .inr (.inr (hc x e))).trans (f2.mono fun x _ e => .inl (by have e : x = θ.g := e; rw [e]; exact hg1))
    have hrow : ∀ x, rowOf (slV v') = some x → x ≠ θ.g := fun x hx e => by
      rcases hrc x hx with e2 | ⟨e2, _⟩ <;> rw [e, hg1] at e2 <;> omega
    have hlt2 : ∀ x, rowOf (slV v') = some x → x < w2.heap.size := fun x hx => Nat.lt_of_lt_of_le (hO.lt x hx).2 f2.size
    have hN : DocR w2 (cl o (rowOf (slV v')) 3) θ { S with D := { S.D with roots := l }, lv := S.lv, wn := S.wn, lo := S.lo } nv v' := by
      refine ⟨b2, own_fm (own_fm hd.n1 hfm fun x hx e => ?_) f2 fun x hx e => ?_, fun x hx => ?_, own_fm hO f2 fun x hx e => hrow x hx e, fun x hx => cl_row hx ?_⟩
      · have := hd.n2 x hx; rw [hc x e] at this; omega
      · have e : x = θ.g := e
        have := hd.n2 x hx; rw [e, hg1] at this; omega
      · have := hd.n2 x hx
        rw [cl_old (by omega)]; exact this
      · rcases hrc x hx with e | ⟨e, _⟩
        · exact .inr e
        · exact .inl e
    have := h.setDoc (r := rowOf (slV v')) (c := 3) (nv := nv) (rv := v') (ro := l) (lv := S.lv) (wn := S.wn) (lo := S.lo) F (fun x hx => .inl hx) (.inr rfl) (fun x hx => ⟨fun e => ?_, hlt2 x hx⟩) hN hl h.cnt
    · refine hK w2 _ ?_ (this.2.mono fun c hc => by unfold lcC; rw [if_pos h0]; exact hc)
      unfold setI
      rw [if_pos h0]; exact this.1
    · rcases hrc x hx with e2 | ⟨_, e2⟩
      · rw [e] at e2; omega
      · exact e2
  · simp only [if_neg h0] at *
    have hp' := hp.resolve_left h0
    obtain ⟨k1, s, k2⟩ := pb_get h.len hp'
    generalize hi : p % 4294967296 - 1 = i at *
    generalize hb : pb S.bs p = b at *
    obtain ⟨a, kv, hn⟩ := h.nodes i b s k1 k2
    have hcb := h.nc i b k1
    have hb1 : Blk w1 b (nodeC i s a (ptrH S.bs s.parent) kv) 152 := hfm.blk hn.blk fun e => by have := hc _ e; omega
    refine st_blk hb1 (by simp [nodeC]) fun w2 b2 f2 => ?_
    have b2 : Blk w2 b (nodeC i { s with kids := l } a (ptrH S.bs s.parent) v') 152 := by rw [node_set8] at b2; exact b2
    have F : Fm (fun x => o x = 8 + 4 * i ∨ o x = 9 + 4 * i ∨ o x = 10 + 4 * i) w w2 := (hfm.mono fun x _ e => .inr (.inl (hc x e))).trans (f2.mono fun x _ e => .inl (by have e : x = b := e; rw [e]; exact hcb))
    have hrow : ∀ x, rowOf (slV v') = some x → x ≠ b := fun x hx e => by
      rcases hrc x hx with e2 | ⟨e2, _⟩ <;> rw [e, hcb] at e2 <;> omega
    have hlt2 : ∀ x, rowOf (slV v') = some x → x < w2.heap.size := fun x hx => Nat.lt_of_lt_of_le (hO.lt x hx).2 f2.size
    have hN : NodeR w2 (cl o (rowOf (slV v')) (9 + 4 * i)) S.bs i b { s with kids := l } a v' := by
      refine ⟨b2, own_fm (own_fm hn.at1 hfm fun x hx e => ?_) f2 fun x hx e => ?_, fun x hx => ?_, own_fm hO f2 fun x hx e => hrow x hx e, fun x hx => cl_row hx ?_⟩
      · have := hn.at2 x hx; rw [hc x e] at this; omega
      · have e : x = b := e
        have := hn.at2 x hx; rw [e, hcb] at this; omega
      · have := hn.at2 x hx
        rw [cl_old (by omega)]; exact this
      · rcases hrc x hx with e | ⟨e, _⟩
        · exact .inr e
        · exact .inl e
    have hrs := h.rng s (List.mem_of_getElem? k2)
    have := h.setNode (r := rowOf (slV v')) (c := 9 + 4 * i) k1 k2 F (fun x hx => .inl hx) (.inl rfl) (fun x hx => ⟨fun e => ?_, hlt2 x hx⟩) hN ⟨hrs.gen, hrs.par, hl.1, hl.2, hrs.atf⟩
    · refine hK w2 _ ?_ (this.2.mono fun c hc => by unfold lcC; rw [if_neg h0, hi]; exact hc)
      unfold setI
      rw [if_neg h0, hi, modify_set _ _ _ _ k2]; exact this.1
    · rcases hrc x hx with e2 | ⟨_, e2⟩
      · rw [e] at e2; omega
      · exact e2
end
end Go.Proofs.YtfhkgnfphfmhiaaGreatDoor
