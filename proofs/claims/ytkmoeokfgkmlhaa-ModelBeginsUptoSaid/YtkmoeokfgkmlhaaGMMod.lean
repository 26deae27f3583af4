import Derived.Test.YtkmoeokfgkmlhaaVcSnd9
import Derived.Test.YtkmoeokfgkmlhaaProg
set_option linter.unusedVariables false
set_option maxRecDepth 100000
namespace Go.Proofs.Ytkmoeokfgkmlhaa
open Go.Vc
-- model.placed
def F20_l5 (g9 : Addr) (x33 : Option Addr) (x33N : Nat) (L5 : Int → World → Prop) (x35 : Int) (w_3 : World) (R : Ending → World → Prop) : Prop :=
 Br (decide (x35 < ((x33N : Nat) : Int)))
 (IdxA x33 x33N x35 1 fun q37 =>
 LdI .i64 (w_3.cell? q37) fun x38 =>
 LdSl (w_3.cell? (g9.add 4)) fun x42 x42N x42C =>
 IdxA x42 x42N x38 1 fun q44 =>
 St w_3 q44 (.bool true) fun w1_7 =>
 InR .i64 (x35 + (1 : Int)) ∧ L5 (x35 + (1 : Int)) w1_7)
 (R (.returned (.pointer (some g9))) w_3)

def F20_j4 (g9 : Addr) (p : Addr) (w_2 : World) (R : Ending → World → Prop) : Prop :=
 LdSl (w_2.cell? (p.add 1)) fun x33 x33N x33C =>
 ∃ (I : Int → World → Prop) (m : Int → World → Nat), I (0 : Int) w_2 ∧
 ∀ (x35 : Int) (w1_7 : World), I x35 w1_7 → F20_l5 g9 x33 x33N (fun x35' w2 => I x35' w2 ∧ m x35' w2 < m x35 w1_7) x35 w1_7 R

def F20 (rows : Option Addr) (rowsN : Nat) (rowsC : Nat) (w_ : World) (R : Ending → World → Prop) : Prop :=
 Al w_ #[(.slice rows rowsN rowsC), (.slice none 0 0), (.slice none 0 0), (.slice none 0 0), (.slice none 0 0), (.bool false)] 60 fun g9 w1 =>
 Calls Try.prog 36 #[(.pointer (some g9)), (.slice rows rowsN rowsC)] w1 (post R fun v w1_2 =>
 ∃ (x12_0 : Option Addr) (x12_0N : Nat) (x12_0C : Nat) (x12_1 : Option Addr) (x12_1N : Nat) (x12_1C : Nat) (x12_2 : Bool), v = (.agg #[(.slice x12_0 x12_0N x12_0C), (.slice x12_1 x12_1N x12_1C), (.bool x12_2)]) ∧
 Al w1_2 #[(.slice none 0 0), (.slice none 0 0), (.bool false)] 80 fun p w1_3 =>
 St w1_3 p (.slice x12_0 x12_0N x12_0C) fun w1_4 =>
 St w1_4 (p.add 1) (.slice x12_1 x12_1N x12_1C) fun w1_5 =>
 St w1_5 (p.add 2) (.bool x12_2) fun w1_6 =>
 ∃ J4 : World → Prop, (∀  (w1_7 : World), J4 w1_7 → F20_j4 g9 p w1_7 R) ∧
 (∃ S : World → Prop, S w1_6.drew ∧ ∃ (x17 : Option Addr) (x17N : Nat) (x17C : Nat), Held S p (.slice x17 x17N x17C) ∧ ∃ (x19 : Bool), Held S (p.add 2) (.bool x19) ∧ ∃ (x23 : Option Addr) (x23N : Nat) (x23C : Nat), Held S (g9.add 1) (.slice x23 x23N x23C) ∧ (0 ≤ ((x23N : Nat) : Int) ∧ ((x23N : Nat) : Int) ≤ ((x23N : Nat) : Int) ∧ ((1 : Nat) : Int) * ((x23N : Nat) : Int) ≤ 281474976710656 ∧ Al w1_6.drew (zrow #[(.bool false)] ((((x23N : Nat) : Int)).toNat * 1)) 4 fun g25 w1_8 =>
 S w1_8 ∧ St w1_8 (g9.add 2) (.slice x17 x17N x17C) fun w1_9 =>
 S w1_9 ∧ St w1_9 (g9.add 5) (.bool x19) fun w1_10 =>
 St w1_10 (g9.add 4) (.slice (some g25) (((x23N : Nat) : Int)).toNat (((x23N : Nat) : Int)).toNat) fun w1_11 =>
 J4 w1_11)
 ∧ (St w1_6.drew (g9.add 2) (.slice x17 x17N x17C) fun w1_8 =>
 S w1_8 ∧ (0 ≤ ((x23N : Nat) : Int) ∧ ((x23N : Nat) : Int) ≤ ((x23N : Nat) : Int) ∧ ((1 : Nat) : Int) * ((x23N : Nat) : Int) ≤ 281474976710656 ∧ Al w1_8 (zrow #[(.bool false)] ((((x23N : Nat) : Int)).toNat * 1)) 4 fun g25 w1_9 =>
 S w1_9 ∧ St w1_9 (g9.add 5) (.bool x19) fun w1_10 =>
 St w1_10 (g9.add 4) (.slice (some g25) (((x23N : Nat) : Int)).toNat (((x23N : Nat) : Int)).toNat) fun w1_11 =>
 J4 w1_11)
 ∧ (St w1_8 (g9.add 5) (.bool x19) fun w1_9 =>
 0 ≤ ((x23N : Nat) : Int) ∧ ((x23N : Nat) : Int) ≤ ((x23N : Nat) : Int) ∧ ((1 : Nat) : Int) * ((x23N : Nat) : Int) ≤ 281474976710656 ∧ Al w1_9 (zrow #[(.bool false)] ((((x23N : Nat) : Int)).toNat * 1)) 4 fun g25 w1_10 =>
 St w1_10 (g9.add 4) (.slice (some g25) (((x23N : Nat) : Int)).toNat (((x23N : Nat) : Int)).toNat) fun w1_11 =>
 J4 w1_11))))

def pl20 : Plan := ⟨47, ⟨[]⟩, [(4, ⟨[], [(13, 32)]⟩)], [(5, ⟨[(35, (.s (.int .i64)))], [(6, 7), (35, 46)]⟩)]⟩

theorem eq20 (rows : Option Addr) (rowsN : Nat) (rowsC : Nat) (w : World) (R : Ending → World → Prop) : F20 rows rowsN rowsC w R = vc Try.prog Try.f20 pl20 R 100000 [.code (bodyOf Try.f20)] (argEnv 0 #[(.slice rows rowsN rowsC)].toList) w := by kernel_rfl

theorem ok20 (rows : Option Addr) (rowsN : Nat) (rowsC : Nat) {w : World} {R : Ending → World → Prop} (h : F20 rows rowsN rowsC w R) : Calls Try.prog 20 #[(.slice rows rowsN rowsC)] w R :=
  vc_calls (pl := pl20) Try.func20 (by kernel_rfl) (by kernel_rfl) (by kernel_rfl) (Eq.mp (eq20 rows rowsN rowsC w R) h)

-- (*model.Model).choices
def F36_j7 (L3 : Int → World → Prop) (x11 : Int) (w_3 : World) (R : Ending → World → Prop) : Prop :=
 InR .i64 (x11 + (1 : Int)) ∧ L3 (x11 + (1 : Int)) w_3

def F36_l3 (m_ : Option Addr) (rows : Option Addr) (rowsN : Nat) (g4 : Addr) (all : Addr) (L3 : Int → World → Prop) (x11 : Int) (w_2 : World) (R : Ending → World → Prop) : Prop :=
 Br (decide (x11 < ((rowsN : Nat) : Int)))
 (∃ J7 : World → Prop, (∀  (w1_3 : World), J7 w1_3 → F36_j7 L3 x11 w1_3 R) ∧
 (IdxA rows rowsN x11 1 fun q13 =>
 LdSl (w_2.cell? q13) fun x14 x14N x14C =>
 Calls Try.prog 51 #[(.pointer m_), (.slice x14 x14N x14C)] w_2 (post R fun v w1_3 =>
 ∃ (x17_0 : Option Addr) (x17_0N : Nat) (x17_0C : Nat) (x17_1 : Option Addr) (x17_1N : Nat) (x17_1C : Nat) (x17_2 : Bool), v = (.agg #[(.slice x17_0 x17_0N x17_0C), (.slice x17_1 x17_1N x17_1C), (.bool x17_2)]) ∧
 Al w1_3 #[(.slice none 0 0), (.slice none 0 0), (.bool false)] 80 fun p w1_4 =>
 St w1_4 p (.slice x17_0 x17_0N x17_0C) fun w1_5 =>
 St w1_5 (p.add 1) (.slice x17_1 x17_1N x17_1C) fun w1_6 =>
 St w1_6 (p.add 2) (.bool x17_2) fun w1_7 =>
 ∃ S : World → Prop, S w1_7.drew ∧ ∃ (x19 : Option Addr) (x19N : Nat) (x19C : Nat), Held S all (.slice x19 x19N x19C) ∧ ∃ (x21 : Option Addr) (x21N : Nat) (x21C : Nat), Held S p (.slice x21 x21N x21C) ∧ ∃ (x24 : Option Addr) (x24N : Nat) (x24C : Nat), Held S (all.add 1) (.slice x24 x24N x24C) ∧ ∃ (x26 : Option Addr) (x26N : Nat) (x26C : Nat), Held S (p.add 1) (.slice x26 x26N x26C) ∧ ∃ (x29 : Bool), Held S (all.add 2) (.bool x29) ∧ Calls Try.prog 44 #[(.slice x19 x19N x19C), (.slice x21 x21N x21C)] w1_7.drew (post R fun v2 w1_9 =>
 ∃ (x22 : Option Addr) (x22N : Nat) (x22C : Nat), v2 = (.slice x22 x22N x22C) ∧
 S w1_9 ∧ Calls Try.prog 44 #[(.slice x24 x24N x24C), (.slice x26 x26N x26C)] w1_9 (post R fun v3 w1_10 =>
 ∃ (x27 : Option Addr) (x27N : Nat) (x27C : Nat), v3 = (.slice x27 x27N x27C) ∧
 S w1_10 ∧ Br x29
 (St w1_10 all (.slice x22 x22N x22C) fun w1_11 =>
 St w1_11 (all.add 1) (.slice x27 x27N x27C) fun w1_12 =>
 St w1_12 (all.add 2) (.bool true) fun w1_13 =>
 J7 w1_13)
 (∃ (x32 : Bool), Held S (p.add 2) (.bool x32) ∧ St w1_10 all (.slice x22 x22N x22C) fun w1_11 =>
 St w1_11 (all.add 1) (.slice x27 x27N x27C) fun w1_12 =>
 St w1_12 (all.add 2) (.bool x32) fun w1_13 =>
 J7 w1_13))))))
 (LdSl (w_2.cell? all) fun x36_0 x36_0N x36_0C =>
 LdSl (w_2.cell? (all.add 1)) fun x36_1 x36_1N x36_1C =>
 LdB (w_2.cell? (all.add 2)) fun x36_2 =>
 St w_2 g4 (.slice x36_0 x36_0N x36_0C) fun w1_3 =>
 St w1_3 (g4.add 1) (.slice x36_1 x36_1N x36_1C) fun w1_4 =>
 St w1_4 (g4.add 2) (.bool x36_2) fun w1_5 =>
 LdSl (w1_5.cell? g4) fun res0_0 res0_0N res0_0C =>
 LdSl (w1_5.cell? (g4.add 1)) fun res0_1 res0_1N res0_1C =>
 LdB (w1_5.cell? (g4.add 2)) fun res0_2 =>
 R (.returned (.agg #[(.slice res0_0 res0_0N res0_0C), (.slice res0_1 res0_1N res0_1C), (.bool res0_2)])) w1_5)

def F36 (m_ : Option Addr) (rows : Option Addr) (rowsN : Nat) (rowsC : Nat) (w_ : World) (R : Ending → World → Prop) : Prop :=
 Al w_ #[(.slice none 0 0), (.slice none 0 0), (.bool false)] 80 fun g4 w1 =>
 Al w1 #[(.slice none 0 0), (.slice none 0 0), (.bool false)] 80 fun all w1_2 =>
 ∃ (I : Int → World → Prop) (m : Int → World → Nat), I (0 : Int) w1_2 ∧
 ∀ (x11 : Int) (w1_3 : World), I x11 w1_3 → F36_l3 m_ rows rowsN g4 all (fun x11' w2 => I x11' w2 ∧ m x11' w2 < m x11 w1_3) x11 w1_3 R

def pl36 : Plan := ⟨37, ⟨[]⟩, [(7, ⟨[], [(7, 9), (13, 35)]⟩)], [(3, ⟨[(11, (.s (.int .i64)))], [(7, 9), (11, 36)]⟩)]⟩

theorem eq36 (m_ : Option Addr) (rows : Option Addr) (rowsN : Nat) (rowsC : Nat) (w : World) (R : Ending → World → Prop) : F36 m_ rows rowsN rowsC w R = vc Try.prog Try.f36 pl36 R 100000 [.code (bodyOf Try.f36)] (argEnv 0 #[(.pointer m_), (.slice rows rowsN rowsC)].toList) w := by kernel_rfl

theorem ok36 (m_ : Option Addr) (rows : Option Addr) (rowsN : Nat) (rowsC : Nat) {w : World} {R : Ending → World → Prop} (h : F36 m_ rows rowsN rowsC w R) : Calls Try.prog 36 #[(.pointer m_), (.slice rows rowsN rowsC)] w R :=
  vc_calls (pl := pl36) Try.func36 (by kernel_rfl) (by kernel_rfl) (by kernel_rfl) (Eq.mp (eq36 m_ rows rowsN rowsC w R) h)

-- (*model.Model).row
def F51_j13 (L3 : Int → World → Prop) (x12 : Int) (w_3 : World) (R : Ending → World → Prop) : Prop :=
 InR .i64 (x12 + (1 : Int)) ∧ L3 (x12 + (1 : Int)) w_3

def F51_j12 (all : Addr) (J13 : World → Prop) (p : Addr) (w_4 : World) (R : Ending → World → Prop) : Prop :=
 LdB (w_4.cell? (all.add 2)) fun x45 =>
 Br x45
 (LdB (w_4.cell? (p.add 2)) fun x48 =>
 St w_4 (all.add 2) (.bool x48) fun w1_16 =>
 J13 w1_16)
 (St w_4 (all.add 2) (.bool false) fun w1_16 =>
 J13 w1_16)

def F51_j9 (all : Addr) (J13 : World → Prop) (p : Addr) (w_3 : World) (R : Ending → World → Prop) : Prop :=
 ∃ J12 : World → Prop, (∀  (w1_16 : World), J12 w1_16 → F51_j12 all J13 p w1_16 R) ∧
 (LdB (w_3.cell? (p.add 2)) fun x34 =>
 Br x34
 (LdSl (w_3.cell? (all.add 1)) fun x36 x36N x36C =>
 LdSl (w_3.cell? (p.add 1)) fun x38 x38N x38C =>
 Calls Try.prog 44 #[(.slice x36 x36N x36C), (.slice x38 x38N x38C)] w_3 (post R fun v3 w1_16 =>
 ∃ (x39 : Option Addr) (x39N : Nat) (x39C : Nat), v3 = (.slice x39 x39N x39C) ∧
 St w1_16 (all.add 1) (.slice x39 x39N x39C) fun w1_17 =>
 J12 w1_17))
 (LdSl (w_3.cell? (p.add 1)) fun x42 x42N x42C =>
 St w_3 (all.add 1) (.slice x42 x42N x42C) fun w1_16 =>
 J12 w1_16))

def F51_l3 (m_ : Option Addr) (row : Option Addr) (rowN : Nat) (g4 : Addr) (all : Addr) (L3 : Int → World → Prop) (x12 : Int) (w_2 : World) (R : Ending → World → Prop) : Prop :=
 Br (decide (x12 < ((rowN : Nat) : Int)))
 (∃ J13 : World → Prop, (∀  (w1_6 : World), J13 w1_6 → F51_j13 L3 x12 w1_6 R) ∧
 (IdxA row rowN x12 3 fun q14 =>
 LdStr (w_2.cell? q14) fun x15_0 =>
 LdSl (w_2.cell? (q14.add 1)) fun x15_1 x15_1N x15_1C =>
 LdI .u8 (w_2.cell? (q14.add 2)) fun x15_2 =>
 Al w_2 #[(.string (ByteArray.mk #[])), (.slice none 0 0), (.int .u8 0)] 96 fun g7 w1_6 =>
 St w1_6 g7 (.string x15_0) fun w1_7 =>
 St w1_7 (g7.add 1) (.slice x15_1 x15_1N x15_1C) fun w1_8 =>
 St w1_8 (g7.add 2) (.int .u8 x15_2) fun w1_9 =>
 LdStr (w1_9.cell? g7) fun x17_0 =>
 LdSl (w1_9.cell? (g7.add 1)) fun x17_1 x17_1N x17_1C =>
 LdI .u8 (w1_9.cell? (g7.add 2)) fun x17_2 =>
 Calls Try.prog 72 #[(.pointer m_), (.agg #[(.string x17_0), (.slice x17_1 x17_1N x17_1C), (.int .u8 x17_2)])] w1_9 (post R fun v w1_10 =>
 ∃ (x18_0 : Option Addr) (x18_0N : Nat) (x18_0C : Nat) (x18_1 : Option Addr) (x18_1N : Nat) (x18_1C : Nat) (x18_2 : Bool), v = (.agg #[(.slice x18_0 x18_0N x18_0C), (.slice x18_1 x18_1N x18_1C), (.bool x18_2)]) ∧
 Al w1_10 #[(.slice none 0 0), (.slice none 0 0), (.bool false)] 80 fun p w1_11 =>
 St w1_11 p (.slice x18_0 x18_0N x18_0C) fun w1_12 =>
 St w1_12 (p.add 1) (.slice x18_1 x18_1N x18_1C) fun w1_13 =>
 St w1_13 (p.add 2) (.bool x18_2) fun w1_14 =>
 LdSl (w1_14.cell? (all.add 1)) fun x21 x21N x21C =>
 LdSl (w1_14.cell? p) fun x23 x23N x23C =>
 Calls Try.prog 73 #[(.pointer m_), (.slice x21 x21N x21C), (.slice x23 x23N x23C)] w1_14 (post R fun v2 w1_15 =>
 v2 = (.tuple #[]) ∧
 ∃ J9 : World → Prop, (∀  (w1_16 : World), J9 w1_16 → F51_j9 all J13 p w1_16 R) ∧
 (LdB (w1_15.cell? (all.add 2)) fun x26 =>
 Br x26
 (LdSl (w1_15.cell? all) fun x28 x28N x28C =>
 LdSl (w1_15.cell? p) fun x30 x30N x30C =>
 Calls Try.prog 44 #[(.slice x28 x28N x28C), (.slice x30 x30N x30C)] w1_15 (post R fun v3 w1_16 =>
 ∃ (x31 : Option Addr) (x31N : Nat) (x31C : Nat), v3 = (.slice x31 x31N x31C) ∧
 St w1_16 all (.slice x31 x31N x31C) fun w1_17 =>
 J9 w1_17))
 (J9 w1_15))))))
 (LdSl (w_2.cell? all) fun x52_0 x52_0N x52_0C =>
 LdSl (w_2.cell? (all.add 1)) fun x52_1 x52_1N x52_1C =>
 LdB (w_2.cell? (all.add 2)) fun x52_2 =>
 St w_2 g4 (.slice x52_0 x52_0N x52_0C) fun w1_6 =>
 St w1_6 (g4.add 1) (.slice x52_1 x52_1N x52_1C) fun w1_7 =>
 St w1_7 (g4.add 2) (.bool x52_2) fun w1_8 =>
 LdSl (w1_8.cell? g4) fun res0_0 res0_0N res0_0C =>
 LdSl (w1_8.cell? (g4.add 1)) fun res0_1 res0_1N res0_1C =>
 LdB (w1_8.cell? (g4.add 2)) fun res0_2 =>
 R (.returned (.agg #[(.slice res0_0 res0_0N res0_0C), (.slice res0_1 res0_1N res0_1C), (.bool res0_2)])) w1_8)

def F51 (m_ : Option Addr) (row : Option Addr) (rowN : Nat) (rowC : Nat) (w_ : World) (R : Ending → World → Prop) : Prop :=
 Al w_ #[(.slice none 0 0), (.slice none 0 0), (.bool false)] 80 fun g4 w1 =>
 Al w1 #[(.slice none 0 0), (.slice none 0 0), (.bool false)] 80 fun all w1_2 =>
 St w1_2 all (.slice none 0 0) fun w1_3 =>
 St w1_3 (all.add 1) (.slice none 0 0) fun w1_4 =>
 St w1_4 (all.add 2) (.bool true) fun w1_5 =>
 ∃ (I : Int → World → Prop) (m : Int → World → Nat), I (0 : Int) w1_5 ∧
 ∀ (x12 : Int) (w1_6 : World), I x12 w1_6 → F51_l3 m_ row rowN g4 all (fun x12' w2 => I x12' w2 ∧ m x12' w2 < m x12 w1_6) x12 w1_6 R

def pl51 : Plan := ⟨53, ⟨[]⟩, [(12, ⟨[], [(33, 44)]⟩), (9, ⟨[], [(25, 33)]⟩), (13, ⟨[], [(7, 9), (14, 51)]⟩)], [(3, ⟨[(12, (.s (.int .i64)))], [(7, 9), (12, 52)]⟩)]⟩

theorem eq51 (m_ : Option Addr) (row : Option Addr) (rowN : Nat) (rowC : Nat) (w : World) (R : Ending → World → Prop) : F51 m_ row rowN rowC w R = vc Try.prog Try.f51 pl51 R 100000 [.code (bodyOf Try.f51)] (argEnv 0 #[(.pointer m_), (.slice row rowN rowC)].toList) w := by kernel_rfl

theorem ok51 (m_ : Option Addr) (row : Option Addr) (rowN : Nat) (rowC : Nat) {w : World} {R : Ending → World → Prop} (h : F51 m_ row rowN rowC w R) : Calls Try.prog 51 #[(.pointer m_), (.slice row rowN rowC)] w R :=
  vc_calls (pl := pl51) Try.func51 (by kernel_rfl) (by kernel_rfl) (by kernel_rfl) (Eq.mp (eq51 m_ row rowN rowC w R) h)

-- (*model.Model).part
def F72_j13 (g4 : Addr) (p : Addr) (w_4 : World) (R : Ending → World → Prop) : Prop :=
 LdSl (w_4.cell? p) fun x76_0 x76_0N x76_0C =>
 LdSl (w_4.cell? (p.add 1)) fun x76_1 x76_1N x76_1C =>
 LdB (w_4.cell? (p.add 2)) fun x76_2 =>
 St w_4 g4 (.slice x76_0 x76_0N x76_0C) fun w1_4 =>
 St w1_4 (g4.add 1) (.slice x76_1 x76_1N x76_1C) fun w1_5 =>
 St w1_5 (g4.add 2) (.bool x76_2) fun w1_6 =>
 LdSl (w1_6.cell? g4) fun res0_0 res0_0N res0_0C =>
 LdSl (w1_6.cell? (g4.add 1)) fun res0_1 res0_1N res0_1C =>
 LdB (w1_6.cell? (g4.add 2)) fun res0_2 =>
 R (.returned (.agg #[(.slice res0_0 res0_0N res0_0C), (.slice res0_1 res0_1N res0_1C), (.bool res0_2)])) w1_6

def F72_j12 (g3 : Addr) (g4 : Addr) (p : Addr) (w_3 : World) (R : Ending → World → Prop) : Prop :=
 ∃ J13 : World → Prop, (∀  (w1_4 : World), J13 w1_4 → F72_j13 g4 p w1_4 R) ∧
 (LdB (w_3.cell? (p.add 2)) fun x64 =>
 Br x64
 (St w_3 (p.add 2) (.bool true) fun w1_4 =>
 J13 w1_4)
 (LdI .u8 (w_3.cell? (g3.add 2)) fun x67 =>
 Br (x67 == (42 : Int))
 (St w_3 (p.add 2) (.bool true) fun w1_4 =>
 J13 w1_4)
 (LdI .u8 (w_3.cell? (g3.add 2)) fun x72 =>
 St w_3 (p.add 2) (.bool (x72 == (63 : Int))) fun w1_4 =>
 J13 w1_4)))

def F72_j10 (m_ : Option Addr) (g3 : Addr) (g4 : Addr) (p : Addr) (w_2 : World) (R : Ending → World → Prop) : Prop :=
 ∃ J12 : World → Prop, (∀  (w1_4 : World), J12 w1_4 → F72_j12 g3 g4 p w1_4 R) ∧
 (LdI .u8 (w_2.cell? (g3.add 2)) fun x50 =>
 Br (x50 == (42 : Int))
 (LdSl (w_2.cell? (p.add 1)) fun x59 x59N x59C =>
 LdSl (w_2.cell? p) fun x61 x61N x61C =>
 Calls Try.prog 73 #[(.pointer m_), (.slice x59 x59N x59C), (.slice x61 x61N x61C)] w_2 (post R fun v w1_4 =>
 v = (.tuple #[]) ∧
 J12 w1_4))
 (LdI .u8 (w_2.cell? (g3.add 2)) fun x54 =>
 Br (x54 == (43 : Int))
 (LdSl (w_2.cell? (p.add 1)) fun x59 x59N x59C =>
 LdSl (w_2.cell? p) fun x61 x61N x61C =>
 Calls Try.prog 73 #[(.pointer m_), (.slice x59 x59N x59C), (.slice x61 x61N x61C)] w_2 (post R fun v w1_4 =>
 v = (.tuple #[]) ∧
 J12 w1_4))
 (J12 w_2)))

def F72_j4 (m_ : Option Addr) (p : Addr) (J10 : World → Prop) (w_2 : World) (R : Ending → World → Prop) : Prop :=
 NonNil m_ fun p30 =>
 LdSl (w_2.cell? (p30.add 1)) fun x32 x32N x32C =>
 InR .i64 (((x32N : Nat) : Int) - (1 : Int)) ∧ Al w_2 #[(.int .i64 (((x32N : Nat) : Int) - (1 : Int)))] 3 fun g35 w1_4 =>
 St w1_4 p (.slice (some g35) 1 1) fun w1_5 =>
 St w1_5 (p.add 1) (.slice (some g35) 1 1) fun w1_6 =>
 J10 w1_6

def F72 (m_ : Option Addr) (x_0 : ByteArray) (x_1 : Option Addr) (x_1N : Nat) (x_1C : Nat) (x_2 : Int) (w_ : World) (R : Ending → World → Prop) : Prop :=
 Al w_ #[(.string x_0), (.slice x_1 x_1N x_1C), (.int .u8 x_2)] 96 fun g3 w1 =>
 Al w1 #[(.slice none 0 0), (.slice none 0 0), (.bool false)] 80 fun g4 w1_2 =>
 Al w1_2 #[(.slice none 0 0), (.slice none 0 0), (.bool false)] 80 fun p w1_3 =>
 ∃ J10 : World → Prop, (∀  (w1_4 : World), J10 w1_4 → F72_j10 m_ g3 g4 p w1_4 R) ∧
 (LdStr (w1_3.cell? g3) fun x8 =>
 Br (x8.toList == (ByteArray.mk #[40]).toList)
 (LdSl (w1_3.cell? (g3.add 1)) fun x44 x44N x44C =>
 Calls Try.prog 36 #[(.pointer m_), (.slice x44 x44N x44C)] w1_3 (post R fun v w1_4 =>
 ∃ (x45_0 : Option Addr) (x45_0N : Nat) (x45_0C : Nat) (x45_1 : Option Addr) (x45_1N : Nat) (x45_1C : Nat) (x45_2 : Bool), v = (.agg #[(.slice x45_0 x45_0N x45_0C), (.slice x45_1 x45_1N x45_1C), (.bool x45_2)]) ∧
 St w1_4 p (.slice x45_0 x45_0N x45_0C) fun w1_5 =>
 St w1_5 (p.add 1) (.slice x45_1 x45_1N x45_1C) fun w1_6 =>
 St w1_6 (p.add 2) (.bool x45_2) fun w1_7 =>
 J10 w1_7))
 (Br (x8.toList == (ByteArray.mk #[45]).toList)
 (St w1_3 (p.add 2) (.bool true) fun w1_4 =>
 J10 w1_4)
 (∃ J4 : World → Prop, (∀  (w1_4 : World), J4 w1_4 → F72_j4 m_ p J10 w1_4 R) ∧
 (∃ S : World → Prop, S w1_3.drew ∧ NonNil m_ fun p12 =>
 ∃ (x14 : Option Addr) (x14N : Nat) (x14C : Nat), Held S (p12.add 1) (.slice x14 x14N x14C) ∧ ∃ (x16 : ByteArray), Held S g3 (.string x16) ∧ NonNil m_ fun p20 =>
 ∃ (x22 : Option Addr) (x22N : Nat) (x22C : Nat), Held S (p20.add 3) (.slice x22 x22N x22C) ∧ (Al w1_3.drew #[(.string x16)] 9 fun g17 w1_5 =>
 S w1_5 ∧ (Raw Try.prog (Builtin.append_ #[33, 33] 33 #[(.slice x14 x14N x14C), (.slice (some g17) 1 1)]) w1_5 fun v w1_6 =>
 ∃ (x18 : Option Addr) (x18N : Nat) (x18C : Nat), v = (.slice x18 x18N x18C) ∧
 S w1_6 ∧ Al w1_6 #[(.slice none 0 0)] 56 fun g23 w1_7 =>
 S w1_7 ∧ Raw Try.prog (Builtin.append_ #[57, 57] 57 #[(.slice x22 x22N x22C), (.slice (some g23) 1 1)]) w1_7 fun v2 w1_8 =>
 ∃ (x24 : Option Addr) (x24N : Nat) (x24C : Nat), v2 = (.slice x24 x24N x24C) ∧
 NonNil m_ fun p25 =>
 St w1_8 (p25.add 1) (.slice x18 x18N x18C) fun w1_9 =>
 NonNil m_ fun p27 =>
 St w1_9 (p27.add 3) (.slice x24 x24N x24C) fun w1_10 =>
 J4 w1_10)
 ∧ (Al w1_5 #[(.slice none 0 0)] 56 fun g23 w1_6 =>
 S w1_6 ∧ Raw Try.prog (Builtin.append_ #[33, 33] 33 #[(.slice x14 x14N x14C), (.slice (some g17) 1 1)]) w1_6 fun v w1_7 =>
 ∃ (x18 : Option Addr) (x18N : Nat) (x18C : Nat), v = (.slice x18 x18N x18C) ∧
 S w1_7 ∧ Raw Try.prog (Builtin.append_ #[57, 57] 57 #[(.slice x22 x22N x22C), (.slice (some g23) 1 1)]) w1_7 fun v2 w1_8 =>
 ∃ (x24 : Option Addr) (x24N : Nat) (x24C : Nat), v2 = (.slice x24 x24N x24C) ∧
 NonNil m_ fun p25 =>
 St w1_8 (p25.add 1) (.slice x18 x18N x18C) fun w1_9 =>
 NonNil m_ fun p27 =>
 St w1_9 (p27.add 3) (.slice x24 x24N x24C) fun w1_10 =>
 J4 w1_10))
 ∧ (Al w1_3.drew #[(.slice none 0 0)] 56 fun g23 w1_5 =>
 S w1_5 ∧ Al w1_5 #[(.string x16)] 9 fun g17 w1_6 =>
 S w1_6 ∧ Raw Try.prog (Builtin.append_ #[33, 33] 33 #[(.slice x14 x14N x14C), (.slice (some g17) 1 1)]) w1_6 fun v w1_7 =>
 ∃ (x18 : Option Addr) (x18N : Nat) (x18C : Nat), v = (.slice x18 x18N x18C) ∧
 S w1_7 ∧ Raw Try.prog (Builtin.append_ #[57, 57] 57 #[(.slice x22 x22N x22C), (.slice (some g23) 1 1)]) w1_7 fun v2 w1_8 =>
 ∃ (x24 : Option Addr) (x24N : Nat) (x24C : Nat), v2 = (.slice x24 x24N x24C) ∧
 NonNil m_ fun p25 =>
 St w1_8 (p25.add 1) (.slice x18 x18N x18C) fun w1_9 =>
 NonNil m_ fun p27 =>
 St w1_9 (p27.add 3) (.slice x24 x24N x24C) fun w1_10 =>
 J4 w1_10)))))

def pl72 : Plan := ⟨77, ⟨[]⟩, [(4, ⟨[], [(9, 29)]⟩), (13, ⟨[], [(63, 76)]⟩), (12, ⟨[], [(49, 63)]⟩), (10, ⟨[], [(6, 49)]⟩)], []⟩

theorem eq72 (m_ : Option Addr) (x_0 : ByteArray) (x_1 : Option Addr) (x_1N : Nat) (x_1C : Nat) (x_2 : Int) (w : World) (R : Ending → World → Prop) : F72 m_ x_0 x_1 x_1N x_1C x_2 w R = vc Try.prog Try.f72 pl72 R 100000 [.code (bodyOf Try.f72)] (argEnv 0 #[(.pointer m_), (.agg #[(.string x_0), (.slice x_1 x_1N x_1C), (.int .u8 x_2)])].toList) w := by kernel_rfl

theorem ok72 (m_ : Option Addr) (x_0 : ByteArray) (x_1 : Option Addr) (x_1N : Nat) (x_1C : Nat) (x_2 : Int) {w : World} {R : Ending → World → Prop} (h : F72 m_ x_0 x_1 x_1N x_1C x_2 w R) : Calls Try.prog 72 #[(.pointer m_), (.agg #[(.string x_0), (.slice x_1 x_1N x_1C), (.int .u8 x_2)])] w R :=
  vc_calls (pl := pl72) Try.func72 (by kernel_rfl) (by kernel_rfl) (by kernel_rfl) (Eq.mp (eq72 m_ x_0 x_1 x_1N x_1C x_2 w R) h)

-- (*model.Model).behind
def F73_l1 (m_ : Option Addr) (last : Option Addr) (lastN : Nat) (first : Option Addr) (firstN : Nat) (firstC : Nat) (L1 : Int → World → Prop) (x10 : Int) (w_2 : World) (R : Ending → World → Prop) : Prop :=
 Br (decide (x10 < ((lastN : Nat) : Int)))
 (IdxA last lastN x10 1 fun q12 =>
 LdI .i64 (w_2.cell? q12) fun x13 =>
 ∃ S : World → Prop, S w_2.drew ∧ NonNil m_ fun p15 =>
 ∃ (x17 : Option Addr) (x17N : Nat) (x17C : Nat), Held S (p15.add 3) (.slice x17 x17N x17C) ∧ NonNil m_ fun p20 =>
 ∃ (x22 : Option Addr) (x22N : Nat) (x22C : Nat), Held S (p20.add 3) (.slice x22 x22N x22C) ∧ IdxA x22 x22N x13 1 fun q24 =>
 ∃ (x25 : Option Addr) (x25N : Nat) (x25C : Nat), Held S q24 (.slice x25 x25N x25C) ∧ Calls Try.prog 44 #[(.slice x25 x25N x25C), (.slice first firstN firstC)] w_2.drew (post R fun v w1_2 =>
 ∃ (x27 : Option Addr) (x27N : Nat) (x27C : Nat), v = (.slice x27 x27N x27C) ∧
 S w1_2 ∧ IdxA x17 x17N x13 1 fun q28 =>
 St w1_2 q28 (.slice x27 x27N x27C) fun w1_3 =>
 InR .i64 (x10 + (1 : Int)) ∧ L1 (x10 + (1 : Int)) w1_3))
 (R (.returned (.tuple #[])) w_2)

def F73 (m_ : Option Addr) (last : Option Addr) (lastN : Nat) (lastC : Nat) (first : Option Addr) (firstN : Nat) (firstC : Nat) (w_ : World) (R : Ending → World → Prop) : Prop :=
 ∃ (I : Int → World → Prop) (m : Int → World → Nat), I (0 : Int) w_ ∧
 ∀ (x10 : Int) (w1 : World), I x10 w1 → F73_l1 m_ last lastN first firstN firstC (fun x10' w2 => I x10' w2 ∧ m x10' w2 < m x10 w1) x10 w1 R

def pl73 : Plan := ⟨30, ⟨[]⟩, [], [(1, ⟨[(10, (.s (.int .i64)))], [(7, 8), (10, 30)]⟩)]⟩

theorem eq73 (m_ : Option Addr) (last : Option Addr) (lastN : Nat) (lastC : Nat) (first : Option Addr) (firstN : Nat) (firstC : Nat) (w : World) (R : Ending → World → Prop) : F73 m_ last lastN lastC first firstN firstC w R = vc Try.prog Try.f73 pl73 R 100000 [.code (bodyOf Try.f73)] (argEnv 0 #[(.pointer m_), (.slice last lastN lastC), (.slice first firstN firstC)].toList) w := by kernel_rfl

theorem ok73 (m_ : Option Addr) (last : Option Addr) (lastN : Nat) (lastC : Nat) (first : Option Addr) (firstN : Nat) (firstC : Nat) {w : World} {R : Ending → World → Prop} (h : F73 m_ last lastN lastC first firstN firstC w R) : Calls Try.prog 73 #[(.pointer m_), (.slice last lastN lastC), (.slice first firstN firstC)] w R :=
  vc_calls (pl := pl73) Try.func73 (by kernel_rfl) (by kernel_rfl) (by kernel_rfl) (Eq.mp (eq73 m_ last lastN lastC first firstN firstC w R) h)

-- model.joined
def F44_j7 (L3 : Option Addr → Nat → Nat → Int → World → Prop) (x12 : Int) (out2 : Option Addr) (outN2 : Nat) (outC2 : Nat) (w_3 : World) (R : Ending → World → Prop) : Prop :=
 InR .i64 (x12 + (1 : Int)) ∧ L3 out2 outN2 outC2 (x12 + (1 : Int)) w_3

def F44_l3 (b : Option Addr) (bN : Nat) (L3 : Option Addr → Nat → Nat → Int → World → Prop) (out : Option Addr) (outN : Nat) (outC : Nat) (x12 : Int) (w_2 : World) (R : Ending → World → Prop) : Prop :=
 Br (decide (x12 < ((bN : Nat) : Int)))
 (∃ J7 : Option Addr → Nat → Nat → World → Prop, (∀ (out2 : Option Addr) (outN2 : Nat) (outC2 : Nat) (w1_2 : World), J7 out2 outN2 outC2 w1_2 → F44_j7 L3 x12 out2 outN2 outC2 w1_2 R) ∧
 (IdxA b bN x12 1 fun q14 =>
 LdI .i64 (w_2.cell? q14) fun x15 =>
 Calls Try.prog 58 #[(.slice out outN outC), (.int .i64 x15)] w_2 (post R fun v2 w1_2 =>
 ∃ (x18 : Bool), v2 = (.bool x18) ∧
 Br (!x18)
 (Al w1_2 #[(.int .i64 x15)] 3 fun g22 w1_3 =>
 Raw Try.prog (Builtin.append_ #[56, 56] 56 #[(.slice out outN outC), (.slice (some g22) 1 1)]) w1_3 fun v3 w1_4 =>
 ∃ (x23 : Option Addr) (x23N : Nat) (x23C : Nat), v3 = (.slice x23 x23N x23C) ∧
 J7 x23 x23N x23C w1_4)
 (J7 out outN outC w1_2))))
 (R (.returned (.slice out outN outC)) w_2)

def F44 (a : Option Addr) (aN : Nat) (aC : Nat) (b : Option Addr) (bN : Nat) (bC : Nat) (w_ : World) (R : Ending → World → Prop) : Prop :=
 Calls Try.prog 57 #[(.slice a aN aC)] w_ (post R fun v w1 =>
 ∃ (x9 : Option Addr) (x9N : Nat) (x9C : Nat), v = (.slice x9 x9N x9C) ∧
 ∃ (I : Option Addr → Nat → Nat → Int → World → Prop) (m : Option Addr → Nat → Nat → Int → World → Nat), I x9 x9N x9C (0 : Int) w1 ∧
 ∀ (out : Option Addr) (outN : Nat) (outC : Nat) (x12 : Int) (w1_2 : World), I out outN outC x12 w1_2 → F44_l3 b bN (fun out' outN' outC' x12' w2 => I out' outN' outC' x12' w2 ∧ m out' outN' outC' x12' w2 < m out outN outC x12 w1_2) out outN outC x12 w1_2 R)

def pl44 : Plan := ⟨26, ⟨[]⟩, [(7, ⟨[(5, (.s .slice))], [(5, 8), (14, 24)]⟩)], [(3, ⟨[(5, (.s .slice)), (12, (.s (.int .i64)))], [(5, 8), (12, 25)]⟩)]⟩

theorem eq44 (a : Option Addr) (aN : Nat) (aC : Nat) (b : Option Addr) (bN : Nat) (bC : Nat) (w : World) (R : Ending → World → Prop) : F44 a aN aC b bN bC w R = vc Try.prog Try.f44 pl44 R 100000 [.code (bodyOf Try.f44)] (argEnv 0 #[(.slice a aN aC), (.slice b bN bC)].toList) w := by kernel_rfl

theorem ok44 (a : Option Addr) (aN : Nat) (aC : Nat) (b : Option Addr) (bN : Nat) (bC : Nat) {w : World} {R : Ending → World → Prop} (h : F44 a aN aC b bN bC w R) : Calls Try.prog 44 #[(.slice a aN aC), (.slice b bN bC)] w R :=
  vc_calls (pl := pl44) Try.func44 (by kernel_rfl) (by kernel_rfl) (by kernel_rfl) (Eq.mp (eq44 a aN aC b bN bC w R) h)

-- slices.Clone[[]int,int]
def F57 (s : Option Addr) (sN : Nat) (sC : Nat) (w_ : World) (R : Ending → World → Prop) : Prop :=
 Br (s).isNone
 (R (.returned (.slice none 0 0)) w_)
 (Al w_ #[] 3 fun g5 w1 =>
 Raw Try.prog (Builtin.append_ #[56, 56] 56 #[(.slice (some g5) 0 0), (.slice s sN sC)]) w1 fun v w1_2 =>
 ∃ (x7 : Option Addr) (x7N : Nat) (x7C : Nat), v = (.slice x7 x7N x7C) ∧
 R (.returned (.slice x7 x7N x7C)) w1_2)

def pl57 : Plan := ⟨8, ⟨[]⟩, [], []⟩

theorem eq57 (s : Option Addr) (sN : Nat) (sC : Nat) (w : World) (R : Ending → World → Prop) : F57 s sN sC w R = vc Try.prog Try.f57 pl57 R 100000 [.code (bodyOf Try.f57)] (argEnv 0 #[(.slice s sN sC)].toList) w := by kernel_rfl

theorem ok57 (s : Option Addr) (sN : Nat) (sC : Nat) {w : World} {R : Ending → World → Prop} (h : F57 s sN sC w R) : Calls Try.prog 57 #[(.slice s sN sC)] w R :=
  vc_calls (pl := pl57) Try.func57 (by kernel_rfl) (by kernel_rfl) (by kernel_rfl) (Eq.mp (eq57 s sN sC w R) h)

-- slices.Contains[[]int,int]
def F58 (s : Option Addr) (sN : Nat) (sC : Nat) (v : Int) (w_ : World) (R : Ending → World → Prop) : Prop :=
 Calls Try.prog 77 #[(.slice s sN sC), (.int .i64 v)] w_ (post R fun v2 w1 =>
 ∃ (x7 : Int), v2 = (.int .i64 x7) ∧
 R (.returned (.bool (decide (x7 ≥ (0 : Int))))) w1)

def pl58 : Plan := ⟨9, ⟨[]⟩, [], []⟩

theorem eq58 (s : Option Addr) (sN : Nat) (sC : Nat) (v : Int) (w : World) (R : Ending → World → Prop) : F58 s sN sC v w R = vc Try.prog Try.f58 pl58 R 100000 [.code (bodyOf Try.f58)] (argEnv 0 #[(.slice s sN sC), (.int .i64 v)].toList) w := by kernel_rfl

theorem ok58 (s : Option Addr) (sN : Nat) (sC : Nat) (v : Int) {w : World} {R : Ending → World → Prop} (h : F58 s sN sC v w R) : Calls Try.prog 58 #[(.slice s sN sC), (.int .i64 v)] w R :=
  vc_calls (pl := pl58) Try.func58 (by kernel_rfl) (by kernel_rfl) (by kernel_rfl) (Eq.mp (eq58 s sN sC v w R) h)

-- slices.Index[[]int,int]
def F77_l2 (s : Option Addr) (sN : Nat) (v : Int) (L2 : Int → World → Prop) (x8 : Int) (w_2 : World) (R : Ending → World → Prop) : Prop :=
 Br (decide (x8 < ((sN : Nat) : Int)))
 (IdxA s sN x8 1 fun q14 =>
 LdI .i64 (w_2.cell? q14) fun x15 =>
 Br (v == x15)
 (R (.returned (.int .i64 x8)) w_2)
 (InR .i64 (x8 + (1 : Int)) ∧ L2 (x8 + (1 : Int)) w_2))
 (R (.returned (.int .i64 (-1))) w_2)

def F77 (s : Option Addr) (sN : Nat) (sC : Nat) (v : Int) (w_ : World) (R : Ending → World → Prop) : Prop :=
 ∃ (I : Int → World → Prop) (m : Int → World → Nat), I (0 : Int) w_ ∧
 ∀ (x8 : Int) (w1 : World), I x8 w1 → F77_l2 s sN v (fun x8' w2 => I x8' w2 ∧ m x8' w2 < m x8 w1) x8 w1 R

def pl77 : Plan := ⟨19, ⟨[]⟩, [], [(2, ⟨[(8, (.s (.int .i64)))], [(4, 6), (8, 19)]⟩)]⟩

theorem eq77 (s : Option Addr) (sN : Nat) (sC : Nat) (v : Int) (w : World) (R : Ending → World → Prop) : F77 s sN sC v w R = vc Try.prog Try.f77 pl77 R 100000 [.code (bodyOf Try.f77)] (argEnv 0 #[(.slice s sN sC), (.int .i64 v)].toList) w := by kernel_rfl

theorem ok77 (s : Option Addr) (sN : Nat) (sC : Nat) (v : Int) {w : World} {R : Ending → World → Prop} (h : F77 s sN sC v w R) : Calls Try.prog 77 #[(.slice s sN sC), (.int .i64 v)] w R :=
  vc_calls (pl := pl77) Try.func77 (by kernel_rfl) (by kernel_rfl) (by kernel_rfl) (Eq.mp (eq77 s sN sC v w R) h)

-- (*model.Model).run
def F28_j14 (L8 : Option Addr → Nat → Nat → Bool → Bool → Int → World → Prop) (x33 : Int) (next2 : Option Addr) (nextN2 : Nat) (nextC2 : Nat) (ok2 : Bool) (last2 : Bool) (w_4 : World) (R : Ending → World → Prop) : Prop :=
 InR .i64 (x33 + (1 : Int)) ∧ L8 next2 nextN2 nextC2 ok2 last2 (x33 + (1 : Int)) w_4

def F28_j13 (m_ : Option Addr) (next : Option Addr) (nextN : Nat) (nextC : Nat) (J14 : Option Addr → Nat → Nat → Bool → Bool → World → Prop) (x36 : Int) (last2 : Bool) (w_4 : World) (R : Ending → World → Prop) : Prop :=
 NonNil m_ fun p58 =>
 LdSl (w_4.cell? (p58.add 3)) fun x60 x60N x60C =>
 IdxA x60 x60N x36 1 fun q62 =>
 LdSl (w_4.cell? q62) fun x63 x63N x63C =>
 Calls Try.prog 44 #[(.slice next nextN nextC), (.slice x63 x63N x63C)] w_4 (post R fun v2 w1_3 =>
 ∃ (x64 : Option Addr) (x64N : Nat) (x64C : Nat), v2 = (.slice x64 x64N x64C) ∧
 J14 x64 x64N x64C true last2 w1_3)

def F28_l8 (m_ : Option Addr) (L3 : Option Addr → Nat → Nat → Bool → Int → World → Prop) (may : Option Addr) (mayN : Nat) (mayC : Nat) (is : Bool) (x26 : Int) (x30 : ByteArray) (L8 : Option Addr → Nat → Nat → Bool → Bool → Int → World → Prop) (next : Option Addr) (nextN : Nat) (nextC : Nat) (ok : Bool) (last : Bool) (x33 : Int) (w_3 : World) (R : Ending → World → Prop) : Prop :=
 Br (decide (x33 < ((mayN : Nat) : Int)))
 (∃ J14 : Option Addr → Nat → Nat → Bool → Bool → World → Prop, (∀ (next2 : Option Addr) (nextN2 : Nat) (nextC2 : Nat) (ok2 : Bool) (last2 : Bool) (w1_2 : World), J14 next2 nextN2 nextC2 ok2 last2 w1_2 → F28_j14 L8 x33 next2 nextN2 nextC2 ok2 last2 w1_2 R) ∧
 (IdxA may mayN x33 1 fun q35 =>
 LdI .i64 (w_3.cell? q35) fun x36 =>
 NonNil m_ fun p38 =>
 LdSl (w_3.cell? (p38.add 1)) fun x40 x40N x40C =>
 IdxA x40 x40N x36 1 fun q42 =>
 LdStr (w_3.cell? q42) fun x43 =>
 Calls Try.prog 43 #[(.string x43), (.string x30)] w_3 (post R fun v w1_2 =>
 ∃ (x45 : Bool), v = (.bool x45) ∧
 Br x45
 (∃ J13 : Bool → World → Prop, (∀ (last2 : Bool) (w1_3 : World), J13 last2 w1_3 → F28_j13 m_ next nextN nextC J14 x36 last2 w1_3 R) ∧
 (Br last
 (J13 true w1_2)
 (NonNil m_ fun p49 =>
 LdSl (w1_2.cell? (p49.add 4)) fun x51 x51N x51C =>
 IdxA x51 x51N x36 1 fun q53 =>
 LdB (w1_2.cell? q53) fun x54 =>
 J13 x54 w1_2)))
 (J14 next nextN nextC ok last w1_2))))
 (Br (!ok)
 (R (.returned (.tuple #[(.int .i64 x26), (.slice may mayN mayC), (.bool is)])) w_3)
 (InR .i64 (x26 + (1 : Int)) ∧ L3 next nextN nextC last (x26 + (1 : Int)) w_3))

def F28_l3 (m_ : Option Addr) (names : Option Addr) (namesN : Nat) (L3 : Option Addr → Nat → Nat → Bool → Int → World → Prop) (may : Option Addr) (mayN : Nat) (mayC : Nat) (is : Bool) (x26 : Int) (w_2 : World) (R : Ending → World → Prop) : Prop :=
 Br (decide (x26 < ((namesN : Nat) : Int)))
 (IdxA names namesN x26 1 fun q29 =>
 LdStr (w_2.cell? q29) fun x30 =>
 ∃ (I : Option Addr → Nat → Nat → Bool → Bool → Int → World → Prop) (m : Option Addr → Nat → Nat → Bool → Bool → Int → World → Nat), I none 0 0 false false (0 : Int) w_2 ∧
 ∀ (next : Option Addr) (nextN : Nat) (nextC : Nat) (ok : Bool) (last : Bool) (x33 : Int) (w1_2 : World), I next nextN nextC ok last x33 w1_2 → F28_l8 m_ L3 may mayN mayC is x26 x30 (fun next' nextN' nextC' ok' last' x33' w2 => I next' nextN' nextC' ok' last' x33' w2 ∧ m next' nextN' nextC' ok' last' x33' w2 < m next nextN nextC ok last x33 w1_2) next nextN nextC ok last x33 w1_2 R)
 (R (.returned (.tuple #[(.int .i64 ((namesN : Nat) : Int)), (.slice may mayN mayC), (.bool is)])) w_2)

def F28 (m_ : Option Addr) (names : Option Addr) (namesN : Nat) (namesC : Nat) (w_ : World) (R : Ending → World → Prop) : Prop :=
 Dr w_ fun w1 =>
 NonNil m_ fun p17 =>
 LdSl (w1.cell? (p17.add 2)) fun x19 x19N x19C =>
 NonNil m_ fun p21 =>
 LdB (w1.cell? (p21.add 5)) fun x23 =>
 ∃ (I : Option Addr → Nat → Nat → Bool → Int → World → Prop) (m : Option Addr → Nat → Nat → Bool → Int → World → Nat), I x19 x19N x19C x23 (0 : Int) w1 ∧
 ∀ (may : Option Addr) (mayN : Nat) (mayC : Nat) (is : Bool) (x26 : Int) (w1_2 : World), I may mayN mayC is x26 w1_2 → F28_l3 m_ names namesN (fun may' mayN' mayC' is' x26' w2 => I may' mayN' mayC' is' x26' w2 ∧ m may' mayN' mayC' is' x26' w2 < m may mayN mayC is x26 w1_2) may mayN mayC is x26 w1_2 R

def pl28 : Plan := ⟨78, ⟨[]⟩, [(13, ⟨[(13, (.s .bool))], [(13, 14), (46, 56)]⟩), (14, ⟨[(11, (.s .slice)), (12, (.s .bool)), (13, (.s .bool))], [(11, 16), (35, 65)]⟩)], [(8, ⟨[(11, (.s .slice)), (12, (.s .bool)), (13, (.s .bool)), (33, (.s (.int .i64)))], [(11, 16), (33, 66)]⟩), (3, ⟨[(7, (.s .slice)), (8, (.s .bool)), (26, (.s (.int .i64)))], [(4, 16), (26, 74)]⟩)]⟩

theorem eq28 (m_ : Option Addr) (names : Option Addr) (namesN : Nat) (namesC : Nat) (w : World) (R : Ending → World → Prop) : F28 m_ names namesN namesC w R = vc Try.prog Try.f28 pl28 R 100000 [.code (bodyOf Try.f28)] (argEnv 0 #[(.pointer m_), (.slice names namesN namesC)].toList) w := by kernel_rfl

theorem ok28 (m_ : Option Addr) (names : Option Addr) (namesN : Nat) (namesC : Nat) {w : World} {R : Ending → World → Prop} (h : F28 m_ names namesN namesC w R) : Calls Try.prog 28 #[(.pointer m_), (.slice names namesN namesC)] w R :=
  vc_calls (pl := pl28) Try.func28 (by kernel_rfl) (by kernel_rfl) (by kernel_rfl) (Eq.mp (eq28 m_ names namesN namesC w R) h)

-- model.fits
def F43 (atom : ByteArray) (name : ByteArray) (w_ : World) (R : Ending → World → Prop) : Prop :=
 Br (atom.toList == (ByteArray.mk #[46]).toList)
 (R (.returned (.bool true)) w_)
 (Br (atom.toList == (ByteArray.mk #[36]).toList)
 (Br (name.toList == (ByteArray.mk #[]).toList)
 (R (.returned (.bool true)) w_)
 (Br (atom.toList == name.toList)
 (R (.returned (.bool (!(atom.toList == (ByteArray.mk #[36]).toList)))) w_)
 (R (.returned (.bool false)) w_)))
 (Br (atom.toList == name.toList)
 (R (.returned (.bool (!(atom.toList == (ByteArray.mk #[36]).toList)))) w_)
 (R (.returned (.bool false)) w_)))

def pl43 : Plan := ⟨24, ⟨[]⟩, [], []⟩

theorem eq43 (atom : ByteArray) (name : ByteArray) (w : World) (R : Ending → World → Prop) : F43 atom name w R = vc Try.prog Try.f43 pl43 R 100000 [.code (bodyOf Try.f43)] (argEnv 0 #[(.string atom), (.string name)].toList) w := by kernel_rfl

theorem ok43 (atom : ByteArray) (name : ByteArray) {w : World} {R : Ending → World → Prop} (h : F43 atom name w R) : Calls Try.prog 43 #[(.string atom), (.string name)] w R :=
  vc_calls (pl := pl43) Try.func43 (by kernel_rfl) (by kernel_rfl) (by kernel_rfl) (Eq.mp (eq43 atom name w R) h)

-- (*model.Model).Match
def F11 (m_ : Option Addr) (names : Option Addr) (namesN : Nat) (namesC : Nat) (w_ : World) (R : Ending → World → Prop) : Prop :=
 Br (m_).isNone
 (R (.returned (.tuple #[(.bool false), (.int .i64 0)])) w_)
 (Calls Try.prog 28 #[(.pointer m_), (.slice names namesN namesC)] w_ (post R fun v w1 =>
 ∃ (x14_0 : Int) (x14_1 : Option Addr) (x14_1N : Nat) (x14_1C : Nat) (x14_2 : Bool), v = (.tuple #[(.int .i64 x14_0), (.slice x14_1 x14_1N x14_1C), (.bool x14_2)]) ∧
 Br x14_2
 (R (.returned (.tuple #[(.bool (x14_0 == ((namesN : Nat) : Int))), (.int .i64 x14_0)])) w1)
 (R (.returned (.tuple #[(.bool false), (.int .i64 x14_0)])) w1)))

def pl11 : Plan := ⟨26, ⟨[]⟩, [], []⟩

theorem eq11 (m_ : Option Addr) (names : Option Addr) (namesN : Nat) (namesC : Nat) (w : World) (R : Ending → World → Prop) : F11 m_ names namesN namesC w R = vc Try.prog Try.f11 pl11 R 100000 [.code (bodyOf Try.f11)] (argEnv 0 #[(.pointer m_), (.slice names namesN namesC)].toList) w := by kernel_rfl

theorem ok11 (m_ : Option Addr) (names : Option Addr) (namesN : Nat) (namesC : Nat) {w : World} {R : Ending → World → Prop} (h : F11 m_ names namesN namesC w R) : Calls Try.prog 11 #[(.pointer m_), (.slice names namesN namesC)] w R :=
  vc_calls (pl := pl11) Try.func11 (by kernel_rfl) (by kernel_rfl) (by kernel_rfl) (Eq.mp (eq11 m_ names namesN namesC w R) h)

-- (*model.Model).Clear
def F9_l10 (m_ : Option Addr) (x25 : Option Addr) (L7 : Int → World → Prop) (x28 : Int) (x32 : Int) (L10 : Int → World → Prop) (x37 : Int) (w_4 : World) (R : Ending → World → Prop) : Prop :=
 Br (decide (x37 < (((x28).toNat : Nat) : Int)))
 (IdxA x25 (x28).toNat x37 1 fun q39 =>
 LdI .i64 (w_4.cell? q39) fun x40 =>
 ∃ S2 : World → Prop, S2 w_4.drew ∧ NonNil m_ fun p42 =>
 ∃ (x44 : Option Addr) (x44N : Nat) (x44C : Nat), Held S2 (p42.add 1) (.slice x44 x44N x44C) ∧ IdxA x44 x44N x32 1 fun q46 =>
 ∃ (x47 : ByteArray), Held S2 q46 (.string x47) ∧ NonNil m_ fun p49 =>
 ∃ (x51 : Option Addr) (x51N : Nat) (x51C : Nat), Held S2 (p49.add 1) (.slice x51 x51N x51C) ∧ IdxA x51 x51N x40 1 fun q53 =>
 ∃ (x54 : ByteArray), Held S2 q53 (.string x54) ∧ Calls Try.prog 26 #[(.string x47), (.string x54)] w_4.drew (post R fun v2 w1_5 =>
 ∃ (x55 : Bool), v2 = (.bool x55) ∧
 Br x55
 (R (.returned (.bool false)) w1_5)
 (InR .i64 (x37 + (1 : Int)) ∧ L10 (x37 + (1 : Int)) w1_5)))
 (InR .i64 (x28 + (1 : Int)) ∧ L7 (x28 + (1 : Int)) w_4)

def F9_l7 (m_ : Option Addr) (L4 : Int → World → Prop) (x22 : Int) (x25 : Option Addr) (x25N : Nat) (x25C : Nat) (L7 : Int → World → Prop) (x28 : Int) (w_3 : World) (R : Ending → World → Prop) : Prop :=
 Br (decide (x28 < ((x25N : Nat) : Int)))
 (IdxA x25 x25N x28 1 fun q31 =>
 LdI .i64 (w_3.cell? q31) fun x32 =>
 SlB 0 x28 ((x25C : Nat) : Int)
 (∃ (I : Int → World → Prop) (m : Int → World → Nat), I (0 : Int) w_3 ∧
 ∀ (x37 : Int) (w1_4 : World), I x37 w1_4 → F9_l10 m_ x25 L7 x28 x32 (fun x37' w2 => I x37' w2 ∧ m x37' w2 < m x37 w1_4) x37 w1_4 R))
 (InR .i64 (x22 + (1 : Int)) ∧ L4 (x22 + (1 : Int)) w_3)

def F9_l4 (m_ : Option Addr) (x20 : Option Addr) (x20N : Nat) (L4 : Int → World → Prop) (x22 : Int) (w_2 : World) (R : Ending → World → Prop) : Prop :=
 Br (decide (x22 < ((x20N : Nat) : Int)))
 (IdxA x20 x20N x22 1 fun q24 =>
 LdSl (w_2.cell? q24) fun x25 x25N x25C =>
 ∃ (I : Int → World → Prop) (m : Int → World → Nat), I (0 : Int) w_2 ∧
 ∀ (x28 : Int) (w1_4 : World), I x28 w1_4 → F9_l7 m_ L4 x22 x25 x25N x25C (fun x28' w2 => I x28' w2 ∧ m x28' w2 < m x28 w1_4) x28 w1_4 R)
 (R (.returned (.bool true)) w_2)

def F9 (m_ : Option Addr) (w_ : World) (R : Ending → World → Prop) : Prop :=
 Br (m_).isNone
 (R (.returned (.bool true)) w_)
 (∃ S : World → Prop, S w_.drew ∧ NonNil m_ fun p12 =>
 ∃ (x14 : Option Addr) (x14N : Nat) (x14C : Nat), Held S (p12.add 2) (.slice x14 x14N x14C) ∧ NonNil m_ fun p17 =>
 ∃ (x19 : Option Addr) (x19N : Nat) (x19C : Nat), Held S (p17.add 3) (.slice x19 x19N x19C) ∧ Al w_.drew #[(.slice x14 x14N x14C)] 56 fun g15 w1_2 =>
 S w1_2 ∧ Raw Try.prog (Builtin.append_ #[57, 57] 57 #[(.slice (some g15) 1 1), (.slice x19 x19N x19C)]) w1_2 fun v w1_3 =>
 ∃ (x20 : Option Addr) (x20N : Nat) (x20C : Nat), v = (.slice x20 x20N x20C) ∧
 ∃ (I : Int → World → Prop) (m : Int → World → Nat), I (0 : Int) w1_3 ∧
 ∀ (x22 : Int) (w1_4 : World), I x22 w1_4 → F9_l4 m_ x20 x20N (fun x22' w2 => I x22' w2 ∧ m x22' w2 < m x22 w1_4) x22 w1_4 R)

def pl9 : Plan := ⟨59, ⟨[]⟩, [], [(10, ⟨[(37, (.s (.int .i64)))], [(2, 3), (8, 9), (37, 57)]⟩), (7, ⟨[(28, (.s (.int .i64)))], [(2, 3), (5, 9), (28, 58)]⟩), (4, ⟨[(22, (.s (.int .i64)))], [(2, 9), (22, 59)]⟩)]⟩

theorem eq9 (m_ : Option Addr) (w : World) (R : Ending → World → Prop) : F9 m_ w R = vc Try.prog Try.f9 pl9 R 100000 [.code (bodyOf Try.f9)] (argEnv 0 #[(.pointer m_)].toList) w := by kernel_rfl

theorem ok9 (m_ : Option Addr) {w : World} {R : Ending → World → Prop} (h : F9 m_ w R) : Calls Try.prog 9 #[(.pointer m_)] w R :=
  vc_calls (pl := pl9) Try.func9 (by kernel_rfl) (by kernel_rfl) (by kernel_rfl) (Eq.mp (eq9 m_ w R) h)

-- model.clash
def F26 (a : ByteArray) (b : ByteArray) (w_ : World) (R : Ending → World → Prop) : Prop :=
 Br (a.toList == b.toList)
 (R (.returned (.bool true)) w_)
 (Br (a.toList == (ByteArray.mk #[46]).toList)
 (R (.returned (.bool true)) w_)
 (R (.returned (.bool (b.toList == (ByteArray.mk #[46]).toList))) w_))

def pl26 : Plan := ⟨16, ⟨[]⟩, [], []⟩

theorem eq26 (a : ByteArray) (b : ByteArray) (w : World) (R : Ending → World → Prop) : F26 a b w R = vc Try.prog Try.f26 pl26 R 100000 [.code (bodyOf Try.f26)] (argEnv 0 #[(.string a), (.string b)].toList) w := by kernel_rfl

theorem ok26 (a : ByteArray) (b : ByteArray) {w : World} {R : Ending → World → Prop} (h : F26 a b w R) : Calls Try.prog 26 #[(.string a), (.string b)] w R :=
  vc_calls (pl := pl26) Try.func26 (by kernel_rfl) (by kernel_rfl) (by kernel_rfl) (Eq.mp (eq26 a b w R) h)

end Go.Proofs.Ytkmoeokfgkmlhaa
