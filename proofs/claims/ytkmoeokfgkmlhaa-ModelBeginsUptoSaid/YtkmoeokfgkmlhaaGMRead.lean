import Derived.Test.YtkmoeokfgkmlhaaVcSnd9
import Derived.Test.YtkmoeokfgkmlhaaProg
set_option linter.unusedVariables false
set_option maxRecDepth 100000
namespace Go.Proofs.Ytkmoeokfgkmlhaa
open Go.Vc
-- (*model.reader).choices
def F17_l2 (r : Option Addr) (L2 : Option Addr → Nat → Nat → World → Prop) (rows : Option Addr) (rowsN : Nat) (rowsC : Nat) (w_2 : World) (R : Ending → World → Prop) : Prop :=
 Calls Try.prog 34 #[(.pointer r)] w_2 (post R fun v2 w1_3 =>
 ∃ (x8 : Int), v2 = (.int .u8 x8) ∧
 Br (x8 == (124 : Int))
 (Calls Try.prog 35 #[(.pointer r)] w1_3 (post R fun v3 w1_4 =>
 v3 = (.tuple #[]) ∧
 NonNil r fun p13 =>
 LdI .i64 (w1_4.cell? (p13.add 1)) fun x15 =>
 InR .i64 (x15 + (1 : Int)) ∧ NonNil r fun p17 =>
 St w1_4 (p17.add 1) (.int .i64 (x15 + (1 : Int))) fun w1_5 =>
 Calls Try.prog 33 #[(.pointer r)] w1_5 (post R fun v4 w1_6 =>
 ∃ (x21 : Option Addr) (x21N : Nat) (x21C : Nat), v4 = (.slice x21 x21N x21C) ∧
 Al w1_6 #[(.slice x21 x21N x21C)] 77 fun g22 w1_7 =>
 Raw Try.prog (Builtin.append_ #[47, 47] 47 #[(.slice rows rowsN rowsC), (.slice (some g22) 1 1)]) w1_7 fun v5 w1_8 =>
 ∃ (x23 : Option Addr) (x23N : Nat) (x23C : Nat), v5 = (.slice x23 x23N x23C) ∧
 L2 x23 x23N x23C w1_8)))
 (R (.returned (.slice rows rowsN rowsC)) w1_3))

def F17 (r : Option Addr) (w_ : World) (R : Ending → World → Prop) : Prop :=
 Calls Try.prog 33 #[(.pointer r)] w_ (post R fun v w1 =>
 ∃ (x5 : Option Addr) (x5N : Nat) (x5C : Nat), v = (.slice x5 x5N x5C) ∧
 Al w1 #[(.slice x5 x5N x5C)] 77 fun g6 w1_2 =>
 ∃ (I : Option Addr → Nat → Nat → World → Prop) (m : Option Addr → Nat → Nat → World → Nat), I (some g6) 1 1 w1_2 ∧
 ∀ (rows : Option Addr) (rowsN : Nat) (rowsC : Nat) (w1_3 : World), I rows rowsN rowsC w1_3 → F17_l2 r (fun rows' rowsN' rowsC' w2 => I rows' rowsN' rowsC' w2 ∧ m rows' rowsN' rowsC' w2 < m rows rowsN rowsC w1_3) rows rowsN rowsC w1_3 R)

def pl17 : Plan := ⟨25, ⟨[]⟩, [], [(2, ⟨[(3, (.s .slice))], [(3, 24)]⟩)]⟩

theorem eq17 (r : Option Addr) (w : World) (R : Ending → World → Prop) : F17 r w R = vc Try.prog Try.f17 pl17 R 100000 [.code (bodyOf Try.f17)] (argEnv 0 #[(.pointer r)].toList) w := by kernel_rfl

theorem ok17 (r : Option Addr) {w : World} {R : Ending → World → Prop} (h : F17 r w R) : Calls Try.prog 17 #[(.pointer r)] w R :=
  vc_calls (pl := pl17) Try.func17 (by kernel_rfl) (by kernel_rfl) (by kernel_rfl) (Eq.mp (eq17 r w R) h)

-- (*model.reader).ends
def F18 (r : Option Addr) (w_ : World) (R : Ending → World → Prop) : Prop :=
 Calls Try.prog 34 #[(.pointer r)] w_ (post R fun v w1 =>
 ∃ (x4 : Int), v = (.int .u8 x4) ∧
 Dr w1 fun w1_2 =>
 NonNil r fun p6 =>
 LdI .i64 (w1_2.cell? (p6.add 1)) fun x8 =>
 NonNil r fun p10 =>
 LdStr (w1_2.cell? p10) fun x12 =>
 R (.returned (.bool (x8 == ((x12.size : Nat) : Int)))) w1_2)

def pl18 : Plan := ⟨15, ⟨[]⟩, [], []⟩

theorem eq18 (r : Option Addr) (w : World) (R : Ending → World → Prop) : F18 r w R = vc Try.prog Try.f18 pl18 R 100000 [.code (bodyOf Try.f18)] (argEnv 0 #[(.pointer r)].toList) w := by kernel_rfl

theorem ok18 (r : Option Addr) {w : World} {R : Ending → World → Prop} (h : F18 r w R) : Calls Try.prog 18 #[(.pointer r)] w R :=
  vc_calls (pl := pl18) Try.func18 (by kernel_rfl) (by kernel_rfl) (by kernel_rfl) (Eq.mp (eq18 r w R) h)

-- (*model.reader).fail
def F19 (r : Option Addr) (at_ : Int) (e : Int) (w_ : World) (R : Ending → World → Prop) : Prop :=
 R (.panicked [{ v := (.iface 43 (.agg #[(.int .i64 at_), (.int .i64 e)])), recovered := false }]) w_

def pl19 : Plan := ⟨10, ⟨[]⟩, [], []⟩

theorem eq19 (r : Option Addr) (at_ : Int) (e : Int) (w : World) (R : Ending → World → Prop) : F19 r at_ e w R = vc Try.prog Try.f19 pl19 R 100000 [.code (bodyOf Try.f19)] (argEnv 0 #[(.pointer r), (.int .i64 at_), (.int .i64 e)].toList) w := by kernel_rfl

theorem ok19 (r : Option Addr) (at_ : Int) (e : Int) {w : World} {R : Ending → World → Prop} (h : F19 r at_ e w R) : Calls Try.prog 19 #[(.pointer r), (.int .i64 at_), (.int .i64 e)] w R :=
  vc_calls (pl := pl19) Try.func19 (by kernel_rfl) (by kernel_rfl) (by kernel_rfl) (Eq.mp (eq19 r at_ e w R) h)

-- (*model.reader).row
def F33_l2 (r : Option Addr) (L2 : Option Addr → Nat → Nat → World → Prop) (row : Option Addr) (rowN : Nat) (rowC : Nat) (w_2 : World) (R : Ending → World → Prop) : Prop :=
 Calls Try.prog 34 #[(.pointer r)] w_2 (post R fun v2 w1_3 =>
 ∃ (x8 : Int), v2 = (.int .u8 x8) ∧
 Br (x8 == (44 : Int))
 (Calls Try.prog 35 #[(.pointer r)] w1_3 (post R fun v3 w1_4 =>
 v3 = (.tuple #[]) ∧
 NonNil r fun p13 =>
 LdI .i64 (w1_4.cell? (p13.add 1)) fun x15 =>
 InR .i64 (x15 + (1 : Int)) ∧ NonNil r fun p17 =>
 St w1_4 (p17.add 1) (.int .i64 (x15 + (1 : Int))) fun w1_5 =>
 Calls Try.prog 50 #[(.pointer r)] w1_5 (post R fun v4 w1_6 =>
 ∃ (x21_0 : ByteArray) (x21_1 : Option Addr) (x21_1N : Nat) (x21_1C : Nat) (x21_2 : Int), v4 = (.agg #[(.string x21_0), (.slice x21_1 x21_1N x21_1C), (.int .u8 x21_2)]) ∧
 Al w1_6 #[(.string x21_0), (.slice x21_1 x21_1N x21_1C), (.int .u8 x21_2)] 96 fun g22 w1_7 =>
 Raw Try.prog (Builtin.append_ #[77, 77] 77 #[(.slice row rowN rowC), (.slice (some g22) 1 1)]) w1_7 fun v5 w1_8 =>
 ∃ (x23 : Option Addr) (x23N : Nat) (x23C : Nat), v5 = (.slice x23 x23N x23C) ∧
 L2 x23 x23N x23C w1_8)))
 (R (.returned (.slice row rowN rowC)) w1_3))

def F33 (r : Option Addr) (w_ : World) (R : Ending → World → Prop) : Prop :=
 Calls Try.prog 50 #[(.pointer r)] w_ (post R fun v w1 =>
 ∃ (x5_0 : ByteArray) (x5_1 : Option Addr) (x5_1N : Nat) (x5_1C : Nat) (x5_2 : Int), v = (.agg #[(.string x5_0), (.slice x5_1 x5_1N x5_1C), (.int .u8 x5_2)]) ∧
 Al w1 #[(.string x5_0), (.slice x5_1 x5_1N x5_1C), (.int .u8 x5_2)] 96 fun g6 w1_2 =>
 ∃ (I : Option Addr → Nat → Nat → World → Prop) (m : Option Addr → Nat → Nat → World → Nat), I (some g6) 1 1 w1_2 ∧
 ∀ (row : Option Addr) (rowN : Nat) (rowC : Nat) (w1_3 : World), I row rowN rowC w1_3 → F33_l2 r (fun row' rowN' rowC' w2 => I row' rowN' rowC' w2 ∧ m row' rowN' rowC' w2 < m row rowN rowC w1_3) row rowN rowC w1_3 R)

def pl33 : Plan := ⟨25, ⟨[]⟩, [], [(2, ⟨[(3, (.s .slice))], [(3, 24)]⟩)]⟩

theorem eq33 (r : Option Addr) (w : World) (R : Ending → World → Prop) : F33 r w R = vc Try.prog Try.f33 pl33 R 100000 [.code (bodyOf Try.f33)] (argEnv 0 #[(.pointer r)].toList) w := by kernel_rfl

theorem ok33 (r : Option Addr) {w : World} {R : Ending → World → Prop} (h : F33 r w R) : Calls Try.prog 33 #[(.pointer r)] w R :=
  vc_calls (pl := pl33) Try.func33 (by kernel_rfl) (by kernel_rfl) (by kernel_rfl) (Eq.mp (eq33 r w R) h)

-- (*model.reader).peek
def F34_j3 (r : Option Addr) (w_2 : World) (R : Ending → World → Prop) : Prop :=
 Dr w_2 fun w1 =>
 NonNil r fun p33 =>
 LdI .i64 (w1.cell? (p33.add 1)) fun x35 =>
 NonNil r fun p37 =>
 LdStr (w1.cell? p37) fun x39 =>
 Br (x35 == ((x39.size : Nat) : Int))
 (R (.returned (.int .u8 0)) w1)
 (Dr w1 fun w1_2 =>
 NonNil r fun p43 =>
 LdStr (w1_2.cell? p43) fun x45 =>
 NonNil r fun p47 =>
 LdI .i64 (w1_2.cell? (p47.add 1)) fun x49 =>
 IdxS x45 x49 fun c50 =>
 R (.returned (.int .u8 c50)) w1_2)

def F34_j2 (r : Option Addr) (L1 : World → Prop) (w_3 : World) (R : Ending → World → Prop) : Prop :=
 NonNil r fun p26 =>
 LdI .i64 (w_3.cell? (p26.add 1)) fun x28 =>
 InR .i64 (x28 + (1 : Int)) ∧ NonNil r fun p30 =>
 St w_3 (p30.add 1) (.int .i64 (x28 + (1 : Int))) fun w1 =>
 L1 w1

def F34_l1 (r : Option Addr) (J3 : World → Prop) (L1 : World → Prop) (w_2 : World) (R : Ending → World → Prop) : Prop :=
 ∃ J2 : World → Prop, (∀  (w1 : World), J2 w1 → F34_j2 r L1 w1 R) ∧
 (Dr w_2 fun w1 =>
 NonNil r fun p4 =>
 LdI .i64 (w1.cell? (p4.add 1)) fun x6 =>
 NonNil r fun p8 =>
 LdStr (w1.cell? p8) fun x10 =>
 Br (decide (x6 < ((x10.size : Nat) : Int)))
 (NonNil r fun p15 =>
 LdStr (w1.cell? p15) fun x17 =>
 NonNil r fun p19 =>
 LdI .i64 (w1.cell? (p19.add 1)) fun x21 =>
 IdxS x17 x21 fun c22 =>
 Br (c22 == (32 : Int))
 (J2 w1)
 (J3 w1))
 (J3 w1))

def F34 (r : Option Addr) (w_ : World) (R : Ending → World → Prop) : Prop :=
 ∃ J3 : World → Prop, (∀  (w1 : World), J3 w1 → F34_j3 r w1 R) ∧
 (∃ (I : World → Prop) (m : World → Nat), I  w_ ∧
 ∀  (w1 : World), I  w1 → F34_l1 r J3 (fun  w2 => I  w2 ∧ m  w2 < m  w1)  w1 R)

def pl34 : Plan := ⟨51, ⟨[]⟩, [(2, ⟨[], [(3, 25)]⟩), (3, ⟨[], [(3, 32)]⟩)], [(1, ⟨[], [(3, 32)]⟩)]⟩

theorem eq34 (r : Option Addr) (w : World) (R : Ending → World → Prop) : F34 r w R = vc Try.prog Try.f34 pl34 R 100000 [.code (bodyOf Try.f34)] (argEnv 0 #[(.pointer r)].toList) w := by kernel_rfl

theorem ok34 (r : Option Addr) {w : World} {R : Ending → World → Prop} (h : F34 r w R) : Calls Try.prog 34 #[(.pointer r)] w R :=
  vc_calls (pl := pl34) Try.func34 (by kernel_rfl) (by kernel_rfl) (by kernel_rfl) (Eq.mp (eq34 r w R) h)

-- (*model.reader).began
def F35 (r : Option Addr) (w_ : World) (R : Ending → World → Prop) : Prop :=
 NonNil r fun p3 =>
 LdI .i64 (w_.cell? (p3.add 2)) fun x5 =>
 InR .i64 (x5 + (1 : Int)) ∧ NonNil r fun p7 =>
 St w_ (p7.add 2) (.int .i64 (x5 + (1 : Int))) fun w1 =>
 NonNil r fun p10 =>
 LdI .i64 (w1.cell? (p10.add 2)) fun x12 =>
 Br (decide (x12 > (128 : Int)))
 (NonNil r fun p16 =>
 LdI .i64 (w1.cell? (p16.add 1)) fun x18 =>
 Calls Try.prog 19 #[(.pointer r), (.int .i64 x18), (.int .i64 2)] w1 (post R fun v w1_2 =>
 v = (.tuple #[]) ∧
 R (.returned (.tuple #[])) w1_2))
 (R (.returned (.tuple #[])) w1)

def pl35 : Plan := ⟨20, ⟨[]⟩, [], []⟩

theorem eq35 (r : Option Addr) (w : World) (R : Ending → World → Prop) : F35 r w R = vc Try.prog Try.f35 pl35 R 100000 [.code (bodyOf Try.f35)] (argEnv 0 #[(.pointer r)].toList) w := by kernel_rfl

theorem ok35 (r : Option Addr) {w : World} {R : Ending → World → Prop} (h : F35 r w R) : Calls Try.prog 35 #[(.pointer r)] w R :=
  vc_calls (pl := pl35) Try.func35 (by kernel_rfl) (by kernel_rfl) (by kernel_rfl) (Eq.mp (eq35 r w R) h)

-- (*model.reader).part
def F50_j14 (g2 : Addr) (p : Addr) (w_3 : World) (R : Ending → World → Prop) : Prop :=
 LdStr (w_3.cell? p) fun x67_0 =>
 LdSl (w_3.cell? (p.add 1)) fun x67_1 x67_1N x67_1C =>
 LdI .u8 (w_3.cell? (p.add 2)) fun x67_2 =>
 St w_3 g2 (.string x67_0) fun w1_7 =>
 St w1_7 (g2.add 1) (.slice x67_1 x67_1N x67_1C) fun w1_8 =>
 St w1_8 (g2.add 2) (.int .u8 x67_2) fun w1_9 =>
 LdStr (w1_9.cell? g2) fun res0_0 =>
 LdSl (w1_9.cell? (g2.add 1)) fun res0_1 res0_1N res0_1C =>
 LdI .u8 (w1_9.cell? (g2.add 2)) fun res0_2 =>
 R (.returned (.agg #[(.string res0_0), (.slice res0_1 res0_1N res0_1C), (.int .u8 res0_2)])) w1_9

def F50_j7 (g2 : Addr) (p : Addr) (w_2 : World) (R : Ending → World → Prop) : Prop :=
 ∃ J14 : World → Prop, (∀  (w1_7 : World), J14 w1_7 → F50_j14 g2 p w1_7 R) ∧
 (LdStr (w_2.cell? p) fun x32 =>
 Br (x32.toList == (ByteArray.mk #[40]).toList)
 (LdSl (w_2.cell? (p.add 1)) fun x36 x36N x36C =>
 Br (((x36N : Nat) : Int) == (1 : Int))
 (LdSl (w_2.cell? (p.add 1)) fun x42 x42N x42C =>
 IdxA x42 x42N (0 : Int) 1 fun q43 =>
 LdSl (w_2.cell? q43) fun x44 x44N x44C =>
 Br (((x44N : Nat) : Int) == (1 : Int))
 (LdSl (w_2.cell? (p.add 1)) fun x49 x49N x49C =>
 IdxA x49 x49N (0 : Int) 1 fun q50 =>
 LdSl (w_2.cell? q50) fun x51 x51N x51C =>
 IdxA x51 x51N (0 : Int) 3 fun q52 =>
 LdStr (w_2.cell? q52) fun x53_0 =>
 LdSl (w_2.cell? (q52.add 1)) fun x53_1 x53_1N x53_1C =>
 LdI .u8 (w_2.cell? (q52.add 2)) fun x53_2 =>
 Al w_2 #[(.string (ByteArray.mk #[])), (.slice none 0 0), (.int .u8 0)] 96 fun q w1_7 =>
 St w1_7 q (.string x53_0) fun w1_8 =>
 St w1_8 (q.add 1) (.slice x53_1 x53_1N x53_1C) fun w1_9 =>
 St w1_9 (q.add 2) (.int .u8 x53_2) fun w1_10 =>
 LdI .u8 (w1_10.cell? (p.add 2)) fun x56 =>
 Br (x56 == (0 : Int))
 (LdStr (w1_10.cell? q) fun x58_0 =>
 LdSl (w1_10.cell? (q.add 1)) fun x58_1 x58_1N x58_1C =>
 LdI .u8 (w1_10.cell? (q.add 2)) fun x58_2 =>
 St w1_10 g2 (.string x58_0) fun w1_11 =>
 St w1_11 (g2.add 1) (.slice x58_1 x58_1N x58_1C) fun w1_12 =>
 St w1_12 (g2.add 2) (.int .u8 x58_2) fun w1_13 =>
 LdStr (w1_13.cell? g2) fun res0_0 =>
 LdSl (w1_13.cell? (g2.add 1)) fun res0_1 res0_1N res0_1C =>
 LdI .u8 (w1_13.cell? (g2.add 2)) fun res0_2 =>
 R (.returned (.agg #[(.string res0_0), (.slice res0_1 res0_1N res0_1C), (.int .u8 res0_2)])) w1_13)
 (LdI .u8 (w1_10.cell? (q.add 2)) fun x61 =>
 Br (x61 == (0 : Int))
 (LdI .u8 (w1_10.cell? (p.add 2)) fun x64 =>
 St w1_10 (q.add 2) (.int .u8 x64) fun w1_11 =>
 LdStr (w1_11.cell? q) fun x66_0 =>
 LdSl (w1_11.cell? (q.add 1)) fun x66_1 x66_1N x66_1C =>
 LdI .u8 (w1_11.cell? (q.add 2)) fun x66_2 =>
 St w1_11 g2 (.string x66_0) fun w1_12 =>
 St w1_12 (g2.add 1) (.slice x66_1 x66_1N x66_1C) fun w1_13 =>
 St w1_13 (g2.add 2) (.int .u8 x66_2) fun w1_14 =>
 LdStr (w1_14.cell? g2) fun res0_0 =>
 LdSl (w1_14.cell? (g2.add 1)) fun res0_1 res0_1N res0_1C =>
 LdI .u8 (w1_14.cell? (g2.add 2)) fun res0_2 =>
 R (.returned (.agg #[(.string res0_0), (.slice res0_1 res0_1N res0_1C), (.int .u8 res0_2)])) w1_14)
 (J14 w1_10)))
 (J14 w_2))
 (J14 w_2))
 (J14 w_2))

def F50 (r : Option Addr) (w_ : World) (R : Ending → World → Prop) : Prop :=
 Al w_ #[(.string (ByteArray.mk #[])), (.slice none 0 0), (.int .u8 0)] 96 fun g2 w1 =>
 Calls Try.prog 71 #[(.pointer r)] w1 (post R fun v w1_2 =>
 ∃ (x7_0 : ByteArray) (x7_1 : Option Addr) (x7_1N : Nat) (x7_1C : Nat) (x7_2 : Int), v = (.agg #[(.string x7_0), (.slice x7_1 x7_1N x7_1C), (.int .u8 x7_2)]) ∧
 Al w1_2 #[(.string (ByteArray.mk #[])), (.slice none 0 0), (.int .u8 0)] 96 fun p w1_3 =>
 St w1_3 p (.string x7_0) fun w1_4 =>
 St w1_4 (p.add 1) (.slice x7_1 x7_1N x7_1C) fun w1_5 =>
 St w1_5 (p.add 2) (.int .u8 x7_2) fun w1_6 =>
 ∃ J7 : World → Prop, (∀  (w1_7 : World), J7 w1_7 → F50_j7 g2 p w1_7 R) ∧
 (Calls Try.prog 34 #[(.pointer r)] w1_6 (post R fun v2 w1_7 =>
 ∃ (x9 : Int), v2 = (.int .u8 x9) ∧
 Br (x9 == (63 : Int))
 (Calls Try.prog 35 #[(.pointer r)] w1_7 (post R fun v3 w1_8 =>
 v3 = (.tuple #[]) ∧
 NonNil r fun p23 =>
 LdI .i64 (w1_8.cell? (p23.add 1)) fun x25 =>
 InR .i64 (x25 + (1 : Int)) ∧ NonNil r fun p27 =>
 St w1_8 (p27.add 1) (.int .i64 (x25 + (1 : Int))) fun w1_9 =>
 St w1_9 (p.add 2) (.int .u8 x9) fun w1_10 =>
 J7 w1_10))
 (Br (x9 == (42 : Int))
 (Calls Try.prog 35 #[(.pointer r)] w1_7 (post R fun v3 w1_8 =>
 v3 = (.tuple #[]) ∧
 NonNil r fun p23 =>
 LdI .i64 (w1_8.cell? (p23.add 1)) fun x25 =>
 InR .i64 (x25 + (1 : Int)) ∧ NonNil r fun p27 =>
 St w1_8 (p27.add 1) (.int .i64 (x25 + (1 : Int))) fun w1_9 =>
 St w1_9 (p.add 2) (.int .u8 x9) fun w1_10 =>
 J7 w1_10))
 (Br (x9 == (43 : Int))
 (Calls Try.prog 35 #[(.pointer r)] w1_7 (post R fun v3 w1_8 =>
 v3 = (.tuple #[]) ∧
 NonNil r fun p23 =>
 LdI .i64 (w1_8.cell? (p23.add 1)) fun x25 =>
 InR .i64 (x25 + (1 : Int)) ∧ NonNil r fun p27 =>
 St w1_8 (p27.add 1) (.int .i64 (x25 + (1 : Int))) fun w1_9 =>
 St w1_9 (p.add 2) (.int .u8 x9) fun w1_10 =>
 J7 w1_10))
 (J7 w1_7))))))

def pl50 : Plan := ⟨68, ⟨[]⟩, [(14, ⟨[], [(5, 67)]⟩), (7, ⟨[], [(4, 31)]⟩)], []⟩

theorem eq50 (r : Option Addr) (w : World) (R : Ending → World → Prop) : F50 r w R = vc Try.prog Try.f50 pl50 R 100000 [.code (bodyOf Try.f50)] (argEnv 0 #[(.pointer r)].toList) w := by kernel_rfl

theorem ok50 (r : Option Addr) {w : World} {R : Ending → World → Prop} (h : F50 r w R) : Calls Try.prog 50 #[(.pointer r)] w R :=
  vc_calls (pl := pl50) Try.func50 (by kernel_rfl) (by kernel_rfl) (by kernel_rfl) (Eq.mp (eq50 r w R) h)

-- (*model.reader).atom
def F71_j28 (r : Option Addr) (g2 : Addr) (p : Addr) (w_3 : World) (R : Ending → World → Prop) : Prop :=
 NonNil r fun p152 =>
 LdI .i64 (w_3.cell? (p152.add 1)) fun x154 =>
 InR .i64 (x154 + (1 : Int)) ∧ NonNil r fun p156 =>
 St w_3 (p156.add 1) (.int .i64 (x154 + (1 : Int))) fun w1_10 =>
 LdStr (w1_10.cell? p) fun x158_0 =>
 LdSl (w1_10.cell? (p.add 1)) fun x158_1 x158_1N x158_1C =>
 LdI .u8 (w1_10.cell? (p.add 2)) fun x158_2 =>
 St w1_10 g2 (.string x158_0) fun w1_11 =>
 St w1_11 (g2.add 1) (.slice x158_1 x158_1N x158_1C) fun w1_12 =>
 St w1_12 (g2.add 2) (.int .u8 x158_2) fun w1_13 =>
 LdStr (w1_13.cell? g2) fun res0_0 =>
 LdSl (w1_13.cell? (g2.add 1)) fun res0_1 res0_1N res0_1C =>
 LdI .u8 (w1_13.cell? (g2.add 2)) fun res0_2 =>
 R (.returned (.agg #[(.string res0_0), (.slice res0_1 res0_1N res0_1C), (.int .u8 res0_2)])) w1_13

def F71_j20 (r : Option Addr) (g2 : Addr) (w_2 : World) (R : Ending → World → Prop) : Prop :=
 NonNil r fun p113 =>
 LdI .i64 (w_2.cell? (p113.add 1)) fun x115 =>
 Calls Try.prog 35 #[(.pointer r)] w_2 (post R fun v2 w1_3 =>
 v2 = (.tuple #[]) ∧
 NonNil r fun p119 =>
 LdI .i64 (w1_3.cell? (p119.add 1)) fun x121 =>
 InR .i64 (x121 + (1 : Int)) ∧ NonNil r fun p123 =>
 St w1_3 (p123.add 1) (.int .i64 (x121 + (1 : Int))) fun w1_4 =>
 Calls Try.prog 17 #[(.pointer r)] w1_4 (post R fun v3 w1_5 =>
 ∃ (x126 : Option Addr) (x126N : Nat) (x126C : Nat), v3 = (.slice x126 x126N x126C) ∧
 Al w1_5 #[(.string (ByteArray.mk #[])), (.slice none 0 0), (.int .u8 0)] 96 fun p w1_6 =>
 St w1_6 p (.string (ByteArray.mk #[40])) fun w1_7 =>
 St w1_7 (p.add 1) (.slice x126 x126N x126C) fun w1_8 =>
 St w1_8 (p.add 2) (.int .u8 0) fun w1_9 =>
 ∃ J28 : World → Prop, (∀  (w1_10 : World), J28 w1_10 → F71_j28 r g2 p w1_10 R) ∧
 (Calls Try.prog 18 #[(.pointer r)] w1_9 (post R fun v4 w1_10 =>
 ∃ (x130 : Bool), v4 = (.bool x130) ∧
 Br x130
 (Calls Try.prog 19 #[(.pointer r), (.int .i64 x115), (.int .i64 131)] w1_10 (post R fun v5 w1_11 =>
 v5 = (.tuple #[]) ∧
 J28 w1_11))
 (Dr w1_10 fun w1_11 =>
 NonNil r fun p136 =>
 LdStr (w1_11.cell? p136) fun x138 =>
 NonNil r fun p140 =>
 LdI .i64 (w1_11.cell? (p140.add 1)) fun x142 =>
 IdxS x138 x142 fun c143 =>
 Br (c143 != (41 : Int))
 (NonNil r fun p147 =>
 LdI .i64 (w1_11.cell? (p147.add 1)) fun x149 =>
 Calls Try.prog 19 #[(.pointer r), (.int .i64 x149), (.int .i64 3)] w1_11 (post R fun v5 w1_12 =>
 v5 = (.tuple #[]) ∧
 J28 w1_12))
 (J28 w1_11))))))

def F71_j12 (r : Option Addr) (g2 : Addr) (i : Int) (x55 : ByteArray) (x59 : Int) (w_3 : World) (R : Ending → World → Prop) : Prop :=
 NonNil r fun p75 =>
 St w_3 (p75.add 1) (.int .i64 i) fun w1_7 =>
 St w1_7 g2 (.string (x55.extract (x59).toNat (i).toNat)) fun w1_8 =>
 St w1_8 (g2.add 1) (.slice none 0 0) fun w1_9 =>
 St w1_9 (g2.add 2) (.int .u8 0) fun w1_10 =>
 LdStr (w1_10.cell? g2) fun res0_0 =>
 LdSl (w1_10.cell? (g2.add 1)) fun res0_1 res0_1N res0_1C =>
 LdI .u8 (w1_10.cell? (g2.add 2)) fun res0_2 =>
 R (.returned (.agg #[(.string res0_0), (.slice res0_1 res0_1N res0_1C), (.int .u8 res0_2)])) w1_10

def F71_j8 (r : Option Addr) (g2 : Addr) (i : Int) (w_2 : World) (R : Ending → World → Prop) : Prop :=
 Dr w_2 fun w1_5 =>
 NonNil r fun p53 =>
 LdStr (w1_5.cell? p53) fun x55 =>
 NonNil r fun p57 =>
 LdI .i64 (w1_5.cell? (p57.add 1)) fun x59 =>
 SlB x59 i ((x55.size : Nat) : Int)
 (Calls Try.prog 35 #[(.pointer r)] w1_5 (post R fun v3 w1_6 =>
 v3 = (.tuple #[]) ∧
 ∃ J12 : World → Prop, (∀  (w1_7 : World), J12 w1_7 → F71_j12 r g2 i x55 x59 w1_7 R) ∧
 (Calls Try.prog 86 #[(.string (x55.extract (x59).toNat (i).toNat))] w1_6 (post R fun v4 w1_7 =>
 ∃ (x65 : Bool), v4 = (.bool x65) ∧
 Br (!x65)
 (NonNil r fun p69 =>
 LdI .i64 (w1_7.cell? (p69.add 1)) fun x71 =>
 Calls Try.prog 19 #[(.pointer r), (.int .i64 x71), (.int .i64 6)] w1_7 (post R fun v5 w1_8 =>
 v5 = (.tuple #[]) ∧
 J12 w1_8))
 (J12 w1_7)))))

def F71_j7 (L6 : Int → World → Prop) (i : Int) (w_3 : World) (R : Ending → World → Prop) : Prop :=
 InR .i64 (i + (1 : Int)) ∧ L6 (i + (1 : Int)) w_3

def F71_l6 (r : Option Addr) (J8 : Int → World → Prop) (L6 : Int → World → Prop) (i : Int) (w_2 : World) (R : Ending → World → Prop) : Prop :=
 ∃ J7 : World → Prop, (∀  (w1_5 : World), J7 w1_5 → F71_j7 L6 i w1_5 R) ∧
 (NonNil r fun p36 =>
 LdStr (w_2.cell? p36) fun x38 =>
 Br (decide (i < ((x38.size : Nat) : Int)))
 (NonNil r fun p43 =>
 LdStr (w_2.cell? p43) fun x45 =>
 IdxS x45 i fun c47 =>
 Calls Try.prog 85 #[(.int .u8 c47)] w_2 (post R fun v3 w1_5 =>
 ∃ (x48 : Bool), v3 = (.bool x48) ∧
 Br x48
 (J7 w1_5)
 (J8 i w1_5)))
 (J8 i w_2))

def F71 (r : Option Addr) (w_ : World) (R : Ending → World → Prop) : Prop :=
 Al w_ #[(.string (ByteArray.mk #[])), (.slice none 0 0), (.int .u8 0)] 96 fun g2 w1 =>
 Calls Try.prog 34 #[(.pointer r)] w1 (post R fun v w1_2 =>
 ∃ (x9 : Int), v = (.int .u8 x9) ∧
 ∃ J20 : World → Prop, (∀  (w1_3 : World), J20 w1_3 → F71_j20 r g2 w1_3 R) ∧
 (Dr w1_2 fun w1_3 =>
 NonNil r fun p12 =>
 LdI .i64 (w1_3.cell? (p12.add 1)) fun x14 =>
 NonNil r fun p16 =>
 LdStr (w1_3.cell? p16) fun x18 =>
 Br (x14 == ((x18.size : Nat) : Int))
 (NonNil r fun p23 =>
 LdI .i64 (w1_3.cell? (p23.add 1)) fun x25 =>
 Calls Try.prog 19 #[(.pointer r), (.int .i64 x25), (.int .i64 4)] w1_3 (post R fun v2 w1_4 =>
 v2 = (.tuple #[]) ∧
 J20 w1_4))
 (Calls Try.prog 84 #[(.int .u8 x9)] w1_3 (post R fun v2 w1_4 =>
 ∃ (x29 : Bool), v2 = (.bool x29) ∧
 Br x29
 (NonNil r fun p31 =>
 LdI .i64 (w1_4.cell? (p31.add 1)) fun x33 =>
 ∃ J8 : Int → World → Prop, (∀ (i : Int) (w1_5 : World), J8 i w1_5 → F71_j8 r g2 i w1_5 R) ∧
 (∃ (I : Int → World → Prop) (m : Int → World → Nat), I x33 w1_4 ∧
 ∀ (i : Int) (w1_5 : World), I i w1_5 → F71_l6 r J8 (fun i' w2 => I i' w2 ∧ m i' w2 < m i w1_5) i w1_5 R))
 (Br (x9 == (36 : Int))
 (Calls Try.prog 35 #[(.pointer r)] w1_4 (post R fun v3 w1_5 =>
 v3 = (.tuple #[]) ∧
 NonNil r fun p93 =>
 LdI .i64 (w1_5.cell? (p93.add 1)) fun x95 =>
 InR .i64 (x95 + (1 : Int)) ∧ NonNil r fun p97 =>
 St w1_5 (p97.add 1) (.int .i64 (x95 + (1 : Int))) fun w1_6 =>
 InR .i32 (x9) ∧ St w1_6 g2 (.string (Utf8.encode (x9))) fun w1_7 =>
 St w1_7 (g2.add 1) (.slice none 0 0) fun w1_8 =>
 St w1_8 (g2.add 2) (.int .u8 0) fun w1_9 =>
 LdStr (w1_9.cell? g2) fun res0_0 =>
 LdSl (w1_9.cell? (g2.add 1)) fun res0_1 res0_1N res0_1C =>
 LdI .u8 (w1_9.cell? (g2.add 2)) fun res0_2 =>
 R (.returned (.agg #[(.string res0_0), (.slice res0_1 res0_1N res0_1C), (.int .u8 res0_2)])) w1_9))
 (Br (x9 == (46 : Int))
 (Calls Try.prog 35 #[(.pointer r)] w1_4 (post R fun v3 w1_5 =>
 v3 = (.tuple #[]) ∧
 NonNil r fun p93 =>
 LdI .i64 (w1_5.cell? (p93.add 1)) fun x95 =>
 InR .i64 (x95 + (1 : Int)) ∧ NonNil r fun p97 =>
 St w1_5 (p97.add 1) (.int .i64 (x95 + (1 : Int))) fun w1_6 =>
 InR .i32 (x9) ∧ St w1_6 g2 (.string (Utf8.encode (x9))) fun w1_7 =>
 St w1_7 (g2.add 1) (.slice none 0 0) fun w1_8 =>
 St w1_8 (g2.add 2) (.int .u8 0) fun w1_9 =>
 LdStr (w1_9.cell? g2) fun res0_0 =>
 LdSl (w1_9.cell? (g2.add 1)) fun res0_1 res0_1N res0_1C =>
 LdI .u8 (w1_9.cell? (g2.add 2)) fun res0_2 =>
 R (.returned (.agg #[(.string res0_0), (.slice res0_1 res0_1N res0_1C), (.int .u8 res0_2)])) w1_9))
 (Br (x9 == (45 : Int))
 (Calls Try.prog 35 #[(.pointer r)] w1_4 (post R fun v3 w1_5 =>
 v3 = (.tuple #[]) ∧
 NonNil r fun p93 =>
 LdI .i64 (w1_5.cell? (p93.add 1)) fun x95 =>
 InR .i64 (x95 + (1 : Int)) ∧ NonNil r fun p97 =>
 St w1_5 (p97.add 1) (.int .i64 (x95 + (1 : Int))) fun w1_6 =>
 InR .i32 (x9) ∧ St w1_6 g2 (.string (Utf8.encode (x9))) fun w1_7 =>
 St w1_7 (g2.add 1) (.slice none 0 0) fun w1_8 =>
 St w1_8 (g2.add 2) (.int .u8 0) fun w1_9 =>
 LdStr (w1_9.cell? g2) fun res0_0 =>
 LdSl (w1_9.cell? (g2.add 1)) fun res0_1 res0_1N res0_1C =>
 LdI .u8 (w1_9.cell? (g2.add 2)) fun res0_2 =>
 R (.returned (.agg #[(.string res0_0), (.slice res0_1 res0_1N res0_1C), (.int .u8 res0_2)])) w1_9))
 (Br (x9 != (40 : Int))
 (NonNil r fun p108 =>
 LdI .i64 (w1_4.cell? (p108.add 1)) fun x110 =>
 Calls Try.prog 19 #[(.pointer r), (.int .i64 x110), (.int .i64 3)] w1_4 (post R fun v3 w1_5 =>
 v3 = (.tuple #[]) ∧
 J20 w1_5))
 (J20 w1_4)))))))))

def pl71 : Plan := ⟨159, ⟨[]⟩, [(7, ⟨[], [(34, 50)]⟩), (12, ⟨[], [(64, 73)]⟩), (8, ⟨[(4, (.s (.int .i64)))], [(4, 52)]⟩), (28, ⟨[], [(128, 151)]⟩), (20, ⟨[], [(4, 112)]⟩)], [(6, ⟨[(4, (.s (.int .i64)))], [(4, 52)]⟩)]⟩

theorem eq71 (r : Option Addr) (w : World) (R : Ending → World → Prop) : F71 r w R = vc Try.prog Try.f71 pl71 R 100000 [.code (bodyOf Try.f71)] (argEnv 0 #[(.pointer r)].toList) w := by kernel_rfl

theorem ok71 (r : Option Addr) {w : World} {R : Ending → World → Prop} (h : F71 r w R) : Calls Try.prog 71 #[(.pointer r)] w R :=
  vc_calls (pl := pl71) Try.func71 (by kernel_rfl) (by kernel_rfl) (by kernel_rfl) (Eq.mp (eq71 r w R) h)

-- model.begins
def F84 (c : Int) (w_ : World) (R : Ending → World → Prop) : Prop :=
 Br (decide (c ≥ (97 : Int)))
 (Br (decide (c ≤ (122 : Int)))
 (R (.returned (.bool true)) w_)
 (Br (decide (c ≥ (65 : Int)))
 (Br (decide (c ≤ (90 : Int)))
 (R (.returned (.bool true)) w_)
 (R (.returned (.bool (c == (95 : Int)))) w_))
 (R (.returned (.bool (c == (95 : Int)))) w_)))
 (Br (decide (c ≥ (65 : Int)))
 (Br (decide (c ≤ (90 : Int)))
 (R (.returned (.bool true)) w_)
 (R (.returned (.bool (c == (95 : Int)))) w_))
 (R (.returned (.bool (c == (95 : Int)))) w_))

def pl84 : Plan := ⟨21, ⟨[]⟩, [], []⟩

theorem eq84 (c : Int) (w : World) (R : Ending → World → Prop) : F84 c w R = vc Try.prog Try.f84 pl84 R 100000 [.code (bodyOf Try.f84)] (argEnv 0 #[(.int .u8 c)].toList) w := by kernel_rfl

theorem ok84 (c : Int) {w : World} {R : Ending → World → Prop} (h : F84 c w R) : Calls Try.prog 84 #[(.int .u8 c)] w R :=
  vc_calls (pl := pl84) Try.func84 (by kernel_rfl) (by kernel_rfl) (by kernel_rfl) (Eq.mp (eq84 c w R) h)

-- model.in
def F85 (c : Int) (w_ : World) (R : Ending → World → Prop) : Prop :=
 Calls Try.prog 84 #[(.int .u8 c)] w_ (post R fun v w1 =>
 ∃ (x4 : Bool), v = (.bool x4) ∧
 Br x4
 (R (.returned (.bool true)) w1)
 (Br (decide (c ≥ (48 : Int)))
 (Br (decide (c ≤ (57 : Int)))
 (R (.returned (.bool true)) w1)
 (Br (c == (45 : Int))
 (R (.returned (.bool true)) w1)
 (R (.returned (.bool (c == (46 : Int)))) w1)))
 (Br (c == (45 : Int))
 (R (.returned (.bool true)) w1)
 (R (.returned (.bool (c == (46 : Int)))) w1))))

def pl85 : Plan := ⟨21, ⟨[]⟩, [], []⟩

theorem eq85 (c : Int) (w : World) (R : Ending → World → Prop) : F85 c w R = vc Try.prog Try.f85 pl85 R 100000 [.code (bodyOf Try.f85)] (argEnv 0 #[(.int .u8 c)].toList) w := by kernel_rfl

theorem ok85 (c : Int) {w : World} {R : Ending → World → Prop} (h : F85 c w R) : Calls Try.prog 85 #[(.int .u8 c)] w R :=
  vc_calls (pl := pl85) Try.func85 (by kernel_rfl) (by kernel_rfl) (by kernel_rfl) (Eq.mp (eq85 c w R) h)

-- chars.Name
def F86_j9 (L4 : Int → World → Prop) (x20 : Int) (w_4 : World) (R : Ending → World → Prop) : Prop :=
 InR .i64 (x20 + (1 : Int)) ∧ L4 (x20 + (1 : Int)) w_4

def F86_l4 (s : ByteArray) (L4 : Int → World → Prop) (x20 : Int) (w_3 : World) (R : Ending → World → Prop) : Prop :=
 Br (decide (x20 < ((s.size : Nat) : Int)))
 (∃ J9 : World → Prop, (∀  (w1 : World), J9 w1 → F86_j9 L4 x20 w1 R) ∧
 (IdxS s x20 fun c25 =>
 Calls Try.prog 92 #[(.int .u8 c25)] w_3 (post R fun v w1 =>
 ∃ (x27 : Bool), v = (.bool x27) ∧
 Br (!x27)
 (Br (decide (c25 < (48 : Int)))
 (Br (c25 != (45 : Int))
 (Br (c25 != (46 : Int))
 (R (.returned (.bool false)) w1)
 (J9 w1))
 (J9 w1))
 (Br (decide (c25 > (57 : Int)))
 (Br (c25 != (45 : Int))
 (Br (c25 != (46 : Int))
 (R (.returned (.bool false)) w1)
 (J9 w1))
 (J9 w1))
 (J9 w1)))
 (J9 w1))))
 (R (.returned (.bool true)) w_3)

def F86_j3 (s : ByteArray) (w_2 : World) (R : Ending → World → Prop) : Prop :=
 ∃ (I : Int → World → Prop) (m : Int → World → Nat), I (0 : Int) w_2 ∧
 ∀ (x20 : Int) (w1 : World), I x20 w1 → F86_l4 s (fun x20' w2 => I x20' w2 ∧ m x20' w2 < m x20 w1) x20 w1 R

def F86 (s : ByteArray) (w_ : World) (R : Ending → World → Prop) : Prop :=
 ∃ J3 : World → Prop, (∀  (w1 : World), J3 w1 → F86_j3 s w1 R) ∧
 (Br (s.toList == (ByteArray.mk #[]).toList)
 (R (.returned (.bool false)) w_)
 (Br (decide (((s.size : Nat) : Int) > (32 : Int)))
 (R (.returned (.bool false)) w_)
 (IdxS s (0 : Int) fun c14 =>
 Calls Try.prog 92 #[(.int .u8 c14)] w_ (post R fun v w1 =>
 ∃ (x15 : Bool), v = (.bool x15) ∧
 Br (!x15)
 (R (.returned (.bool false)) w1)
 (J3 w1)))))

def pl86 : Plan := ⟨46, ⟨[]⟩, [(9, ⟨[], [(2, 5), (22, 45)]⟩), (3, ⟨[], [(2, 18)]⟩)], [(4, ⟨[(20, (.s (.int .i64)))], [(2, 5), (20, 46)]⟩)]⟩

theorem eq86 (s : ByteArray) (w : World) (R : Ending → World → Prop) : F86 s w R = vc Try.prog Try.f86 pl86 R 100000 [.code (bodyOf Try.f86)] (argEnv 0 #[(.string s)].toList) w := by kernel_rfl

theorem ok86 (s : ByteArray) {w : World} {R : Ending → World → Prop} (h : F86 s w R) : Calls Try.prog 86 #[(.string s)] w R :=
  vc_calls (pl := pl86) Try.func86 (by kernel_rfl) (by kernel_rfl) (by kernel_rfl) (Eq.mp (eq86 s w R) h)

-- chars.letter
def F92 (c : Int) (w_ : World) (R : Ending → World → Prop) : Prop :=
 Br (decide (c ≥ (97 : Int)))
 (Br (decide (c ≤ (122 : Int)))
 (R (.returned (.bool true)) w_)
 (Br (decide (c ≥ (65 : Int)))
 (Br (decide (c ≤ (90 : Int)))
 (R (.returned (.bool true)) w_)
 (R (.returned (.bool (c == (95 : Int)))) w_))
 (R (.returned (.bool (c == (95 : Int)))) w_)))
 (Br (decide (c ≥ (65 : Int)))
 (Br (decide (c ≤ (90 : Int)))
 (R (.returned (.bool true)) w_)
 (R (.returned (.bool (c == (95 : Int)))) w_))
 (R (.returned (.bool (c == (95 : Int)))) w_))

def pl92 : Plan := ⟨21, ⟨[]⟩, [], []⟩

theorem eq92 (c : Int) (w : World) (R : Ending → World → Prop) : F92 c w R = vc Try.prog Try.f92 pl92 R 100000 [.code (bodyOf Try.f92)] (argEnv 0 #[(.int .u8 c)].toList) w := by kernel_rfl

theorem ok92 (c : Int) {w : World} {R : Ending → World → Prop} (h : F92 c w R) : Calls Try.prog 92 #[(.int .u8 c)] w R :=
  vc_calls (pl := pl92) Try.func92 (by kernel_rfl) (by kernel_rfl) (by kernel_rfl) (Eq.mp (eq92 c w R) h)

end Go.Proofs.Ytkmoeokfgkmlhaa
