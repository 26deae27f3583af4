import Derived.Test.YtaanlildniiijaaVcSnd9
import Derived.Test.YtaanlildniiijaaProg
set_option linter.unusedVariables false
set_option maxRecDepth 100000
namespace Go.Proofs.Ytaanlildniiijaa
open Go.Vc
-- axis.can
def F52 (a_0 : Int) (a_1 : Int) (a_2 : Int) (w_ : World) (R : Ending → World → Prop) : Prop :=
 Al w_ #[(.int .u64 a_0), (.int .u64 a_1), (.int .i64 a_2)] 29 fun a w1 =>
 LdI .u64 (w1.cell? a) fun x4 =>
 Br (decide (x4 ≥ (1 : Int)))
 (LdI .u64 (w1.cell? a) fun x8 =>
 LdI .u64 (w1.cell? (a.add 1)) fun x10 =>
 Br (decide (x8 < x10))
 (LdI .u64 (w1.cell? (a.add 1)) fun x15 =>
 Br (decide (x15 < (4611686018427387904 : Int)))
 (LdI .i64 (w1.cell? (a.add 2)) fun x20 =>
 Br (decide (x20 ≥ (0 : Int)))
 (LdI .i64 (w1.cell? (a.add 2)) fun x25 =>
 R (.returned (.bool (decide (x25 < (64 : Int))))) w1)
 (R (.returned (.bool false)) w1))
 (R (.returned (.bool false)) w1))
 (R (.returned (.bool false)) w1))
 (R (.returned (.bool false)) w1)

def pl52 : Plan := ⟨28, ⟨[]⟩, [], []⟩

theorem eq52 (a_0 : Int) (a_1 : Int) (a_2 : Int) (w : World) (R : Ending → World → Prop) : F52 a_0 a_1 a_2 w R = vc Try.prog Try.f52 pl52 R 100000 [.code (bodyOf Try.f52)] (argEnv 0 #[(.agg #[(.int .u64 a_0), (.int .u64 a_1), (.int .i64 a_2)])].toList) w := by kernel_rfl

theorem ok52 (a_0 : Int) (a_1 : Int) (a_2 : Int) {w : World} {R : Ending → World → Prop} (h : F52 a_0 a_1 a_2 w R) : Calls Try.prog 52 #[(.agg #[(.int .u64 a_0), (.int .u64 a_1), (.int .i64 a_2)])] w R :=
  vc_calls (pl := pl52) Try.func52 (by kernel_rfl) (by kernel_rfl) (by kernel_rfl) (Eq.mp (eq52 a_0 a_1 a_2 w R) h)

-- axis.Self
def F11 (a_0 : Int) (a_1 : Int) (a_2 : Int) (b_0 : Int) (b_1 : Int) (b_2 : Int) (w_ : World) (R : Ending → World → Prop) : Prop :=
 Al w_ #[(.int .u64 a_0), (.int .u64 a_1), (.int .i64 a_2)] 29 fun a w1 =>
 Al w1 #[(.int .u64 b_0), (.int .u64 b_1), (.int .i64 b_2)] 29 fun b w1_2 =>
 LdI .u64 (w1_2.cell? a) fun x6 =>
 LdI .u64 (w1_2.cell? b) fun x8 =>
 Br (x6 == x8)
 (LdI .u64 (w1_2.cell? (a.add 1)) fun x12 =>
 LdI .u64 (w1_2.cell? (b.add 1)) fun x14 =>
 R (.returned (.bool (x12 == x14))) w1_2)
 (R (.returned (.bool false)) w1_2)

def pl11 : Plan := ⟨17, ⟨[]⟩, [], []⟩

theorem eq11 (a_0 : Int) (a_1 : Int) (a_2 : Int) (b_0 : Int) (b_1 : Int) (b_2 : Int) (w : World) (R : Ending → World → Prop) : F11 a_0 a_1 a_2 b_0 b_1 b_2 w R = vc Try.prog Try.f11 pl11 R 100000 [.code (bodyOf Try.f11)] (argEnv 0 #[(.agg #[(.int .u64 a_0), (.int .u64 a_1), (.int .i64 a_2)]), (.agg #[(.int .u64 b_0), (.int .u64 b_1), (.int .i64 b_2)])].toList) w := by kernel_rfl

theorem ok11 (a_0 : Int) (a_1 : Int) (a_2 : Int) (b_0 : Int) (b_1 : Int) (b_2 : Int) {w : World} {R : Ending → World → Prop} (h : F11 a_0 a_1 a_2 b_0 b_1 b_2 w R) : Calls Try.prog 11 #[(.agg #[(.int .u64 a_0), (.int .u64 a_1), (.int .i64 a_2)]), (.agg #[(.int .u64 b_0), (.int .u64 b_1), (.int .i64 b_2)])] w R :=
  vc_calls (pl := pl11) Try.func11 (by kernel_rfl) (by kernel_rfl) (by kernel_rfl) (Eq.mp (eq11 a_0 a_1 a_2 b_0 b_1 b_2 w R) h)

-- axis.Ancestor
def F12 (a_0 : Int) (a_1 : Int) (a_2 : Int) (b_0 : Int) (b_1 : Int) (b_2 : Int) (w_ : World) (R : Ending → World → Prop) : Prop :=
 Al w_ #[(.int .u64 a_0), (.int .u64 a_1), (.int .i64 a_2)] 29 fun a w1 =>
 Al w1 #[(.int .u64 b_0), (.int .u64 b_1), (.int .i64 b_2)] 29 fun b w1_2 =>
 LdI .u64 (w1_2.cell? a) fun x6 =>
 LdI .u64 (w1_2.cell? b) fun x8 =>
 Br (decide (x6 < x8))
 (LdI .u64 (w1_2.cell? (b.add 1)) fun x12 =>
 LdI .u64 (w1_2.cell? (a.add 1)) fun x14 =>
 R (.returned (.bool (decide (x12 < x14)))) w1_2)
 (R (.returned (.bool false)) w1_2)

def pl12 : Plan := ⟨17, ⟨[]⟩, [], []⟩

theorem eq12 (a_0 : Int) (a_1 : Int) (a_2 : Int) (b_0 : Int) (b_1 : Int) (b_2 : Int) (w : World) (R : Ending → World → Prop) : F12 a_0 a_1 a_2 b_0 b_1 b_2 w R = vc Try.prog Try.f12 pl12 R 100000 [.code (bodyOf Try.f12)] (argEnv 0 #[(.agg #[(.int .u64 a_0), (.int .u64 a_1), (.int .i64 a_2)]), (.agg #[(.int .u64 b_0), (.int .u64 b_1), (.int .i64 b_2)])].toList) w := by kernel_rfl

theorem ok12 (a_0 : Int) (a_1 : Int) (a_2 : Int) (b_0 : Int) (b_1 : Int) (b_2 : Int) {w : World} {R : Ending → World → Prop} (h : F12 a_0 a_1 a_2 b_0 b_1 b_2 w R) : Calls Try.prog 12 #[(.agg #[(.int .u64 a_0), (.int .u64 a_1), (.int .i64 a_2)]), (.agg #[(.int .u64 b_0), (.int .u64 b_1), (.int .i64 b_2)])] w R :=
  vc_calls (pl := pl12) Try.func12 (by kernel_rfl) (by kernel_rfl) (by kernel_rfl) (Eq.mp (eq12 a_0 a_1 a_2 b_0 b_1 b_2 w R) h)

-- axis.Parent
def F22 (a_0 : Int) (a_1 : Int) (a_2 : Int) (b_0 : Int) (b_1 : Int) (b_2 : Int) (w_ : World) (R : Ending → World → Prop) : Prop :=
 Al w_ #[(.int .u64 a_0), (.int .u64 a_1), (.int .i64 a_2)] 29 fun a w1 =>
 Al w1 #[(.int .u64 b_0), (.int .u64 b_1), (.int .i64 b_2)] 29 fun b w1_2 =>
 LdI .u64 (w1_2.cell? a) fun x5_0 =>
 LdI .u64 (w1_2.cell? (a.add 1)) fun x5_1 =>
 LdI .i64 (w1_2.cell? (a.add 2)) fun x5_2 =>
 LdI .u64 (w1_2.cell? b) fun x6_0 =>
 LdI .u64 (w1_2.cell? (b.add 1)) fun x6_1 =>
 LdI .i64 (w1_2.cell? (b.add 2)) fun x6_2 =>
 Calls Try.prog 12 #[(.agg #[(.int .u64 x5_0), (.int .u64 x5_1), (.int .i64 x5_2)]), (.agg #[(.int .u64 x6_0), (.int .u64 x6_1), (.int .i64 x6_2)])] w1_2 (post R fun v w1_3 =>
 ∃ (x7 : Bool), v = (.bool x7) ∧
 Br x7
 (LdI .i64 (w1_3.cell? (a.add 2)) fun x10 =>
 LdI .i64 (w1_3.cell? (b.add 2)) fun x12 =>
 Br (decide (x10 < x12))
 (LdI .i64 (w1_3.cell? (a.add 2)) fun x17 =>
 InR .i64 (x17 + (1 : Int)) ∧ LdI .i64 (w1_3.cell? (b.add 2)) fun x20 =>
 R (.returned (.bool ((x17 + (1 : Int)) == x20))) w1_3)
 (R (.returned (.bool false)) w1_3))
 (R (.returned (.bool false)) w1_3))

def pl22 : Plan := ⟨23, ⟨[]⟩, [], []⟩

theorem eq22 (a_0 : Int) (a_1 : Int) (a_2 : Int) (b_0 : Int) (b_1 : Int) (b_2 : Int) (w : World) (R : Ending → World → Prop) : F22 a_0 a_1 a_2 b_0 b_1 b_2 w R = vc Try.prog Try.f22 pl22 R 100000 [.code (bodyOf Try.f22)] (argEnv 0 #[(.agg #[(.int .u64 a_0), (.int .u64 a_1), (.int .i64 a_2)]), (.agg #[(.int .u64 b_0), (.int .u64 b_1), (.int .i64 b_2)])].toList) w := by kernel_rfl

theorem ok22 (a_0 : Int) (a_1 : Int) (a_2 : Int) (b_0 : Int) (b_1 : Int) (b_2 : Int) {w : World} {R : Ending → World → Prop} (h : F22 a_0 a_1 a_2 b_0 b_1 b_2 w R) : Calls Try.prog 22 #[(.agg #[(.int .u64 a_0), (.int .u64 a_1), (.int .i64 a_2)]), (.agg #[(.int .u64 b_0), (.int .u64 b_1), (.int .i64 b_2)])] w R :=
  vc_calls (pl := pl22) Try.func22 (by kernel_rfl) (by kernel_rfl) (by kernel_rfl) (Eq.mp (eq22 a_0 a_1 a_2 b_0 b_1 b_2 w R) h)

-- axis.Relation
def F29_j17  (w_2 : World) (R : Ending → World → Prop) : Prop :=
 R (.returned (.tuple #[(.int .i64 0), (.int .i64 111)])) w_2

def F29 (a_0 : Int) (a_1 : Int) (a_2 : Int) (b_0 : Int) (b_1 : Int) (b_2 : Int) (w_ : World) (R : Ending → World → Prop) : Prop :=
 Al w_ #[(.int .u64 a_0), (.int .u64 a_1), (.int .i64 a_2)] 29 fun a w1 =>
 Al w1 #[(.int .u64 b_0), (.int .u64 b_1), (.int .i64 b_2)] 29 fun b w1_2 =>
 ∃ J17 : World → Prop, (∀  (w1_3 : World), J17 w1_3 → F29_j17 w1_3 R) ∧
 (LdI .u64 (w1_2.cell? a) fun x7_0 =>
 LdI .u64 (w1_2.cell? (a.add 1)) fun x7_1 =>
 LdI .i64 (w1_2.cell? (a.add 2)) fun x7_2 =>
 Calls Try.prog 52 #[(.agg #[(.int .u64 x7_0), (.int .u64 x7_1), (.int .i64 x7_2)])] w1_2 (post R fun v w1_3 =>
 ∃ (x8 : Bool), v = (.bool x8) ∧
 Br (!x8)
 (R (.returned (.tuple #[(.int .i64 0), (.int .i64 110)])) w1_3)
 (LdI .u64 (w1_3.cell? b) fun x11_0 =>
 LdI .u64 (w1_3.cell? (b.add 1)) fun x11_1 =>
 LdI .i64 (w1_3.cell? (b.add 2)) fun x11_2 =>
 Calls Try.prog 52 #[(.agg #[(.int .u64 x11_0), (.int .u64 x11_1), (.int .i64 x11_2)])] w1_3 (post R fun v2 w1_4 =>
 ∃ (x12 : Bool), v2 = (.bool x12) ∧
 Br (!x12)
 (R (.returned (.tuple #[(.int .i64 0), (.int .i64 110)])) w1_4)
 (LdI .u64 (w1_4.cell? a) fun x16_0 =>
 LdI .u64 (w1_4.cell? (a.add 1)) fun x16_1 =>
 LdI .i64 (w1_4.cell? (a.add 2)) fun x16_2 =>
 LdI .u64 (w1_4.cell? b) fun x17_0 =>
 LdI .u64 (w1_4.cell? (b.add 1)) fun x17_1 =>
 LdI .i64 (w1_4.cell? (b.add 2)) fun x17_2 =>
 Calls Try.prog 11 #[(.agg #[(.int .u64 x16_0), (.int .u64 x16_1), (.int .i64 x16_2)]), (.agg #[(.int .u64 x17_0), (.int .u64 x17_1), (.int .i64 x17_2)])] w1_4 (post R fun v3 w1_5 =>
 ∃ (x18 : Bool), v3 = (.bool x18) ∧
 Br x18
 (R (.returned (.tuple #[(.int .i64 1), (.int .i64 0)])) w1_5)
 (LdI .u64 (w1_5.cell? a) fun x20_0 =>
 LdI .u64 (w1_5.cell? (a.add 1)) fun x20_1 =>
 LdI .i64 (w1_5.cell? (a.add 2)) fun x20_2 =>
 LdI .u64 (w1_5.cell? b) fun x21_0 =>
 LdI .u64 (w1_5.cell? (b.add 1)) fun x21_1 =>
 LdI .i64 (w1_5.cell? (b.add 2)) fun x21_2 =>
 Calls Try.prog 22 #[(.agg #[(.int .u64 x20_0), (.int .u64 x20_1), (.int .i64 x20_2)]), (.agg #[(.int .u64 x21_0), (.int .u64 x21_1), (.int .i64 x21_2)])] w1_5 (post R fun v4 w1_6 =>
 ∃ (x22 : Bool), v4 = (.bool x22) ∧
 Br x22
 (R (.returned (.tuple #[(.int .i64 2), (.int .i64 0)])) w1_6)
 (LdI .u64 (w1_6.cell? a) fun x24_0 =>
 LdI .u64 (w1_6.cell? (a.add 1)) fun x24_1 =>
 LdI .i64 (w1_6.cell? (a.add 2)) fun x24_2 =>
 LdI .u64 (w1_6.cell? b) fun x25_0 =>
 LdI .u64 (w1_6.cell? (b.add 1)) fun x25_1 =>
 LdI .i64 (w1_6.cell? (b.add 2)) fun x25_2 =>
 Calls Try.prog 24 #[(.agg #[(.int .u64 x24_0), (.int .u64 x24_1), (.int .i64 x24_2)]), (.agg #[(.int .u64 x25_0), (.int .u64 x25_1), (.int .i64 x25_2)])] w1_6 (post R fun v5 w1_7 =>
 ∃ (x26 : Bool), v5 = (.bool x26) ∧
 Br x26
 (R (.returned (.tuple #[(.int .i64 3), (.int .i64 0)])) w1_7)
 (LdI .u64 (w1_7.cell? a) fun x28_0 =>
 LdI .u64 (w1_7.cell? (a.add 1)) fun x28_1 =>
 LdI .i64 (w1_7.cell? (a.add 2)) fun x28_2 =>
 LdI .u64 (w1_7.cell? b) fun x29_0 =>
 LdI .u64 (w1_7.cell? (b.add 1)) fun x29_1 =>
 LdI .i64 (w1_7.cell? (b.add 2)) fun x29_2 =>
 Calls Try.prog 12 #[(.agg #[(.int .u64 x28_0), (.int .u64 x28_1), (.int .i64 x28_2)]), (.agg #[(.int .u64 x29_0), (.int .u64 x29_1), (.int .i64 x29_2)])] w1_7 (post R fun v6 w1_8 =>
 ∃ (x30 : Bool), v6 = (.bool x30) ∧
 Br x30
 (R (.returned (.tuple #[(.int .i64 4), (.int .i64 0)])) w1_8)
 (LdI .u64 (w1_8.cell? a) fun x32_0 =>
 LdI .u64 (w1_8.cell? (a.add 1)) fun x32_1 =>
 LdI .i64 (w1_8.cell? (a.add 2)) fun x32_2 =>
 LdI .u64 (w1_8.cell? b) fun x33_0 =>
 LdI .u64 (w1_8.cell? (b.add 1)) fun x33_1 =>
 LdI .i64 (w1_8.cell? (b.add 2)) fun x33_2 =>
 Calls Try.prog 13 #[(.agg #[(.int .u64 x32_0), (.int .u64 x32_1), (.int .i64 x32_2)]), (.agg #[(.int .u64 x33_0), (.int .u64 x33_1), (.int .i64 x33_2)])] w1_8 (post R fun v7 w1_9 =>
 ∃ (x34 : Bool), v7 = (.bool x34) ∧
 Br x34
 (R (.returned (.tuple #[(.int .i64 5), (.int .i64 0)])) w1_9)
 (LdI .u64 (w1_9.cell? a) fun x36_0 =>
 LdI .u64 (w1_9.cell? (a.add 1)) fun x36_1 =>
 LdI .i64 (w1_9.cell? (a.add 2)) fun x36_2 =>
 LdI .u64 (w1_9.cell? b) fun x37_0 =>
 LdI .u64 (w1_9.cell? (b.add 1)) fun x37_1 =>
 LdI .i64 (w1_9.cell? (b.add 2)) fun x37_2 =>
 Calls Try.prog 14 #[(.agg #[(.int .u64 x36_0), (.int .u64 x36_1), (.int .i64 x36_2)]), (.agg #[(.int .u64 x37_0), (.int .u64 x37_1), (.int .i64 x37_2)])] w1_9 (post R fun v8 w1_10 =>
 ∃ (x38 : Bool), v8 = (.bool x38) ∧
 Br x38
 (R (.returned (.tuple #[(.int .i64 6), (.int .i64 0)])) w1_10)
 (LdI .u64 (w1_10.cell? a) fun x40_0 =>
 LdI .u64 (w1_10.cell? (a.add 1)) fun x40_1 =>
 LdI .i64 (w1_10.cell? (a.add 2)) fun x40_2 =>
 LdI .u64 (w1_10.cell? b) fun x41_0 =>
 LdI .u64 (w1_10.cell? (b.add 1)) fun x41_1 =>
 LdI .i64 (w1_10.cell? (b.add 2)) fun x41_2 =>
 Calls Try.prog 15 #[(.agg #[(.int .u64 x40_0), (.int .u64 x40_1), (.int .i64 x40_2)]), (.agg #[(.int .u64 x41_0), (.int .u64 x41_1), (.int .i64 x41_2)])] w1_10 (post R fun v9 w1_11 =>
 ∃ (x42 : Bool), v9 = (.bool x42) ∧
 Br x42
 (R (.returned (.tuple #[(.int .i64 7), (.int .i64 0)])) w1_11)
 (J17 w1_11)))))))))))))))))))

def pl29 : Plan := ⟨43, ⟨[]⟩, [(17, ⟨[], [(4, 43)]⟩)], []⟩

theorem eq29 (a_0 : Int) (a_1 : Int) (a_2 : Int) (b_0 : Int) (b_1 : Int) (b_2 : Int) (w : World) (R : Ending → World → Prop) : F29 a_0 a_1 a_2 b_0 b_1 b_2 w R = vc Try.prog Try.f29 pl29 R 100000 [.code (bodyOf Try.f29)] (argEnv 0 #[(.agg #[(.int .u64 a_0), (.int .u64 a_1), (.int .i64 a_2)]), (.agg #[(.int .u64 b_0), (.int .u64 b_1), (.int .i64 b_2)])].toList) w := by kernel_rfl

theorem ok29 (a_0 : Int) (a_1 : Int) (a_2 : Int) (b_0 : Int) (b_1 : Int) (b_2 : Int) {w : World} {R : Ending → World → Prop} (h : F29 a_0 a_1 a_2 b_0 b_1 b_2 w R) : Calls Try.prog 29 #[(.agg #[(.int .u64 a_0), (.int .u64 a_1), (.int .i64 a_2)]), (.agg #[(.int .u64 b_0), (.int .u64 b_1), (.int .i64 b_2)])] w R :=
  vc_calls (pl := pl29) Try.func29 (by kernel_rfl) (by kernel_rfl) (by kernel_rfl) (Eq.mp (eq29 a_0 a_1 a_2 b_0 b_1 b_2 w R) h)

-- espalierref09.Valid
def F53 (a_0 : Int) (a_1 : Int) (a_2 : Int) (w_ : World) (R : Ending → World → Prop) : Prop :=
 Al w_ #[(.int .u64 a_0), (.int .u64 a_1), (.int .i64 a_2)] 29 fun a w1 =>
 LdI .u64 (w1.cell? a) fun x4 =>
 Br (decide (x4 ≥ (1 : Int)))
 (LdI .u64 (w1.cell? a) fun x8 =>
 LdI .u64 (w1.cell? (a.add 1)) fun x10 =>
 Br (decide (x8 < x10))
 (LdI .u64 (w1.cell? (a.add 1)) fun x15 =>
 Br (decide (x15 < (4611686018427387904 : Int)))
 (LdI .i64 (w1.cell? (a.add 2)) fun x20 =>
 Br (decide (x20 ≥ (0 : Int)))
 (LdI .i64 (w1.cell? (a.add 2)) fun x25 =>
 R (.returned (.bool (decide (x25 < (64 : Int))))) w1)
 (R (.returned (.bool false)) w1))
 (R (.returned (.bool false)) w1))
 (R (.returned (.bool false)) w1))
 (R (.returned (.bool false)) w1)

def pl53 : Plan := ⟨28, ⟨[]⟩, [], []⟩

theorem eq53 (a_0 : Int) (a_1 : Int) (a_2 : Int) (w : World) (R : Ending → World → Prop) : F53 a_0 a_1 a_2 w R = vc Try.prog Try.f53 pl53 R 100000 [.code (bodyOf Try.f53)] (argEnv 0 #[(.agg #[(.int .u64 a_0), (.int .u64 a_1), (.int .i64 a_2)])].toList) w := by kernel_rfl

theorem ok53 (a_0 : Int) (a_1 : Int) (a_2 : Int) {w : World} {R : Ending → World → Prop} (h : F53 a_0 a_1 a_2 w R) : Calls Try.prog 53 #[(.agg #[(.int .u64 a_0), (.int .u64 a_1), (.int .i64 a_2)])] w R :=
  vc_calls (pl := pl53) Try.func53 (by kernel_rfl) (by kernel_rfl) (by kernel_rfl) (Eq.mp (eq53 a_0 a_1 a_2 w R) h)

-- espalierref09.Self
def F20 (a_0 : Int) (a_1 : Int) (a_2 : Int) (b_0 : Int) (b_1 : Int) (b_2 : Int) (w_ : World) (R : Ending → World → Prop) : Prop :=
 Al w_ #[(.int .u64 a_0), (.int .u64 a_1), (.int .i64 a_2)] 29 fun a w1 =>
 Al w1 #[(.int .u64 b_0), (.int .u64 b_1), (.int .i64 b_2)] 29 fun b w1_2 =>
 LdI .u64 (w1_2.cell? a) fun x6 =>
 LdI .u64 (w1_2.cell? b) fun x8 =>
 Br (x6 == x8)
 (LdI .u64 (w1_2.cell? (a.add 1)) fun x12 =>
 LdI .u64 (w1_2.cell? (b.add 1)) fun x14 =>
 R (.returned (.bool (x12 == x14))) w1_2)
 (R (.returned (.bool false)) w1_2)

def pl20 : Plan := ⟨17, ⟨[]⟩, [], []⟩

theorem eq20 (a_0 : Int) (a_1 : Int) (a_2 : Int) (b_0 : Int) (b_1 : Int) (b_2 : Int) (w : World) (R : Ending → World → Prop) : F20 a_0 a_1 a_2 b_0 b_1 b_2 w R = vc Try.prog Try.f20 pl20 R 100000 [.code (bodyOf Try.f20)] (argEnv 0 #[(.agg #[(.int .u64 a_0), (.int .u64 a_1), (.int .i64 a_2)]), (.agg #[(.int .u64 b_0), (.int .u64 b_1), (.int .i64 b_2)])].toList) w := by kernel_rfl

theorem ok20 (a_0 : Int) (a_1 : Int) (a_2 : Int) (b_0 : Int) (b_1 : Int) (b_2 : Int) {w : World} {R : Ending → World → Prop} (h : F20 a_0 a_1 a_2 b_0 b_1 b_2 w R) : Calls Try.prog 20 #[(.agg #[(.int .u64 a_0), (.int .u64 a_1), (.int .i64 a_2)]), (.agg #[(.int .u64 b_0), (.int .u64 b_1), (.int .i64 b_2)])] w R :=
  vc_calls (pl := pl20) Try.func20 (by kernel_rfl) (by kernel_rfl) (by kernel_rfl) (Eq.mp (eq20 a_0 a_1 a_2 b_0 b_1 b_2 w R) h)

-- espalierref09.Around
def F21 (a_0 : Int) (a_1 : Int) (a_2 : Int) (b_0 : Int) (b_1 : Int) (b_2 : Int) (w_ : World) (R : Ending → World → Prop) : Prop :=
 Al w_ #[(.int .u64 a_0), (.int .u64 a_1), (.int .i64 a_2)] 29 fun a w1 =>
 Al w1 #[(.int .u64 b_0), (.int .u64 b_1), (.int .i64 b_2)] 29 fun b w1_2 =>
 LdI .u64 (w1_2.cell? a) fun x6 =>
 LdI .u64 (w1_2.cell? b) fun x8 =>
 Br (decide (x6 < x8))
 (LdI .u64 (w1_2.cell? (b.add 1)) fun x12 =>
 LdI .u64 (w1_2.cell? (a.add 1)) fun x14 =>
 R (.returned (.bool (decide (x12 < x14)))) w1_2)
 (R (.returned (.bool false)) w1_2)

def pl21 : Plan := ⟨17, ⟨[]⟩, [], []⟩

theorem eq21 (a_0 : Int) (a_1 : Int) (a_2 : Int) (b_0 : Int) (b_1 : Int) (b_2 : Int) (w : World) (R : Ending → World → Prop) : F21 a_0 a_1 a_2 b_0 b_1 b_2 w R = vc Try.prog Try.f21 pl21 R 100000 [.code (bodyOf Try.f21)] (argEnv 0 #[(.agg #[(.int .u64 a_0), (.int .u64 a_1), (.int .i64 a_2)]), (.agg #[(.int .u64 b_0), (.int .u64 b_1), (.int .i64 b_2)])].toList) w := by kernel_rfl

theorem ok21 (a_0 : Int) (a_1 : Int) (a_2 : Int) (b_0 : Int) (b_1 : Int) (b_2 : Int) {w : World} {R : Ending → World → Prop} (h : F21 a_0 a_1 a_2 b_0 b_1 b_2 w R) : Calls Try.prog 21 #[(.agg #[(.int .u64 a_0), (.int .u64 a_1), (.int .i64 a_2)]), (.agg #[(.int .u64 b_0), (.int .u64 b_1), (.int .i64 b_2)])] w R :=
  vc_calls (pl := pl21) Try.func21 (by kernel_rfl) (by kernel_rfl) (by kernel_rfl) (Eq.mp (eq21 a_0 a_1 a_2 b_0 b_1 b_2 w R) h)

-- espalierref09.Parent
def F23 (a_0 : Int) (a_1 : Int) (a_2 : Int) (b_0 : Int) (b_1 : Int) (b_2 : Int) (w_ : World) (R : Ending → World → Prop) : Prop :=
 Al w_ #[(.int .u64 a_0), (.int .u64 a_1), (.int .i64 a_2)] 29 fun a w1 =>
 Al w1 #[(.int .u64 b_0), (.int .u64 b_1), (.int .i64 b_2)] 29 fun b w1_2 =>
 LdI .u64 (w1_2.cell? a) fun x5_0 =>
 LdI .u64 (w1_2.cell? (a.add 1)) fun x5_1 =>
 LdI .i64 (w1_2.cell? (a.add 2)) fun x5_2 =>
 LdI .u64 (w1_2.cell? b) fun x6_0 =>
 LdI .u64 (w1_2.cell? (b.add 1)) fun x6_1 =>
 LdI .i64 (w1_2.cell? (b.add 2)) fun x6_2 =>
 Calls Try.prog 21 #[(.agg #[(.int .u64 x5_0), (.int .u64 x5_1), (.int .i64 x5_2)]), (.agg #[(.int .u64 x6_0), (.int .u64 x6_1), (.int .i64 x6_2)])] w1_2 (post R fun v w1_3 =>
 ∃ (x7 : Bool), v = (.bool x7) ∧
 Br x7
 (LdI .i64 (w1_3.cell? (a.add 2)) fun x10 =>
 LdI .i64 (w1_3.cell? (b.add 2)) fun x12 =>
 Br (decide (x10 < x12))
 (LdI .i64 (w1_3.cell? (a.add 2)) fun x17 =>
 InR .i64 (x17 + (1 : Int)) ∧ LdI .i64 (w1_3.cell? (b.add 2)) fun x20 =>
 R (.returned (.bool ((x17 + (1 : Int)) == x20))) w1_3)
 (R (.returned (.bool false)) w1_3))
 (R (.returned (.bool false)) w1_3))

def pl23 : Plan := ⟨23, ⟨[]⟩, [], []⟩

theorem eq23 (a_0 : Int) (a_1 : Int) (a_2 : Int) (b_0 : Int) (b_1 : Int) (b_2 : Int) (w : World) (R : Ending → World → Prop) : F23 a_0 a_1 a_2 b_0 b_1 b_2 w R = vc Try.prog Try.f23 pl23 R 100000 [.code (bodyOf Try.f23)] (argEnv 0 #[(.agg #[(.int .u64 a_0), (.int .u64 a_1), (.int .i64 a_2)]), (.agg #[(.int .u64 b_0), (.int .u64 b_1), (.int .i64 b_2)])].toList) w := by kernel_rfl

theorem ok23 (a_0 : Int) (a_1 : Int) (a_2 : Int) (b_0 : Int) (b_1 : Int) (b_2 : Int) {w : World} {R : Ending → World → Prop} (h : F23 a_0 a_1 a_2 b_0 b_1 b_2 w R) : Calls Try.prog 23 #[(.agg #[(.int .u64 a_0), (.int .u64 a_1), (.int .i64 a_2)]), (.agg #[(.int .u64 b_0), (.int .u64 b_1), (.int .i64 b_2)])] w R :=
  vc_calls (pl := pl23) Try.func23 (by kernel_rfl) (by kernel_rfl) (by kernel_rfl) (Eq.mp (eq23 a_0 a_1 a_2 b_0 b_1 b_2 w R) h)

end Go.Proofs.Ytaanlildniiijaa
