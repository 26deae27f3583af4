import Derived.Test.YthbeeonmfbigcaaGreatDoorProg
import Derived.Test.YthbeeonmfbigcaaGreatDoorRows
import Derived.Test.YthbeeonmfbigcaaGreatDoorCards
import Derived.Test.YthbeeonmfbigcaaGreatDoorTie
import Derived.WalkKit
import Derived.Lib.SmallJoins
import Derived.RowKit3
import Derived.ProofKit
import Derived.OpenShut
import Derived.ShutString
import Derived.ChangeOld
import Derived.Below
import Derived.Carry
import Derived.SizedLaws
import Derived.LaidMore
import Derived.PinnedBridge
import Derived.Lib.LaidIn
import Derived.Lib.LaidU8T
import Derived.SevenTiedAt
import Derived.Stop.Joined
import Derived.Deep.DeepHandedRow
import Derived.JoinedCond
import Derived.Deep.CondSized
import Derived.Test.YthbeeonmfbigcaaGreatDoorAt6
set_option linter.unusedVariables false
set_option maxRecDepth 100000
namespace Go.Proofs.YthbeeonmfbigcaaGreatDoor
open Go.Vc
def F9 (a_0 : Int) (a_1 : Int) (a_2 : Int) (b_0 : Int) (b_1 : Int) (b_2 : Int) (w_ : World) (R : Ending → World → Prop) : Prop :=
 Al w_ #[(.int .u64 a_0), (.int .u64 a_1), (.int .i64 a_2)] 52 fun a w1 =>
 Al w1 #[(.int .u64 b_0), (.int .u64 b_1), (.int .i64 b_2)] 52 fun b w1_2 =>
 LdI .u64 (w1_2.cell? a) fun x6 =>
 LdI .u64 (w1_2.cell? b) fun x8 =>
 Br (decide (x6 < x8))
 (LdI .u64 (w1_2.cell? (b.add 1)) fun x12 =>
 LdI .u64 (w1_2.cell? (a.add 1)) fun x14 =>
 R (.returned (.bool (decide (x12 < x14)))) w1_2)
 (R (.returned (.bool false)) w1_2)
theorem ok9 (a_0 : Int) (a_1 : Int) (a_2 : Int) (b_0 : Int) (b_1 : Int) (b_2 : Int) {w : World} {R : Ending → World → Prop} (h : F9 a_0 a_1 a_2 b_0 b_1 b_2 w R) : Calls Tryz.prog 9 #[(.agg #[(.int .u64 a_0), (.int .u64 a_1), (.int .i64 a_2)]), (.agg #[(.int .u64 b_0), (.int .u64 b_1), (.int .i64 b_2)])] w R :=
  vc_calls (pl := ⟨17, ⟨[]⟩, [], []⟩) Tryz.func9 (by kernel_rfl) (by kernel_rfl) (by kernel_rfl) (Eq.mp (by kernel_rfl) h)
def F12 (a_0 : Int) (a_1 : Int) (a_2 : Int) (b_0 : Int) (b_1 : Int) (b_2 : Int) (w_ : World) (R : Ending → World → Prop) : Prop :=
 Al w_ #[(.int .u64 a_0), (.int .u64 a_1), (.int .i64 a_2)] 52 fun a w1 =>
 Al w1 #[(.int .u64 b_0), (.int .u64 b_1), (.int .i64 b_2)] 52 fun b w1_2 =>
 LdI .u64 (w1_2.cell? b) fun x5_0 =>
 LdI .u64 (w1_2.cell? (b.add 1)) fun x5_1 =>
 LdI .i64 (w1_2.cell? (b.add 2)) fun x5_2 =>
 LdI .u64 (w1_2.cell? a) fun x6_0 =>
 LdI .u64 (w1_2.cell? (a.add 1)) fun x6_1 =>
 LdI .i64 (w1_2.cell? (a.add 2)) fun x6_2 =>
 Calls Tryz.prog 11 #[(.agg #[(.int .u64 x5_0), (.int .u64 x5_1), (.int .i64 x5_2)]), (.agg #[(.int .u64 x6_0), (.int .u64 x6_1), (.int .i64 x6_2)])] w1_2 (post R fun v w1_3 =>
 ∃ (x7 : Bool), v = (.bool x7) ∧
 R (.returned (.bool x7)) w1_3)
theorem ok12 (a_0 : Int) (a_1 : Int) (a_2 : Int) (b_0 : Int) (b_1 : Int) (b_2 : Int) {w : World} {R : Ending → World → Prop} (h : F12 a_0 a_1 a_2 b_0 b_1 b_2 w R) : Calls Tryz.prog 12 #[(.agg #[(.int .u64 a_0), (.int .u64 a_1), (.int .i64 a_2)]), (.agg #[(.int .u64 b_0), (.int .u64 b_1), (.int .i64 b_2)])] w R :=
  vc_calls (pl := ⟨8, ⟨[]⟩, [], []⟩) Tryz.func12 (by kernel_rfl) (by kernel_rfl) (by kernel_rfl) (Eq.mp (by kernel_rfl) h)
def F10 (a_0 : Int) (a_1 : Int) (a_2 : Int) (b_0 : Int) (b_1 : Int) (b_2 : Int) (w_ : World) (R : Ending → World → Prop) : Prop :=
 Al w_ #[(.int .u64 a_0), (.int .u64 a_1), (.int .i64 a_2)] 52 fun a w1 =>
 Al w1 #[(.int .u64 b_0), (.int .u64 b_1), (.int .i64 b_2)] 52 fun b w1_2 =>
 LdI .u64 (w1_2.cell? b) fun x5_0 =>
 LdI .u64 (w1_2.cell? (b.add 1)) fun x5_1 =>
 LdI .i64 (w1_2.cell? (b.add 2)) fun x5_2 =>
 LdI .u64 (w1_2.cell? a) fun x6_0 =>
 LdI .u64 (w1_2.cell? (a.add 1)) fun x6_1 =>
 LdI .i64 (w1_2.cell? (a.add 2)) fun x6_2 =>
 Calls Tryz.prog 9 #[(.agg #[(.int .u64 x5_0), (.int .u64 x5_1), (.int .i64 x5_2)]), (.agg #[(.int .u64 x6_0), (.int .u64 x6_1), (.int .i64 x6_2)])] w1_2 (post R fun v w1_3 =>
 ∃ (x7 : Bool), v = (.bool x7) ∧
 R (.returned (.bool x7)) w1_3)
theorem ok10 (a_0 : Int) (a_1 : Int) (a_2 : Int) (b_0 : Int) (b_1 : Int) (b_2 : Int) {w : World} {R : Ending → World → Prop} (h : F10 a_0 a_1 a_2 b_0 b_1 b_2 w R) : Calls Tryz.prog 10 #[(.agg #[(.int .u64 a_0), (.int .u64 a_1), (.int .i64 a_2)]), (.agg #[(.int .u64 b_0), (.int .u64 b_1), (.int .i64 b_2)])] w R :=
  vc_calls (pl := ⟨8, ⟨[]⟩, [], []⟩) Tryz.func10 (by kernel_rfl) (by kernel_rfl) (by kernel_rfl) (Eq.mp (by kernel_rfl) h)
def F14 (a_0 : Int) (a_1 : Int) (a_2 : Int) (b_0 : Int) (b_1 : Int) (b_2 : Int) (w_ : World) (R : Ending → World → Prop) : Prop :=
 Al w_ #[(.int .u64 a_0), (.int .u64 a_1), (.int .i64 a_2)] 52 fun a w1 =>
 Al w1 #[(.int .u64 b_0), (.int .u64 b_1), (.int .i64 b_2)] 52 fun b w1_2 =>
 LdI .u64 (w1_2.cell? (b.add 1)) fun x6 =>
 LdI .u64 (w1_2.cell? a) fun x8 =>
 R (.returned (.bool (decide (x6 < x8)))) w1_2
theorem ok14 (a_0 : Int) (a_1 : Int) (a_2 : Int) (b_0 : Int) (b_1 : Int) (b_2 : Int) {w : World} {R : Ending → World → Prop} (h : F14 a_0 a_1 a_2 b_0 b_1 b_2 w R) : Calls Tryz.prog 14 #[(.agg #[(.int .u64 a_0), (.int .u64 a_1), (.int .i64 a_2)]), (.agg #[(.int .u64 b_0), (.int .u64 b_1), (.int .i64 b_2)])] w R :=
  vc_calls (pl := ⟨10, ⟨[]⟩, [], []⟩) Tryz.func14 (by kernel_rfl) (by kernel_rfl) (by kernel_rfl) (Eq.mp (by kernel_rfl) h)
def F16 (a_0 : Int) (a_1 : Int) (a_2 : Int) (b_0 : Int) (b_1 : Int) (b_2 : Int) (parent_0 : Int) (parent_1 : Int) (parent_2 : Int) (root : Bool) (w_ : World) (R : Ending → World → Prop) : Prop :=
 Al w_ #[(.int .u64 a_0), (.int .u64 a_1), (.int .i64 a_2)] 52 fun a w1 =>
 Al w1 #[(.int .u64 b_0), (.int .u64 b_1), (.int .i64 b_2)] 52 fun b w1_2 =>
 Al w1_2 #[(.int .u64 parent_0), (.int .u64 parent_1), (.int .i64 parent_2)] 52 fun parent w1_3 =>
 LdI .u64 (w1_3.cell? a) fun x9_0 =>
 LdI .u64 (w1_3.cell? (a.add 1)) fun x9_1 =>
 LdI .i64 (w1_3.cell? (a.add 2)) fun x9_2 =>
 LdI .u64 (w1_3.cell? b) fun x10_0 =>
 LdI .u64 (w1_3.cell? (b.add 1)) fun x10_1 =>
 LdI .i64 (w1_3.cell? (b.add 2)) fun x10_2 =>
 Calls Tryz.prog 14 #[(.agg #[(.int .u64 x9_0), (.int .u64 x9_1), (.int .i64 x9_2)]), (.agg #[(.int .u64 x10_0), (.int .u64 x10_1), (.int .i64 x10_2)])] w1_3 (post R fun v w1_4 =>
 ∃ (x11 : Bool), v = (.bool x11) ∧
 Br x11
 (LdI .u64 (w1_4.cell? a) fun x13_0 =>
 LdI .u64 (w1_4.cell? (a.add 1)) fun x13_1 =>
 LdI .i64 (w1_4.cell? (a.add 2)) fun x13_2 =>
 LdI .u64 (w1_4.cell? b) fun x14_0 =>
 LdI .u64 (w1_4.cell? (b.add 1)) fun x14_1 =>
 LdI .i64 (w1_4.cell? (b.add 2)) fun x14_2 =>
 LdI .u64 (w1_4.cell? parent) fun x15_0 =>
 LdI .u64 (w1_4.cell? (parent.add 1)) fun x15_1 =>
 LdI .i64 (w1_4.cell? (parent.add 2)) fun x15_2 =>
 Calls Tryz.prog 34 #[(.agg #[(.int .u64 x13_0), (.int .u64 x13_1), (.int .i64 x13_2)]), (.agg #[(.int .u64 x14_0), (.int .u64 x14_1), (.int .i64 x14_2)]), (.agg #[(.int .u64 x15_0), (.int .u64 x15_1), (.int .i64 x15_2)]), (.bool root)] w1_4 (post R fun v2 w1_5 =>
 ∃ (x17 : Bool), v2 = (.bool x17) ∧
 R (.returned (.bool x17)) w1_5))
 (R (.returned (.bool false)) w1_4))
theorem ok16 (a_0 : Int) (a_1 : Int) (a_2 : Int) (b_0 : Int) (b_1 : Int) (b_2 : Int) (parent_0 : Int) (parent_1 : Int) (parent_2 : Int) (root : Bool) {w : World} {R : Ending → World → Prop} (h : F16 a_0 a_1 a_2 b_0 b_1 b_2 parent_0 parent_1 parent_2 root w R) : Calls Tryz.prog 16 #[(.agg #[(.int .u64 a_0), (.int .u64 a_1), (.int .i64 a_2)]), (.agg #[(.int .u64 b_0), (.int .u64 b_1), (.int .i64 b_2)]), (.agg #[(.int .u64 parent_0), (.int .u64 parent_1), (.int .i64 parent_2)]), (.bool root)] w R :=
  vc_calls (pl := ⟨19, ⟨[]⟩, [], []⟩) Tryz.func16 (by kernel_rfl) (by kernel_rfl) (by kernel_rfl) (Eq.mp (by kernel_rfl) h)
def F11 (a_0 : Int) (a_1 : Int) (a_2 : Int) (b_0 : Int) (b_1 : Int) (b_2 : Int) (w_ : World) (R : Ending → World → Prop) : Prop :=
 Al w_ #[(.int .u64 a_0), (.int .u64 a_1), (.int .i64 a_2)] 52 fun a w1 =>
 Al w1 #[(.int .u64 b_0), (.int .u64 b_1), (.int .i64 b_2)] 52 fun b w1_2 =>
 LdI .u64 (w1_2.cell? a) fun x5_0 =>
 LdI .u64 (w1_2.cell? (a.add 1)) fun x5_1 =>
 LdI .i64 (w1_2.cell? (a.add 2)) fun x5_2 =>
 LdI .u64 (w1_2.cell? b) fun x6_0 =>
 LdI .u64 (w1_2.cell? (b.add 1)) fun x6_1 =>
 LdI .i64 (w1_2.cell? (b.add 2)) fun x6_2 =>
 Calls Tryz.prog 9 #[(.agg #[(.int .u64 x5_0), (.int .u64 x5_1), (.int .i64 x5_2)]), (.agg #[(.int .u64 x6_0), (.int .u64 x6_1), (.int .i64 x6_2)])] w1_2 (post R fun v w1_3 =>
 ∃ (x7 : Bool), v = (.bool x7) ∧
 Br x7
 (LdI .i64 (w1_3.cell? (a.add 2)) fun x10 =>
 LdI .i64 (w1_3.cell? (b.add 2)) fun x12 =>
 Br (decide (x10 < x12))
 (LdI .i64 (w1_3.cell? (a.add 2)) fun x17 =>
 InR .i64 (x17 + (1 : Int)) ∧ LdI .i64 (w1_3.cell? (b.add 2)) fun x20 =>
 R (.returned (.bool ((x17 + (1 : Int)) == x20))) w1_3)
 (R (.returned (.bool false)) w1_3))
 (R (.returned (.bool false)) w1_3))
theorem ok11 (a_0 : Int) (a_1 : Int) (a_2 : Int) (b_0 : Int) (b_1 : Int) (b_2 : Int) {w : World} {R : Ending → World → Prop} (h : F11 a_0 a_1 a_2 b_0 b_1 b_2 w R) : Calls Tryz.prog 11 #[(.agg #[(.int .u64 a_0), (.int .u64 a_1), (.int .i64 a_2)]), (.agg #[(.int .u64 b_0), (.int .u64 b_1), (.int .i64 b_2)])] w R :=
  vc_calls (pl := ⟨23, ⟨[]⟩, [], []⟩) Tryz.func11 (by kernel_rfl) (by kernel_rfl) (by kernel_rfl) (Eq.mp (by kernel_rfl) h)
def F13 (a_0 : Int) (a_1 : Int) (a_2 : Int) (b_0 : Int) (b_1 : Int) (b_2 : Int) (w_ : World) (R : Ending → World → Prop) : Prop :=
 Al w_ #[(.int .u64 a_0), (.int .u64 a_1), (.int .i64 a_2)] 52 fun a w1 =>
 Al w1 #[(.int .u64 b_0), (.int .u64 b_1), (.int .i64 b_2)] 52 fun b w1_2 =>
 LdI .u64 (w1_2.cell? (a.add 1)) fun x6 =>
 LdI .u64 (w1_2.cell? b) fun x8 =>
 R (.returned (.bool (decide (x6 < x8)))) w1_2
theorem ok13 (a_0 : Int) (a_1 : Int) (a_2 : Int) (b_0 : Int) (b_1 : Int) (b_2 : Int) {w : World} {R : Ending → World → Prop} (h : F13 a_0 a_1 a_2 b_0 b_1 b_2 w R) : Calls Tryz.prog 13 #[(.agg #[(.int .u64 a_0), (.int .u64 a_1), (.int .i64 a_2)]), (.agg #[(.int .u64 b_0), (.int .u64 b_1), (.int .i64 b_2)])] w R :=
  vc_calls (pl := ⟨10, ⟨[]⟩, [], []⟩) Tryz.func13 (by kernel_rfl) (by kernel_rfl) (by kernel_rfl) (Eq.mp (by kernel_rfl) h)
def F17 (a_0 : Int) (a_1 : Int) (a_2 : Int) (b_0 : Int) (b_1 : Int) (b_2 : Int) (parent_0 : Int) (parent_1 : Int) (parent_2 : Int) (root : Bool) (w_ : World) (R : Ending → World → Prop) : Prop :=
 Al w_ #[(.int .u64 a_0), (.int .u64 a_1), (.int .i64 a_2)] 52 fun a w1 =>
 Al w1 #[(.int .u64 b_0), (.int .u64 b_1), (.int .i64 b_2)] 52 fun b w1_2 =>
 Al w1_2 #[(.int .u64 parent_0), (.int .u64 parent_1), (.int .i64 parent_2)] 52 fun parent w1_3 =>
 LdI .u64 (w1_3.cell? a) fun x9_0 =>
 LdI .u64 (w1_3.cell? (a.add 1)) fun x9_1 =>
 LdI .i64 (w1_3.cell? (a.add 2)) fun x9_2 =>
 LdI .u64 (w1_3.cell? b) fun x10_0 =>
 LdI .u64 (w1_3.cell? (b.add 1)) fun x10_1 =>
 LdI .i64 (w1_3.cell? (b.add 2)) fun x10_2 =>
 Calls Tryz.prog 13 #[(.agg #[(.int .u64 x9_0), (.int .u64 x9_1), (.int .i64 x9_2)]), (.agg #[(.int .u64 x10_0), (.int .u64 x10_1), (.int .i64 x10_2)])] w1_3 (post R fun v w1_4 =>
 ∃ (x11 : Bool), v = (.bool x11) ∧
 Br x11
 (LdI .u64 (w1_4.cell? a) fun x13_0 =>
 LdI .u64 (w1_4.cell? (a.add 1)) fun x13_1 =>
 LdI .i64 (w1_4.cell? (a.add 2)) fun x13_2 =>
 LdI .u64 (w1_4.cell? b) fun x14_0 =>
 LdI .u64 (w1_4.cell? (b.add 1)) fun x14_1 =>
 LdI .i64 (w1_4.cell? (b.add 2)) fun x14_2 =>
 LdI .u64 (w1_4.cell? parent) fun x15_0 =>
 LdI .u64 (w1_4.cell? (parent.add 1)) fun x15_1 =>
 LdI .i64 (w1_4.cell? (parent.add 2)) fun x15_2 =>
 Calls Tryz.prog 34 #[(.agg #[(.int .u64 x13_0), (.int .u64 x13_1), (.int .i64 x13_2)]), (.agg #[(.int .u64 x14_0), (.int .u64 x14_1), (.int .i64 x14_2)]), (.agg #[(.int .u64 x15_0), (.int .u64 x15_1), (.int .i64 x15_2)]), (.bool root)] w1_4 (post R fun v2 w1_5 =>
 ∃ (x17 : Bool), v2 = (.bool x17) ∧
 R (.returned (.bool x17)) w1_5))
 (R (.returned (.bool false)) w1_4))
theorem ok17 (a_0 : Int) (a_1 : Int) (a_2 : Int) (b_0 : Int) (b_1 : Int) (b_2 : Int) (parent_0 : Int) (parent_1 : Int) (parent_2 : Int) (root : Bool) {w : World} {R : Ending → World → Prop} (h : F17 a_0 a_1 a_2 b_0 b_1 b_2 parent_0 parent_1 parent_2 root w R) : Calls Tryz.prog 17 #[(.agg #[(.int .u64 a_0), (.int .u64 a_1), (.int .i64 a_2)]), (.agg #[(.int .u64 b_0), (.int .u64 b_1), (.int .i64 b_2)]), (.agg #[(.int .u64 parent_0), (.int .u64 parent_1), (.int .i64 parent_2)]), (.bool root)] w R :=
  vc_calls (pl := ⟨19, ⟨[]⟩, [], []⟩) Tryz.func17 (by kernel_rfl) (by kernel_rfl) (by kernel_rfl) (Eq.mp (by kernel_rfl) h)
def F8 (a_0 : Int) (a_1 : Int) (a_2 : Int) (b_0 : Int) (b_1 : Int) (b_2 : Int) (w_ : World) (R : Ending → World → Prop) : Prop :=
 Al w_ #[(.int .u64 a_0), (.int .u64 a_1), (.int .i64 a_2)] 52 fun a w1 =>
 Al w1 #[(.int .u64 b_0), (.int .u64 b_1), (.int .i64 b_2)] 52 fun b w1_2 =>
 LdI .u64 (w1_2.cell? a) fun x6 =>
 LdI .u64 (w1_2.cell? b) fun x8 =>
 Br (x6 == x8)
 (LdI .u64 (w1_2.cell? (a.add 1)) fun x12 =>
 LdI .u64 (w1_2.cell? (b.add 1)) fun x14 =>
 R (.returned (.bool (x12 == x14))) w1_2)
 (R (.returned (.bool false)) w1_2)
theorem ok8 (a_0 : Int) (a_1 : Int) (a_2 : Int) (b_0 : Int) (b_1 : Int) (b_2 : Int) {w : World} {R : Ending → World → Prop} (h : F8 a_0 a_1 a_2 b_0 b_1 b_2 w R) : Calls Tryz.prog 8 #[(.agg #[(.int .u64 a_0), (.int .u64 a_1), (.int .i64 a_2)]), (.agg #[(.int .u64 b_0), (.int .u64 b_1), (.int .i64 b_2)])] w R :=
  vc_calls (pl := ⟨17, ⟨[]⟩, [], []⟩) Tryz.func8 (by kernel_rfl) (by kernel_rfl) (by kernel_rfl) (Eq.mp (by kernel_rfl) h)
def F34 (a_0 : Int) (a_1 : Int) (a_2 : Int) (b_0 : Int) (b_1 : Int) (b_2 : Int) (parent_0 : Int) (parent_1 : Int) (parent_2 : Int) (root : Bool) (w_ : World) (R : Ending → World → Prop) : Prop :=
 Al w_ #[(.int .u64 a_0), (.int .u64 a_1), (.int .i64 a_2)] 52 fun a w1 =>
 Al w1 #[(.int .u64 b_0), (.int .u64 b_1), (.int .i64 b_2)] 52 fun b w1_2 =>
 Al w1_2 #[(.int .u64 parent_0), (.int .u64 parent_1), (.int .i64 parent_2)] 52 fun parent w1_3 =>
 Br root
 (LdI .i64 (w1_3.cell? (a.add 2)) fun x11 =>
 Br (x11 == (0 : Int))
 (LdI .i64 (w1_3.cell? (b.add 2)) fun x15 =>
 R (.returned (.bool (x15 == (0 : Int)))) w1_3)
 (R (.returned (.bool false)) w1_3))
 (LdI .u64 (w1_3.cell? parent) fun x18_0 =>
 LdI .u64 (w1_3.cell? (parent.add 1)) fun x18_1 =>
 LdI .i64 (w1_3.cell? (parent.add 2)) fun x18_2 =>
 LdI .u64 (w1_3.cell? b) fun x19_0 =>
 LdI .u64 (w1_3.cell? (b.add 1)) fun x19_1 =>
 LdI .i64 (w1_3.cell? (b.add 2)) fun x19_2 =>
 Calls Tryz.prog 11 #[(.agg #[(.int .u64 x18_0), (.int .u64 x18_1), (.int .i64 x18_2)]), (.agg #[(.int .u64 x19_0), (.int .u64 x19_1), (.int .i64 x19_2)])] w1_3 (post R fun v w1_4 =>
 ∃ (x20 : Bool), v = (.bool x20) ∧
 Br x20
 (LdI .u64 (w1_4.cell? parent) fun x22_0 =>
 LdI .u64 (w1_4.cell? (parent.add 1)) fun x22_1 =>
 LdI .i64 (w1_4.cell? (parent.add 2)) fun x22_2 =>
 LdI .u64 (w1_4.cell? a) fun x23_0 =>
 LdI .u64 (w1_4.cell? (a.add 1)) fun x23_1 =>
 LdI .i64 (w1_4.cell? (a.add 2)) fun x23_2 =>
 Calls Tryz.prog 11 #[(.agg #[(.int .u64 x22_0), (.int .u64 x22_1), (.int .i64 x22_2)]), (.agg #[(.int .u64 x23_0), (.int .u64 x23_1), (.int .i64 x23_2)])] w1_4 (post R fun v2 w1_5 =>
 ∃ (x24 : Bool), v2 = (.bool x24) ∧
 R (.returned (.bool x24)) w1_5))
 (R (.returned (.bool false)) w1_4)))
theorem ok34 (a_0 : Int) (a_1 : Int) (a_2 : Int) (b_0 : Int) (b_1 : Int) (b_2 : Int) (parent_0 : Int) (parent_1 : Int) (parent_2 : Int) (root : Bool) {w : World} {R : Ending → World → Prop} (h : F34 a_0 a_1 a_2 b_0 b_1 b_2 parent_0 parent_1 parent_2 root w R) : Calls Tryz.prog 34 #[(.agg #[(.int .u64 a_0), (.int .u64 a_1), (.int .i64 a_2)]), (.agg #[(.int .u64 b_0), (.int .u64 b_1), (.int .i64 b_2)]), (.agg #[(.int .u64 parent_0), (.int .u64 parent_1), (.int .i64 parent_2)]), (.bool root)] w R :=
  vc_calls (pl := ⟨26, ⟨[]⟩, [], []⟩) Tryz.func34 (by kernel_rfl) (by kernel_rfl) (by kernel_rfl) (Eq.mp (by kernel_rfl) h)
def F3_j32 (g31 : Addr) (w_3 : World) (R : Ending → World → Prop) : Prop :=
 Calls Tryz.prog 18 #[(.pointer (some g31)), (.int .i64 2), (.int .u64 0), (.agg #[(.int .i64 2), (.string (ByteArray.mk #[])), (.slice none 0 0), (.string (ByteArray.mk #[])), (.slice none 0 0)])] w_3 (post R fun v2 w1_4 =>
 ∃ (x279_0 : Int) (x279_1 : Int), v2 = (.tuple #[(.int .u64 x279_0), (.int .i64 x279_1)]) ∧
 Br (x279_1 == (0 : Int))
 (R (.returned (.bool true)) w1_4)
 (R (.returned (.bool (x279_1 == (33 : Int)))) w1_4))
def F3_j10 (L9 : Int → World → Prop) (i2 : Int) (w_5 : World) (R : Ending → World → Prop) : Prop :=
 InR .i64 (i2 + (1 : Int)) ∧ L9 (i2 + (1 : Int)) w_5
def F3_j15 (L14 : Int → World → Prop) (k : Int) (w_7 : World) (R : Ending → World → Prop) : Prop :=
 InR .i64 (k + (1 : Int)) ∧ L14 (k + (1 : Int)) w_7
def F3_j30 (i2 : Int) (a : Addr) (k : Int) (J15 : World → Prop) (b : Addr) (x236_0 : Int) (x236_1 : Bool) (s : Addr) (w_11 : World) (R : Ending → World → Prop) : Prop :=
 LdI .u64 (w_11.cell? a) fun x248_0 =>
 LdI .u64 (w_11.cell? (a.add 1)) fun x248_1 =>
 LdI .i64 (w_11.cell? (a.add 2)) fun x248_2 =>
 LdI .u64 (w_11.cell? b) fun x249_0 =>
 LdI .u64 (w_11.cell? (b.add 1)) fun x249_1 =>
 LdI .i64 (w_11.cell? (b.add 2)) fun x249_2 =>
 LdI .u64 (w_11.cell? s) fun x250_0 =>
 LdI .u64 (w_11.cell? (s.add 1)) fun x250_1 =>
 LdI .i64 (w_11.cell? (s.add 2)) fun x250_2 =>
 Calls Tryz.prog 16 #[(.agg #[(.int .u64 x248_0), (.int .u64 x248_1), (.int .i64 x248_2)]), (.agg #[(.int .u64 x249_0), (.int .u64 x249_1), (.int .i64 x249_2)]), (.agg #[(.int .u64 x250_0), (.int .u64 x250_1), (.int .i64 x250_2)]), (.bool (x236_0 == (0 : Int)))] w_11 (post R fun v9 w1_24 =>
 ∃ (x253 : Bool), v9 = (.bool x253) ∧
 Br x236_1
 (Br (!(x253 == (decide (i2 > k))))
 (R (.returned (.bool false)) w1_24)
 (LdI .u64 (w1_24.cell? a) fun x262_0 =>
 LdI .u64 (w1_24.cell? (a.add 1)) fun x262_1 =>
 LdI .i64 (w1_24.cell? (a.add 2)) fun x262_2 =>
 LdI .u64 (w1_24.cell? b) fun x263_0 =>
 LdI .u64 (w1_24.cell? (b.add 1)) fun x263_1 =>
 LdI .i64 (w1_24.cell? (b.add 2)) fun x263_2 =>
 LdI .u64 (w1_24.cell? s) fun x264_0 =>
 LdI .u64 (w1_24.cell? (s.add 1)) fun x264_1 =>
 LdI .i64 (w1_24.cell? (s.add 2)) fun x264_2 =>
 Calls Tryz.prog 17 #[(.agg #[(.int .u64 x262_0), (.int .u64 x262_1), (.int .i64 x262_2)]), (.agg #[(.int .u64 x263_0), (.int .u64 x263_1), (.int .i64 x263_2)]), (.agg #[(.int .u64 x264_0), (.int .u64 x264_1), (.int .i64 x264_2)]), (.bool (x236_0 == (0 : Int)))] w1_24 (post R fun v10 w1_25 =>
 ∃ (x267 : Bool), v10 = (.bool x267) ∧
 Br x236_1
 (Br (!(x267 == (decide (i2 < k))))
 (R (.returned (.bool false)) w1_25)
 (J15 w1_25))
 (Br (!(x267 == false))
 (R (.returned (.bool false)) w1_25)
 (J15 w1_25)))))
 (Br (!(x253 == false))
 (R (.returned (.bool false)) w1_24)
 (LdI .u64 (w1_24.cell? a) fun x262_0 =>
 LdI .u64 (w1_24.cell? (a.add 1)) fun x262_1 =>
 LdI .i64 (w1_24.cell? (a.add 2)) fun x262_2 =>
 LdI .u64 (w1_24.cell? b) fun x263_0 =>
 LdI .u64 (w1_24.cell? (b.add 1)) fun x263_1 =>
 LdI .i64 (w1_24.cell? (b.add 2)) fun x263_2 =>
 LdI .u64 (w1_24.cell? s) fun x264_0 =>
 LdI .u64 (w1_24.cell? (s.add 1)) fun x264_1 =>
 LdI .i64 (w1_24.cell? (s.add 2)) fun x264_2 =>
 Calls Tryz.prog 17 #[(.agg #[(.int .u64 x262_0), (.int .u64 x262_1), (.int .i64 x262_2)]), (.agg #[(.int .u64 x263_0), (.int .u64 x263_1), (.int .i64 x263_2)]), (.agg #[(.int .u64 x264_0), (.int .u64 x264_1), (.int .i64 x264_2)]), (.bool (x236_0 == (0 : Int)))] w1_24 (post R fun v10 w1_25 =>
 ∃ (x267 : Bool), v10 = (.bool x267) ∧
 Br x236_1
 (Br (!(x267 == (decide (i2 < k))))
 (R (.returned (.bool false)) w1_25)
 (J15 w1_25))
 (Br (!(x267 == false))
 (R (.returned (.bool false)) w1_25)
 (J15 w1_25))))))
def F3_j26 (g31 : Addr) (g33 : Addr) (x51_0 : Option Addr) (x51_0N : Nat) (i2 : Int) (a : Addr) (k : Int) (J15 : World → Prop) (b : Addr) (w_10 : World) (R : Ending → World → Prop) : Prop :=
 ∃ S : World → Prop, S w_10.drew ∧ IdxA x51_0 x51_0N i2 1 fun q230 =>
 ∃ (x231 : Int), Held S q230 (.int .u64 x231) ∧ IdxA x51_0 x51_0N k 1 fun q234 =>
 ∃ (x235 : Int), Held S q234 (.int .u64 x235) ∧ Calls Tryz.prog 15 #[(.pointer (some g33)), (.int .u64 x231), (.int .u64 x235)] w_10.drew (post R fun v8 w1_19 =>
 ∃ (x236_0 : Int) (x236_1 : Bool), v8 = (.tuple #[(.int .u64 x236_0), (.bool x236_1)]) ∧
 Al w1_19 #[(.int .u64 0), (.int .u64 0), (.int .i64 0)] 52 fun s w1_20 =>
 St w1_20 s (.int .u64 0) fun w1_21 =>
 St w1_21 (s.add 1) (.int .u64 0) fun w1_22 =>
 St w1_22 (s.add 2) (.int .i64 0) fun w1_23 =>
 ∃ J30 : World → Prop, (∀  (w1_24 : World), J30 w1_24 → F3_j30 i2 a k J15 b x236_0 x236_1 s w1_24 R) ∧
 (Br (x236_0 != (0 : Int))
 (Calls Tryz.prog 6 #[(.pointer (some g31)), (.int .u64 x236_0)] w1_23 (post R fun v9 w1_24 =>
 ∃ (x245_0_0 : Int) (x245_0_1 : Int) (x245_0_2 : Int) (x245_1 : Int), v9 = (.tuple #[(.agg #[(.int .u64 x245_0_0), (.int .u64 x245_0_1), (.int .i64 x245_0_2)]), (.int .i64 x245_1)]) ∧
 St w1_24 s (.int .u64 x245_0_0) fun w1_25 =>
 St w1_25 (s.add 1) (.int .u64 x245_0_1) fun w1_26 =>
 St w1_26 (s.add 2) (.int .i64 x245_0_2) fun w1_27 =>
 J30 w1_27))
 (J30 w1_23)))
def F3_j24 (g31 : Addr) (g33 : Addr) (x51_0 : Option Addr) (x51_0N : Nat) (i2 : Int) (a : Addr) (k : Int) (J15 : World → Prop) (b : Addr) (inside : Bool) (ahead : Bool) (x130_0 : Int) (x139_0 : Int) (x148_0N : Nat) (contains : Bool) (w_9 : World) (R : Ending → World → Prop) : Prop :=
 ∃ J26 : World → Prop, (∀  (w1_18 : World), J26 w1_18 → F3_j26 g31 g33 x51_0 x51_0N i2 a k J15 b w1_18 R) ∧
 (∃ S : World → Prop, S w_9.drew ∧ ∃ (x162_0 : Int), Held S a (.int .u64 x162_0) ∧ ∃ (x162_1 : Int), Held S (a.add 1) (.int .u64 x162_1) ∧ ∃ (x162_2 : Int), Held S (a.add 2) (.int .i64 x162_2) ∧ ∃ (x163_0 : Int), Held S b (.int .u64 x163_0) ∧ ∃ (x163_1 : Int), Held S (b.add 1) (.int .u64 x163_1) ∧ ∃ (x163_2 : Int), Held S (b.add 2) (.int .i64 x163_2) ∧ Calls Tryz.prog 8 #[(.agg #[(.int .u64 x162_0), (.int .u64 x162_1), (.int .i64 x162_2)]), (.agg #[(.int .u64 x163_0), (.int .u64 x163_1), (.int .i64 x163_2)])] w_9.drew (post R fun v8 w1_19 =>
 ∃ (x164 : Bool), v8 = (.bool x164) ∧
 S w1_19 ∧ Br (!(x164 == (i2 == k)))
 (R (.returned (.bool false)) w1_19)
 (∃ (x170_0 : Int), Held S a (.int .u64 x170_0) ∧ ∃ (x170_1 : Int), Held S (a.add 1) (.int .u64 x170_1) ∧ ∃ (x170_2 : Int), Held S (a.add 2) (.int .i64 x170_2) ∧ ∃ (x171_0 : Int), Held S b (.int .u64 x171_0) ∧ ∃ (x171_1 : Int), Held S (b.add 1) (.int .u64 x171_1) ∧ ∃ (x171_2 : Int), Held S (b.add 2) (.int .i64 x171_2) ∧ Calls Tryz.prog 9 #[(.agg #[(.int .u64 x170_0), (.int .u64 x170_1), (.int .i64 x170_2)]), (.agg #[(.int .u64 x171_0), (.int .u64 x171_1), (.int .i64 x171_2)])] w1_19 (post R fun v9 w1_20 =>
 ∃ (x172 : Bool), v9 = (.bool x172) ∧
 S w1_20 ∧ Br (!(x172 == inside))
 (R (.returned (.bool false)) w1_20)
 (∃ (x177_0 : Int), Held S a (.int .u64 x177_0) ∧ ∃ (x177_1 : Int), Held S (a.add 1) (.int .u64 x177_1) ∧ ∃ (x177_2 : Int), Held S (a.add 2) (.int .i64 x177_2) ∧ ∃ (x178_0 : Int), Held S b (.int .u64 x178_0) ∧ ∃ (x178_1 : Int), Held S (b.add 1) (.int .u64 x178_1) ∧ ∃ (x178_2 : Int), Held S (b.add 2) (.int .i64 x178_2) ∧ Calls Tryz.prog 10 #[(.agg #[(.int .u64 x177_0), (.int .u64 x177_1), (.int .i64 x177_2)]), (.agg #[(.int .u64 x178_0), (.int .u64 x178_1), (.int .i64 x178_2)])] w1_20 (post R fun v10 w1_21 =>
 ∃ (x179 : Bool), v10 = (.bool x179) ∧
 S w1_21 ∧ Br (!(x179 == contains))
 (R (.returned (.bool false)) w1_21)
 (∃ (x184_0 : Int), Held S a (.int .u64 x184_0) ∧ ∃ (x184_1 : Int), Held S (a.add 1) (.int .u64 x184_1) ∧ ∃ (x184_2 : Int), Held S (a.add 2) (.int .i64 x184_2) ∧ ∃ (x185_0 : Int), Held S b (.int .u64 x185_0) ∧ ∃ (x185_1 : Int), Held S (b.add 1) (.int .u64 x185_1) ∧ ∃ (x185_2 : Int), Held S (b.add 2) (.int .i64 x185_2) ∧ IdxA x51_0 x51_0N i2 1 fun q190 =>
 ∃ (x191 : Int), Held S q190 (.int .u64 x191) ∧ Calls Tryz.prog 11 #[(.agg #[(.int .u64 x184_0), (.int .u64 x184_1), (.int .i64 x184_2)]), (.agg #[(.int .u64 x185_0), (.int .u64 x185_1), (.int .i64 x185_2)])] w1_21 (post R fun v11 w1_22 =>
 ∃ (x186 : Bool), v11 = (.bool x186) ∧
 S w1_22 ∧ Br (!(x186 == (x130_0 == x191)))
 (R (.returned (.bool false)) w1_22)
 (∃ (x196_0 : Int), Held S a (.int .u64 x196_0) ∧ ∃ (x196_1 : Int), Held S (a.add 1) (.int .u64 x196_1) ∧ ∃ (x196_2 : Int), Held S (a.add 2) (.int .i64 x196_2) ∧ ∃ (x197_0 : Int), Held S b (.int .u64 x197_0) ∧ ∃ (x197_1 : Int), Held S (b.add 1) (.int .u64 x197_1) ∧ ∃ (x197_2 : Int), Held S (b.add 2) (.int .i64 x197_2) ∧ IdxA x51_0 x51_0N k 1 fun q202 =>
 ∃ (x203 : Int), Held S q202 (.int .u64 x203) ∧ Calls Tryz.prog 12 #[(.agg #[(.int .u64 x196_0), (.int .u64 x196_1), (.int .i64 x196_2)]), (.agg #[(.int .u64 x197_0), (.int .u64 x197_1), (.int .i64 x197_2)])] w1_22 (post R fun v12 w1_23 =>
 ∃ (x198 : Bool), v12 = (.bool x198) ∧
 S w1_23 ∧ Br (!(x198 == (x139_0 == x203)))
 (R (.returned (.bool false)) w1_23)
 (∃ (x208_0 : Int), Held S a (.int .u64 x208_0) ∧ ∃ (x208_1 : Int), Held S (a.add 1) (.int .u64 x208_1) ∧ ∃ (x208_2 : Int), Held S (a.add 2) (.int .i64 x208_2) ∧ ∃ (x209_0 : Int), Held S b (.int .u64 x209_0) ∧ ∃ (x209_1 : Int), Held S (b.add 1) (.int .u64 x209_1) ∧ ∃ (x209_2 : Int), Held S (b.add 2) (.int .i64 x209_2) ∧ Calls Tryz.prog 13 #[(.agg #[(.int .u64 x208_0), (.int .u64 x208_1), (.int .i64 x208_2)]), (.agg #[(.int .u64 x209_0), (.int .u64 x209_1), (.int .i64 x209_2)])] w1_23 (post R fun v13 w1_24 =>
 ∃ (x210 : Bool), v13 = (.bool x210) ∧
 S w1_24 ∧ Br (!(x210 == ahead))
 (R (.returned (.bool false)) w1_24)
 (∃ (x215_0 : Int), Held S a (.int .u64 x215_0) ∧ ∃ (x215_1 : Int), Held S (a.add 1) (.int .u64 x215_1) ∧ ∃ (x215_2 : Int), Held S (a.add 2) (.int .i64 x215_2) ∧ ∃ (x216_0 : Int), Held S b (.int .u64 x216_0) ∧ ∃ (x216_1 : Int), Held S (b.add 1) (.int .u64 x216_1) ∧ ∃ (x216_2 : Int), Held S (b.add 2) (.int .i64 x216_2) ∧ InR .i64 (k + ((x148_0N : Nat) : Int)) ∧ Calls Tryz.prog 14 #[(.agg #[(.int .u64 x215_0), (.int .u64 x215_1), (.int .i64 x215_2)]), (.agg #[(.int .u64 x216_0), (.int .u64 x216_1), (.int .i64 x216_2)])] w1_24 (post R fun v14 w1_25 =>
 ∃ (x217 : Bool), v14 = (.bool x217) ∧
 Br (!(x217 == (decide (i2 ≥ (k + ((x148_0N : Nat) : Int))))))
 (R (.returned (.bool false)) w1_25)
 (J26 w1_25)))))))))))))))
def F3_j20 (g31 : Addr) (g33 : Addr) (x51_0 : Option Addr) (x51_0N : Nat) (i2 : Int) (a : Addr) (k : Int) (J15 : World → Prop) (b : Addr) (inside : Bool) (ahead : Bool) (w_8 : World) (R : Ending → World → Prop) : Prop :=
 IdxA x51_0 x51_0N k 1 fun q128 =>
 LdI .u64 (w_8.cell? q128) fun x129 =>
 Calls Tryz.prog 7 #[(.pointer (some g33)), (.int .u64 x129)] w_8 (post R fun v5 w1_15 =>
 ∃ (x130_0 : Int) (x130_1 : Int), v5 = (.tuple #[(.int .u64 x130_0), (.int .i64 x130_1)]) ∧
 IdxA x51_0 x51_0N i2 1 fun q137 =>
 LdI .u64 (w1_15.cell? q137) fun x138 =>
 Calls Tryz.prog 7 #[(.pointer (some g33)), (.int .u64 x138)] w1_15 (post R fun v6 w1_16 =>
 ∃ (x139_0 : Int) (x139_1 : Int), v6 = (.tuple #[(.int .u64 x139_0), (.int .i64 x139_1)]) ∧
 IdxA x51_0 x51_0N k 1 fun q146 =>
 LdI .u64 (w1_16.cell? q146) fun x147 =>
 Calls Tryz.prog 5 #[(.pointer (some g33)), (.int .u64 x147)] w1_16 (post R fun v7 w1_17 =>
 ∃ (x148_0 : Option Addr) (x148_0N : Nat) (x148_0C : Nat) (x148_1 : Int), v7 = (.tuple #[(.slice x148_0 x148_0N x148_0C), (.int .i64 x148_1)]) ∧
 ∃ J24 : Bool → World → Prop, (∀ (contains : Bool) (w1_18 : World), J24 contains w1_18 → F3_j24 g31 g33 x51_0 x51_0N i2 a k J15 b inside ahead x130_0 x139_0 x148_0N contains w1_18 R) ∧
 (Br (decide (i2 > k))
 (InR .i64 (k + ((x148_0N : Nat) : Int)) ∧ J24 (decide (i2 < (k + ((x148_0N : Nat) : Int)))) w1_17)
 (J24 false w1_17)))))
def F3_j19 (g31 : Addr) (g33 : Addr) (x51_0 : Option Addr) (x51_0N : Nat) (i2 : Int) (x70_0N : Nat) (a : Addr) (k : Int) (J15 : World → Prop) (b : Addr) (w_7 : World) (R : Ending → World → Prop) : Prop :=
 ∃ J20 : Bool → Bool → World → Prop, (∀ (inside : Bool) (ahead : Bool) (w1_15 : World), J20 inside ahead w1_15 → F3_j20 g31 g33 x51_0 x51_0N i2 a k J15 b inside ahead w1_15 R) ∧
 (Br (decide (k > i2))
 (InR .i64 (i2 + ((x70_0N : Nat) : Int)) ∧ InR .i64 (i2 + ((x70_0N : Nat) : Int)) ∧ J20 (decide (k < (i2 + ((x70_0N : Nat) : Int)))) (decide (k ≥ (i2 + ((x70_0N : Nat) : Int)))) w_7)
 (InR .i64 (i2 + ((x70_0N : Nat) : Int)) ∧ J20 false (decide (k ≥ (i2 + ((x70_0N : Nat) : Int)))) w_7))
def F3_j16 (g31 : Addr) (g33 : Addr) (x51_0 : Option Addr) (x51_0N : Nat) (i2 : Int) (x70_0N : Nat) (x79_1 : Int) (a : Addr) (L14 : Int → World → Prop) (k : Int) (w_6 : World) (R : Ending → World → Prop) : Prop :=
 ∃ J15 : World → Prop, (∀  (w1_10 : World), J15 w1_10 → F3_j15 L14 k w1_10 R) ∧
 (IdxA x51_0 x51_0N k 1 fun q96 =>
 LdI .u64 (w_6.cell? q96) fun x97 =>
 Calls Tryz.prog 6 #[(.pointer (some g31)), (.int .u64 x97)] w_6 (post R fun v4 w1_10 =>
 ∃ (x98_0_0 : Int) (x98_0_1 : Int) (x98_0_2 : Int) (x98_1 : Int), v4 = (.tuple #[(.agg #[(.int .u64 x98_0_0), (.int .u64 x98_0_1), (.int .i64 x98_0_2)]), (.int .i64 x98_1)]) ∧
 Al w1_10 #[(.int .u64 0), (.int .u64 0), (.int .i64 0)] 52 fun b w1_11 =>
 St w1_11 b (.int .u64 x98_0_0) fun w1_12 =>
 St w1_12 (b.add 1) (.int .u64 x98_0_1) fun w1_13 =>
 St w1_13 (b.add 2) (.int .i64 x98_0_2) fun w1_14 =>
 ∃ J19 : World → Prop, (∀  (w1_15 : World), J19 w1_15 → F3_j19 g31 g33 x51_0 x51_0N i2 x70_0N a k J15 b w1_15 R) ∧
 (Br (x79_1 != (0 : Int))
 (R (.returned (.bool false)) w1_14)
 (Br (x98_1 != (0 : Int))
 (R (.returned (.bool false)) w1_14)
 (J19 w1_14)))))
def F3_l14 (g31 : Addr) (g33 : Addr) (x51_0 : Option Addr) (x51_0N : Nat) (i2 : Int) (J10 : World → Prop) (x70_0N : Nat) (x79_1 : Int) (a : Addr) (L14 : Int → World → Prop) (k : Int) (w_5 : World) (R : Ending → World → Prop) : Prop :=
 ∃ J16 : World → Prop, (∀  (w1_10 : World), J16 w1_10 → F3_j16 g31 g33 x51_0 x51_0N i2 x70_0N x79_1 a L14 k w1_10 R) ∧
 (Br (decide (k < ((x51_0N : Nat) : Int)))
 (Br (decide (k < (60 : Int)))
 (J16 w_5)
 (J10 w_5))
 (J10 w_5))
def F3_j11 (g31 : Addr) (g33 : Addr) (x51_0 : Option Addr) (x51_0N : Nat) (L9 : Int → World → Prop) (i2 : Int) (w_4 : World) (R : Ending → World → Prop) : Prop :=
 ∃ J10 : World → Prop, (∀  (w1_4 : World), J10 w1_4 → F3_j10 L9 i2 w1_4 R) ∧
 (IdxA x51_0 x51_0N i2 1 fun q68 =>
 LdI .u64 (w_4.cell? q68) fun x69 =>
 Calls Tryz.prog 5 #[(.pointer (some g33)), (.int .u64 x69)] w_4 (post R fun v2 w1_4 =>
 ∃ (x70_0 : Option Addr) (x70_0N : Nat) (x70_0C : Nat) (x70_1 : Int), v2 = (.tuple #[(.slice x70_0 x70_0N x70_0C), (.int .i64 x70_1)]) ∧
 IdxA x51_0 x51_0N i2 1 fun q77 =>
 LdI .u64 (w1_4.cell? q77) fun x78 =>
 Calls Tryz.prog 6 #[(.pointer (some g31)), (.int .u64 x78)] w1_4 (post R fun v3 w1_5 =>
 ∃ (x79_0_0 : Int) (x79_0_1 : Int) (x79_0_2 : Int) (x79_1 : Int), v3 = (.tuple #[(.agg #[(.int .u64 x79_0_0), (.int .u64 x79_0_1), (.int .i64 x79_0_2)]), (.int .i64 x79_1)]) ∧
 Al w1_5 #[(.int .u64 0), (.int .u64 0), (.int .i64 0)] 52 fun a w1_6 =>
 St w1_6 a (.int .u64 x79_0_0) fun w1_7 =>
 St w1_7 (a.add 1) (.int .u64 x79_0_1) fun w1_8 =>
 St w1_8 (a.add 2) (.int .i64 x79_0_2) fun w1_9 =>
 ∃ (I : Int → World → Prop) (m : Int → World → Nat), I (0 : Int) w1_9 ∧
 ∀ (k : Int) (w1_10 : World), I k w1_10 → F3_l14 g31 g33 x51_0 x51_0N i2 J10 x70_0N x79_1 a (fun k' w2 => I k' w2 ∧ m k' w2 < m k w1_10) k w1_10 R)))
def F3_l9 (g31 : Addr) (g33 : Addr) (x51_0 : Option Addr) (x51_0N : Nat) (J32 : World → Prop) (L9 : Int → World → Prop) (i2 : Int) (w_3 : World) (R : Ending → World → Prop) : Prop :=
 ∃ J11 : World → Prop, (∀  (w1_4 : World), J11 w1_4 → F3_j11 g31 g33 x51_0 x51_0N L9 i2 w1_4 R) ∧
 (Br (decide (i2 < ((x51_0N : Nat) : Int)))
 (Br (decide (i2 < (60 : Int)))
 (J11 w_3)
 (J32 w_3))
 (J32 w_3))
def F3_l3 (acts : Option Addr) (actsN : Nat) (g31 : Addr) (g33 : Addr) (L3 : Int → World → Prop) (i : Int) (w_2 : World) (R : Ending → World → Prop) : Prop :=
 Br (decide (i < ((actsN : Nat) : Int)))
 (IdxA acts actsN i 12 fun q45 =>
 LdI .i64 (w_2.cell? q45) fun x46_0 =>
 LdI .i64 (w_2.cell? (q45.add 1)) fun x46_1 =>
 LdB (w_2.cell? (q45.add 2)) fun x46_2 =>
 LdI .u64 (w_2.cell? (q45.add 3)) fun x46_3 =>
 LdI .u64 (w_2.cell? (q45.add 4)) fun x46_4 =>
 LdStr (w_2.cell? (q45.add 5)) fun x46_5 =>
 LdStr (w_2.cell? (q45.add 6)) fun x46_6 =>
 LdI .i64 (w_2.cell? (q45.add 7)) fun x46_7 =>
 LdStr (w_2.cell? (q45.add 8)) fun x46_8 =>
 LdSl (w_2.cell? (q45.add 9)) fun x46_9 x46_9N x46_9C =>
 LdStr (w_2.cell? (q45.add 10)) fun x46_10 =>
 LdSl (w_2.cell? (q45.add 11)) fun x46_11 x46_11N x46_11C =>
 Calls Tryz.prog 4 #[(.iface 23 (.pointer (some g31))), (.pointer (some g33)), (.agg #[(.int .i64 x46_0), (.int .i64 x46_1), (.bool x46_2), (.int .u64 x46_3), (.int .u64 x46_4), (.string x46_5), (.string x46_6), (.int .i64 x46_7), (.string x46_8), (.slice x46_9 x46_9N x46_9C), (.string x46_10), (.slice x46_11 x46_11N x46_11C)])] w_2 (post R fun v w1_3 =>
 ∃ (x47 : Bool), v = (.bool x47) ∧
 Br (!x47)
 (R (.returned (.bool false)) w1_3)
 (InR .i64 (i + (1 : Int)) ∧ L3 (i + (1 : Int)) w1_3)))
 (Calls Tryz.prog 5 #[(.pointer (some g33)), (.int .u64 0)] w_2 (post R fun v w1_3 =>
 ∃ (x51_0 : Option Addr) (x51_0N : Nat) (x51_0C : Nat) (x51_1 : Int), v = (.tuple #[(.slice x51_0 x51_0N x51_0C), (.int .i64 x51_1)]) ∧
 ∃ J32 : World → Prop, (∀  (w1_4 : World), J32 w1_4 → F3_j32 g31 w1_4 R) ∧
 (∃ (I : Int → World → Prop) (m : Int → World → Nat), I (0 : Int) w1_3 ∧
 ∀ (i2 : Int) (w1_4 : World), I i2 w1_4 → F3_l9 g31 g33 x51_0 x51_0N J32 (fun i2' w2 => I i2' w2 ∧ m i2' w2 < m i2 w1_4) i2 w1_4 R)))
def F3 (acts : Option Addr) (actsN : Nat) (actsC : Nat) (w_ : World) (R : Ending → World → Prop) : Prop :=
 Al w_ #[(.slice none 0 0), (.slice none 0 0), (.int .i64 0), (.int .i64 0), (.int .i64 0), (.map none), (.pointer none), (.int .u64 0), (.int .u64 0), (.map none)] 34 fun g31 w1 =>
 Al w1 #[(.slice none 0 0), (.slice none 0 0)] 39 fun g33 w1_2 =>
 ∃ (I : Int → World → Prop) (m : Int → World → Nat), I (0 : Int) w1_2 ∧
 ∀ (i : Int) (w1_3 : World), I i w1_3 → F3_l3 acts actsN g31 g33 (fun i' w2 => I i' w2 ∧ m i' w2 < m i w1_3) i w1_3 R
theorem ok3 (acts : Option Addr) (actsN : Nat) (actsC : Nat) {w : World} {R : Ending → World → Prop} (h : F3 acts actsN actsC w R) : Calls Tryz.prog 3 #[(.slice acts actsN actsC)] w R :=
  vc_calls (pl := ⟨288, ⟨[]⟩, [(30, ⟨[], [(240, 248)]⟩), (26, ⟨[], [(2, 3), (162, 226)]⟩), (24, ⟨[(24, (.s .bool))], [(24, 162)]⟩), (20, ⟨[(16, (.s .bool)), (17, (.s .bool))], [(16, 124)]⟩), (19, ⟨[], [(2, 3), (101, 107)]⟩), (15, ⟨[], [(2, 3), (14, 276)]⟩), (16, ⟨[], [(82, 90)]⟩), (10, ⟨[], [(2, 3), (9, 276)]⟩), (11, ⟨[], [(54, 62)]⟩), (32, ⟨[], [(2, 3), (8, 276)]⟩)], [(3, ⟨[(5, (.s (.int .i64)))], [(2, 3), (5, 49)]⟩), (14, ⟨[(13, (.s (.int .i64)))], [(2, 3), (13, 276)]⟩), (9, ⟨[(8, (.s (.int .i64)))], [(2, 3), (8, 276)]⟩)]⟩) Tryz.func3 (by kernel_rfl) (by kernel_rfl) (by kernel_rfl) (Eq.mp (by kernel_rfl) h)
def F15 (d : Option Addr) (a : Int) (b : Int) (w_ : World) (R : Ending → World → Prop) : Prop :=
 Calls Tryz.prog 7 #[(.pointer d), (.int .u64 a)] w_ (post R fun v w1 =>
 ∃ (x15_0 : Int) (x15_1 : Int), v = (.tuple #[(.int .u64 x15_0), (.int .i64 x15_1)]) ∧
 Calls Tryz.prog 7 #[(.pointer d), (.int .u64 b)] w1 (post R fun v2 w1_2 =>
 ∃ (x21_0 : Int) (x21_1 : Int), v2 = (.tuple #[(.int .u64 x21_0), (.int .i64 x21_1)]) ∧
 R (.returned (.tuple #[(.int .u64 x21_0), (.bool (x15_0 == x21_0))])) w1_2))
theorem ok15 (d : Option Addr) (a : Int) (b : Int) {w : World} {R : Ending → World → Prop} (h : F15 d a b w R) : Calls Tryz.prog 15 #[(.pointer d), (.int .u64 a), (.int .u64 b)] w R :=
  vc_calls (pl := ⟨28, ⟨[]⟩, [], []⟩) Tryz.func15 (by kernel_rfl) (by kernel_rfl) (by kernel_rfl) (Eq.mp (by kernel_rfl) h)
end Go.Proofs.YthbeeonmfbigcaaGreatDoor
/- The tests of axis, as formulas. -/
namespace Go.Proofs.YthbeeonmfbigcaaGreatDoor
open Go.RowKit Go.Vc
set_option linter.unusedVariables false
set_option linter.unusedSimpArgs false
set_option maxRecDepth 100000
abbrev Sp3 := Int × Int × Int
def sp3 (a : Sp3) : Value := .agg #[.int .u64 a.1, .int .u64 a.2.1, .int .i64 a.2.2]
def selB (a b : Sp3) : Bool := decide (a.1 = b.1) && decide (a.2.1 = b.2.1)
def ancB (a b : Sp3) : Bool := decide (a.1 < b.1) && decide (b.2.1 < a.2.1)
def parB (a b : Sp3) : Bool := ancB a b && decide (a.2.2 + 1 = b.2.2)
def folB (a b : Sp3) : Bool := decide (b.2.1 < a.1)
def sibB (a b p : Sp3) (root : Bool) : Bool := if root then decide (a.2.2 = 0) && decide (b.2.2 = 0) else parB p b && parB p a
def LvOk (a : Sp3) : Prop := -1000 ≤ a.2.2 ∧ a.2.2 ≤ 1000
section
variable {w : World} {R : Ending → World → Prop} {a b p : Sp3} {root : Bool}
theorem selfA_calls (hK : ∀ w', Below w.heap.size w w' → R (.returned (.bool (selB a b))) w') : Calls Tryz.prog 8 #[sp3 a, sp3 b] w R := by
  refine ok8 a.1 a.2.1 a.2.2 b.1 b.2.1 b.2.2 ?_
  unfold F8
  refine al fun ga w1 hb1 ba _ => al fun gb w2 hb2 bb _ => ?_
  have ba2 := ba.keep hb2
  simp only [Addr.add_mk, Nat.zero_add, ba2.cell, bb.cell, List.getElem?_toArray, List.getElem?_cons_zero, List.getElem?_cons_succ, Addr.add_mk, List.getElem?_toArray, List.getElem?_cons_zero, List.getElem?_cons_succ, LdI_some, LdB_some, LdStr_some, LdP_some, LdSl_some, LdM_some, Nat.zero_add, Br_t, Br_f]
  have := hK w2 (btr hb1 hb1.size hb2)
  unfold selB at this
  refine bre (fun h => ?_) (fun h => ?_)
  · rw [decide_eq_true h, Bool.true_and] at this
    exact this
  · rw [decide_eq_false h, Bool.false_and] at this; exact this
theorem anc_calls (hK : ∀ w', Below w.heap.size w w' → R (.returned (.bool (ancB a b))) w') : Calls Tryz.prog 9 #[sp3 a, sp3 b] w R := by
  refine ok9 a.1 a.2.1 a.2.2 b.1 b.2.1 b.2.2 ?_
  unfold F9
  refine al fun ga w1 hb1 ba _ => al fun gb w2 hb2 bb _ => ?_
  have ba2 := ba.keep hb2
  simp only [Addr.add_mk, Nat.zero_add, ba2.cell, bb.cell, List.getElem?_toArray, List.getElem?_cons_zero, List.getElem?_cons_succ, Addr.add_mk, List.getElem?_toArray, List.getElem?_cons_zero, List.getElem?_cons_succ, LdI_some, LdB_some, LdStr_some, LdP_some, LdSl_some, LdM_some, Nat.zero_add, Br_t, Br_f]
  have := hK w2 (btr hb1 hb1.size hb2)
  unfold ancB at this
  refine brd (fun h => ?_) (fun h => ?_)
  · rw [decide_eq_true h, Bool.true_and] at this; exact this
  · rw [decide_eq_false h, Bool.false_and] at this; exact this
theorem desc_calls (hK : ∀ w', Below w.heap.size w w' → R (.returned (.bool (ancB b a))) w') : Calls Tryz.prog 10 #[sp3 a, sp3 b] w R := by
  refine ok10 a.1 a.2.1 a.2.2 b.1 b.2.1 b.2.2 ?_
  unfold F10
  refine al fun ga w1 hb1 ba _ => al fun gb w2 hb2 bb _ => ?_
  have ba2 := ba.keep hb2
  simp only [Addr.add_mk, Nat.zero_add, ba2.cell, bb.cell, List.getElem?_toArray, List.getElem?_cons_zero, List.getElem?_cons_succ, Addr.add_mk, List.getElem?_toArray, List.getElem?_cons_zero, List.getElem?_cons_succ, LdI_some, LdB_some, LdStr_some, LdP_some, LdSl_some, LdM_some, Nat.zero_add, Br_t, Br_f]
  exact anc_calls (a := b) (b := a) fun w3 hb3 => ⟨_, rfl, hK w3 (btr (btr hb1 hb1.size hb2) (Nat.le_trans hb1.size hb2.size) hb3)⟩
theorem fol_calls (hK : ∀ w', Below w.heap.size w w' → R (.returned (.bool (folB a b))) w') : Calls Tryz.prog 14 #[sp3 a, sp3 b] w R := by
  refine ok14 a.1 a.2.1 a.2.2 b.1 b.2.1 b.2.2 ?_
  unfold F14
  refine al fun ga w1 hb1 ba _ => al fun gb w2 hb2 bb _ => ?_
  have ba2 := ba.keep hb2
  simp only [Addr.add_mk, Nat.zero_add, ba2.cell, bb.cell, List.getElem?_toArray, List.getElem?_cons_zero, List.getElem?_cons_succ, Addr.add_mk, List.getElem?_toArray, List.getElem?_cons_zero, List.getElem?_cons_succ, LdI_some, LdB_some, LdStr_some, LdP_some, LdSl_some, LdM_some, Nat.zero_add, Br_t, Br_f]
  exact hK w2 (btr hb1 hb1.size hb2)
theorem prec_calls (hK : ∀ w', Below w.heap.size w w' → R (.returned (.bool (folB b a))) w') : Calls Tryz.prog 13 #[sp3 a, sp3 b] w R := by
  refine ok13 a.1 a.2.1 a.2.2 b.1 b.2.1 b.2.2 ?_
  unfold F13
  refine al fun ga w1 hb1 ba _ => al fun gb w2 hb2 bb _ => ?_
  have ba2 := ba.keep hb2
  simp only [Addr.add_mk, Nat.zero_add, ba2.cell, bb.cell, List.getElem?_toArray, List.getElem?_cons_zero, List.getElem?_cons_succ, Addr.add_mk, List.getElem?_toArray, List.getElem?_cons_zero, List.getElem?_cons_succ, LdI_some, LdB_some, LdStr_some, LdP_some, LdSl_some, LdM_some, Nat.zero_add, Br_t, Br_f]
  exact hK w2 (btr hb1 hb1.size hb2)
theorem parA_calls (ha : LvOk a) (hK : ∀ w', Below w.heap.size w w' → R (.returned (.bool (parB a b))) w') : Calls Tryz.prog 11 #[sp3 a, sp3 b] w R := by
  refine ok11 a.1 a.2.1 a.2.2 b.1 b.2.1 b.2.2 ?_
  unfold F11
  refine al fun ga w1 hb1 ba _ => al fun gb w2 hb2 bb _ => ?_
  have ba2 := ba.keep hb2
  simp only [Addr.add_mk, Nat.zero_add, ba2.cell, bb.cell, List.getElem?_toArray, List.getElem?_cons_zero, List.getElem?_cons_succ, Addr.add_mk, List.getElem?_toArray, List.getElem?_cons_zero, List.getElem?_cons_succ, LdI_some, LdB_some, LdStr_some, LdP_some, LdSl_some, LdM_some, Nat.zero_add, Br_t, Br_f]
  obtain ⟨l1, l2⟩ := ha
  refine anc_calls (a := a) (b := b) fun w3 hb3 => ⟨_, rfl, ?_⟩
  have B3 := btr (btr hb1 hb1.size hb2) (Nat.le_trans hb1.size hb2.size) hb3
  have := hK w3 B3
  unfold parB at this
  have ba3 := ba2.keep hb3
  have bb3 := bb.keep hb3
  refine br (fun h => ?_) (fun h => ?_)
  · rw [h, Bool.true_and] at this
    simp only [Addr.add_mk, Nat.zero_add, ba3.cell, bb3.cell, List.getElem?_toArray, List.getElem?_cons_zero, List.getElem?_cons_succ, Addr.add_mk, List.getElem?_toArray, List.getElem?_cons_zero, List.getElem?_cons_succ, LdI_some, LdB_some, LdStr_some, LdP_some, LdSl_some, LdM_some, Nat.zero_add, Br_t, Br_f]
    refine brd (fun h1 => ⟨inR_i64 (by omega) (by omega), ?_⟩) (fun h1 => ?_)
    · exact this
    · rw [decide_eq_false (by omega)] at this; exact this
  · rw [h, Bool.false_and] at this; exact this
theorem child_calls (hb : LvOk b) (hK : ∀ w', Below w.heap.size w w' → R (.returned (.bool (parB b a))) w') : Calls Tryz.prog 12 #[sp3 a, sp3 b] w R := by
  refine ok12 a.1 a.2.1 a.2.2 b.1 b.2.1 b.2.2 ?_
  unfold F12
  refine al fun ga w1 hb1 ba _ => al fun gb w2 hb2 bb _ => ?_
  have ba2 := ba.keep hb2
  simp only [Addr.add_mk, Nat.zero_add, ba2.cell, bb.cell, List.getElem?_toArray, List.getElem?_cons_zero, List.getElem?_cons_succ, Addr.add_mk, List.getElem?_toArray, List.getElem?_cons_zero, List.getElem?_cons_succ, LdI_some, LdB_some, LdStr_some, LdP_some, LdSl_some, LdM_some, Nat.zero_add, Br_t, Br_f]
  exact parA_calls (a := b) (b := a) hb fun w3 hb3 => ⟨_, rfl, hK w3 (btr (btr hb1 hb1.size hb2) (Nat.le_trans hb1.size hb2.size) hb3)⟩
theorem sibs_calls (hp : LvOk p) (hK : ∀ w', Below w.heap.size w w' → R (.returned (.bool (sibB a b p root))) w') : Calls Tryz.prog 34 #[sp3 a, sp3 b, sp3 p, .bool root] w R := by
  refine ok34 a.1 a.2.1 a.2.2 b.1 b.2.1 b.2.2 p.1 p.2.1 p.2.2 root ?_
  unfold F34
  refine al fun ga w1 hb1 ba _ => al fun gb w2 hb2 bb _ => al fun gp w3 hb3 bp _ => ?_
  have B2 := btr hb1 hb1.size hb2
  have B3 := btr B2 B2.size hb3
  have ba3 := (ba.keep hb2).keep hb3
  have bb3 := bb.keep hb3
  have := fun w' hb => hK w' hb
  unfold sibB at this
  refine br (fun hr => ?_) (fun hr => ?_)
  · have := this w3 B3
    rw [if_pos hr] at this
    simp only [Addr.add_mk, Nat.zero_add, ba3.cell, bb3.cell, List.getElem?_toArray, List.getElem?_cons_zero, List.getElem?_cons_succ, Addr.add_mk, List.getElem?_toArray, List.getElem?_cons_zero, List.getElem?_cons_succ, LdI_some, LdB_some, LdStr_some, LdP_some, LdSl_some, LdM_some, Nat.zero_add, Br_t, Br_f]
    refine bre (fun h => ?_) (fun h => ?_)
    · rw [decide_eq_true h, Bool.true_and] at this; exact this
    · rw [decide_eq_false h, Bool.false_and] at this; exact this
  · simp only [Addr.add_mk, Nat.zero_add, bp.cell, bb3.cell, List.getElem?_toArray, List.getElem?_cons_zero, List.getElem?_cons_succ, Addr.add_mk, List.getElem?_toArray, List.getElem?_cons_zero, List.getElem?_cons_succ, LdI_some, LdB_some, LdStr_some, LdP_some, LdSl_some, LdM_some, Nat.zero_add, Br_t, Br_f]
    refine parA_calls (a := p) (b := b) hp fun w4 hb4 => ⟨_, rfl, ?_⟩
    have B4 := btr B3 B3.size hb4
    refine br (fun h => ?_) (fun h => ?_)
    · have ba4 := ba3.keep hb4
      have bp4 := bp.keep hb4
      simp only [Addr.add_mk, Nat.zero_add, ba4.cell, bp4.cell, List.getElem?_toArray, List.getElem?_cons_zero, List.getElem?_cons_succ, Addr.add_mk, List.getElem?_toArray, List.getElem?_cons_zero, List.getElem?_cons_succ, LdI_some, LdB_some, LdStr_some, LdP_some, LdSl_some, LdM_some, Nat.zero_add, Br_t, Br_f]
      refine parA_calls (a := p) (b := a) hp fun w5 hb5 => ⟨_, rfl, ?_⟩
      have := this w5 (btr B4 B4.size hb5)
      rw [if_neg (by rw [hr]; decide), h, Bool.true_and] at this; exact this
    · have := this w4 B4
      rw [if_neg (by rw [hr]; decide), h, Bool.false_and] at this; exact this
theorem folS_calls (hp : LvOk p) (hK : ∀ w', Below w.heap.size w w' → R (.returned (.bool (folB a b && sibB a b p root))) w') : Calls Tryz.prog 16 #[sp3 a, sp3 b, sp3 p, .bool root] w R := by
  refine ok16 a.1 a.2.1 a.2.2 b.1 b.2.1 b.2.2 p.1 p.2.1 p.2.2 root ?_
  unfold F16
  refine al fun ga w1 hb1 ba _ => al fun gb w2 hb2 bb _ => al fun gp w3 hb3 bp _ => ?_
  have B2 := btr hb1 hb1.size hb2
  have B3 := btr B2 B2.size hb3
  have ba3 := (ba.keep hb2).keep hb3
  have bb3 := bb.keep hb3
  simp only [Addr.add_mk, Nat.zero_add, ba3.cell, bb3.cell, List.getElem?_toArray, List.getElem?_cons_zero, List.getElem?_cons_succ, Addr.add_mk, List.getElem?_toArray, List.getElem?_cons_zero, List.getElem?_cons_succ, LdI_some, LdB_some, LdStr_some, LdP_some, LdSl_some, LdM_some, Nat.zero_add, Br_t, Br_f]
  refine fol_calls (a := a) (b := b) fun w4 hb4 => ⟨_, rfl, ?_⟩
  have B4 := btr B3 B3.size hb4
  refine br (fun h => ?_) (fun h => ?_)
  · have ba4 := ba3.keep hb4
    have bb4 := bb3.keep hb4
    have bp4 := bp.keep hb4
    simp only [Addr.add_mk, Nat.zero_add, ba4.cell, bb4.cell, bp4.cell, List.getElem?_toArray, List.getElem?_cons_zero, List.getElem?_cons_succ, Addr.add_mk, List.getElem?_toArray, List.getElem?_cons_zero, List.getElem?_cons_succ, LdI_some, LdB_some, LdStr_some, LdP_some, LdSl_some, LdM_some, Nat.zero_add, Br_t, Br_f]
    refine sibs_calls (a := a) (b := b) (p := p) hp fun w5 hb5 => ⟨_, rfl, ?_⟩
    have := hK w5 (btr B4 B4.size hb5)
    rw [h, Bool.true_and] at this; exact this
  · have := hK w4 B4
    rw [h, Bool.false_and] at this; exact this
theorem preS_calls (hp : LvOk p) (hK : ∀ w', Below w.heap.size w w' → R (.returned (.bool (folB b a && sibB a b p root))) w') : Calls Tryz.prog 17 #[sp3 a, sp3 b, sp3 p, .bool root] w R := by
  refine ok17 a.1 a.2.1 a.2.2 b.1 b.2.1 b.2.2 p.1 p.2.1 p.2.2 root ?_
  unfold F17
  refine al fun ga w1 hb1 ba _ => al fun gb w2 hb2 bb _ => al fun gp w3 hb3 bp _ => ?_
  have B2 := btr hb1 hb1.size hb2
  have B3 := btr B2 B2.size hb3
  have ba3 := (ba.keep hb2).keep hb3
  have bb3 := bb.keep hb3
  simp only [Addr.add_mk, Nat.zero_add, ba3.cell, bb3.cell, List.getElem?_toArray, List.getElem?_cons_zero, List.getElem?_cons_succ, Addr.add_mk, List.getElem?_toArray, List.getElem?_cons_zero, List.getElem?_cons_succ, LdI_some, LdB_some, LdStr_some, LdP_some, LdSl_some, LdM_some, Nat.zero_add, Br_t, Br_f]
  refine prec_calls (a := a) (b := b) fun w4 hb4 => ⟨_, rfl, ?_⟩
  have B4 := btr B3 B3.size hb4
  refine br (fun h => ?_) (fun h => ?_)
  · have ba4 := ba3.keep hb4
    have bb4 := bb3.keep hb4
    have bp4 := bp.keep hb4
    simp only [Addr.add_mk, Nat.zero_add, ba4.cell, bb4.cell, bp4.cell, List.getElem?_toArray, List.getElem?_cons_zero, List.getElem?_cons_succ, Addr.add_mk, List.getElem?_toArray, List.getElem?_cons_zero, List.getElem?_cons_succ, LdI_some, LdB_some, LdStr_some, LdP_some, LdSl_some, LdM_some, Nat.zero_add, Br_t, Br_f]
    refine sibs_calls (a := a) (b := b) (p := p) hp fun w5 hb5 => ⟨_, rfl, ?_⟩
    have := hK w5 (btr B4 B4.size hb5)
    rw [h, Bool.true_and] at this; exact this
  · have := hK w4 B4
    rw [h, Bool.false_and] at this; exact this
end
end Go.Proofs.YthbeeonmfbigcaaGreatDoor
/- AxisTree: where nodes stand among all, and their labels, in plain. -/
namespace Go.Proofs.YthbeeonmfbigcaaGreatDoor
open Go.RowKit Go.Vc
set_option linter.unusedVariables false
set_option linter.unusedSimpArgs false
set_option maxRecDepth 100000
section
variable {A : Nat → Option Sl} {E : Nat → Option (Nat × Nat)} {roots loose : List Nat}
theorem wrd_mem (hA : WfA A roots loose) : ∀ (r x y : Nat) {s : Sl}, A x = some s → y ∈ allA A r x → (eN E y).1 ∈ wrd A E r x ∧ (eN E y).2 ∈ wrd A E r x
  | 0, x, y, s, hs, hy => by simp [allA] at hy
  | r + 1, x, y, s, hs, hy => by
    rw [allA_some hs, List.mem_cons] at hy
    rw [wrd_some hs]
    rcases hy with rfl | hy
    · simp
    · obtain ⟨k, hk, hy⟩ := List.mem_flatMap.1 hy
      obtain ⟨t, t1, _⟩ := ((hA.kid x s hs).2 k hk).2
      obtain ⟨h1, h2⟩ := wrd_mem hA r k y t1 hy
      have g1 := List.mem_flatMap.2 ⟨k, hk, h1⟩
      have g2 := List.mem_flatMap.2 ⟨k, hk, h2⟩
      simp [g1, g2]
def Cut (A : Nat → Option Sl) (E : Nat → Option (Nat × Nat)) (L W : List Nat) (i x : Nat) : Prop :=
  ∃ (P Q PW QW : List Nat) (r c : Nat) (s : Sl), A x = some s ∧ Ch A x c ∧ c + r = 66 ∧ L = P ++ allA A r x ++ Q ∧ P.length = i ∧ W = PW ++ wrd A E r x ++ QW ∧ ∀ y ∈ Q, (eN E y).1 ∈ QW ∧ (eN E y).2 ∈ QW
theorem Cut.more {L W L1 L2 W1 W2 : List Nat} {i x : Nat} (h : Cut A E L W i x) (h2 : ∀ y ∈ L2, (eN E y).1 ∈ W2 ∧ (eN E y).2 ∈ W2) : Cut A E (L1 ++ L ++ L2) (W1 ++ W ++ W2) (L1.length + i) x := by
  obtain ⟨P, Q, PW, QW, r, c, s, a1, a2, a3, a4, a5, a6, a7⟩ := h
  refine ⟨L1 ++ P, Q ++ L2, W1 ++ PW, QW ++ W2, r, c, s, a1, a2, a3, by rw [a4]; simp, by simp [a5], by rw [a6]; simp, fun y hy => ?_⟩
  rcases List.mem_append.1 hy with hy | hy
  · obtain ⟨h1, h2⟩ := a7 y hy; simp [h1, h2]
  · obtain ⟨h1, h2⟩ := h2 y hy; simp [h1, h2]
theorem flat_mem (hA : WfA A roots loose) {r : Nat} {l : List Nat} (hl : ∀ y ∈ l, ∃ t, A y = some t) : ∀ y ∈ l.flatMap (allA A r), (eN E y).1 ∈ l.flatMap (wrd A E r) ∧ (eN E y).2 ∈ l.flatMap (wrd A E r) := fun y hy => by
  obtain ⟨k, hk, hy⟩ := List.mem_flatMap.1 hy
  obtain ⟨t, t1⟩ := hl k hk
  obtain ⟨h1, h2⟩ := wrd_mem (E := E) hA r k y t1 hy
  exact ⟨List.mem_flatMap.2 ⟨k, hk, h1⟩, List.mem_flatMap.2 ⟨k, hk, h2⟩⟩
theorem cut_list (hA : WfA A roots loose) : ∀ (r c : Nat) (l : List Nat), (∀ y ∈ l, ∃ t, A y = some t ∧ Ch A y c) → c + r = 66 → ∀ (i x : Nat), (l.flatMap (allA A r))[i]? = some x → Cut A E (l.flatMap (allA A r)) (l.flatMap (wrd A E r)) i x := by
  intro r
  induction r with
  | zero =>
    intro c l hl hc i x hx
    have : l.flatMap (allA A 0) = [] := by simp [allA]
    rw [this] at hx; simp at hx
  | succ r ihr =>
    intro c l
    induction l with
    | nil => intro _ _ i x hx; simp at hx
    | cons y l ihl =>
      intro hl hc i x hx
      obtain ⟨t, t1, t2⟩ := hl y (by simp)
      have hl2 : ∀ z ∈ l, ∃ t, A z = some t ∧ Ch A z c := fun z hz => hl z (by simp [hz])
      have hl3 : ∀ z ∈ l, ∃ t, A z = some t := fun z hz => by obtain ⟨t, h, _⟩ := hl2 z hz; exact ⟨t, h⟩
      have hm := flat_mem (E := E) (r := r + 1) hA hl3
      rw [List.flatMap_cons] at hx
      rw [List.flatMap_cons, List.flatMap_cons]
      by_cases hi : i < (allA A (r + 1) y).length
      · rw [List.getElem?_append_left hi] at hx
        cases i with
        | zero =>
          rw [allA_some t1] at hx
          obtain rfl : y = x := by simpa using hx
          exact ⟨[], l.flatMap (allA A (r + 1)), [], l.flatMap (wrd A E (r + 1)), r + 1, c, t, t1, t2, hc, by simp, rfl, by simp, hm⟩
        | succ i =>
          rw [allA_some t1, List.getElem?_cons_succ] at hx
          have := ihr (c + 1) t.kids (fun z hz => by
            obtain ⟨u, u1, u2⟩ := ((hA.kid y t t1).2 z hz).2
            exact ⟨u, u1, .succ (hA.ne0 u1) u1 (by rw [u2]; exact t2)⟩) (by omega) i x hx
          have h2 := this.more (L1 := [y]) (W1 := [(eN E y).1]) (L2 := l.flatMap (allA A (r + 1))) (W2 := [(eN E y).2] ++ l.flatMap (wrd A E (r + 1))) fun z hz => by
            obtain ⟨h1, h2⟩ := hm z hz; simp [h1, h2]
          rw [allA_some t1, wrd_some t1]
          have e1 : [y].length + i = i + 1 := by simp; omega
          rw [e1] at h2
          simpa using h2
      · rw [List.getElem?_append_right (by omega)] at hx
        have := ihl hl2 hc _ x hx
        have h2 := this.more (L1 := allA A (r + 1) y) (W1 := wrd A E (r + 1) y) (L2 := []) (W2 := []) (fun z hz => by simp at hz)
        rw [List.append_nil, List.append_nil] at h2
        have e1 : (allA A (r + 1) y).length + (i - (allA A (r + 1) y).length) = i := by omega
        rw [e1] at h2; exact h2
end
def lab (nms lbs : List Nat) (x : Nat) : Nat := lbs.getD (nms.idxOf x) 0
theorem lab_lt {nms lbs U V : List Nat} (hn : nms.Nodup) (hu : lbs.Pairwise (· < ·)) (hl : lbs.length = nms.length) (h : nms = U ++ V) {u v : Nat} (h1 : u ∈ U) (h2 : v ∈ V) : lab nms lbs u < lab nms lbs v := by
  have hn2 := hn
  rw [h] at hn2
  have hv : v ∉ U := fun e => (List.nodup_append.1 hn2).2.2 v e v h2 rfl
  have e1 : nms.idxOf u = U.idxOf u := by rw [h, List.idxOf_append, if_pos h1]
  have e2 : nms.idxOf v = U.length + V.idxOf v := by rw [h, List.idxOf_append, if_neg hv]; omega
  have l1 := List.idxOf_lt_length_iff.2 h1
  have l2 := List.idxOf_lt_length_iff.2 h2
  have hL : nms.length = U.length + V.length := by rw [h, List.length_append]
  unfold lab
  rw [e1, e2, List.getD_eq_getElem?_getD, List.getD_eq_getElem?_getD, List.getElem?_eq_getElem (by omega), List.getElem?_eq_getElem (by omega)]
  exact List.pairwise_iff_getElem.1 hu _ _ (by omega) (by omega) (by omega)
section
variable {D : Im} {E : Nat → Option (Nat × Nat)} {nms lbs : List Nat} {gv : Nat}
def bg (E : Nat → Option (Nat × Nat)) (nms lbs : List Nat) (x : Nat) : Nat := lab nms lbs (eN E x).1
def en (E : Nat → Option (Nat × Nat)) (nms lbs : List Nat) (x : Nat) : Nat := lab nms lbs (eN E x).2
abbrev allD' (D : Im) : List Nat := D.roots.flatMap (allA (slA D.sl) 65)
theorem allA_66 {A : Nat → Option Sl} {roots loose : List Nat} (hA : WfA A roots loose) {r x c : Nat} {s : Sl} (hs : A x = some s) (hc : Ch A x c) (hr : c + r = 66) : allA A r x = allA A 65 x := by
  obtain ⟨c', h1, h2⟩ := hA.chain x s hs
  have := hc.fn h2
  have c0 : 0 < c := by
    cases hc with
    | zero => exact absurd rfl (hA.ne0 hs)
    | succ _ _ _ => omega
  rw [← allA_fuel hA (65 - c) x c hs hc (by omega) r (by omega), ← allA_fuel hA (65 - c) x c hs hc (by omega) 65 (by omega)]
theorem lab_rel (hA : WfA (slA D.sl) D.roots []) (hI : TgI nms lbs gv) (hw : nms = 0 :: D.roots.flatMap (wrd (slA D.sl) E 65)) {i x : Nat} (hx : (allD' D)[i]? = some x) :
    bg E nms lbs x < en E nms lbs x ∧ ∀ (k y : Nat), (allD' D)[k]? = some y → i < k → (k < i + (allA (slA D.sl) 65 x).length → bg E nms lbs x < bg E nms lbs y ∧ en E nms lbs y < en E nms lbs x) ∧ (i + (allA (slA D.sl) 65 x).length ≤ k → en E nms lbs x < bg E nms lbs y) := by
  obtain ⟨P, Q, PW, QW, r, c, s, a1, a2, a3, a4, a5, a6, a7⟩ := cut_list (E := E) hA 65 1 D.roots (fun z hz => by
    obtain ⟨_, u, u1, u2⟩ := hA.root.2 z hz
    exact ⟨u, u1, .succ (hA.ne0 u1) u1 (by rw [u2]; exact .zero)⟩) rfl i x hx
  have hf := allA_66 hA a1 a2 a3
  obtain ⟨c', h1, h2⟩ := hA.chain x s a1
  have := a2.fn h2
  obtain ⟨r, rfl⟩ : ∃ r', r = r' + 1 := ⟨r - 1, by omega⟩
  rw [← hf]
  rw [a6, wrd_some a1] at hw
  have hlt := fun {U V : List Nat} (h : nms = U ++ V) {u v : Nat} (h1 : u ∈ U) (h2 : v ∈ V) => lab_lt hI.nd hI.up hI.len h h1 h2
  refine ⟨hlt (U := 0 :: PW ++ ((eN E x).1 :: s.kids.flatMap (wrd (slA D.sl) E r))) (V := (eN E x).2 :: QW) (by rw [hw]; simp) (by simp) (by simp), fun k y hy hik => ⟨fun hin => ?_, fun hout => ?_⟩⟩
  · have hL : allD' D = P ++ allA (slA D.sl) (r + 1) x ++ Q := a4
    rw [hL, List.append_assoc, List.getElem?_append_right (by omega), List.getElem?_append_left (by omega), allA_some a1, show k - P.length = (k - P.length - 1) + 1 by omega, List.getElem?_cons_succ] at hy
    obtain ⟨z, hz, hm⟩ := List.mem_flatMap.1 (List.mem_of_getElem? hy)
    obtain ⟨t, t1, t2⟩ := ((hA.kid x s a1).2 z hz).2
    obtain ⟨m1, m2⟩ := wrd_mem (E := E) hA r z y t1 hm
    have g1 := List.mem_flatMap.2 ⟨z, hz, m1⟩
    have g2 := List.mem_flatMap.2 ⟨z, hz, m2⟩
    exact ⟨hlt (U := 0 :: PW ++ [(eN E x).1]) (V := s.kids.flatMap (wrd (slA D.sl) E r) ++ [(eN E x).2] ++ QW) (by rw [hw]; simp) (by simp) (by simp [g1]),
      hlt (U := 0 :: PW ++ ((eN E x).1 :: s.kids.flatMap (wrd (slA D.sl) E r))) (V := (eN E x).2 :: QW) (by rw [hw]; simp) (by simp [g2]) (by simp)⟩
  · have hL : allD' D = P ++ allA (slA D.sl) (r + 1) x ++ Q := a4
    rw [hL, List.getElem?_append_right (by simp only [List.length_append]; omega)] at hy
    obtain ⟨q1, q2⟩ := a7 y (List.mem_of_getElem? hy)
    exact hlt (U := 0 :: PW ++ ((eN E x).1 :: s.kids.flatMap (wrd (slA D.sl) E r) ++ [(eN E x).2])) (V := QW) (by rw [hw]; simp) (by simp) q1
theorem in_iff (hA : WfA (slA D.sl) D.roots []) {i k x y : Nat} (hx : (allD' D)[i]? = some x) (hy : (allD' D)[k]? = some y) : y ∈ allA (slA D.sl) 65 x ↔ i ≤ k ∧ k < i + (allA (slA D.sl) 65 x).length := by
  obtain ⟨P, Q, PW, QW, r, c, s, a1, a2, a3, a4, a5, a6, a7⟩ := cut_list (E := fun _ => none) hA 65 1 D.roots (fun z hz => by
    obtain ⟨_, u, u1, u2⟩ := hA.root.2 z hz
    exact ⟨u, u1, .succ (hA.ne0 u1) u1 (by rw [u2]; exact .zero)⟩) rfl i x hx
  rw [allA_66 hA a1 a2 a3] at a4
  have hnd : (allD' D).Nodup := rootsAll_nodup hA
  have hL : allD' D = P ++ allA (slA D.sl) 65 x ++ Q := a4
  constructor
  · intro hm
    obtain ⟨j, hj⟩ := List.mem_iff_getElem?.1 hm
    have hjl := (List.getElem?_eq_some_iff.1 hj).1
    have : (allD' D)[i + j]? = some y := by
      rw [hL, List.append_assoc, List.getElem?_append_right (by omega), List.getElem?_append_left (by omega), show i + j - P.length = j by omega]; exact hj
    have := nd_get hnd this hy
    omega
  · rintro ⟨h1, h2⟩
    rw [hL, List.append_assoc, List.getElem?_append_right (by omega), List.getElem?_append_left (by omega)] at hy
    exact List.mem_of_getElem? hy
end
end Go.Proofs.YthbeeonmfbigcaaGreatDoor
/- AxisTree: of any two nodes, what their spans tell and what the tree tells, in plain. -/
namespace Go.Proofs.YthbeeonmfbigcaaGreatDoor
open Go.RowKit Go.Vc
set_option linter.unusedVariables false
set_option linter.unusedSimpArgs false
set_option maxRecDepth 100000
structure Nd (D : Im) (i x c : Nat) (s : Sl) : Prop where
  at_ : (allD' D)[i]? = some x
  sl : slA D.sl x = some s
  ch : Ch (slA D.sl) x c
def spn (E : Nat → Option (Nat × Nat)) (nms lbs : List Nat) (x c : Nat) : Sp3 := ((bg E nms lbs x : Nat), (en E nms lbs x : Nat), (c : Int) - 1)
abbrev szN (D : Im) (x : Nat) : Nat := (allA (slA D.sl) 65 x).length
section
variable {D : Im} {E : Nat → Option (Nat × Nat)} {nms lbs : List Nat} {gv : Nat} {i k x y cx cy : Nat} {sx sy : Sl}
theorem Nd.of (hA : WfA (slA D.sl) D.roots []) (h : (allD' D)[i]? = some x) : ∃ c s, c ≤ 64 ∧ Nd D i x c s := by
  obtain ⟨s, hs⟩ := (mem_all_roots hA).1 (List.mem_of_getElem? h)
  obtain ⟨c, c1, c2⟩ := hA.chain x s hs
  exact ⟨c, s, c1, h, hs, c2⟩
theorem Nd.pos (hA : WfA (slA D.sl) D.roots []) (h : Nd D i x cx sx) : 0 < cx := by
  cases h.ch with
  | zero => exact absurd rfl (hA.ne0 h.sl)
  | succ _ _ _ => omega
theorem Nd.sz (h : Nd D i x cx sx) : 0 < szN D x := by unfold szN; rw [allA_some h.sl]; simp
theorem Nd.par1 (hA : WfA (slA D.sl) D.roots []) (hx : Nd D i x cx sx) : sx.parent = 0 ↔ cx = 1 := by
  have hc := hx.ch
  cases hc with
  | zero => exact absurd rfl (hA.ne0 hx.sl)
  | @succ _ c s h0 h1 h2 =>
    rw [hx.sl] at h1; cases h1
    constructor
    · intro e; rw [e] at h2; have := h2.fn .zero; omega
    · intro e
      obtain rfl : c = 0 := by omega
      generalize sx.parent = p at h2
      cases h2; rfl
theorem par_iff (hA : WfA (slA D.sl) D.roots []) (hx : Nd D i x cx sx) (hy : Nd D k y cy sy) : sy.parent = x ↔ (i < k ∧ k < i + szN D x) ∧ cx + 1 = cy := by
  have hm := in_iff hA hx.at_ hy.at_
  obtain ⟨c', c1, c2⟩ := hA.chain x sx hx.sl
  have hnd : (allD' D).Nodup := rootsAll_nodup hA
  have hall := mem_allA hA 65 x y ⟨sx, hx.sl⟩ (fun z hz => by simp at hz)
  constructor
  · intro e
    have hd : De (slA D.sl) x y 1 := .up hy.sl (by rw [e]; exact .self)
    obtain ⟨h1, h2⟩ := hm.1 (hall.2 ⟨1, by omega, hd⟩)
    have h3 := (hd.ch hA.zero hx.ch).fn hy.ch
    refine ⟨⟨Nat.lt_of_le_of_ne h1 fun e2 => ?_, h2⟩, by omega⟩
    subst e2
    have : x = y := by have := hx.at_.symm.trans hy.at_; simpa using this
    subst this
    have := hx.ch.fn hy.ch
    omega
  · rintro ⟨⟨h1, h2⟩, h3⟩
    obtain ⟨d, _, hd⟩ := hall.1 (hm.2 ⟨by omega, h2⟩)
    have h4 := (hd.ch hA.zero hx.ch).fn hy.ch
    obtain rfl : d = 1 := by omega
    cases hd with
    | up ha h5 =>
      rw [hy.sl] at ha; cases ha
      cases h5; rfl
theorem pair_rel (hA : WfA (slA D.sl) D.roots []) (hI : TgI nms lbs gv) (hw : nms = 0 :: D.roots.flatMap (wrd (slA D.sl) E 65)) (hx : Nd D i x cx sx) (hy : Nd D k y cy sy) :
    selB (spn E nms lbs x cx) (spn E nms lbs y cy) = decide (i = k) ∧ ancB (spn E nms lbs x cx) (spn E nms lbs y cy) = decide (i < k ∧ k < i + szN D x) ∧ folB (spn E nms lbs y cy) (spn E nms lbs x cx) = decide (i + szN D x ≤ k) ∧
      parB (spn E nms lbs x cx) (spn E nms lbs y cy) = decide (sy.parent = x) := by
  obtain ⟨a1, a2⟩ := lab_rel hA hI hw hx.at_
  obtain ⟨b1, b2⟩ := lab_rel hA hI hw hy.at_
  have a2 := a2 k y hy.at_
  have b2 := b2 i x hx.at_
  have sx0 := hx.sz
  have sy0 := hy.sz
  have hp := par_iff hA hx hy
  have hxy : i = k → x = y := fun e => by subst e; have := hx.at_.symm.trans hy.at_; simpa using this
  have hin : k < i → i < k + szN D y ∨ k + szN D y ≤ i := fun _ => by omega
  have hin2 : i < k → k < i + szN D x ∨ i + szN D x ≤ k := fun _ => by omega
  unfold szN at *
  generalize (allA (slA D.sl) 65 x).length = m at *
  generalize (allA (slA D.sl) 65 y).length = n at *
  have hanc : ancB (spn E nms lbs x cx) (spn E nms lbs y cy) = decide (i < k ∧ k < i + m) := by
    unfold ancB spn
    dsimp only
    rw [← Bool.decide_and]
    refine decide_eq_decide.2 ⟨fun h => ?_, fun h => ?_⟩
    · rcases Nat.lt_trichotomy i k with h1 | h1 | h1
      · rcases hin2 h1 with h2 | h2
        · exact ⟨h1, h2⟩
        · have := (a2 h1).2 h2; omega
      · have := hxy h1; subst this; omega
      · rcases hin h1 with h2 | h2
        · have := (b2 h1).1 h2; omega
        · have := (b2 h1).2 h2; omega
    · have := (a2 h.1).1 h.2; omega
  refine ⟨?_, hanc, ?_, ?_⟩
  · unfold selB spn
    dsimp only
    rw [← Bool.decide_and]
    refine decide_eq_decide.2 ⟨fun h => ?_, fun h => ?_⟩
    · rcases Nat.lt_trichotomy i k with h1 | h1 | h1
      · rcases hin2 h1 with h2 | h2
        · have := (a2 h1).1 h2; omega
        · have := (a2 h1).2 h2; omega
      · exact h1
      · rcases hin h1 with h2 | h2
        · have := (b2 h1).1 h2; omega
        · have := (b2 h1).2 h2; omega
    · have := hxy h; subst this; exact ⟨rfl, rfl⟩
  · unfold folB spn
    dsimp only
    refine decide_eq_decide.2 ⟨fun h => ?_, fun h => ?_⟩
    · rcases Nat.lt_trichotomy i k with h1 | h1 | h1
      · rcases hin2 h1 with h2 | h2
        · have := (a2 h1).1 h2; omega
        · exact h2
      · have := hxy h1; subst this; omega
      · rcases hin h1 with h2 | h2
        · have := (b2 h1).1 h2; omega
        · have := (b2 h1).2 h2; omega
    · have := (a2 (by omega)).2 h; omega
  · unfold parB
    rw [hanc]
    rw [← Bool.decide_and]
    refine decide_eq_decide.2 ⟨fun h => ?_, fun h => ?_⟩
    · refine hp.2 ⟨h.1, ?_⟩
      have := h.2; unfold spn at this; simp only at this; omega
    · obtain ⟨h1, h2⟩ := hp.1 h
      refine ⟨h1, ?_⟩
      unfold spn; simp only; omega
theorem sib_rel (hA : WfA (slA D.sl) D.roots []) (hI : TgI nms lbs gv) (hw : nms = 0 :: D.roots.flatMap (wrd (slA D.sl) E 65)) (hx : Nd D i x cx sx) (hy : Nd D k y cy sy) {q : Sp3}
    (hq : sy.parent ≠ 0 → ∃ c, Ch (slA D.sl) sy.parent c ∧ q = spn E nms lbs sy.parent c) : sibB (spn E nms lbs x cx) (spn E nms lbs y cy) q (decide (sy.parent = 0)) = decide (sx.parent = sy.parent) := by
  have p1 := hx.par1 hA
  have p2 := hy.par1 hA
  have c0 := hx.pos hA
  have c1 := hy.pos hA
  unfold sibB
  by_cases h0 : sy.parent = 0
  · rw [if_pos (by simpa using h0), ← Bool.decide_and, h0]
    refine decide_eq_decide.2 ⟨fun h => ?_, fun h => ?_⟩
    · have := h.1; unfold spn at this; simp only at this; exact p1.2 (by omega)
    · have e1 := p1.1 h
      have e2 := p2.1 h0
      unfold spn; simp only; omega
  · rw [if_neg (by simpa using h0)]
    obtain ⟨c, hc, rfl⟩ := hq h0
    obtain ⟨t, ht, _⟩ := (hA.par y sy hy.sl).resolve_left h0
    obtain ⟨j, hj⟩ := List.mem_iff_getElem?.1 ((mem_all_roots (roots := D.roots) hA).2 ⟨t, ht⟩)
    have hN : Nd D j sy.parent c t := ⟨hj, ht, hc⟩
    rw [(pair_rel hA hI hw hN hy).2.2.2, (pair_rel hA hI hw hN hx).2.2.2]
    simp
theorem sib_fol (hA : WfA (slA D.sl) D.roots []) (hI : TgI nms lbs gv) (hw : nms = 0 :: D.roots.flatMap (wrd (slA D.sl) E 65)) (hx : Nd D i x cx sx) (hy : Nd D k y cy sy) (hs : sx.parent = sy.parent) :
    folB (spn E nms lbs y cy) (spn E nms lbs x cx) = decide (i < k) := by
  rw [(pair_rel hA hI hw hx hy).2.2.1]
  have s0 := hx.sz
  refine decide_eq_decide.2 ⟨fun h => by omega, fun h => ?_⟩
  apply Classical.byContradiction
  intro hn
  have hm := (in_iff hA hx.at_ hy.at_).2 ⟨by omega, by unfold szN at hn; omega⟩
  obtain ⟨d, _, hd⟩ := (mem_allA hA 65 x y ⟨sx, hx.sl⟩ (fun z hz => by simp at hz)).1 hm
  have h4 := (hd.ch hA.zero hx.ch).fn hy.ch
  have h5 : cx = cy := by
    have h1 := hx.ch
    have h2 := hy.ch
    cases h1 with
    | zero => exact absurd rfl (hA.ne0 hx.sl)
    | succ _ e1 f1 =>
      rw [hx.sl] at e1; cases e1
      cases h2 with
      | zero => exact absurd rfl (hA.ne0 hy.sl)
      | succ _ e2 f2 =>
        rw [hy.sl] at e2; cases e2
        rw [hs] at f1
        have := f1.fn f2; omega
  obtain rfl : d = 0 := by omega
  have hnd : (allD' D).Nodup := rootsAll_nodup hA
  cases hd
  have := nd_get hnd hx.at_ hy.at_
  omega
end
end Go.Proofs.YthbeeonmfbigcaaGreatDoor
/- Empty documents: with labels, and the reference's. -/
namespace Go.Proofs.YthbeeonmfbigcaaGreatDoor
open Go.RowKit Go.Vc
set_option linter.unusedVariables false
set_option linter.unusedSimpArgs false
set_option maxRecDepth 100000
section
variable {w : World} {g : Nat}
def S0 : PS := ⟨⟨[], []⟩, [], 0, 0, 0⟩
theorem pm_zero {ty : TypeId} {tl : List Value} (hB : Blk w g (docC (none, 0, 0) (none, 0, 0) 0 0 0 tl) ty) : PM w (fun b => if b = g then 1 else 0) ⟨g, ty, tl⟩ S0 := by
  refine ⟨if_pos rfl, fun b hb => ?_, rfl, by decide, fun i b hb => (by cases hb), ⟨(none, 0, 0), (none, 0, 0), hB, .inl ⟨rfl, rfl⟩, fun x hx => (by cases hx), .inl ⟨rfl, rfl⟩, fun x hx => (by cases hx)⟩, fun i b s hb => (by cases hb), fun s hs => (by cases hs), ⟨fun h hh => (by cases hh), by decide⟩, by decide⟩
  have hb : (if b = g then 1 else 0) ≠ 0 := hb
  by_cases e : b = g
  · rw [e]; exact hB.lt
  · rw [if_neg e] at hb; exact absurd rfl hb
theorem pi_zero : PI S0 := ⟨rfl, rfl, by decide, fun j t hj ht => (by cases ht)⟩
theorem ld_zero (hB : Blk w g #[.slice none 0 0, .slice none 0 0, .int .i64 0, .int .i64 0, .int .i64 0, .map none, .pointer none, .int .u64 0, .int .u64 0, .map none] 34) : LD 0 g 34 w (fun b => if b = g then 1 else 0) ⟨[], []⟩ := by
  have hn : ∀ y, slA ([] : List Sl) y = none := fun y => by
    cases h : slA ([] : List Sl) y with
    | none => rfl
    | some s =>
      obtain ⟨k, _, h2, _⟩ := slA_iff.1 h
      cases h2
  refine ⟨S0, [0], 0, fun _ => none, rfl, ⟨.inr ⟨⟨pm_zero hB⟩, rfl, rfl, fun _ => rfl⟩, pi_zero, rfl, fun y hy => absurd rfl hy, fun y s hs => ?_, by decide⟩⟩
  have hs : slA ([] : List Sl) y = some s := hs
  rw [hn] at hs; cases hs
theorem rm_zero {ok : Nat → Bool} (hB : Blk w g #[.slice none 0 0, .slice none 0 0] 39) : RM ok w g ⟨[], []⟩ (none, 0, 0) (none, 0, 0) :=
  ⟨hB, ⟨by decide, ⟨[], rfl, Rd.nil _ _, rfl⟩, rr_none _ _, fun s hs => (by cases hs), fun h hh => (by cases hh)⟩, by decide⟩
end
end Go.Proofs.YthbeeonmfbigcaaGreatDoor
/- AxisTree: of any two nodes all tests, by the program. -/
namespace Go.Proofs.YthbeeonmfbigcaaGreatDoor
open Go.RowKit Go.Vc
set_option linter.unusedVariables false
set_option linter.unusedSimpArgs false
set_option maxRecDepth 100000
structure Asks (w : World) (gp gd : Nat) (D : Im) (E : Nat → Option (Nat × Nat)) (nms lbs : List Nat) (gv : Nat) (vs vr : Sv) (es : List S8) : Prop where
  wf : Wf D
  i : TgI nms lbs gv
  word : nms = 0 :: D.roots.flatMap (wrd (slA D.sl) E 65)
  r : RW [] w gd D vs vr es
  span : ∀ {x c : Nat} {s : Sl} {w1 : World} {R : Ending → World → Prop}, slA D.sl x = some s → Ch (slA D.sl) x c → c ≤ 64 → Below w.heap.size w w1 →
    (∀ w', Below w1.heap.size w1 w' → R (.returned (.tuple #[sp3 (spn E nms lbs x c), .int .i64 0])) w') → Calls Tryz.prog 6 #[.pointer (some ⟨gp, 0, none⟩), .int .u64 (x : Nat)] w1 R
theorem Asks.of {k g gd : Nat} {w : World} {o : Nat → Nat} {D : Im} {vs vr : Sv} {es : List S8} (hL : LD k g 34 w o D) (hw : Wf D) (hr : RW [] w gd D vs vr es) : ∃ E nms lbs gv, Asks w g gd D E nms lbs gv vs vr es := by
  obtain ⟨S, nms, gv, E, rfl, h⟩ := hL
  have hword := h.word
  have hd2 := h.def2
  obtain ⟨lbs, hI, hM⟩ : ∃ lbs, TgI nms lbs gv ∧ ∀ y, E y ≠ none → ∃ bs mb wr em, LM w o g 34 S bs nms lbs mb gv wr em E := by
    rcases h.x with ⟨bs, lbs, mb, wr, em, h⟩ | ⟨h, rfl, rfl, h2⟩
    · exact ⟨lbs, h.i, fun _ _ => ⟨bs, mb, wr, em, h⟩⟩
    · exact ⟨_, one_I, fun y hy => absurd (h2 y) hy⟩
  refine ⟨E, nms, lbs, gv, hw, hI, hword, hr, ?_⟩
  intro x c s w1 R hs hc hc2 hb hK
  have hE := hd2 x s hs
  obtain ⟨bs, mb, wr, em, hm⟩ := hM x hE
  obtain ⟨⟨b, e⟩, hbe⟩ := Option.ne_none_iff_exists'.1 hE
  have heN : eN E x = (b, e) := by unfold eN; rw [hbe]; rfl
  have hin : x ∈ S.D.roots.flatMap (allA (slA S.D.sl) 65) := (mem_all_roots hw.a).2 ⟨s, hs⟩
  obtain ⟨m1, m2⟩ := flat_mem (E := E) (r := 65) hw.a (fun y hy => by obtain ⟨_, t, t1, _⟩ := hw.a.root.2 y hy; exact ⟨t, t1⟩) x hin
  rw [heN] at m1 m2
  have n1 : b ∈ nms := by rw [hword]; exact List.mem_cons_of_mem _ m1
  have n2 : e ∈ nms := by rw [hword]; exact List.mem_cons_of_mem _ m2
  have l1 := List.idxOf_lt_length_iff.2 n1
  have l2 := List.idxOf_lt_length_iff.2 n2
  have hl := hI.len
  refine Span_calls (hm.below hb) hw.a hs hc hc2 hbe (i := nms.idxOf b) (j := nms.idxOf e) (l := lbs.getD (nms.idxOf b) 0) (m := lbs.getD (nms.idxOf e) 0) ((idx_iff hI.nd).2 ⟨n1, rfl⟩) ((idx_iff hI.nd).2 ⟨n2, rfl⟩)
    (by rw [List.getD_eq_getElem?_getD, List.getElem?_eq_getElem (by omega)]; rfl) (by rw [List.getD_eq_getElem?_getD, List.getElem?_eq_getElem (by omega)]; rfl) fun w' hb' => ?_
  have := hK w' hb'
  unfold sp3 spn bg en lab at this
  rw [heN] at this
  exact this
section
variable {w w0 : World} {gp gd : Nat} {D : Im} {E : Nat → Option (Nat × Nat)} {nms lbs : List Nat} {gv : Nat} {vs vr : Sv} {es : List S8} {R : Ending → World → Prop} {i k x y cx cy : Nat} {sx sy : Sl}
theorem parR2 (h : RW [] w gd D vs vr es) {x : Nat} {s : Sl} (hs : slA D.sl x = some s) (hx : x < 18446744073709551616) (hK : R (.returned (.tuple #[.int .u64 (s.parent : Nat), .int .i64 0])) w) : Calls Tryz.prog 7 #[.pointer (some ⟨gd, 0, none⟩), .int .u64 (x : Nat)] w R := by
  refine ok7 (some ⟨gd, 0, none⟩) x ?_
  unfold F7
  obtain ⟨k, ha, hk⟩ := atF_slA hs
  obtain ⟨hk, e⟩ := List.getElem?_eq_some_iff.1 hk
  refine atW h hx ⟨_, rfl, ?_⟩
  rw [ha]
  refine brd (fun h0 => absurd h0 (by simp [atI])) fun _ => ?_
  simp only [NonNil_some, h.c0, atI, Addr.add_mk, List.getElem?_toArray, List.getElem?_cons_zero, List.getElem?_cons_succ, LdI_some, LdB_some, LdStr_some, LdP_some, LdSl_some, LdM_some, Nat.zero_add, Br_t, Br_f]
  refine h.slot rfl hk fun b o e9 _ _ _ c0 c1 c2 c4 c6 c7 => ?_
  simp only [Addr.add_mk, c6, Addr.add_mk, List.getElem?_toArray, List.getElem?_cons_zero, List.getElem?_cons_succ, LdI_some, LdB_some, LdStr_some, LdP_some, LdSl_some, LdM_some, Nat.zero_add, Br_t, Br_f]
  rw [e]
  exact hK
theorem sibR (h : RW [] w gd D vs vr es) {x y : Nat} {s t : Sl} (hs : slA D.sl x = some s) (ht : slA D.sl y = some t) (hx : x < 18446744073709551616) (hy : y < 18446744073709551616) (hK : R (.returned (.tuple #[.int .u64 (t.parent : Nat), .bool (decide (s.parent = t.parent))])) w) :
    Calls Tryz.prog 15 #[.pointer (some ⟨gd, 0, none⟩), .int .u64 (x : Nat), .int .u64 (y : Nat)] w R := by
  refine ok15 (some ⟨gd, 0, none⟩) x y ?_
  unfold F15
  refine parR2 h hs hx ⟨_, _, rfl, parR2 h ht hy ⟨_, _, rfl, ?_⟩⟩
  have : (((s.parent : Nat) : Int) == ((t.parent : Nat) : Int)) = decide (s.parent = t.parent) := by
    rw [Bool.eq_iff_iff, beq_iff_eq, decide_eq_true_eq]; omega
  rw [this]; exact hK
theorem cast_beq (a b : Nat) : (((a : Nat) : Int) == ((b : Nat) : Int)) = decide (a = b) := by rw [Bool.eq_iff_iff, beq_iff_eq, decide_eq_true_eq]; omega
theorem bx_self (b : Bool) : (!(b == b)) = false := by cases b <;> rfl
theorem Nd.lt (h : RW [] w gd D vs vr es) (hx : Nd D i x cx sx) : x < 18446744073709551616 := hnd_lt h.ok h.few hx.sl
theorem pair_calls (h : Asks w0 gp gd D E nms lbs gv vs vr es) {A : Option Addr} {n c : Nat} (hn : n = (allD' D).length) (hrd : Rd LHn w0 A c (allD' D)) (hx : Nd D i x cx sx) (hcx : cx ≤ 64) {ga : Nat} (hb0 : Below w0.heap.size w0 w)
    (ba : Blk w ga #[.int .u64 (spn E nms lbs x cx).1, .int .u64 (spn E nms lbs x cx).2.1, .int .i64 (spn E nms lbs x cx).2.2] 52) (hk : k < (allD' D).length) {L : Int → World → Prop} (hL : ∀ w', Below w.heap.size w w' → L ((k : Int) + 1) w') :
    F3_j16 ⟨gp, 0, none⟩ ⟨gd, 0, none⟩ A n (i : Int) (szN D x) 0 ⟨ga, 0, none⟩ L (k : Int) w R := by
  unfold F3_j16
  have hwA := h.wf.a
  have hfew := rootsAll_few h.wf.s hwA
  have hi : i < (allD' D).length := (List.getElem?_eq_some_iff.1 hx.at_).1
  have hfew : (allD' D).length ≤ 4096 := hfew
  have hgx : (allD' D)[i] = x := (List.getElem?_eq_some_iff.1 hx.at_).2
  refine ⟨fun w' => Below w.heap.size w w', fun w' hb => ⟨inR_i64 (by omega) (by omega), hL w' hb⟩, ?_⟩
  obtain ⟨cy, sy, hcy, hy⟩ := Nd.of hwA (List.getElem?_eq_getElem hk)
  refine (hrd.keep hb0).hn hn rfl hk fun b o c0 => ?_
  simp only [c0, Addr.add_mk, List.getElem?_toArray, List.getElem?_cons_zero, List.getElem?_cons_succ, LdI_some, LdB_some, LdStr_some, LdP_some, LdSl_some, LdM_some, Nat.zero_add, Br_t, Br_f]
  generalize hgy : (allD' D)[k] = y at *
  obtain ⟨q1, q2, q3, q4⟩ := pair_rel hwA h.i h.word hx hy
  obtain ⟨r1, r2, r3, r4⟩ := pair_rel hwA h.i h.word hy hx
  have hxl := hx.lt h.r
  have hyl := hy.lt h.r
  have lvx : LvOk (spn E nms lbs x cx) := by have := hx.pos hwA; unfold LvOk spn; dsimp only; omega
  have lvy : LvOk (spn E nms lbs y cy) := by have := hy.pos hwA; unfold LvOk spn; dsimp only; omega
  have hszx : szN D x ≤ 4096 := all_few h.wf.s hwA ⟨sx, hx.sl⟩
  have hszy : szN D y ≤ 4096 := all_few h.wf.s hwA ⟨sy, hy.sl⟩
  have s0x := hx.sz
  have s0y := hy.sz
  refine h.span hy.sl hy.ch hcy hb0 fun w1 hb1 => ⟨_, _, _, _, rfl, ?_⟩
  have B1 := btr hb0 hb0.size hb1
  refine al3 fun gb w2 hb2 bb hgeb => ?_
  have B2 := btr B1 B1.size hb2
  have D2 := btr hb1 hb1.size hb2
  have ba2 := ba.keep D2
  refine ⟨fun w' => w' = w2, ?_, brn (fun e => absurd rfl e) fun _ => brn (fun e => absurd rfl e) fun _ => rfl⟩
  rintro w3 rfl
  unfold F3_j19
  refine ⟨fun ins ah w' => w' = w3 ∧ ins = decide (i < k ∧ k < i + szN D x) ∧ ah = decide (i + szN D x ≤ k), ?_, ?_⟩
  rotate_left
  · have e3 : decide ((k : Int) ≥ (i : Int) + ((szN D x : Nat) : Int)) = decide (i + szN D x ≤ k) := decide_eq_decide.2 (by omega)
    refine brd (fun hki => ⟨inR_i64 (by omega) (by omega), inR_i64 (by omega) (by omega), rfl, ?_, e3⟩) fun hki => ⟨inR_i64 (by omega) (by omega), rfl, ?_, e3⟩
    · exact decide_eq_decide.2 (by omega)
    · rw [decide_eq_false (by omega)]
  rintro _ _ w4 ⟨rfl, rfl, rfl⟩
  unfold F3_j20
  have hrd2 := hrd.keep B2
  have hr2 := h.r.keep B2
  refine hrd2.hn hn rfl hk fun b1 o1 c1 => ?_
  rw [hgy] at c1
  simp only [c1, Addr.add_mk, List.getElem?_toArray, List.getElem?_cons_zero, List.getElem?_cons_succ, LdI_some, LdB_some, LdStr_some, LdP_some, LdSl_some, LdM_some, Nat.zero_add, Br_t, Br_f]
  refine parR2 hr2 hy.sl hyl ⟨_, _, rfl, ?_⟩
  refine hrd2.hn hn rfl hi fun b3 o3 c3 => ?_
  rw [hgx] at c3
  simp only [c3, Addr.add_mk, List.getElem?_toArray, List.getElem?_cons_zero, List.getElem?_cons_succ, LdI_some, LdB_some, LdStr_some, LdP_some, LdSl_some, LdM_some, Nat.zero_add, Br_t, Br_f]
  refine parR2 hr2 hx.sl hxl ⟨_, _, rfl, ?_⟩
  refine hrd2.hn hn rfl hk fun b5 o5 c5 => ?_
  rw [hgy] at c5
  simp only [c5, Addr.add_mk, List.getElem?_toArray, List.getElem?_cons_zero, List.getElem?_cons_succ, LdI_some, LdB_some, LdStr_some, LdP_some, LdSl_some, LdM_some, Nat.zero_add, Br_t, Br_f]
  refine AllW hr2 h.wf hyl fun v w5 hb5 ov _ => ?_
  have hy0 := hwA.ne0 hy.sl
  have ov := ov (.inr ⟨sy, hy.sl⟩)
  have hvn : v.2.1 = szN D y := by
    obtain ⟨A', c', hvf, hvr⟩ := ov.form
    rw [slv_form hvf]
    unfold allI
    rw [if_neg hy0]
  refine ⟨_, _, _, _, rfl, ?_⟩
  rw [hvn]
  refine ⟨fun ct w' => w' = w5 ∧ ct = decide (k < i ∧ i < k + szN D y), ?_, ?_⟩
  rotate_left
  · refine brd (fun hki => ⟨inR_i64 (by omega) (by omega), rfl, ?_⟩) fun hki => ⟨rfl, ?_⟩
    · exact decide_eq_decide.2 (by omega)
    · rw [decide_eq_false (by omega)]
  rintro _ w6 ⟨rfl, rfl⟩
  have B6 := btr B2 B2.size hb5
  have D6 := btr D2 D2.size hb5
  unfold F3_j24
  refine ⟨fun w' => Below w6.heap.size w6 w', ?_, ?_⟩
  · intro w7 hb7
    have B7 := btr B6 B6.size hb7
    have D7 := btr D6 D6.size hb7
    unfold F3_j26
    have hdr : Below w7.heap.size w7 w7.drew := (Below.refl _ _).drew
    have hrd7 := hrd.keep B7
    refine ⟨fun w' => Below w7.heap.size w7 w', hdr, ?_⟩
    refine hrd7.hnH (fun _ h => h) hn rfl hi fun b8 o8 c8 => ?_
    rw [hgx] at c8
    refine ⟨_, c8, ?_⟩
    refine hrd7.hnH (fun _ h => h) hn rfl hk fun b9 o9 c9 => ?_
    rw [hgy] at c9
    refine ⟨_, c9, ?_⟩
    have B7d := btr B7 B7.size hdr
    have D7d := btr D7 D7.size hdr
    refine sibR (h.r.keep B7d) hx.sl hy.sl hxl hyl ⟨_, _, rfl, ?_⟩
    refine al3 fun gs w8 hb8 bs hges => ?_
    have B8 := btr B7d B7d.size hb8
    have D8 := btr D7d D7d.size hb8
    refine ⟨fun w' => Below w7.drew.heap.size w7.drew w' ∧ ∃ q : Sp3, Blk w' gs #[.int .u64 q.1, .int .u64 q.2.1, .int .i64 q.2.2] 52 ∧ LvOk q ∧ (sy.parent ≠ 0 → ∃ c, Ch (slA D.sl) sy.parent c ∧ q = spn E nms lbs sy.parent c), ?_, ?_⟩
    · rintro w9 ⟨hb9, q, bq, lq, hq⟩
      have B9 := btr B7d B7d.size hb9
      have D9 := btr D7d D7d.size hb9
      have hsib := sib_rel hwA h.i h.word hx hy hq
      unfold F3_j30
      have ba9 := ba.keep D9
      have bb9 := (((bb.keep hb5).keep hb7).keep hdr).keep hb9
      have hroot : (((sy.parent : Nat) : Int) == (0 : Int)) = decide (sy.parent = 0) := cast_beq sy.parent 0
      simp only [Addr.add_mk, Nat.zero_add, ba9.cell, bb9.cell, bq.cell, List.getElem?_toArray, List.getElem?_cons_zero, List.getElem?_cons_succ, hroot, Addr.add_mk, List.getElem?_toArray, List.getElem?_cons_zero, List.getElem?_cons_succ, LdI_some, LdB_some, LdStr_some, LdP_some, LdSl_some, LdM_some, Nat.zero_add, Br_t, Br_f]
      refine folS_calls (a := spn E nms lbs x cx) (b := spn E nms lbs y cy) (p := q) lq fun w10 hb10 => ⟨_, rfl, ?_⟩
      rw [hsib]
      have B10 := btr B9 B9.size hb10
      have D10 := btr D9 D9.size hb10
      have ba10 := ba9.keep hb10
      have bb10 := bb9.keep hb10
      have bq10 := bq.keep hb10
      have rest : ∀ {e : Bool}, (folB (spn E nms lbs y cy) (spn E nms lbs x cx) && decide (sx.parent = sy.parent)) = e → ∀ {Z : World → Prop}, (∀ w', Below w.heap.size w w' → Z w') → 
          Calls Tryz.prog 17 #[sp3 (spn E nms lbs x cx), sp3 (spn E nms lbs y cy), sp3 q, .bool (decide (sy.parent = 0))] w10 (post R fun v10 w1_25 => ∃ (x267 : Bool), v10 = (.bool x267) ∧ Br (!(x267 == e)) (R (.returned (.bool false)) w1_25) (Z w1_25)) := fun {e} he {Z} hZ => by
        refine preS_calls (a := spn E nms lbs x cx) (b := spn E nms lbs y cy) (p := q) lq fun w11 hb11 => ⟨_, rfl, ?_⟩
        rw [hsib, he, bx_self, Br_f]
        exact hZ w11 (btr D10 D10.size hb11)
      by_cases hs : sx.parent = sy.parent
      · have f1 := sib_fol hwA h.i h.word hx hy hs
        have f2 := sib_fol hwA h.i h.word hy hx hs.symm
        have e1 : decide ((i : Int) > (k : Int)) = decide (k < i) := decide_eq_decide.2 (by omega)
        have e2 : decide ((i : Int) < (k : Int)) = decide (i < k) := decide_eq_decide.2 (by omega)
        rw [decide_eq_true hs, Bool.and_true, f2, Br_t, e1, bx_self, Br_f]
        simp only [Addr.add_mk, Nat.zero_add, ba10.cell, bb10.cell, bq10.cell, List.getElem?_toArray, List.getElem?_cons_zero, List.getElem?_cons_succ, e2, Addr.add_mk, List.getElem?_toArray, List.getElem?_cons_zero, List.getElem?_cons_succ, LdI_some, LdB_some, LdStr_some, LdP_some, LdSl_some, LdM_some, Nat.zero_add, Br_t, Br_f]
        exact rest (by rw [decide_eq_true hs, Bool.and_true, f1]) fun w' hb => hb
      · rw [decide_eq_false hs, Bool.and_false, Br_f, bx_self, Br_f]
        simp only [Addr.add_mk, Nat.zero_add, ba10.cell, bb10.cell, bq10.cell, List.getElem?_toArray, List.getElem?_cons_zero, List.getElem?_cons_succ, Addr.add_mk, List.getElem?_toArray, List.getElem?_cons_zero, List.getElem?_cons_succ, LdI_some, LdB_some, LdStr_some, LdP_some, LdSl_some, LdM_some, Nat.zero_add, Br_t, Br_f]
        exact rest (by rw [decide_eq_false hs, Bool.and_false]) fun w' hb => hb
    · refine brn (fun h0 => ?_) fun h0 => ⟨hb8, ((0 : Int), (0 : Int), (0 : Int)), bs, by unfold LvOk; decide, fun h1 => absurd h0 (by omega)⟩
      have h0 : sy.parent ≠ 0 := by omega
      obtain ⟨t, ht, _⟩ := (hwA.par y sy hy.sl).resolve_left h0
      obtain ⟨cp, cp1, cp2⟩ := hwA.chain _ t ht
      have cp0 : 0 < cp := by
        generalize sy.parent = pp at cp2 h0
        cases cp2 with
        | zero => exact absurd rfl h0
        | succ _ _ _ => omega
      refine h.span ht cp2 cp1 B8 fun w9 hb9 => ⟨_, _, _, _, rfl, ?_⟩
      refine st_blk (bs.keep hb9) (by simp) fun u1 p1 f1 => st_blk p1 (by simp) fun u2 p2 f2 => st_blk p2 (by simp) fun u3 p3 f3 => ?_
      simp only [List.setIfInBounds_toArray, List.set_cons_zero, List.set_cons_succ] at p3
      have F3 : Fm (· = gs) w9 u3 := (f1.trans f2).trans f3
      have hb9' := btr hb8 hb8.size hb9
      refine ⟨hb9'.trans (F3.toBelow hb9'.size fun b hb e => by have e : b = gs := e; omega), spn E nms lbs sy.parent cp, p3, by unfold LvOk spn; dsimp only; omega, fun _ => ⟨cp, cp2, rfl⟩⟩
  · have hdr : Below w6.heap.size w6 w6.drew := (Below.refl _ _).drew
    have ba6 := ba2.keep hb5
    have bb6 := bb.keep hb5
    have hrd6 := hrd.keep B6
    refine ⟨fun w' => Below w6.heap.size w6 w', hdr, ?_⟩
    simp only [Addr.add_mk, Nat.zero_add]
    have hA0 : Held (fun w' => Below w6.heap.size w6 w') ⟨ga, 0, none⟩ (.int .u64 (spn E nms lbs x cx).1) := fun w' hw => by rw [(ba6.keep hw).cell]; rfl
    have hA1 : Held (fun w' => Below w6.heap.size w6 w') ⟨ga, 1, none⟩ (.int .u64 (spn E nms lbs x cx).2.1) := fun w' hw => by rw [(ba6.keep hw).cell]; rfl
    have hA2 : Held (fun w' => Below w6.heap.size w6 w') ⟨ga, 2, none⟩ (.int .i64 (spn E nms lbs x cx).2.2) := fun w' hw => by rw [(ba6.keep hw).cell]; rfl
    have hB0 : Held (fun w' => Below w6.heap.size w6 w') ⟨gb, 0, none⟩ (.int .u64 (spn E nms lbs y cy).1) := fun w' hw => by rw [(bb6.keep hw).cell]; rfl
    have hB1 : Held (fun w' => Below w6.heap.size w6 w') ⟨gb, 1, none⟩ (.int .u64 (spn E nms lbs y cy).2.1) := fun w' hw => by rw [(bb6.keep hw).cell]; rfl
    have hB2 : Held (fun w' => Below w6.heap.size w6 w') ⟨gb, 2, none⟩ (.int .i64 (spn E nms lbs y cy).2.2) := fun w' hw => by rw [(bb6.keep hw).cell]; rfl
    refine ⟨_, hA0, _, hA1, _, hA2, _, hB0, _, hB1, _, hB2, ?_⟩
    refine selfA_calls (a := spn E nms lbs x cx) (b := spn E nms lbs y cy) fun v1 g1 => ⟨_, rfl, ?_⟩
    have G1 := hdr.trans g1
    refine ⟨G1, ?_⟩
    rw [q1, cast_beq i k, bx_self, Br_f]
    refine ⟨_, hA0, _, hA1, _, hA2, _, hB0, _, hB1, _, hB2, ?_⟩
    refine anc_calls (a := spn E nms lbs x cx) (b := spn E nms lbs y cy) fun v2 g2 => ⟨_, rfl, ?_⟩
    have G2 := btr G1 G1.size g2
    refine ⟨G2, ?_⟩
    rw [q2, bx_self, Br_f]
    refine ⟨_, hA0, _, hA1, _, hA2, _, hB0, _, hB1, _, hB2, ?_⟩
    refine desc_calls (a := spn E nms lbs x cx) (b := spn E nms lbs y cy) fun v3 g3 => ⟨_, rfl, ?_⟩
    have G3 := btr G2 G2.size g3
    refine ⟨G3, ?_⟩
    rw [r2, bx_self, Br_f]
    refine ⟨_, hA0, _, hA1, _, hA2, _, hB0, _, hB1, _, hB2, ?_⟩
    refine hrd6.hnH (fun _ h => h) hn rfl hi fun b8 o8 c8 => ?_
    rw [hgx] at c8
    refine ⟨_, c8, ?_⟩
    refine parA_calls (a := spn E nms lbs x cx) (b := spn E nms lbs y cy) lvx fun v4 g4 => ⟨_, rfl, ?_⟩
    have G4 := btr G3 G3.size g4
    refine ⟨G4, ?_⟩
    rw [q4, cast_beq, bx_self, Br_f]
    refine ⟨_, hA0, _, hA1, _, hA2, _, hB0, _, hB1, _, hB2, ?_⟩
    refine hrd6.hnH (fun _ h => h) hn rfl hk fun b9 o9 c9 => ?_
    rw [hgy] at c9
    refine ⟨_, c9, ?_⟩
    refine child_calls (a := spn E nms lbs x cx) (b := spn E nms lbs y cy) lvy fun v5 g5 => ⟨_, rfl, ?_⟩
    have G5 := btr G4 G4.size g5
    refine ⟨G5, ?_⟩
    rw [r4, cast_beq, bx_self, Br_f]
    refine ⟨_, hA0, _, hA1, _, hA2, _, hB0, _, hB1, _, hB2, ?_⟩
    refine prec_calls (a := spn E nms lbs x cx) (b := spn E nms lbs y cy) fun v6 g6 => ⟨_, rfl, ?_⟩
    have G6 := btr G5 G5.size g6
    refine ⟨G6, ?_⟩
    rw [q3, bx_self, Br_f]
    refine ⟨_, hA0, _, hA1, _, hA2, _, hB0, _, hB1, _, hB2, inR_i64 (by omega) (by omega), ?_⟩
    refine fol_calls (a := spn E nms lbs x cx) (b := spn E nms lbs y cy) fun v7 g7 => ⟨_, rfl, ?_⟩
    have G7 := btr G6 G6.size g7
    have e7 : decide ((i : Int) ≥ (k : Int) + ((szN D y : Nat) : Int)) = decide (k + szN D y ≤ i) := decide_eq_decide.2 (by omega)
    rw [r3, e7, bx_self, Br_f]
    exact G7
end
end Go.Proofs.YthbeeonmfbigcaaGreatDoor
/- AxisTree: the law. -/
namespace Go.Proofs.YthbeeonmfbigcaaGreatDoor
open Go.RowKit Go.Vc
set_option linter.unusedVariables false
set_option linter.unusedSimpArgs false
set_option maxRecDepth 100000
section
variable {w w0 : World} {gp gd : Nat} {D : Im} {E : Nat → Option (Nat × Nat)} {nms lbs : List Nat} {gv : Nat} {vs vr : Sv} {es : List S8} {R : Ending → World → Prop}
theorem pairs_calls (h : Asks w0 gp gd D E nms lbs gv vs vr es) {A : Option Addr} {n c : Nat} (hn : n = (allD' D).length) (hrd : Rd LHn w0 A c (allD' D)) {J : World → Prop} (hJ : ∀ w', Below w0.heap.size w0 w' → J w') :
    ∃ (I : Int → World → Prop) (m : Int → World → Nat), I (0 : Int) w0 ∧
      ∀ (i2 : Int) (w1_4 : World), I i2 w1_4 → F3_l9 ⟨gp, 0, none⟩ ⟨gd, 0, none⟩ A n J (fun i2' w2 => I i2' w2 ∧ m i2' w2 < m i2 w1_4) i2 w1_4 R := by
  have hwA := h.wf.a
  have hfew : (allD' D).length ≤ 4096 := rootsAll_few h.wf.s hwA
  refine ⟨fun i w' => ∃ k : Nat, i = k ∧ k ≤ (allD' D).length ∧ Below w0.heap.size w0 w', fun i _ => (allD' D).length - i.toNat, ⟨0, rfl, by omega, .refl _ _⟩, ?_⟩
  rintro _ w1 ⟨i, rfl, hi, hb1⟩
  unfold F3_l9
  refine ⟨fun w' => w' = w1 ∧ i < (allD' D).length, ?_, ?_⟩
  rotate_left
  · refine brd (fun h1 => brd (fun h2 => ⟨rfl, by omega⟩) fun h2 => hJ w1 hb1) fun h1 => hJ w1 hb1
  rintro w2 ⟨rfl, hil⟩
  unfold F3_j11
  refine ⟨fun w' => Below w0.heap.size w0 w', fun w' hb => ⟨inR_i64 (by omega) (by omega), ⟨i + 1, by simp, by omega, hb⟩, (by first | omega | (dsimp only; omega))⟩, ?_⟩
  obtain ⟨cx, sx, hcx, hx⟩ := Nd.of hwA (List.getElem?_eq_getElem hil)
  refine (hrd.keep hb1).hn hn rfl hil fun b o c0 => ?_
  simp only [c0, Addr.add_mk, List.getElem?_toArray, List.getElem?_cons_zero, List.getElem?_cons_succ, LdI_some, LdB_some, LdStr_some, LdP_some, LdSl_some, LdM_some, Nat.zero_add, Br_t, Br_f]
  generalize hgx : (allD' D)[i] = x at *
  have hxl := hx.lt h.r
  refine AllW (h.r.keep hb1) h.wf hxl fun v w3 hb3 ov _ => ?_
  have hx0 := hwA.ne0 hx.sl
  have ov := ov (.inr ⟨sx, hx.sl⟩)
  have hvn : v.2.1 = szN D x := by
    obtain ⟨A', c', hvf, hvr⟩ := ov.form
    rw [slv_form hvf]
    unfold allI
    rw [if_neg hx0]
  refine ⟨_, _, _, _, rfl, ?_⟩
  rw [hvn]
  have B3 := btr hb1 hb1.size hb3
  refine (hrd.keep B3).hn hn rfl hil fun b2 o2 c2 => ?_
  rw [hgx] at c2
  simp only [c2, Addr.add_mk, List.getElem?_toArray, List.getElem?_cons_zero, List.getElem?_cons_succ, LdI_some, LdB_some, LdStr_some, LdP_some, LdSl_some, LdM_some, Nat.zero_add, Br_t, Br_f]
  refine h.span hx.sl hx.ch hcx B3 fun w4 hb4 => ⟨_, _, _, _, rfl, ?_⟩
  have B4 := btr B3 B3.size hb4
  refine al3 fun ga w5 hb5 ba hgea => ?_
  have B5 := btr B4 B4.size hb5
  refine ⟨fun k w' => ∃ kk : Nat, k = kk ∧ kk ≤ (allD' D).length ∧ Below w5.heap.size w5 w', fun k _ => (allD' D).length - k.toNat, ⟨0, rfl, by omega, .refl _ _⟩, ?_⟩
  rintro _ w6 ⟨k, rfl, hk, hb6⟩
  have B6 := btr B5 B5.size hb6
  unfold F3_l14
  refine ⟨fun w' => w' = w6 ∧ k < (allD' D).length, ?_, ?_⟩
  rotate_left
  · refine brd (fun h1 => brd (fun h2 => ⟨rfl, by omega⟩) fun h2 => B6) fun h1 => B6
  rintro w7 ⟨rfl, hkl⟩
  exact pair_calls h hn hrd hx hcx B6 (ba.keep hb6) hkl fun w8 hb8 => ⟨⟨k + 1, by simp, by omega, btr hb6 hb6.size hb8⟩, (by first | omega | (dsimp only; omega))⟩
end
def txT : Tr := .mk 2 noB [] noB []
def txE : E5 := ⟨2, noB, (none, 0, 0), noB, (none, 0, 0)⟩
theorem tx_rd (w : World) : RTr w txT txE := by
  unfold txT txE
  simp only [RTr]
  exact ⟨trivial, trivial, trivial, rr_nil, by simp, [], rfl, Rd.nil _ _, by simp only [RTl]⟩
theorem tx_ins {D : Im} : (insF D 2 0 txT).2.2 = 0 ∨ (insF D 2 0 txT).2.2 = 33 := by
  have h1 : (placeF D 2 0) = (0, 0) := by unfold placeF; simp
  have h2 : (lookF txT 1 0).2 = 0 := by decide +kernel
  have h3 : cntI D 0 = 0 := by unfold cntI; simp [cntF]
  have h4 : dpT txT = 1 := by unfold txT; simp [dpT]
  unfold insF
  rw [h1, h2, h3, h4]
  simp only [Int.reduceEq, if_false, ne_eq, not_true, Nat.reduceLT, Nat.reduceAdd, reduceIte]
  split
  · exact .inr rfl
  · exact .inl rfl
theorem tree_calls {W : World} {R : Ending → World → Prop} {A : Option Addr} {c : Nat} {xs : List E12} (hT : Tabs W) (hr : Rd LAc W A c xs) (hx : ∀ x ∈ xs, RAc W x) (hl : xs.length ≤ 1048576) (hK : ∀ w', Below W.heap.size W w' → R (.returned (.bool true)) w') :
    Calls Tryz.prog 3 #[.slice A xs.length c] W R := by
  refine ok3 A xs.length c ?_
  unfold F3
  refine al fun gp w1 hb1 b1 hge1 => al fun gd w2 hb2 b2 hge2 => ?_
  have B2 := btr hb1 hb1.size hb2
  have hs1 := hb1.size
  have hb1l := b1.lt
  have b12 := b1.keep hb2
  have h0 : Both (.iface 23 (.pointer (some ⟨gp, 0, none⟩))) (fun k w o D => LD k gp 34 w o D) W gd 0 w2 (fun b => if b = gp then 1 else 0) ⟨[], []⟩ (none, 0, 0) (none, 0, 0) :=
    ⟨ld_zero b12, nil_wf, rm_zero b2, if_neg (by omega), B2, fun b hb => if_neg (by omega), by omega⟩
  refine ⟨fun i w' => ∃ (m : Nat) (o : Nat → Nat) (D : Im) (vs vr : Sv), i = m ∧ m ≤ xs.length ∧ Both (.iface 23 (.pointer (some ⟨gp, 0, none⟩))) (fun k w o D => LD k gp 34 w o D) W gd m w' o D vs vr, fun i _ => xs.length - i.toNat, ⟨0, _, _, _, _, rfl, by omega, h0⟩, ?_⟩
  rintro _ w3 ⟨m, o, D, vs, vr, rfl, hm, h3⟩
  unfold F3_l3
  refine brd (fun hlt => ?_) (fun hge => ?_)
  · have hml : m < xs.length := by omega
    refine (hr.keep h3.old).idx rfl (by omega) (by omega) rfl fun b oo hc => ?_
    simp only [Int.toNat_natCast] at hc
    have k0 := hc 0 _ rfl
    have k1 := hc 1 _ rfl
    have k2 := hc 2 _ rfl
    have k3 := hc 3 _ rfl
    have k4 := hc 4 _ rfl
    have k5 := hc 5 _ rfl
    have k6 := hc 6 _ rfl
    have k7 := hc 7 _ rfl
    have k8 := hc 8 _ rfl
    have k9 := hc 9 _ rfl
    have k10 := hc 10 _ rfl
    have k11 := hc 11 _ rfl
    simp only [Nat.add_zero] at k0
    simp only [k0, k1, k2, k3, k4, k5, k6, k7, k8, k9, k10, k11, Addr.add_mk, List.getElem?_toArray, List.getElem?_cons_zero, List.getElem?_cons_succ, LdI_some, LdB_some, LdStr_some, LdP_some, LdSl_some, LdM_some, Nat.zero_add, Br_t, Br_f]
    refine both_does label_edr h3 (by omega) hT (hx _ (List.getElem_mem hml)) fun w4 o4 vs4 vr4 h4 => ⟨_, rfl, ?_⟩
    rw [brnot, Br_t]
    exact ⟨inR_i64 (by omega) (by omega), ⟨m + 1, o4, _, vs4, vr4, by simp, by omega, h4⟩, (by first | omega | (dsimp only; omega))⟩
  · obtain ⟨es, hre⟩ := h3.r.re
    refine AllW (n := 0) hre h3.wf (by omega) fun v w4 hb4 ov _ => ?_
    have ov := ov (.inl rfl)
    have e0 : allI D 0 = allD' D := by unfold allI; rw [if_pos rfl]
    rw [e0] at ov
    obtain ⟨A', c', hvf, hvr⟩ := ov.form
    have hv := slv_form hvf
    refine ⟨_, _, _, _, rfl, ?_⟩
    rw [hv]
    have h4 := h3.keep label_edr hb4
    obtain ⟨E, nms, lbs, gv, hAs⟩ := Asks.of h4.p h4.wf (hre.keep hb4)
    refine ⟨fun w' => Below w4.heap.size w4 w', fun w5 hb5 => ?_, pairs_calls hAs rfl hvr fun w' hb => hb⟩
    unfold F3_j32
    have h5 := h4.keep label_edr hb5
    refine insertL_calls (a := 0) (e := txE) h5.p (by omega) h5.wf (hT.sub (h5.sub.trans (sub_only (fun b _ h => (vw_iff.1 h).1) fun _ _ _ => rfl))) (tx_rd _) (by decide) fun w6 o6 _ ev => ⟨_, _, rfl, ?_⟩
    have hK6 := hK w6 (h5.old.trans (ev.fm.toBelow h5.old.size fun b hb e => e (h5.col b hb)))
    rcases tx_ins (D := D) with e | e
    · rw [e]; exact bre (fun _ => hK6) fun h => absurd rfl h
    · rw [e]; exact bre (fun h => by cases h) fun _ => hK6
end Go.Proofs.YthbeeonmfbigcaaGreatDoor
/- Behind any edits, of every two nodes each of the nine tests of axis answers by their labels as the tree does; within the second form's bound. -/
namespace Go.Proofs.YthbeeonmfbigcaaGreatDoor.axisTree
open Go.ChangeShapes Go.WideShapes Go.ChangeAt Go.RowKit Go.Joins Go.Lib Go.Vc
open Go.ChangeMaps (open_string shut_string)
set_option maxRecDepth 100000
set_option linter.unusedVariables false
set_option linter.unusedSimpArgs false
theorem own : ownKnob Tryz.prog.godebug = none := by kernel_rfl
theorem laidOut : laidOutB Tryz.prog = true := by kernel_rfl
/-- A world in which the tables are laid. -/
noncomputable def laidWorld (os : Os) : World :=
  let w0 := World.holding Tryz.prog os ⟨#[], #[], []⟩
  let put (h : Array Obj) (g : Nat) (cs : Array Value) : Array Obj := h.modify g fun
    | .cells _ t frozen => .cells cs t frozen
    | o => o
  let h1 := put w0.heap 0 (Lib.firstTab.map fun z => Value.int .u8 z).toArray
  let h2 := put h1 1 ((List.range 16).flatMap fun i => [Value.int .u8 (Lib.accLo i), Value.int .u8 (Lib.accHi i)]).toArray
  { w0 with heap := h2 }
theorem laid_met (os : Os) : laidMet Tryz.prog Rows.axisTreeUptoRow.laid ((laidWorld os).forCall (fun _ _ => 0) ⟨#[], #[.slice none 0 0], []⟩).memory :=
  (LaidIn.of_run (l := Rows.axisTreeUptoRow.laid) [1, 0] 8 (by kernel_rfl) (by kernel_rfl) (by kernel_rfl) (by kernel_rfl)).met
theorem u8Types : U8Types Tryz.prog decRen := { decLays with }
theorem tabs_of {W : World} (h : laidMet Tryz.prog Rows.axisTreeUptoRow.laid W) : Tabs W :=
  utf8Tabs_of_readsT (ρ := decRen) u8Types ⟨by kernel_rfl, by kernel_rfl, by kernel_rfl, by kernel_rfl, by kernel_rfl, by kernel_rfl, by kernel_rfl⟩
    (by rw [← Pinned.utf8First_eq]; exact Lib.laidMet.reads h (.tail _ (.head _))) (Lib.laidMet.reads h (.head _))
theorem reads (os : Os) {H : Type} (enc : TypeId × Value → H) : ∃ places, DataW.whole enc Tryz.prog ((laidWorld os).forCall (fun _ _ => 0) ⟨#[], #[.slice none 0 0], []⟩).memory Tryz.f3.params.toList Rows.axisTreeSpec.vars false (#[.slice none 0 0] : Array Value).toList 8 = some ([.nil], [], places) :=
  ⟨[], by kernel_rfl⟩
theorem lifted (os : Os) (started : os.Started) (H : Type) (enc : TypeId × Value → H) (F : Stop.Interp) :
    ReturnsInHanded {} Tryz.checked os 3 .any ((Rows.OpenSpec.upto Rows.axisTreeSpec).preRow enc Tryz.prog Tryz.f3 Rows.axisTreeUptoRow.domain false Rows.axisTreeUptoRow.laid) (((Rows.OpenSpec.upto Rows.axisTreeSpec).at F).post enc Tryz.prog Tryz.f3 false true false false) := by
  obtain ⟨places, hx⟩ := reads os enc
  refine returnsInHanded_of_row (C := Tryz.checked) (s := Rows.OpenSpec.upto Rows.axisTreeSpec) own started (by kernel_rfl) Tryz.func3
    (witness_row_at (enc := enc) (C := Tryz.checked) false (laidWorld os) #[.slice none 0 0] rfl (by kernel_rfl) (by kernel_rfl) (by kernel_rfl)
      (OpenSpec.preRow_of_cond 8 hx (by kernel_rfl) (fun k hk => by cases hk; kernel_rfl) (by kernel_rfl) (laid_met os))) ?_
  intro W base args ds gs before hval0 hW _ hcond hsz0 hL _ _
  rw [MakeChecks.laidMetH_plain _ _ _ (by kernel_rfl)] at hL
  have hT : Tabs W := tabs_of hL
  have hk : Rows.uptoSmall H (ds ++ gs) = true := hcond _ rfl
  have hval : ∀ (j : Nat) t v, Tryz.f3.params[j]? = some t → args[j]? = some v → Value.okWide Tryz.prog W .any base t v := hval0
  have hWw : DataW.Whole enc Tryz.prog Tryz.f3.params.toList Rows.axisTreeSpec.vars false W args.toList ds gs before := hW
  clear hW
  have hW := hWw
  obtain ⟨p, q, hA0, hV, rfl, hfz, hnd⟩ := hW
  have hW' := hWw
  have hA : DataW.TrodAll enc Tryz.prog W 0 (fun _ => true) true Tryz.f3.params.toList args.toList ds p := hA0
  rw [Tryz.params3] at hA hval
  obtain ⟨v0, vs0, d0, ds0, p0, q0, hargs, rfl, rfl, h0, r0⟩ := trodAll_cons hA
  obtain ⟨rfl, rfl, rfl⟩ := trodAll_nil r0
  obtain rfl : args = #[v0] := by cases args; simp_all
  obtain ⟨rfl, rfl⟩ := trodVars_none hV
  have k0 := h0
  have lt0 : ∀ x ∈ p0, x.block < W.heap.size := by obtain ⟨m, hm⟩ := k0; exact DataW.trod_lt m _ _ _ hm
  clear hA0 hval0
  obtain ⟨la, ln, lc, rfl⟩ := okWide_slice Tryz.underlying22 (hval 0 22 _ rfl rfl)
  obtain ⟨fl, hfl⟩ := h0
  obtain ⟨A, c, xs, hle, hR, hQ, hlen⟩ := acs_open hfl (upto_small hk (by simp))
  simp [Value.cells] at hle
  obtain ⟨rfl, rfl, rfl⟩ := hle
  refine (tree_calls (R := fun e W' => e = .returned (.bool true) ∧ Below W.heap.size W W') hT hR hQ hlen fun w' hb => ⟨rfl, hb⟩).mono fun e W' ⟨he, bel⟩ => ?_
  subst he
  exact ⟨_, rfl, _, _, _, [], _, [], hW', trodAll_mk1 (shut_bool Tryz.underlying4 _), (trodAll_cons_mk (Below.trod laidOut (by kernel_rfl) (of_decide_eq_true (by kernel_rfl)) k0 bel lt0) trodAll_mk0), rfl, bel.frame _, fun h => by cases h⟩
theorem said : Rows.AxisTreeUptoSaid :=
  OpenClaim.holds_of_cond 3 Tryz.f3 rfl rfl rfl rfl rfl rfl rfl ⟨rfl, rfl, rfl, rfl, rfl⟩ rfl rfl rfl rfl rfl (by kernel_rfl) Tryz.func3 (by kernel_rfl)
    (of_decide_eq_true (by kernel_rfl)) (by unfold Func.isWrapper; first | (rw [if_neg (of_decide_eq_false (by kernel_rfl))]; exact ⟨rfl, rfl⟩) | (rw [if_pos (of_decide_eq_true (by kernel_rfl))]; kernel_rfl))
    (fun os started H enc _ F => by rw [OpenClaim.pre_eq_preRow]; exact lifted os started H enc F)
theorem plain (f : FuncId) (fn : Func) (hf : Tryz.pinned.checked.prog.funcNamed "espalier/espalierlaw09.AxisTree" = some f) (hfn : Tryz.pinned.checked.prog.funcs[f]? = some fn) :
    false = Tryz.pinned.checked.prog.looks [] ∧ ∀ (j : Nat) t, fn.params[j]? = some t → Tryz.pinned.checked.prog.wantsStandIn t = false := by
  obtain rfl : f = 3 := Option.some.inj ((show Tryz.prog.funcNamed "espalier/espalierlaw09.AxisTree" = some 3 by kernel_rfl).symm.trans hf) |>.symm
  obtain rfl : fn = Tryz.f3 := (Option.some.inj (Tryz.func3.symm.trans hfn)).symm
  refine ⟨by kernel_rfl, fun j t ht => ?_⟩
  have hm : t ∈ Tryz.f3.params.toList := by simpa using Array.mem_of_getElem? ht
  have hall : (Tryz.f3.params.toList.all fun u => !Tryz.prog.wantsStandIn u) = true := by kernel_rfl
  exact (show Tryz.prog.wantsStandIn t = false by simpa using List.all_eq_true.1 hall t hm)
end Go.Proofs.YthbeeonmfbigcaaGreatDoor.axisTree
namespace Go.Proofs.YthbeeonmfbigcaaGreatDoor
open Go.ChangeShapes Go.WideShapes Go.ChangeAt Go.RowKit Go.Joins Go.Lib
theorem axisTree_holds : Rows.AxisTreeUptoCardSaid :=
  Claim7.holds_tied_plain_at .later [] _ _ _ _ axisTree.said (fun _ h => by cases h) (by kernel_rfl) (fun _ h => by cases h) axisTreeUpto_row_tie rfl ⟨rfl, rfl⟩ (by kernel_rfl) rfl axisTree.plain (by kernel_rfl)
#print axioms axisTree_holds
end Go.Proofs.YthbeeonmfbigcaaGreatDoor
