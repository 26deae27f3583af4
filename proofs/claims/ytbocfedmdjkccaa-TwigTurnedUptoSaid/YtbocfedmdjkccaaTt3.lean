import Derived.Test.YtbocfedmdjkccaaProg
import Derived.Test.YtbocfedmdjkccaaTt2
set_option linter.unusedVariables false
set_option maxRecDepth 100000
namespace Go.Proofs.Ytbocfedmdjkccaa
open Go.Vc
-- espalierref12.Size
def F12_j6 (n : Int) (w_2 : World) (R : Ending → World → Prop) : Prop :=
 Br (decide (n > (16 : Int)))
 (R (.returned (.int .i64 17)) w_2)
 (R (.returned (.int .i64 n)) w_2)

def F12_j5 (t : Addr) (L3 : Int → Int → World → Prop) (n : Int) (i : Int) (w_3 : World) (R : Ending → World → Prop) : Prop :=
 LdSl (w_3.cell? (t.add 2)) fun x18 x18N x18C =>
 IdxA x18 x18N i 3 fun q20 =>
 LdStr (w_3.cell? q20) fun x21_0 =>
 LdB (w_3.cell? (q20.add 1)) fun x21_1 =>
 LdSl (w_3.cell? (q20.add 2)) fun x21_2 x21_2N x21_2C =>
 Calls Try.prog 12 #[(.agg #[(.string x21_0), (.bool x21_1), (.slice x21_2 x21_2N x21_2C)])] w_3 (post R fun v w1_2 =>
 ∃ (x22 : Int), v = (.int .i64 x22) ∧
 InR .i64 (n + x22) ∧ InR .i64 (i + (1 : Int)) ∧ L3 (n + x22) (i + (1 : Int)) w1_2)

def F12_l3 (t : Addr) (J6 : Int → World → Prop) (L3 : Int → Int → World → Prop) (n : Int) (i : Int) (w_2 : World) (R : Ending → World → Prop) : Prop :=
 ∃ J5 : World → Prop, (∀  (w1_2 : World), J5 w1_2 → F12_j5 t L3 n i w1_2 R) ∧
 (LdSl (w_2.cell? (t.add 2)) fun x7 x7N x7C =>
 Br (decide (i < ((x7N : Nat) : Int)))
 (Br (decide (n ≤ (16 : Int)))
 (J5 w_2)
 (J6 n w_2))
 (J6 n w_2))

def F12 (t_0 : ByteArray) (t_1 : Bool) (t_2 : Option Addr) (t_2N : Nat) (t_2C : Nat) (w_ : World) (R : Ending → World → Prop) : Prop :=
 Al w_ #[(.string t_0), (.bool t_1), (.slice t_2 t_2N t_2C)] 24 fun t w1 =>
 ∃ J6 : Int → World → Prop, (∀ (n : Int) (w1_2 : World), J6 n w1_2 → F12_j6 n w1_2 R) ∧
 (∃ (I : Int → Int → World → Prop) (m : Int → Int → World → Nat), I (1 : Int) (0 : Int) w1 ∧
 ∀ (n : Int) (i : Int) (w1_2 : World), I n i w1_2 → F12_l3 t J6 (fun n' i' w2 => I n' i' w2 ∧ m n' i' w2 < m n i w1_2) n i w1_2 R)

def pl12 : Plan := ⟨27, ⟨[]⟩, [(5, ⟨[], [(5, 14)]⟩), (6, ⟨[(3, (.s (.int .i64)))], [(3, 24)]⟩)], [(3, ⟨[(3, (.s (.int .i64))), (4, (.s (.int .i64)))], [(3, 24)]⟩)]⟩

theorem eq12 (t_0 : ByteArray) (t_1 : Bool) (t_2 : Option Addr) (t_2N : Nat) (t_2C : Nat) (w : World) (R : Ending → World → Prop) : F12 t_0 t_1 t_2 t_2N t_2C w R = vc Try.prog Try.f12 pl12 R 100000 [.code (bodyOf Try.f12)] (argEnv 0 #[(.agg #[(.string t_0), (.bool t_1), (.slice t_2 t_2N t_2C)])].toList) w := by kernel_rfl

theorem ok12 (t_0 : ByteArray) (t_1 : Bool) (t_2 : Option Addr) (t_2N : Nat) (t_2C : Nat) {w : World} {R : Ending → World → Prop} (h : F12 t_0 t_1 t_2 t_2N t_2C w R) : Calls Try.prog 12 #[(.agg #[(.string t_0), (.bool t_1), (.slice t_2 t_2N t_2C)])] w R :=
  vc_calls (pl := pl12) Try.func12 (by kernel_rfl) (by kernel_rfl) (by kernel_rfl) (Eq.mp (eq12 t_0 t_1 t_2 t_2N t_2C w R) h)

-- espalierref12.named
def F32_l4 (t : Addr) (L4 : Int → World → Prop) (i : Int) (w_3 : World) (R : Ending → World → Prop) : Prop :=
 LdSl (w_3.cell? (t.add 2)) fun x15 x15N x15C =>
 Br (decide (i < ((x15N : Nat) : Int)))
 (LdSl (w_3.cell? (t.add 2)) fun x21 x21N x21C =>
 IdxA x21 x21N i 3 fun q23 =>
 LdStr (w_3.cell? q23) fun x24_0 =>
 LdB (w_3.cell? (q23.add 1)) fun x24_1 =>
 LdSl (w_3.cell? (q23.add 2)) fun x24_2 x24_2N x24_2C =>
 Calls Try.prog 32 #[(.agg #[(.string x24_0), (.bool x24_1), (.slice x24_2 x24_2N x24_2C)])] w_3 (post R fun v w1_2 =>
 ∃ (x25 : Bool), v = (.bool x25) ∧
 Br (!x25)
 (R (.returned (.bool false)) w1_2)
 (InR .i64 (i + (1 : Int)) ∧ L4 (i + (1 : Int)) w1_2)))
 (R (.returned (.bool true)) w_3)

def F32_j3 (t : Addr) (w_2 : World) (R : Ending → World → Prop) : Prop :=
 ∃ (I : Int → World → Prop) (m : Int → World → Nat), I (0 : Int) w_2 ∧
 ∀ (i : Int) (w1_2 : World), I i w1_2 → F32_l4 t (fun i' w2 => I i' w2 ∧ m i' w2 < m i w1_2) i w1_2 R

def F32 (t_0 : ByteArray) (t_1 : Bool) (t_2 : Option Addr) (t_2N : Nat) (t_2C : Nat) (w_ : World) (R : Ending → World → Prop) : Prop :=
 Al w_ #[(.string t_0), (.bool t_1), (.slice t_2 t_2N t_2C)] 24 fun t w1 =>
 ∃ J3 : World → Prop, (∀  (w1_2 : World), J3 w1_2 → F32_j3 t w1_2 R) ∧
 (LdStr (w1.cell? t) fun x5 =>
 Br (!(x5.toList == (ByteArray.mk #[]).toList))
 (LdStr (w1.cell? t) fun x9 =>
 Calls Try.prog 51 #[(.string x9)] w1 (post R fun v w1_2 =>
 ∃ (x10 : Bool), v = (.bool x10) ∧
 Br (!x10)
 (R (.returned (.bool false)) w1_2)
 (J3 w1_2)))
 (J3 w1))

def pl32 : Plan := ⟨27, ⟨[]⟩, [(3, ⟨[], [(2, 13)]⟩)], [(4, ⟨[(3, (.s (.int .i64)))], [(2, 27)]⟩)]⟩

theorem eq32 (t_0 : ByteArray) (t_1 : Bool) (t_2 : Option Addr) (t_2N : Nat) (t_2C : Nat) (w : World) (R : Ending → World → Prop) : F32 t_0 t_1 t_2 t_2N t_2C w R = vc Try.prog Try.f32 pl32 R 100000 [.code (bodyOf Try.f32)] (argEnv 0 #[(.agg #[(.string t_0), (.bool t_1), (.slice t_2 t_2N t_2C)])].toList) w := by kernel_rfl

theorem ok32 (t_0 : ByteArray) (t_1 : Bool) (t_2 : Option Addr) (t_2N : Nat) (t_2C : Nat) {w : World} {R : Ending → World → Prop} (h : F32 t_0 t_1 t_2 t_2N t_2C w R) : Calls Try.prog 32 #[(.agg #[(.string t_0), (.bool t_1), (.slice t_2 t_2N t_2C)])] w R :=
  vc_calls (pl := pl32) Try.func32 (by kernel_rfl) (by kernel_rfl) (by kernel_rfl) (Eq.mp (eq32 t_0 t_1 t_2 t_2N t_2C w R) h)

-- espalierref12.Check
def F10 (t_0 : ByteArray) (t_1 : Bool) (t_2 : Option Addr) (t_2N : Nat) (t_2C : Nat) (w_ : World) (R : Ending → World → Prop) : Prop :=
 Al w_ #[(.string t_0), (.bool t_1), (.slice t_2 t_2N t_2C)] 24 fun t w1 =>
 LdStr (w1.cell? t) fun x4_0 =>
 LdB (w1.cell? (t.add 1)) fun x4_1 =>
 LdSl (w1.cell? (t.add 2)) fun x4_2 x4_2N x4_2C =>
 Calls Try.prog 12 #[(.agg #[(.string x4_0), (.bool x4_1), (.slice x4_2 x4_2N x4_2C)])] w1 (post R fun v w1_2 =>
 ∃ (x5 : Int), v = (.int .i64 x5) ∧
 Br (decide (x5 > (16 : Int)))
 (R (.returned (.int .i64 120)) w1_2)
 (LdStr (w1_2.cell? t) fun x8_0 =>
 LdB (w1_2.cell? (t.add 1)) fun x8_1 =>
 LdSl (w1_2.cell? (t.add 2)) fun x8_2 x8_2N x8_2C =>
 Calls Try.prog 32 #[(.agg #[(.string x8_0), (.bool x8_1), (.slice x8_2 x8_2N x8_2C)])] w1_2 (post R fun v2 w1_3 =>
 ∃ (x9 : Bool), v2 = (.bool x9) ∧
 Br (!x9)
 (R (.returned (.int .i64 6)) w1_3)
 (R (.returned (.int .i64 0)) w1_3))))

def pl10 : Plan := ⟨11, ⟨[]⟩, [], []⟩

theorem eq10 (t_0 : ByteArray) (t_1 : Bool) (t_2 : Option Addr) (t_2N : Nat) (t_2C : Nat) (w : World) (R : Ending → World → Prop) : F10 t_0 t_1 t_2 t_2N t_2C w R = vc Try.prog Try.f10 pl10 R 100000 [.code (bodyOf Try.f10)] (argEnv 0 #[(.agg #[(.string t_0), (.bool t_1), (.slice t_2 t_2N t_2C)])].toList) w := by kernel_rfl

theorem ok10 (t_0 : ByteArray) (t_1 : Bool) (t_2 : Option Addr) (t_2N : Nat) (t_2C : Nat) {w : World} {R : Ending → World → Prop} (h : F10 t_0 t_1 t_2 t_2N t_2C w R) : Calls Try.prog 10 #[(.agg #[(.string t_0), (.bool t_1), (.slice t_2 t_2N t_2C)])] w R :=
  vc_calls (pl := pl10) Try.func10 (by kernel_rfl) (by kernel_rfl) (by kernel_rfl) (Eq.mp (eq10 t_0 t_1 t_2 t_2N t_2C w R) h)

-- espalierref12.nodes
def F46_l4 (lN : Nat) (t : Addr) (L4 : Option Addr → Nat → Nat → Int → World → Prop) (l2 : Option Addr) (lN2 : Nat) (lC2 : Nat) (i : Int) (w_2 : World) (R : Ending → World → Prop) : Prop :=
 LdSl (w_2.cell? (t.add 2)) fun x22 x22N x22C =>
 Br (decide (i < ((x22N : Nat) : Int)))
 (LdSl (w_2.cell? (t.add 2)) fun x28 x28N x28C =>
 IdxA x28 x28N i 3 fun q30 =>
 LdStr (w_2.cell? q30) fun x31_0 =>
 LdB (w_2.cell? (q30.add 1)) fun x31_1 =>
 LdSl (w_2.cell? (q30.add 2)) fun x31_2 x31_2N x31_2C =>
 Calls Try.prog 46 #[(.agg #[(.string x31_0), (.bool x31_1), (.slice x31_2 x31_2N x31_2C)]), (.int .i64 ((lN : Nat) : Int)), (.slice l2 lN2 lC2)] w_2 (post R fun v2 w1_4 =>
 ∃ (x34 : Option Addr) (x34N : Nat) (x34C : Nat), v2 = (.slice x34 x34N x34C) ∧
 InR .i64 (i + (1 : Int)) ∧ L4 x34 x34N x34C (i + (1 : Int)) w1_4))
 (R (.returned (.slice l2 lN2 lC2)) w_2)

def F46 (t_0 : ByteArray) (t_1 : Bool) (t_2 : Option Addr) (t_2N : Nat) (t_2C : Nat) (up : Int) (l : Option Addr) (lN : Nat) (lC : Nat) (w_ : World) (R : Ending → World → Prop) : Prop :=
 Al w_ #[(.string t_0), (.bool t_1), (.slice t_2 t_2N t_2C)] 24 fun t w1 =>
 LdB (w1.cell? (t.add 1)) fun x14 =>
 LdStr (w1.cell? t) fun x16 =>
 Al w1 #[(.int .i64 up), (.bool x14), (.string x16)] 94 fun g18 w1_2 =>
 Raw Try.prog (Builtin.append_ #[45, 45] 45 #[(.slice l lN lC), (.slice (some g18) 1 1)]) w1_2 fun v w1_3 =>
 ∃ (x19 : Option Addr) (x19N : Nat) (x19C : Nat), v = (.slice x19 x19N x19C) ∧
 ∃ (I : Option Addr → Nat → Nat → Int → World → Prop) (m : Option Addr → Nat → Nat → Int → World → Nat), I x19 x19N x19C (0 : Int) w1_3 ∧
 ∀ (l2 : Option Addr) (lN2 : Nat) (lC2 : Nat) (i : Int) (w1_4 : World), I l2 lN2 lC2 i w1_4 → F46_l4 lN t (fun l2' lN2' lC2' i' w2 => I l2' lN2' lC2' i' w2 ∧ m l2' lN2' lC2' i' w2 < m l2 lN2 lC2 i w1_4) l2 lN2 lC2 i w1_4 R

def pl46 : Plan := ⟨36, ⟨[]⟩, [], [(4, ⟨[(2, (.s .slice)), (8, (.s (.int .i64)))], [(2, 3), (8, 35)]⟩)]⟩

theorem eq46 (t_0 : ByteArray) (t_1 : Bool) (t_2 : Option Addr) (t_2N : Nat) (t_2C : Nat) (up : Int) (l : Option Addr) (lN : Nat) (lC : Nat) (w : World) (R : Ending → World → Prop) : F46 t_0 t_1 t_2 t_2N t_2C up l lN lC w R = vc Try.prog Try.f46 pl46 R 100000 [.code (bodyOf Try.f46)] (argEnv 0 #[(.agg #[(.string t_0), (.bool t_1), (.slice t_2 t_2N t_2C)]), (.int .i64 up), (.slice l lN lC)].toList) w := by kernel_rfl

theorem ok46 (t_0 : ByteArray) (t_1 : Bool) (t_2 : Option Addr) (t_2N : Nat) (t_2C : Nat) (up : Int) (l : Option Addr) (lN : Nat) (lC : Nat) {w : World} {R : Ending → World → Prop} (h : F46 t_0 t_1 t_2 t_2N t_2C up l lN lC w R) : Calls Try.prog 46 #[(.agg #[(.string t_0), (.bool t_1), (.slice t_2 t_2N t_2C)]), (.int .i64 up), (.slice l lN lC)] w R :=
  vc_calls (pl := pl46) Try.func46 (by kernel_rfl) (by kernel_rfl) (by kernel_rfl) (Eq.mp (eq46 t_0 t_1 t_2 t_2N t_2C up l lN lC w R) h)

-- espalierref12.Nodes
def F25 (t_0 : ByteArray) (t_1 : Bool) (t_2 : Option Addr) (t_2N : Nat) (t_2C : Nat) (w_ : World) (R : Ending → World → Prop) : Prop :=
 Al w_ #[(.string t_0), (.bool t_1), (.slice t_2 t_2N t_2C)] 24 fun t w1 =>
 LdStr (w1.cell? t) fun x3_0 =>
 LdB (w1.cell? (t.add 1)) fun x3_1 =>
 LdSl (w1.cell? (t.add 2)) fun x3_2 x3_2N x3_2C =>
 Calls Try.prog 46 #[(.agg #[(.string x3_0), (.bool x3_1), (.slice x3_2 x3_2N x3_2C)]), (.int .i64 (-1)), (.slice none 0 0)] w1 (post R fun v w1_2 =>
 ∃ (x4 : Option Addr) (x4N : Nat) (x4C : Nat), v = (.slice x4 x4N x4C) ∧
 R (.returned (.slice x4 x4N x4C)) w1_2)

def pl25 : Plan := ⟨5, ⟨[]⟩, [], []⟩

theorem eq25 (t_0 : ByteArray) (t_1 : Bool) (t_2 : Option Addr) (t_2N : Nat) (t_2C : Nat) (w : World) (R : Ending → World → Prop) : F25 t_0 t_1 t_2 t_2N t_2C w R = vc Try.prog Try.f25 pl25 R 100000 [.code (bodyOf Try.f25)] (argEnv 0 #[(.agg #[(.string t_0), (.bool t_1), (.slice t_2 t_2N t_2C)])].toList) w := by kernel_rfl

theorem ok25 (t_0 : ByteArray) (t_1 : Bool) (t_2 : Option Addr) (t_2N : Nat) (t_2C : Nat) {w : World} {R : Ending → World → Prop} (h : F25 t_0 t_1 t_2 t_2N t_2C w R) : Calls Try.prog 25 #[(.agg #[(.string t_0), (.bool t_1), (.slice t_2 t_2N t_2C)])] w R :=
  vc_calls (pl := pl25) Try.func25 (by kernel_rfl) (by kernel_rfl) (by kernel_rfl) (Eq.mp (eq25 t_0 t_1 t_2 t_2N t_2C w R) h)

-- espalierref12.Spans
def F74_l3 (l : Option Addr) (lN : Nat) (L3 : Option Addr → Nat → Nat → Int → World → Prop) (out : Option Addr) (outN : Nat) (outC : Nat) (i : Int) (w_2 : World) (R : Ending → World → Prop) : Prop :=
 Br (decide (i < ((lN : Nat) : Int)))
 (IdxA l lN i 4 fun q14 =>
 LdI .u64 (w_2.cell? (q14.add 1)) fun x16_0 =>
 LdI .u64 (w_2.cell? ((q14.add 1).add 1)) fun x16_1 =>
 LdI .i64 (w_2.cell? ((q14.add 1).add 2)) fun x16_2 =>
 Al w_2 #[(.int .u64 x16_0), (.int .u64 x16_1), (.int .i64 x16_2)] 77 fun g17 w1 =>
 Raw Try.prog (Builtin.append_ #[119, 119] 119 #[(.slice out outN outC), (.slice (some g17) 1 1)]) w1 fun v w1_2 =>
 ∃ (x18 : Option Addr) (x18N : Nat) (x18C : Nat), v = (.slice x18 x18N x18C) ∧
 InR .i64 (i + (1 : Int)) ∧ L3 x18 x18N x18C (i + (1 : Int)) w1_2)
 (R (.returned (.slice out outN outC)) w_2)

def F74 (l : Option Addr) (lN : Nat) (lC : Nat) (w_ : World) (R : Ending → World → Prop) : Prop :=
 ∃ (I : Option Addr → Nat → Nat → Int → World → Prop) (m : Option Addr → Nat → Nat → Int → World → Nat), I none 0 0 (0 : Int) w_ ∧
 ∀ (out : Option Addr) (outN : Nat) (outC : Nat) (i : Int) (w1 : World), I out outN outC i w1 → F74_l3 l lN (fun out' outN' outC' i' w2 => I out' outN' outC' i' w2 ∧ m out' outN' outC' i' w2 < m out outN outC i w1) out outN outC i w1 R

def pl74 : Plan := ⟨20, ⟨[]⟩, [], [(3, ⟨[(3, (.s .slice)), (4, (.s (.int .i64)))], [(3, 19)]⟩)]⟩

theorem eq74 (l : Option Addr) (lN : Nat) (lC : Nat) (w : World) (R : Ending → World → Prop) : F74 l lN lC w R = vc Try.prog Try.f74 pl74 R 100000 [.code (bodyOf Try.f74)] (argEnv 0 #[(.slice l lN lC)].toList) w := by kernel_rfl

theorem ok74 (l : Option Addr) (lN : Nat) (lC : Nat) {w : World} {R : Ending → World → Prop} (h : F74 l lN lC w R) : Calls Try.prog 74 #[(.slice l lN lC)] w R :=
  vc_calls (pl := pl74) Try.func74 (by kernel_rfl) (by kernel_rfl) (by kernel_rfl) (Eq.mp (eq74 l lN lC w R) h)

-- espalierref12.list
def F55_j5 (L4 : Int → World → Prop) (i : Int) (w_3 : World) (R : Ending → World → Prop) : Prop :=
 InR .i64 (i + (1 : Int)) ∧ L4 (i + (1 : Int)) w_3

def F55_l4 (l : Option Addr) (lN : Nat) (L4 : Int → World → Prop) (i : Int) (w_2 : World) (R : Ending → World → Prop) : Prop :=
 Br (decide (i < ((lN : Nat) : Int)))
 (∃ J5 : World → Prop, (∀  (w1 : World), J5 w1 → F55_j5 L4 i w1 R) ∧
 (IdxA l lN i 4 fun q15 =>
 LdI .u64 (w_2.cell? (q15.add 1)) fun x17_0 =>
 LdI .u64 (w_2.cell? ((q15.add 1).add 1)) fun x17_1 =>
 LdI .i64 (w_2.cell? ((q15.add 1).add 2)) fun x17_2 =>
 Calls Try.prog 72 #[(.agg #[(.int .u64 x17_0), (.int .u64 x17_1), (.int .i64 x17_2)])] w_2 (post R fun v w1 =>
 ∃ (x18 : Bool), v = (.bool x18) ∧
 Br (!x18)
 (R (.returned (.int .i64 110)) w1)
 (Dr w1 fun w1_2 =>
 Br (decide (i > (0 : Int)))
 (IdxA l lN i 4 fun q25 =>
 LdI .u64 (w1_2.cell? (q25.add 1)) fun x28 =>
 InR .i64 (i - (1 : Int)) ∧ IdxA l lN (i - (1 : Int)) 4 fun q32 =>
 LdI .u64 (w1_2.cell? (q32.add 1)) fun x35 =>
 Br (decide (x28 ≤ x35))
 (R (.returned (.int .i64 71)) w1_2)
 (J5 w1_2))
 (J5 w1_2)))))
 (R (.returned (.int .i64 0)) w_2)

def F55 (l : Option Addr) (lN : Nat) (lC : Nat) (w_ : World) (R : Ending → World → Prop) : Prop :=
 Br (decide (((lN : Nat) : Int) > (4096 : Int)))
 (R (.returned (.int .i64 2)) w_)
 (∃ (I : Int → World → Prop) (m : Int → World → Nat), I (0 : Int) w_ ∧
 ∀ (i : Int) (w1 : World), I i w1 → F55_l4 l lN (fun i' w2 => I i' w2 ∧ m i' w2 < m i w1) i w1 R)

def pl55 : Plan := ⟨38, ⟨[]⟩, [(5, ⟨[], [(2, 3), (13, 38)]⟩)], [(4, ⟨[(3, (.s (.int .i64)))], [(2, 38)]⟩)]⟩

theorem eq55 (l : Option Addr) (lN : Nat) (lC : Nat) (w : World) (R : Ending → World → Prop) : F55 l lN lC w R = vc Try.prog Try.f55 pl55 R 100000 [.code (bodyOf Try.f55)] (argEnv 0 #[(.slice l lN lC)].toList) w := by kernel_rfl

theorem ok55 (l : Option Addr) (lN : Nat) (lC : Nat) {w : World} {R : Ending → World → Prop} (h : F55 l lN lC w R) : Calls Try.prog 55 #[(.slice l lN lC)] w R :=
  vc_calls (pl := pl55) Try.func55 (by kernel_rfl) (by kernel_rfl) (by kernel_rfl) (Eq.mp (eq55 l lN lC w R) h)

-- espalierref12.can
def F35_l7 (lists : Option Addr) (listsN : Nat) (listsC : Nat) (L7 : Int → World → Prop) (i : Int) (w_2 : World) (R : Ending → World → Prop) : Prop :=
 Br (decide (i < ((listsN : Nat) : Int)))
 (IdxA lists listsN i 1 fun q26 =>
 LdSl (w_2.cell? q26) fun x27 x27N x27C =>
 Calls Try.prog 55 #[(.slice x27 x27N x27C)] w_2 (post R fun v3 w1_4 =>
 ∃ (x28 : Int), v3 = (.int .i64 x28) ∧
 Br (x28 != (0 : Int))
 (R (.returned (.int .i64 x28)) w1_4)
 (InR .i64 (i + (1 : Int)) ∧ L7 (i + (1 : Int)) w1_4)))
 (Calls Try.prog 56 #[(.slice lists listsN listsC)] w_2 (post R fun v3 w1_4 =>
 ∃ (x33 : Bool), v3 = (.bool x33) ∧
 Br x33
 (R (.returned (.int .i64 111)) w1_4)
 (R (.returned (.int .i64 0)) w1_4)))

def F35 (t_0 : ByteArray) (t_1 : Bool) (t_2 : Option Addr) (t_2N : Nat) (t_2C : Nat) (lists : Option Addr) (listsN : Nat) (listsC : Nat) (w_ : World) (R : Ending → World → Prop) : Prop :=
 Al w_ #[(.string t_0), (.bool t_1), (.slice t_2 t_2N t_2C)] 24 fun t w1 =>
 LdStr (w1.cell? t) fun x8_0 =>
 LdB (w1.cell? (t.add 1)) fun x8_1 =>
 LdSl (w1.cell? (t.add 2)) fun x8_2 x8_2N x8_2C =>
 Calls Try.prog 10 #[(.agg #[(.string x8_0), (.bool x8_1), (.slice x8_2 x8_2N x8_2C)])] w1 (post R fun v w1_2 =>
 ∃ (x9 : Int), v = (.int .i64 x9) ∧
 Br (x9 != (0 : Int))
 (R (.returned (.int .i64 x9)) w1_2)
 (LdStr (w1_2.cell? t) fun x15_0 =>
 LdB (w1_2.cell? (t.add 1)) fun x15_1 =>
 LdSl (w1_2.cell? (t.add 2)) fun x15_2 x15_2N x15_2C =>
 Calls Try.prog 12 #[(.agg #[(.string x15_0), (.bool x15_1), (.slice x15_2 x15_2N x15_2C)])] w1_2 (post R fun v2 w1_3 =>
 ∃ (x16 : Int), v2 = (.int .i64 x16) ∧
 Br (((listsN : Nat) : Int) != x16)
 (R (.returned (.int .i64 1)) w1_3)
 (∃ (I : Int → World → Prop) (m : Int → World → Nat), I (0 : Int) w1_3 ∧
 ∀ (i : Int) (w1_4 : World), I i w1_4 → F35_l7 lists listsN listsC (fun i' w2 => I i' w2 ∧ m i' w2 < m i w1_4) i w1_4 R))))

def pl35 : Plan := ⟨34, ⟨[]⟩, [], [(7, ⟨[(6, (.s (.int .i64)))], [(4, 32)]⟩)]⟩

theorem eq35 (t_0 : ByteArray) (t_1 : Bool) (t_2 : Option Addr) (t_2N : Nat) (t_2C : Nat) (lists : Option Addr) (listsN : Nat) (listsC : Nat) (w : World) (R : Ending → World → Prop) : F35 t_0 t_1 t_2 t_2N t_2C lists listsN listsC w R = vc Try.prog Try.f35 pl35 R 100000 [.code (bodyOf Try.f35)] (argEnv 0 #[(.agg #[(.string t_0), (.bool t_1), (.slice t_2 t_2N t_2C)]), (.slice lists listsN listsC)].toList) w := by kernel_rfl

theorem ok35 (t_0 : ByteArray) (t_1 : Bool) (t_2 : Option Addr) (t_2N : Nat) (t_2C : Nat) (lists : Option Addr) (listsN : Nat) (listsC : Nat) {w : World} {R : Ending → World → Prop} (h : F35 t_0 t_1 t_2 t_2N t_2C lists listsN listsC w R) : Calls Try.prog 35 #[(.agg #[(.string t_0), (.bool t_1), (.slice t_2 t_2N t_2C)]), (.slice lists listsN listsC)] w R :=
  vc_calls (pl := pl35) Try.func35 (by kernel_rfl) (by kernel_rfl) (by kernel_rfl) (Eq.mp (eq35 t_0 t_1 t_2 t_2N t_2C lists listsN listsC w R) h)

-- espalierref12.New
def F36_j13 (L12 : Int → World → Prop) (j : Int) (w_6 : World) (R : Ending → World → Prop) : Prop :=
 InR .i64 (j + (1 : Int)) ∧ L12 (j + (1 : Int)) w_6

def F36_l12 (lists : Option Addr) (listsN : Nat) (g14 : Addr) (i : Int) (L8 : Int → World → Prop) (k : Int) (w_4 : Addr) (L12 : Int → World → Prop) (j : Int) (w_5 : World) (R : Ending → World → Prop) : Prop :=
 LdSl (w_5.cell? g14) fun x62 x62N x62C =>
 Br (decide (j < ((x62N : Nat) : Int)))
 (∃ J13 : World → Prop, (∀  (w1_12 : World), J13 w1_12 → F36_j13 L12 j w1_12 R) ∧
 (LdSl (w_5.cell? g14) fun x70 x70N x70C =>
 IdxA x70 x70N j 3 fun q72 =>
 LdI .i64 (w_5.cell? q72) fun x74 =>
 Br (x74 == i)
 (∃ S2 : World → Prop, S2 w_5.drew ∧ ∃ (x77_0 : Int), Held S2 w_4 (.int .u64 x77_0) ∧ ∃ (x77_1 : Bool), Held S2 (w_4.add 1) (.bool x77_1) ∧ IdxA lists listsN i 1 fun q82 =>
 ∃ (x83 : Option Addr) (x83N : Nat) (x83C : Nat), Held S2 q82 (.slice x83 x83N x83C) ∧ IdxA x83 x83N k 4 fun q85 =>
 ∃ (x87_0 : Int), Held S2 (q85.add 1) (.int .u64 x87_0) ∧ ∃ (x87_1 : Int), Held S2 ((q85.add 1).add 1) (.int .u64 x87_1) ∧ ∃ (x87_2 : Int), Held S2 ((q85.add 1).add 2) (.int .i64 x87_2) ∧ Calls Try.prog 58 #[(.pointer (some g14)), (.int .i64 j), (.agg #[(.int .u64 x87_0), (.int .u64 x87_1), (.int .i64 x87_2)])] w_5.drew (post R fun v2 w1_13 =>
 ∃ (x88_0 : Int) (x88_1 : Bool), v2 = (.agg #[(.int .u64 x88_0), (.bool x88_1)]) ∧
 S2 w1_13 ∧ Calls Try.prog 57 #[(.agg #[(.int .u64 x77_0), (.bool x77_1)]), (.agg #[(.int .u64 x88_0), (.bool x88_1)])] w1_13 (post R fun v3 w1_14 =>
 ∃ (x89_0 : Int) (x89_1 : Bool), v3 = (.agg #[(.int .u64 x89_0), (.bool x89_1)]) ∧
 St w1_14 w_4 (.int .u64 x89_0) fun w1_15 =>
 St w1_15 (w_4.add 1) (.bool x89_1) fun w1_16 =>
 J13 w1_16)))
 (J13 w_5)))
 (∃ S2 : World → Prop, S2 w_5.drew ∧ ∃ (x93 : Option Addr) (x93N : Nat) (x93C : Nat), Held S2 (g14.add 2) (.slice x93 x93N x93C) ∧ IdxA x93 x93N i 1 fun q95 =>
 ∃ (x96 : Option Addr) (x96N : Nat) (x96C : Nat), Held S2 q95 (.slice x96 x96N x96C) ∧ ∃ (x98_0 : Int), Held S2 w_4 (.int .u64 x98_0) ∧ ∃ (x98_1 : Bool), Held S2 (w_4.add 1) (.bool x98_1) ∧ IdxA x96 x96N k 2 fun q99 =>
 St w_5.drew q99 (.int .u64 x98_0) fun w1_13 =>
 St w1_13 (q99.add 1) (.bool x98_1) fun w1_14 =>
 InR .i64 (k + (1 : Int)) ∧ L8 (k + (1 : Int)) w1_14)

def F36_l8 (lists : Option Addr) (listsN : Nat) (g14 : Addr) (L4 : Int → World → Prop) (i : Int) (L8 : Int → World → Prop) (k : Int) (w_3 : World) (R : Ending → World → Prop) : Prop :=
 IdxA lists listsN i 1 fun q49 =>
 LdSl (w_3.cell? q49) fun x50 x50N x50C =>
 Br (decide (k < ((x50N : Nat) : Int)))
 (Al w_3 #[(.int .u64 0), (.bool false)] 68 fun w_4 w1_9 =>
 St w1_9 w_4 (.int .u64 1) fun w1_10 =>
 St w1_10 (w_4.add 1) (.bool false) fun w1_11 =>
 InR .i64 (i + (1 : Int)) ∧ ∃ (I : Int → World → Prop) (m : Int → World → Nat), I (i + (1 : Int)) w1_11 ∧
 ∀ (j : Int) (w1_12 : World), I j w1_12 → F36_l12 lists listsN g14 i L8 k w_4 (fun j' w2 => I j' w2 ∧ m j' w2 < m j w1_12) j w1_12 R)
 (InR .i64 (i - (1 : Int)) ∧ L4 (i - (1 : Int)) w_3)

def F36_l4 (lists : Option Addr) (listsN : Nat) (g14 : Addr) (L4 : Int → World → Prop) (i : Int) (w_2 : World) (R : Ending → World → Prop) : Prop :=
 Br (decide (i ≥ (0 : Int)))
 (∃ S : World → Prop, S w_2.drew ∧ ∃ (x37 : Option Addr) (x37N : Nat) (x37C : Nat), Held S (g14.add 2) (.slice x37 x37N x37C) ∧ IdxA lists listsN i 1 fun q41 =>
 ∃ (x42 : Option Addr) (x42N : Nat) (x42C : Nat), Held S q41 (.slice x42 x42N x42C) ∧ 0 ≤ ((x42N : Nat) : Int) ∧ ((x42N : Nat) : Int) ≤ ((x42N : Nat) : Int) ∧ ((16 : Nat) : Int) * ((x42N : Nat) : Int) ≤ 281474976710656 ∧ Al w_2.drew (zrow #[(.int .u64 0), (.bool false)] ((((x42N : Nat) : Int)).toNat * 2)) 68 fun g44 w1_7 =>
 S w1_7 ∧ IdxA x37 x37N i 1 fun q45 =>
 St w1_7 q45 (.slice (some g44) (((x42N : Nat) : Int)).toNat (((x42N : Nat) : Int)).toNat) fun w1_8 =>
 ∃ (I : Int → World → Prop) (m : Int → World → Nat), I (0 : Int) w1_8 ∧
 ∀ (k : Int) (w1_9 : World), I k w1_9 → F36_l8 lists listsN g14 L4 i (fun k' w2 => I k' w2 ∧ m k' w2 < m k w1_9) k w1_9 R)
 (R (.returned (.pointer (some g14))) w_2)

def F36 (t_0 : ByteArray) (t_1 : Bool) (t_2 : Option Addr) (t_2N : Nat) (t_2C : Nat) (lists : Option Addr) (listsN : Nat) (listsC : Nat) (w_ : World) (R : Ending → World → Prop) : Prop :=
 Al w_ #[(.string t_0), (.bool t_1), (.slice t_2 t_2N t_2C)] 24 fun t w1 =>
 LdStr (w1.cell? t) fun x10_0 =>
 LdB (w1.cell? (t.add 1)) fun x10_1 =>
 LdSl (w1.cell? (t.add 2)) fun x10_2 x10_2N x10_2C =>
 Calls Try.prog 25 #[(.agg #[(.string x10_0), (.bool x10_1), (.slice x10_2 x10_2N x10_2C)])] w1 (post R fun v w1_2 =>
 ∃ (x11 : Option Addr) (x11N : Nat) (x11C : Nat), v = (.slice x11 x11N x11C) ∧
 Al w1_2 #[(.slice x11 x11N x11C), (.slice lists listsN listsC), (.slice none 0 0)] 107 fun g14 w1_3 =>
 LdSl (w1_3.cell? g14) fun x19 x19N x19C =>
 0 ≤ ((x19N : Nat) : Int) ∧ ((x19N : Nat) : Int) ≤ ((x19N : Nat) : Int) ∧ ((24 : Nat) : Int) * ((x19N : Nat) : Int) ≤ 281474976710656 ∧ Al w1_3 (zrow #[(.slice none 0 0)] ((((x19N : Nat) : Int)).toNat * 1)) 108 fun g21 w1_4 =>
 St w1_4 (g14.add 2) (.slice (some g21) (((x19N : Nat) : Int)).toNat (((x19N : Nat) : Int)).toNat) fun w1_5 =>
 LdSl (w1_5.cell? g14) fun x27 x27N x27C =>
 InR .i64 (((x27N : Nat) : Int) - (1 : Int)) ∧ ∃ (I : Int → World → Prop) (m : Int → World → Nat), I (((x27N : Nat) : Int) - (1 : Int)) w1_5 ∧
 ∀ (i : Int) (w1_6 : World), I i w1_6 → F36_l4 lists listsN g14 (fun i' w2 => I i' w2 ∧ m i' w2 < m i w1_6) i w1_6 R)

def pl36 : Plan := ⟨101, ⟨[]⟩, [(13, ⟨[], [(67, 90)]⟩)], [(12, ⟨[(9, (.s (.int .i64)))], [(9, 90)]⟩), (8, ⟨[(7, (.s (.int .i64)))], [(7, 100)]⟩), (4, ⟨[(6, (.s (.int .i64)))], [(6, 100)]⟩)]⟩

theorem eq36 (t_0 : ByteArray) (t_1 : Bool) (t_2 : Option Addr) (t_2N : Nat) (t_2C : Nat) (lists : Option Addr) (listsN : Nat) (listsC : Nat) (w : World) (R : Ending → World → Prop) : F36 t_0 t_1 t_2 t_2N t_2C lists listsN listsC w R = vc Try.prog Try.f36 pl36 R 100000 [.code (bodyOf Try.f36)] (argEnv 0 #[(.agg #[(.string t_0), (.bool t_1), (.slice t_2 t_2N t_2C)]), (.slice lists listsN listsC)].toList) w := by kernel_rfl

theorem ok36 (t_0 : ByteArray) (t_1 : Bool) (t_2 : Option Addr) (t_2N : Nat) (t_2C : Nat) (lists : Option Addr) (listsN : Nat) (listsC : Nat) {w : World} {R : Ending → World → Prop} (h : F36 t_0 t_1 t_2 t_2N t_2C lists listsN listsC w R) : Calls Try.prog 36 #[(.agg #[(.string t_0), (.bool t_1), (.slice t_2 t_2N t_2C)]), (.slice lists listsN listsC)] w R :=
  vc_calls (pl := pl36) Try.func36 (by kernel_rfl) (by kernel_rfl) (by kernel_rfl) (Eq.mp (eq36 t_0 t_1 t_2 t_2N t_2C lists listsN listsC w R) h)

-- (espalierref12.Many).none
def F60 (a_0 : Int) (a_1 : Bool) (w_ : World) (R : Ending → World → Prop) : Prop :=
 Al w_ #[(.int .u64 a_0), (.bool a_1)] 68 fun a w1 =>
 LdI .u64 (w1.cell? a) fun x4 =>
 Br (x4 == (0 : Int))
 (LdB (w1.cell? (a.add 1)) fun x8 =>
 R (.returned (.bool (!x8))) w1)
 (R (.returned (.bool false)) w1)

def pl60 : Plan := ⟨11, ⟨[]⟩, [], []⟩

theorem eq60 (a_0 : Int) (a_1 : Bool) (w : World) (R : Ending → World → Prop) : F60 a_0 a_1 w R = vc Try.prog Try.f60 pl60 R 100000 [.code (bodyOf Try.f60)] (argEnv 0 #[(.agg #[(.int .u64 a_0), (.bool a_1)])].toList) w := by kernel_rfl

theorem ok60 (a_0 : Int) (a_1 : Bool) {w : World} {R : Ending → World → Prop} (h : F60 a_0 a_1 w R) : Calls Try.prog 60 #[(.agg #[(.int .u64 a_0), (.bool a_1)])] w R :=
  vc_calls (pl := pl60) Try.func60 (by kernel_rfl) (by kernel_rfl) (by kernel_rfl) (Eq.mp (eq60 a_0 a_1 w R) h)

-- espalierref12.fits
def F61 (n_0 : Int) (n_1 : Bool) (n_2 : ByteArray) (up_0 : Int) (up_1 : Int) (up_2 : Int) (x_0 : Int) (x_1 : Int) (x_2 : Int) (w_ : World) (R : Ending → World → Prop) : Prop :=
 Al w_ #[(.int .i64 n_0), (.bool n_1), (.string n_2)] 94 fun n w1 =>
 Al w1 #[(.int .u64 up_0), (.int .u64 up_1), (.int .i64 up_2)] 77 fun up w1_2 =>
 Al w1_2 #[(.int .u64 x_0), (.int .u64 x_1), (.int .i64 x_2)] 77 fun g5 w1_3 =>
 LdB (w1_3.cell? (n.add 1)) fun x8 =>
 Br x8
 (LdI .u64 (w1_3.cell? up) fun x9_0 =>
 LdI .u64 (w1_3.cell? (up.add 1)) fun x9_1 =>
 LdI .i64 (w1_3.cell? (up.add 2)) fun x9_2 =>
 LdI .u64 (w1_3.cell? g5) fun x10_0 =>
 LdI .u64 (w1_3.cell? (g5.add 1)) fun x10_1 =>
 LdI .i64 (w1_3.cell? (g5.add 2)) fun x10_2 =>
 Calls Try.prog 76 #[(.agg #[(.int .u64 x9_0), (.int .u64 x9_1), (.int .i64 x9_2)]), (.agg #[(.int .u64 x10_0), (.int .u64 x10_1), (.int .i64 x10_2)])] w1_3 (post R fun v w1_4 =>
 ∃ (x11 : Bool), v = (.bool x11) ∧
 R (.returned (.bool x11)) w1_4))
 (LdI .u64 (w1_3.cell? up) fun x12_0 =>
 LdI .u64 (w1_3.cell? (up.add 1)) fun x12_1 =>
 LdI .i64 (w1_3.cell? (up.add 2)) fun x12_2 =>
 LdI .u64 (w1_3.cell? g5) fun x13_0 =>
 LdI .u64 (w1_3.cell? (g5.add 1)) fun x13_1 =>
 LdI .i64 (w1_3.cell? (g5.add 2)) fun x13_2 =>
 Calls Try.prog 75 #[(.agg #[(.int .u64 x12_0), (.int .u64 x12_1), (.int .i64 x12_2)]), (.agg #[(.int .u64 x13_0), (.int .u64 x13_1), (.int .i64 x13_2)])] w1_3 (post R fun v w1_4 =>
 ∃ (x14 : Bool), v = (.bool x14) ∧
 R (.returned (.bool x14)) w1_4))

def pl61 : Plan := ⟨15, ⟨[]⟩, [], []⟩

theorem eq61 (n_0 : Int) (n_1 : Bool) (n_2 : ByteArray) (up_0 : Int) (up_1 : Int) (up_2 : Int) (x_0 : Int) (x_1 : Int) (x_2 : Int) (w : World) (R : Ending → World → Prop) : F61 n_0 n_1 n_2 up_0 up_1 up_2 x_0 x_1 x_2 w R = vc Try.prog Try.f61 pl61 R 100000 [.code (bodyOf Try.f61)] (argEnv 0 #[(.agg #[(.int .i64 n_0), (.bool n_1), (.string n_2)]), (.agg #[(.int .u64 up_0), (.int .u64 up_1), (.int .i64 up_2)]), (.agg #[(.int .u64 x_0), (.int .u64 x_1), (.int .i64 x_2)])].toList) w := by kernel_rfl

theorem ok61 (n_0 : Int) (n_1 : Bool) (n_2 : ByteArray) (up_0 : Int) (up_1 : Int) (up_2 : Int) (x_0 : Int) (x_1 : Int) (x_2 : Int) {w : World} {R : Ending → World → Prop} (h : F61 n_0 n_1 n_2 up_0 up_1 up_2 x_0 x_1 x_2 w R) : Calls Try.prog 61 #[(.agg #[(.int .i64 n_0), (.bool n_1), (.string n_2)]), (.agg #[(.int .u64 up_0), (.int .u64 up_1), (.int .i64 up_2)]), (.agg #[(.int .u64 x_0), (.int .u64 x_1), (.int .i64 x_2)])] w R :=
  vc_calls (pl := pl61) Try.func61 (by kernel_rfl) (by kernel_rfl) (by kernel_rfl) (Eq.mp (eq61 n_0 n_1 n_2 up_0 up_1 up_2 x_0 x_1 x_2 w R) h)

-- espalierref12.plus
def F59_j3 (a : Addr) (b : Addr) (g4 : Addr) (w_2 : World) (R : Ending → World → Prop) : Prop :=
 LdI .u64 (w_2.cell? a) fun x21 =>
 LdI .u64 (w_2.cell? b) fun x23 =>
 InR .u64 (x21 + x23) ∧ St w_2 g4 (.int .u64 (x21 + x23)) fun w1_4 =>
 St w1_4 (g4.add 1) (.bool false) fun w1_5 =>
 LdI .u64 (w1_5.cell? g4) fun res0_0 =>
 LdB (w1_5.cell? (g4.add 1)) fun res0_1 =>
 R (.returned (.agg #[(.int .u64 res0_0), (.bool res0_1)])) w1_5

def F59 (a_0 : Int) (a_1 : Bool) (b_0 : Int) (b_1 : Bool) (w_ : World) (R : Ending → World → Prop) : Prop :=
 Al w_ #[(.int .u64 a_0), (.bool a_1)] 68 fun a w1 =>
 Al w1 #[(.int .u64 b_0), (.bool b_1)] 68 fun b w1_2 =>
 Al w1_2 #[(.int .u64 0), (.bool false)] 68 fun g4 w1_3 =>
 ∃ J3 : World → Prop, (∀  (w1_4 : World), J3 w1_4 → F59_j3 a b g4 w1_4 R) ∧
 (LdB (w1_3.cell? (a.add 1)) fun x6 =>
 Br x6
 (St w1_3 g4 (.int .u64 0) fun w1_4 =>
 St w1_4 (g4.add 1) (.bool true) fun w1_5 =>
 LdI .u64 (w1_5.cell? g4) fun res0_0 =>
 LdB (w1_5.cell? (g4.add 1)) fun res0_1 =>
 R (.returned (.agg #[(.int .u64 res0_0), (.bool res0_1)])) w1_5)
 (LdB (w1_3.cell? (b.add 1)) fun x9 =>
 Br x9
 (St w1_3 g4 (.int .u64 0) fun w1_4 =>
 St w1_4 (g4.add 1) (.bool true) fun w1_5 =>
 LdI .u64 (w1_5.cell? g4) fun res0_0 =>
 LdB (w1_5.cell? (g4.add 1)) fun res0_1 =>
 R (.returned (.agg #[(.int .u64 res0_0), (.bool res0_1)])) w1_5)
 (LdI .u64 (w1_3.cell? a) fun x13 =>
 LdI .u64 (w1_3.cell? b) fun x15 =>
 InR .u64 ((18446744073709551615 : Int) - x15) ∧ Br (decide (x13 > ((18446744073709551615 : Int) - x15)))
 (St w1_3 g4 (.int .u64 0) fun w1_4 =>
 St w1_4 (g4.add 1) (.bool true) fun w1_5 =>
 LdI .u64 (w1_5.cell? g4) fun res0_0 =>
 LdB (w1_5.cell? (g4.add 1)) fun res0_1 =>
 R (.returned (.agg #[(.int .u64 res0_0), (.bool res0_1)])) w1_5)
 (J3 w1_3))))

def pl59 : Plan := ⟨26, ⟨[]⟩, [(3, ⟨[], [(5, 20)]⟩)], []⟩

theorem eq59 (a_0 : Int) (a_1 : Bool) (b_0 : Int) (b_1 : Bool) (w : World) (R : Ending → World → Prop) : F59 a_0 a_1 b_0 b_1 w R = vc Try.prog Try.f59 pl59 R 100000 [.code (bodyOf Try.f59)] (argEnv 0 #[(.agg #[(.int .u64 a_0), (.bool a_1)]), (.agg #[(.int .u64 b_0), (.bool b_1)])].toList) w := by kernel_rfl

theorem ok59 (a_0 : Int) (a_1 : Bool) (b_0 : Int) (b_1 : Bool) {w : World} {R : Ending → World → Prop} (h : F59 a_0 a_1 b_0 b_1 w R) : Calls Try.prog 59 #[(.agg #[(.int .u64 a_0), (.bool a_1)]), (.agg #[(.int .u64 b_0), (.bool b_1)])] w R :=
  vc_calls (pl := pl59) Try.func59 (by kernel_rfl) (by kernel_rfl) (by kernel_rfl) (Eq.mp (eq59 a_0 a_1 b_0 b_1 w R) h)

-- espalierref12.times
def F57_j5 (a : Addr) (b : Addr) (g4 : Addr) (w_2 : World) (R : Ending → World → Prop) : Prop :=
 LdI .u64 (w_2.cell? a) fun x30 =>
 LdI .u64 (w_2.cell? b) fun x32 =>
 InR .u64 (x30 * x32) ∧ St w_2 g4 (.int .u64 (x30 * x32)) fun w1_4 =>
 St w1_4 (g4.add 1) (.bool false) fun w1_5 =>
 LdI .u64 (w1_5.cell? g4) fun res0_0 =>
 LdB (w1_5.cell? (g4.add 1)) fun res0_1 =>
 R (.returned (.agg #[(.int .u64 res0_0), (.bool res0_1)])) w1_5

def F57 (a_0 : Int) (a_1 : Bool) (b_0 : Int) (b_1 : Bool) (w_ : World) (R : Ending → World → Prop) : Prop :=
 Al w_ #[(.int .u64 a_0), (.bool a_1)] 68 fun a w1 =>
 Al w1 #[(.int .u64 b_0), (.bool b_1)] 68 fun b w1_2 =>
 Al w1_2 #[(.int .u64 0), (.bool false)] 68 fun g4 w1_3 =>
 ∃ J5 : World → Prop, (∀  (w1_4 : World), J5 w1_4 → F57_j5 a b g4 w1_4 R) ∧
 (LdI .u64 (w1_3.cell? a) fun x6_0 =>
 LdB (w1_3.cell? (a.add 1)) fun x6_1 =>
 Calls Try.prog 60 #[(.agg #[(.int .u64 x6_0), (.bool x6_1)])] w1_3 (post R fun v w1_4 =>
 ∃ (x7 : Bool), v = (.bool x7) ∧
 Br x7
 (St w1_4 g4 (.int .u64 0) fun w1_5 =>
 St w1_5 (g4.add 1) (.bool false) fun w1_6 =>
 LdI .u64 (w1_6.cell? g4) fun res0_0 =>
 LdB (w1_6.cell? (g4.add 1)) fun res0_1 =>
 R (.returned (.agg #[(.int .u64 res0_0), (.bool res0_1)])) w1_6)
 (LdI .u64 (w1_4.cell? b) fun x9_0 =>
 LdB (w1_4.cell? (b.add 1)) fun x9_1 =>
 Calls Try.prog 60 #[(.agg #[(.int .u64 x9_0), (.bool x9_1)])] w1_4 (post R fun v2 w1_5 =>
 ∃ (x10 : Bool), v2 = (.bool x10) ∧
 Br x10
 (St w1_5 g4 (.int .u64 0) fun w1_6 =>
 St w1_6 (g4.add 1) (.bool false) fun w1_7 =>
 LdI .u64 (w1_7.cell? g4) fun res0_0 =>
 LdB (w1_7.cell? (g4.add 1)) fun res0_1 =>
 R (.returned (.agg #[(.int .u64 res0_0), (.bool res0_1)])) w1_7)
 (Dr w1_5 fun w1_6 =>
 LdB (w1_6.cell? (a.add 1)) fun x15 =>
 Br x15
 (St w1_6 g4 (.int .u64 0) fun w1_7 =>
 St w1_7 (g4.add 1) (.bool true) fun w1_8 =>
 LdI .u64 (w1_8.cell? g4) fun res0_0 =>
 LdB (w1_8.cell? (g4.add 1)) fun res0_1 =>
 R (.returned (.agg #[(.int .u64 res0_0), (.bool res0_1)])) w1_8)
 (LdB (w1_6.cell? (b.add 1)) fun x18 =>
 Br x18
 (St w1_6 g4 (.int .u64 0) fun w1_7 =>
 St w1_7 (g4.add 1) (.bool true) fun w1_8 =>
 LdI .u64 (w1_8.cell? g4) fun res0_0 =>
 LdB (w1_8.cell? (g4.add 1)) fun res0_1 =>
 R (.returned (.agg #[(.int .u64 res0_0), (.bool res0_1)])) w1_8)
 (LdI .u64 (w1_6.cell? b) fun x22 =>
 LdI .u64 (w1_6.cell? a) fun x24 =>
 x24 ≠ 0 ∧ InR .u64 ((18446744073709551615 : Int).tdiv x24) ∧ Br (decide (x22 > ((18446744073709551615 : Int).tdiv x24)))
 (St w1_6 g4 (.int .u64 0) fun w1_7 =>
 St w1_7 (g4.add 1) (.bool true) fun w1_8 =>
 LdI .u64 (w1_8.cell? g4) fun res0_0 =>
 LdB (w1_8.cell? (g4.add 1)) fun res0_1 =>
 R (.returned (.agg #[(.int .u64 res0_0), (.bool res0_1)])) w1_8)
 (J5 w1_6))))))))

def pl57 : Plan := ⟨35, ⟨[]⟩, [(5, ⟨[], [(5, 29)]⟩)], []⟩

theorem eq57 (a_0 : Int) (a_1 : Bool) (b_0 : Int) (b_1 : Bool) (w : World) (R : Ending → World → Prop) : F57 a_0 a_1 b_0 b_1 w R = vc Try.prog Try.f57 pl57 R 100000 [.code (bodyOf Try.f57)] (argEnv 0 #[(.agg #[(.int .u64 a_0), (.bool a_1)]), (.agg #[(.int .u64 b_0), (.bool b_1)])].toList) w := by kernel_rfl

theorem ok57 (a_0 : Int) (a_1 : Bool) (b_0 : Int) (b_1 : Bool) {w : World} {R : Ending → World → Prop} (h : F57 a_0 a_1 b_0 b_1 w R) : Calls Try.prog 57 #[(.agg #[(.int .u64 a_0), (.bool a_1)]), (.agg #[(.int .u64 b_0), (.bool b_1)])] w R :=
  vc_calls (pl := pl57) Try.func57 (by kernel_rfl) (by kernel_rfl) (by kernel_rfl) (Eq.mp (eq57 a_0 a_1 b_0 b_1 w R) h)

-- (*espalierref12.Matching).under
def F58_j4 (L3 : Int → World → Prop) (k : Int) (w_3 : World) (R : Ending → World → Prop) : Prop :=
 InR .i64 (k + (1 : Int)) ∧ L3 (k + (1 : Int)) w_3

def F58_l3 (m_ : Option Addr) (j : Int) (up : Addr) (g6 : Addr) (n : Addr) (L3 : Int → World → Prop) (k : Int) (w_2 : World) (R : Ending → World → Prop) : Prop :=
 NonNil m_ fun p12 =>
 LdSl (w_2.cell? (p12.add 1)) fun x14 x14N x14C =>
 IdxA x14 x14N j 1 fun q16 =>
 LdSl (w_2.cell? q16) fun x17 x17N x17C =>
 Br (decide (k < ((x17N : Nat) : Int)))
 (∃ J4 : World → Prop, (∀  (w1_6 : World), J4 w1_6 → F58_j4 L3 k w1_6 R) ∧
 (∃ S : World → Prop, S w_2.drew ∧ NonNil m_ fun p23 =>
 ∃ (x25 : Option Addr) (x25N : Nat) (x25C : Nat), Held S p23 (.slice x25 x25N x25C) ∧ IdxA x25 x25N j 3 fun q27 =>
 ∃ (x28_0 : Int), Held S q27 (.int .i64 x28_0) ∧ ∃ (x28_1 : Bool), Held S (q27.add 1) (.bool x28_1) ∧ ∃ (x28_2 : ByteArray), Held S (q27.add 2) (.string x28_2) ∧ ∃ (x29_0 : Int), Held S up (.int .u64 x29_0) ∧ ∃ (x29_1 : Int), Held S (up.add 1) (.int .u64 x29_1) ∧ ∃ (x29_2 : Int), Held S (up.add 2) (.int .i64 x29_2) ∧ NonNil m_ fun p31 =>
 ∃ (x33 : Option Addr) (x33N : Nat) (x33C : Nat), Held S (p31.add 1) (.slice x33 x33N x33C) ∧ IdxA x33 x33N j 1 fun q35 =>
 ∃ (x36 : Option Addr) (x36N : Nat) (x36C : Nat), Held S q35 (.slice x36 x36N x36C) ∧ IdxA x36 x36N k 4 fun q38 =>
 ∃ (x40_0 : Int), Held S (q38.add 1) (.int .u64 x40_0) ∧ ∃ (x40_1 : Int), Held S ((q38.add 1).add 1) (.int .u64 x40_1) ∧ ∃ (x40_2 : Int), Held S ((q38.add 1).add 2) (.int .i64 x40_2) ∧ Calls Try.prog 61 #[(.agg #[(.int .i64 x28_0), (.bool x28_1), (.string x28_2)]), (.agg #[(.int .u64 x29_0), (.int .u64 x29_1), (.int .i64 x29_2)]), (.agg #[(.int .u64 x40_0), (.int .u64 x40_1), (.int .i64 x40_2)])] w_2.drew (post R fun v w1_7 =>
 ∃ (x41 : Bool), v = (.bool x41) ∧
 Br x41
 (∃ S2 : World → Prop, S2 w1_7.drew ∧ ∃ (x42_0 : Int), Held S2 n (.int .u64 x42_0) ∧ ∃ (x42_1 : Bool), Held S2 (n.add 1) (.bool x42_1) ∧ NonNil m_ fun p44 =>
 ∃ (x46 : Option Addr) (x46N : Nat) (x46C : Nat), Held S2 (p44.add 2) (.slice x46 x46N x46C) ∧ IdxA x46 x46N j 1 fun q48 =>
 ∃ (x49 : Option Addr) (x49N : Nat) (x49C : Nat), Held S2 q48 (.slice x49 x49N x49C) ∧ IdxA x49 x49N k 2 fun q51 =>
 ∃ (x52_0 : Int), Held S2 q51 (.int .u64 x52_0) ∧ ∃ (x52_1 : Bool), Held S2 (q51.add 1) (.bool x52_1) ∧ Calls Try.prog 59 #[(.agg #[(.int .u64 x42_0), (.bool x42_1)]), (.agg #[(.int .u64 x52_0), (.bool x52_1)])] w1_7.drew (post R fun v2 w1_9 =>
 ∃ (x53_0 : Int) (x53_1 : Bool), v2 = (.agg #[(.int .u64 x53_0), (.bool x53_1)]) ∧
 St w1_9 n (.int .u64 x53_0) fun w1_10 =>
 St w1_10 (n.add 1) (.bool x53_1) fun w1_11 =>
 J4 w1_11))
 (J4 w1_7))))
 (LdI .u64 (w_2.cell? n) fun x54_0 =>
 LdB (w_2.cell? (n.add 1)) fun x54_1 =>
 St w_2 g6 (.int .u64 x54_0) fun w1_6 =>
 St w1_6 (g6.add 1) (.bool x54_1) fun w1_7 =>
 LdI .u64 (w1_7.cell? g6) fun res0_0 =>
 LdB (w1_7.cell? (g6.add 1)) fun res0_1 =>
 R (.returned (.agg #[(.int .u64 res0_0), (.bool res0_1)])) w1_7)

def F58 (m_ : Option Addr) (j : Int) (up_0 : Int) (up_1 : Int) (up_2 : Int) (w_ : World) (R : Ending → World → Prop) : Prop :=
 Al w_ #[(.int .u64 up_0), (.int .u64 up_1), (.int .i64 up_2)] 77 fun up w1 =>
 Al w1 #[(.int .u64 0), (.bool false)] 68 fun g6 w1_2 =>
 Al w1_2 #[(.int .u64 0), (.bool false)] 68 fun n w1_3 =>
 St w1_3 n (.int .u64 0) fun w1_4 =>
 St w1_4 (n.add 1) (.bool false) fun w1_5 =>
 ∃ (I : Int → World → Prop) (m : Int → World → Nat), I (0 : Int) w1_5 ∧
 ∀ (k : Int) (w1_6 : World), I k w1_6 → F58_l3 m_ j up g6 n (fun k' w2 => I k' w2 ∧ m k' w2 < m k w1_6) k w1_6 R

def pl58 : Plan := ⟨55, ⟨[]⟩, [(4, ⟨[], [(22, 54)]⟩)], [(3, ⟨[(8, (.s (.int .i64)))], [(8, 54)]⟩)]⟩

theorem eq58 (m_ : Option Addr) (j : Int) (up_0 : Int) (up_1 : Int) (up_2 : Int) (w : World) (R : Ending → World → Prop) : F58 m_ j up_0 up_1 up_2 w R = vc Try.prog Try.f58 pl58 R 100000 [.code (bodyOf Try.f58)] (argEnv 0 #[(.pointer m_), (.int .i64 j), (.agg #[(.int .u64 up_0), (.int .u64 up_1), (.int .i64 up_2)])].toList) w := by kernel_rfl

theorem ok58 (m_ : Option Addr) (j : Int) (up_0 : Int) (up_1 : Int) (up_2 : Int) {w : World} {R : Ending → World → Prop} (h : F58 m_ j up_0 up_1 up_2 w R) : Calls Try.prog 58 #[(.pointer m_), (.int .i64 j), (.agg #[(.int .u64 up_0), (.int .u64 up_1), (.int .i64 up_2)])] w R :=
  vc_calls (pl := pl58) Try.func58 (by kernel_rfl) (by kernel_rfl) (by kernel_rfl) (Eq.mp (eq58 m_ j up_0 up_1 up_2 w R) h)

-- (*espalierref12.Matching).Count
def F37_l3 (m_ : Option Addr) (g2 : Addr) (n : Addr) (L3 : Int → World → Prop) (k : Int) (w_2 : World) (R : Ending → World → Prop) : Prop :=
 NonNil m_ fun p8 =>
 LdSl (w_2.cell? (p8.add 2)) fun x10 x10N x10C =>
 IdxA x10 x10N (0 : Int) 1 fun q11 =>
 LdSl (w_2.cell? q11) fun x12 x12N x12C =>
 Br (decide (k < ((x12N : Nat) : Int)))
 (∃ S : World → Prop, S w_2.drew ∧ ∃ (x17_0 : Int), Held S n (.int .u64 x17_0) ∧ ∃ (x17_1 : Bool), Held S (n.add 1) (.bool x17_1) ∧ NonNil m_ fun p19 =>
 ∃ (x21 : Option Addr) (x21N : Nat) (x21C : Nat), Held S (p19.add 2) (.slice x21 x21N x21C) ∧ IdxA x21 x21N (0 : Int) 1 fun q22 =>
 ∃ (x23 : Option Addr) (x23N : Nat) (x23C : Nat), Held S q22 (.slice x23 x23N x23C) ∧ IdxA x23 x23N k 2 fun q25 =>
 ∃ (x26_0 : Int), Held S q25 (.int .u64 x26_0) ∧ ∃ (x26_1 : Bool), Held S (q25.add 1) (.bool x26_1) ∧ Calls Try.prog 59 #[(.agg #[(.int .u64 x17_0), (.bool x17_1)]), (.agg #[(.int .u64 x26_0), (.bool x26_1)])] w_2.drew (post R fun v w1_6 =>
 ∃ (x27_0 : Int) (x27_1 : Bool), v = (.agg #[(.int .u64 x27_0), (.bool x27_1)]) ∧
 St w1_6 n (.int .u64 x27_0) fun w1_7 =>
 St w1_7 (n.add 1) (.bool x27_1) fun w1_8 =>
 InR .i64 (k + (1 : Int)) ∧ L3 (k + (1 : Int)) w1_8))
 (LdI .u64 (w_2.cell? n) fun x28_0 =>
 LdB (w_2.cell? (n.add 1)) fun x28_1 =>
 St w_2 g2 (.int .u64 x28_0) fun w1_5 =>
 St w1_5 (g2.add 1) (.bool x28_1) fun w1_6 =>
 LdI .u64 (w1_6.cell? g2) fun res0_0 =>
 LdB (w1_6.cell? (g2.add 1)) fun res0_1 =>
 R (.returned (.agg #[(.int .u64 res0_0), (.bool res0_1)])) w1_6)

def F37 (m_ : Option Addr) (w_ : World) (R : Ending → World → Prop) : Prop :=
 Al w_ #[(.int .u64 0), (.bool false)] 68 fun g2 w1 =>
 Al w1 #[(.int .u64 0), (.bool false)] 68 fun n w1_2 =>
 St w1_2 n (.int .u64 0) fun w1_3 =>
 St w1_3 (n.add 1) (.bool false) fun w1_4 =>
 ∃ (I : Int → World → Prop) (m : Int → World → Nat), I (0 : Int) w1_4 ∧
 ∀ (k : Int) (w1_5 : World), I k w1_5 → F37_l3 m_ g2 n (fun k' w2 => I k' w2 ∧ m k' w2 < m k w1_5) k w1_5 R

def pl37 : Plan := ⟨29, ⟨[]⟩, [], [(3, ⟨[(4, (.s (.int .i64)))], [(4, 28)]⟩)]⟩

theorem eq37 (m_ : Option Addr) (w : World) (R : Ending → World → Prop) : F37 m_ w R = vc Try.prog Try.f37 pl37 R 100000 [.code (bodyOf Try.f37)] (argEnv 0 #[(.pointer m_)].toList) w := by kernel_rfl

theorem ok37 (m_ : Option Addr) {w : World} {R : Ending → World → Prop} (h : F37 m_ w R) : Calls Try.prog 37 #[(.pointer m_)] w R :=
  vc_calls (pl := pl37) Try.func37 (by kernel_rfl) (by kernel_rfl) (by kernel_rfl) (Eq.mp (eq37 m_ w R) h)

-- (*espalierref12.Matching).find
def F38_l4 (m_ : Option Addr) (chosen : Option Addr) (chosenN : Nat) (out : Option Addr) (outN : Nat) (outC : Nat) (L4 : Option Addr → Nat → Nat → Int → World → Prop) (one : Option Addr) (oneN : Nat) (oneC : Nat) (k : Int) (w_2 : World) (R : Ending → World → Prop) : Prop :=
 Br (decide (k < ((chosenN : Nat) : Int)))
 (∃ S : World → Prop, S w_2.drew ∧ NonNil m_ fun p27 =>
 ∃ (x29 : Option Addr) (x29N : Nat) (x29C : Nat), Held S (p27.add 1) (.slice x29 x29N x29C) ∧ IdxA x29 x29N k 1 fun q31 =>
 ∃ (x32 : Option Addr) (x32N : Nat) (x32C : Nat), Held S q31 (.slice x32 x32N x32C) ∧ IdxA chosen chosenN k 1 fun q35 =>
 ∃ (x36 : Int), Held S q35 (.int .i64 x36) ∧ IdxA x32 x32N x36 4 fun q37 =>
 ∃ (x39 : Int), Held S q37 (.int .u64 x39) ∧ Al w_2.drew #[(.int .u64 x39)] 75 fun g40 w1_2 =>
 Raw Try.prog (Builtin.append_ #[53, 53] 53 #[(.slice one oneN oneC), (.slice (some g40) 1 1)]) w1_2 fun v w1_3 =>
 ∃ (x41 : Option Addr) (x41N : Nat) (x41C : Nat), v = (.slice x41 x41N x41C) ∧
 InR .i64 (k + (1 : Int)) ∧ L4 x41 x41N x41C (k + (1 : Int)) w1_3)
 (Al w_2 #[(.slice one oneN oneC)] 53 fun g44 w1 =>
 Raw Try.prog (Builtin.append_ #[31, 31] 31 #[(.slice out outN outC), (.slice (some g44) 1 1)]) w1 fun v w1_2 =>
 ∃ (x45 : Option Addr) (x45N : Nat) (x45C : Nat), v = (.slice x45 x45N x45C) ∧
 R (.returned (.slice x45 x45N x45C)) w1_2)

def F38_j10 (L9 : Option Addr → Nat → Nat → Int → World → Prop) (k : Int) (out3 : Option Addr) (outN3 : Nat) (outC3 : Nat) (w_3 : World) (R : Ending → World → Prop) : Prop :=
 InR .i64 (k + (1 : Int)) ∧ L9 out3 outN3 outC3 (k + (1 : Int)) w_3

def F38_j12 (m_ : Option Addr) (i : Int) (chosen : Option Addr) (chosenN : Nat) (chosenC : Nat) (out2 : Option Addr) (outN2 : Nat) (outC2 : Nat) (k : Int) (J10 : Option Addr → Nat → Nat → World → Prop) (w_3 : World) (R : Ending → World → Prop) : Prop :=
 InR .i64 (i + (1 : Int)) ∧ Al w_3 #[] 3 fun g126 w1 =>
 Raw Try.prog (Builtin.append_ #[92, 92] 92 #[(.slice (some g126) 0 0), (.slice chosen chosenN chosenC)]) w1 fun v w1_2 =>
 ∃ (x128 : Option Addr) (x128N : Nat) (x128C : Nat), v = (.slice x128 x128N x128C) ∧
 Al w1_2 #[(.int .i64 k)] 3 fun g130 w1_3 =>
 Raw Try.prog (Builtin.append_ #[92, 92] 92 #[(.slice x128 x128N x128C), (.slice (some g130) 1 1)]) w1_3 fun v2 w1_4 =>
 ∃ (x131 : Option Addr) (x131N : Nat) (x131C : Nat), v2 = (.slice x131 x131N x131C) ∧
 Calls Try.prog 38 #[(.pointer m_), (.int .i64 (i + (1 : Int))), (.slice x131 x131N x131C), (.slice out2 outN2 outC2)] w1_4 (post R fun v3 w1_5 =>
 ∃ (x133 : Option Addr) (x133N : Nat) (x133C : Nat), v3 = (.slice x133 x133N x133C) ∧
 J10 x133 x133N x133C w1_5)

def F38_l9 (m_ : Option Addr) (i : Int) (chosen : Option Addr) (chosenN : Nat) (chosenC : Nat) (L9 : Option Addr → Nat → Nat → Int → World → Prop) (out2 : Option Addr) (outN2 : Nat) (outC2 : Nat) (k : Int) (w_2 : World) (R : Ending → World → Prop) : Prop :=
 NonNil m_ fun p48 =>
 LdSl (w_2.cell? (p48.add 1)) fun x50 x50N x50C =>
 IdxA x50 x50N i 1 fun q52 =>
 LdSl (w_2.cell? q52) fun x53 x53N x53C =>
 Br (decide (k < ((x53N : Nat) : Int)))
 (∃ J10 : Option Addr → Nat → Nat → World → Prop, (∀ (out3 : Option Addr) (outN3 : Nat) (outC3 : Nat) (w1 : World), J10 out3 outN3 outC3 w1 → F38_j10 L9 k out3 outN3 outC3 w1 R) ∧
 (∃ J12 : World → Prop, (∀  (w1 : World), J12 w1 → F38_j12 m_ i chosen chosenN chosenC out2 outN2 outC2 k J10 w1 R) ∧
 (∃ S : World → Prop, S w_2.drew ∧ NonNil m_ fun p59 =>
 ∃ (x61 : Option Addr) (x61N : Nat) (x61C : Nat), Held S (p59.add 2) (.slice x61 x61N x61C) ∧ IdxA x61 x61N i 1 fun q63 =>
 ∃ (x64 : Option Addr) (x64N : Nat) (x64C : Nat), Held S q63 (.slice x64 x64N x64C) ∧ IdxA x64 x64N k 2 fun q66 =>
 ∃ (x67_0 : Int), Held S q66 (.int .u64 x67_0) ∧ ∃ (x67_1 : Bool), Held S (q66.add 1) (.bool x67_1) ∧ Calls Try.prog 60 #[(.agg #[(.int .u64 x67_0), (.bool x67_1)])] w_2.drew (post R fun v w1_2 =>
 ∃ (x68 : Bool), v = (.bool x68) ∧
 S w1_2 ∧ Br x68
 (J10 out2 outN2 outC2 w1_2)
 (Br (decide (i > (0 : Int)))
 (NonNil m_ fun p74 =>
 ∃ (x76 : Option Addr) (x76N : Nat) (x76C : Nat), Held S p74 (.slice x76 x76N x76C) ∧ IdxA x76 x76N i 3 fun q78 =>
 ∃ (x79_0 : Int), Held S q78 (.int .i64 x79_0) ∧ ∃ (x79_1 : Bool), Held S (q78.add 1) (.bool x79_1) ∧ ∃ (x79_2 : ByteArray), Held S (q78.add 2) (.string x79_2) ∧ NonNil m_ fun p81 =>
 ∃ (x83 : Option Addr) (x83N : Nat) (x83C : Nat), Held S (p81.add 1) (.slice x83 x83N x83C) ∧ NonNil m_ fun p85 =>
 ∃ (x87 : Option Addr) (x87N : Nat) (x87C : Nat), Held S p85 (.slice x87 x87N x87C) ∧ IdxA x87 x87N i 3 fun q89 =>
 ∃ (x91 : Int), Held S q89 (.int .i64 x91) ∧ IdxA x83 x83N x91 1 fun q92 =>
 ∃ (x93 : Option Addr) (x93N : Nat) (x93C : Nat), Held S q92 (.slice x93 x93N x93C) ∧ NonNil m_ fun p96 =>
 ∃ (x98 : Option Addr) (x98N : Nat) (x98C : Nat), Held S p96 (.slice x98 x98N x98C) ∧ IdxA x98 x98N i 3 fun q100 =>
 ∃ (x102 : Int), Held S q100 (.int .i64 x102) ∧ IdxA chosen chosenN x102 1 fun q103 =>
 ∃ (x104 : Int), Held S q103 (.int .i64 x104) ∧ IdxA x93 x93N x104 4 fun q105 =>
 ∃ (x107_0 : Int), Held S (q105.add 1) (.int .u64 x107_0) ∧ ∃ (x107_1 : Int), Held S ((q105.add 1).add 1) (.int .u64 x107_1) ∧ ∃ (x107_2 : Int), Held S ((q105.add 1).add 2) (.int .i64 x107_2) ∧ NonNil m_ fun p109 =>
 ∃ (x111 : Option Addr) (x111N : Nat) (x111C : Nat), Held S (p109.add 1) (.slice x111 x111N x111C) ∧ IdxA x111 x111N i 1 fun q113 =>
 ∃ (x114 : Option Addr) (x114N : Nat) (x114C : Nat), Held S q113 (.slice x114 x114N x114C) ∧ IdxA x114 x114N k 4 fun q116 =>
 ∃ (x118_0 : Int), Held S (q116.add 1) (.int .u64 x118_0) ∧ ∃ (x118_1 : Int), Held S ((q116.add 1).add 1) (.int .u64 x118_1) ∧ ∃ (x118_2 : Int), Held S ((q116.add 1).add 2) (.int .i64 x118_2) ∧ Calls Try.prog 61 #[(.agg #[(.int .i64 x79_0), (.bool x79_1), (.string x79_2)]), (.agg #[(.int .u64 x107_0), (.int .u64 x107_1), (.int .i64 x107_2)]), (.agg #[(.int .u64 x118_0), (.int .u64 x118_1), (.int .i64 x118_2)])] w1_2 (post R fun v2 w1_3 =>
 ∃ (x119 : Bool), v2 = (.bool x119) ∧
 Br (!x119)
 (J10 out2 outN2 outC2 w1_3)
 (J12 w1_3)))
 (J12 w1_2))))))
 (R (.returned (.slice out2 outN2 outC2)) w_2)

def F38 (m_ : Option Addr) (i : Int) (chosen : Option Addr) (chosenN : Nat) (chosenC : Nat) (out : Option Addr) (outN : Nat) (outC : Nat) (w_ : World) (R : Ending → World → Prop) : Prop :=
 NonNil m_ fun p14 =>
 LdSl (w_.cell? p14) fun x16 x16N x16C =>
 Br (i == ((x16N : Nat) : Int))
 (∃ (I : Option Addr → Nat → Nat → Int → World → Prop) (m : Option Addr → Nat → Nat → Int → World → Nat), I none 0 0 (0 : Int) w_ ∧
 ∀ (one : Option Addr) (oneN : Nat) (oneC : Nat) (k : Int) (w1 : World), I one oneN oneC k w1 → F38_l4 m_ chosen chosenN out outN outC (fun one' oneN' oneC' k' w2 => I one' oneN' oneC' k' w2 ∧ m one' oneN' oneC' k' w2 < m one oneN oneC k w1) one oneN oneC k w1 R)
 (∃ (I : Option Addr → Nat → Nat → Int → World → Prop) (m : Option Addr → Nat → Nat → Int → World → Nat), I out outN outC (0 : Int) w_ ∧
 ∀ (out2 : Option Addr) (outN2 : Nat) (outC2 : Nat) (k : Int) (w1 : World), I out2 outN2 outC2 k w1 → F38_l9 m_ i chosen chosenN chosenC (fun out2' outN2' outC2' k' w2 => I out2' outN2' outC2' k' w2 ∧ m out2' outN2' outC2' k' w2 < m out2 outN2 outC2 k w1) out2 outN2 outC2 k w1 R)

def pl38 : Plan := ⟨135, ⟨[]⟩, [(12, ⟨[], [(58, 123)]⟩), (10, ⟨[(3, (.s .slice))], [(3, 4), (58, 134)]⟩)], [(4, ⟨[(9, (.s .slice)), (10, (.s (.int .i64)))], [(9, 42)]⟩), (9, ⟨[(3, (.s .slice)), (11, (.s (.int .i64)))], [(3, 134)]⟩)]⟩

theorem eq38 (m_ : Option Addr) (i : Int) (chosen : Option Addr) (chosenN : Nat) (chosenC : Nat) (out : Option Addr) (outN : Nat) (outC : Nat) (w : World) (R : Ending → World → Prop) : F38 m_ i chosen chosenN chosenC out outN outC w R = vc Try.prog Try.f38 pl38 R 100000 [.code (bodyOf Try.f38)] (argEnv 0 #[(.pointer m_), (.int .i64 i), (.slice chosen chosenN chosenC), (.slice out outN outC)].toList) w := by kernel_rfl

theorem ok38 (m_ : Option Addr) (i : Int) (chosen : Option Addr) (chosenN : Nat) (chosenC : Nat) (out : Option Addr) (outN : Nat) (outC : Nat) {w : World} {R : Ending → World → Prop} (h : F38 m_ i chosen chosenN chosenC out outN outC w R) : Calls Try.prog 38 #[(.pointer m_), (.int .i64 i), (.slice chosen chosenN chosenC), (.slice out outN outC)] w R :=
  vc_calls (pl := pl38) Try.func38 (by kernel_rfl) (by kernel_rfl) (by kernel_rfl) (Eq.mp (eq38 m_ i chosen chosenN chosenC out outN outC w R) h)

-- espalierref12.Find
def F14_j10 (x25 : Option Addr) (w_3 : World) (R : Ending → World → Prop) : Prop :=
 Calls Try.prog 38 #[(.pointer x25), (.int .i64 0), (.slice none 0 0), (.slice none 0 0)] w_3 (post R fun v3 w1_4 =>
 ∃ (x43 : Option Addr) (x43N : Nat) (x43C : Nat), v3 = (.slice x43 x43N x43C) ∧
 R (.returned (.tuple #[(.slice x43 x43N x43C), (.int .i64 0)])) w1_4)

def F14_j4 (lists : Option Addr) (listsN : Nat) (listsC : Nat) (limit : Int) (t : Addr) (e : Int) (w_2 : World) (R : Ending → World → Prop) : Prop :=
 Br (e != (0 : Int))
 (R (.returned (.tuple #[(.slice none 0 0), (.int .i64 e)])) w_2)
 (LdStr (w_2.cell? t) fun x23_0 =>
 LdB (w_2.cell? (t.add 1)) fun x23_1 =>
 LdSl (w_2.cell? (t.add 2)) fun x23_2 x23_2N x23_2C =>
 Calls Try.prog 36 #[(.agg #[(.string x23_0), (.bool x23_1), (.slice x23_2 x23_2N x23_2C)]), (.slice lists listsN listsC)] w_2 (post R fun v2 w1_3 =>
 ∃ (x25 : Option Addr), v2 = (.pointer x25) ∧
 ∃ J10 : World → Prop, (∀  (w1_4 : World), J10 w1_4 → F14_j10 x25 w1_4 R) ∧
 (Calls Try.prog 37 #[(.pointer x25)] w1_3 (post R fun v3 w1_4 =>
 ∃ (x27_0 : Int) (x27_1 : Bool), v3 = (.agg #[(.int .u64 x27_0), (.bool x27_1)]) ∧
 Al w1_4 #[(.int .u64 0), (.bool false)] 68 fun n w1_5 =>
 St w1_5 n (.int .u64 x27_0) fun w1_6 =>
 St w1_6 (n.add 1) (.bool x27_1) fun w1_7 =>
 LdB (w1_7.cell? (n.add 1)) fun x29 =>
 Br x29
 (R (.returned (.tuple #[(.slice none 0 0), (.int .i64 2)])) w1_7)
 (LdI .u64 (w1_7.cell? n) fun x32 =>
 InR .u64 (limit) ∧ Br (decide (x32 > (limit)))
 (R (.returned (.tuple #[(.slice none 0 0), (.int .i64 2)])) w1_7)
 (LdI .u64 (w1_7.cell? n) fun x39 =>
 Br (decide (x39 > (16384 : Int)))
 (R (.returned (.tuple #[(.slice none 0 0), (.int .i64 2)])) w1_7)
 (J10 w1_7)))))))

def F14 (t_0 : ByteArray) (t_1 : Bool) (t_2 : Option Addr) (t_2N : Nat) (t_2C : Nat) (lists : Option Addr) (listsN : Nat) (listsC : Nat) (limit : Int) (w_ : World) (R : Ending → World → Prop) : Prop :=
 Al w_ #[(.string t_0), (.bool t_1), (.slice t_2 t_2N t_2C)] 24 fun t w1 =>
 LdStr (w1.cell? t) fun x11_0 =>
 LdB (w1.cell? (t.add 1)) fun x11_1 =>
 LdSl (w1.cell? (t.add 2)) fun x11_2 x11_2N x11_2C =>
 Calls Try.prog 35 #[(.agg #[(.string x11_0), (.bool x11_1), (.slice x11_2 x11_2N x11_2C)]), (.slice lists listsN listsC)] w1 (post R fun v w1_2 =>
 ∃ (x13 : Int), v = (.int .i64 x13) ∧
 ∃ J4 : Int → World → Prop, (∀ (e : Int) (w1_3 : World), J4 e w1_3 → F14_j4 lists listsN listsC limit t e w1_3 R) ∧
 (Br (x13 == (0 : Int))
 (Br (decide (limit < (0 : Int)))
 (J4 (1 : Int) w1_2)
 (J4 x13 w1_2))
 (J4 x13 w1_2)))

def pl14 : Plan := ⟨44, ⟨[]⟩, [(10, ⟨[], [(6, 8), (10, 42)]⟩), (4, ⟨[(8, (.s (.int .i64)))], [(8, 20)]⟩)], []⟩

theorem eq14 (t_0 : ByteArray) (t_1 : Bool) (t_2 : Option Addr) (t_2N : Nat) (t_2C : Nat) (lists : Option Addr) (listsN : Nat) (listsC : Nat) (limit : Int) (w : World) (R : Ending → World → Prop) : F14 t_0 t_1 t_2 t_2N t_2C lists listsN listsC limit w R = vc Try.prog Try.f14 pl14 R 100000 [.code (bodyOf Try.f14)] (argEnv 0 #[(.agg #[(.string t_0), (.bool t_1), (.slice t_2 t_2N t_2C)]), (.slice lists listsN listsC), (.int .i64 limit)].toList) w := by kernel_rfl

theorem ok14 (t_0 : ByteArray) (t_1 : Bool) (t_2 : Option Addr) (t_2N : Nat) (t_2C : Nat) (lists : Option Addr) (listsN : Nat) (listsC : Nat) (limit : Int) {w : World} {R : Ending → World → Prop} (h : F14 t_0 t_1 t_2 t_2N t_2C lists listsN listsC limit w R) : Calls Try.prog 14 #[(.agg #[(.string t_0), (.bool t_1), (.slice t_2 t_2N t_2C)]), (.slice lists listsN listsC), (.int .i64 limit)] w R :=
  vc_calls (pl := pl14) Try.func14 (by kernel_rfl) (by kernel_rfl) (by kernel_rfl) (Eq.mp (eq14 t_0 t_1 t_2 t_2N t_2C lists listsN listsC limit w R) h)

-- espalierref12.straight
def F41_l1 (t : Addr) (L1 : World → Prop) (w_2 : World) (R : Ending → World → Prop) : Prop :=
 LdSl (w_2.cell? (t.add 2)) fun x4 x4N x4C =>
 Br (((x4N : Nat) : Int) == (1 : Int))
 (LdSl (w_2.cell? (t.add 2)) fun x8 x8N x8C =>
 IdxA x8 x8N (0 : Int) 3 fun q9 =>
 LdStr (w_2.cell? q9) fun x10_0 =>
 LdB (w_2.cell? (q9.add 1)) fun x10_1 =>
 LdSl (w_2.cell? (q9.add 2)) fun x10_2 x10_2N x10_2C =>
 St w_2 t (.string x10_0) fun w1_2 =>
 St w1_2 (t.add 1) (.bool x10_1) fun w1_3 =>
 St w1_3 (t.add 2) (.slice x10_2 x10_2N x10_2C) fun w1_4 =>
 L1 w1_4)
 (LdSl (w_2.cell? (t.add 2)) fun x12 x12N x12C =>
 R (.returned (.bool (((x12N : Nat) : Int) == (0 : Int)))) w_2)

def F41 (t_0 : ByteArray) (t_1 : Bool) (t_2 : Option Addr) (t_2N : Nat) (t_2C : Nat) (w_ : World) (R : Ending → World → Prop) : Prop :=
 Al w_ #[(.string t_0), (.bool t_1), (.slice t_2 t_2N t_2C)] 24 fun t w1 =>
 ∃ (I : World → Prop) (m : World → Nat), I  w1 ∧
 ∀  (w1_2 : World), I  w1_2 → F41_l1 t (fun  w2 => I  w2 ∧ m  w2 < m  w1_2)  w1_2 R

def pl41 : Plan := ⟨15, ⟨[]⟩, [], [(1, ⟨[], [(3, 11)]⟩)]⟩

theorem eq41 (t_0 : ByteArray) (t_1 : Bool) (t_2 : Option Addr) (t_2N : Nat) (t_2C : Nat) (w : World) (R : Ending → World → Prop) : F41 t_0 t_1 t_2 t_2N t_2C w R = vc Try.prog Try.f41 pl41 R 100000 [.code (bodyOf Try.f41)] (argEnv 0 #[(.agg #[(.string t_0), (.bool t_1), (.slice t_2 t_2N t_2C)])].toList) w := by kernel_rfl

theorem ok41 (t_0 : ByteArray) (t_1 : Bool) (t_2 : Option Addr) (t_2N : Nat) (t_2C : Nat) {w : World} {R : Ending → World → Prop} (h : F41 t_0 t_1 t_2 t_2N t_2C w R) : Calls Try.prog 41 #[(.agg #[(.string t_0), (.bool t_1), (.slice t_2 t_2N t_2C)])] w R :=
  vc_calls (pl := pl41) Try.func41 (by kernel_rfl) (by kernel_rfl) (by kernel_rfl) (Eq.mp (eq41 t_0 t_1 t_2 t_2N t_2C w R) h)

-- espalierref12.Paths
def F16 (t_0 : ByteArray) (t_1 : Bool) (t_2 : Option Addr) (t_2N : Nat) (t_2C : Nat) (lists : Option Addr) (listsN : Nat) (listsC : Nat) (limit : Int) (w_ : World) (R : Ending → World → Prop) : Prop :=
 Al w_ #[(.string t_0), (.bool t_1), (.slice t_2 t_2N t_2C)] 24 fun t w1 =>
 LdStr (w1.cell? t) fun x9_0 =>
 LdB (w1.cell? (t.add 1)) fun x9_1 =>
 LdSl (w1.cell? (t.add 2)) fun x9_2 x9_2N x9_2C =>
 Calls Try.prog 10 #[(.agg #[(.string x9_0), (.bool x9_1), (.slice x9_2 x9_2N x9_2C)])] w1 (post R fun v w1_2 =>
 ∃ (x10 : Int), v = (.int .i64 x10) ∧
 Br (x10 != (0 : Int))
 (R (.returned (.tuple #[(.slice none 0 0), (.int .i64 x10)])) w1_2)
 (LdStr (w1_2.cell? t) fun x14_0 =>
 LdB (w1_2.cell? (t.add 1)) fun x14_1 =>
 LdSl (w1_2.cell? (t.add 2)) fun x14_2 x14_2N x14_2C =>
 Calls Try.prog 41 #[(.agg #[(.string x14_0), (.bool x14_1), (.slice x14_2 x14_2N x14_2C)])] w1_2 (post R fun v2 w1_3 =>
 ∃ (x15 : Bool), v2 = (.bool x15) ∧
 Br (!x15)
 (R (.returned (.tuple #[(.slice none 0 0), (.int .i64 120)])) w1_3)
 (LdStr (w1_3.cell? t) fun x17_0 =>
 LdB (w1_3.cell? (t.add 1)) fun x17_1 =>
 LdSl (w1_3.cell? (t.add 2)) fun x17_2 x17_2N x17_2C =>
 Calls Try.prog 14 #[(.agg #[(.string x17_0), (.bool x17_1), (.slice x17_2 x17_2N x17_2C)]), (.slice lists listsN listsC), (.int .i64 limit)] w1_3 (post R fun v3 w1_4 =>
 ∃ (x20_0 : Option Addr) (x20_0N : Nat) (x20_0C : Nat) (x20_1 : Int), v3 = (.tuple #[(.slice x20_0 x20_0N x20_0C), (.int .i64 x20_1)]) ∧
 R (.returned (.tuple #[(.slice x20_0 x20_0N x20_0C), (.int .i64 x20_1)])) w1_4)))))

def pl16 : Plan := ⟨23, ⟨[]⟩, [], []⟩

theorem eq16 (t_0 : ByteArray) (t_1 : Bool) (t_2 : Option Addr) (t_2N : Nat) (t_2C : Nat) (lists : Option Addr) (listsN : Nat) (listsC : Nat) (limit : Int) (w : World) (R : Ending → World → Prop) : F16 t_0 t_1 t_2 t_2N t_2C lists listsN listsC limit w R = vc Try.prog Try.f16 pl16 R 100000 [.code (bodyOf Try.f16)] (argEnv 0 #[(.agg #[(.string t_0), (.bool t_1), (.slice t_2 t_2N t_2C)]), (.slice lists listsN listsC), (.int .i64 limit)].toList) w := by kernel_rfl

theorem ok16 (t_0 : ByteArray) (t_1 : Bool) (t_2 : Option Addr) (t_2N : Nat) (t_2C : Nat) (lists : Option Addr) (listsN : Nat) (listsC : Nat) (limit : Int) {w : World} {R : Ending → World → Prop} (h : F16 t_0 t_1 t_2 t_2N t_2C lists listsN listsC limit w R) : Calls Try.prog 16 #[(.agg #[(.string t_0), (.bool t_1), (.slice t_2 t_2N t_2C)]), (.slice lists listsN listsC), (.int .i64 limit)] w R :=
  vc_calls (pl := pl16) Try.func16 (by kernel_rfl) (by kernel_rfl) (by kernel_rfl) (Eq.mp (eq16 t_0 t_1 t_2 t_2N t_2C lists listsN listsC limit w R) h)

-- espalierref12.merged
def F73_j9 (out : Option Addr) (outN : Nat) (outC : Nat) (w_2 : World) (R : Ending → World → Prop) : Prop :=
 R (.returned (.slice out outN outC)) w_2

def F73_j4 (a : Option Addr) (aN : Nat) (b : Option Addr) (bN : Nat) (L3 : Option Addr → Nat → Nat → Int → Int → World → Prop) (out : Option Addr) (outN : Nat) (outC : Nat) (i : Int) (k : Int) (w_3 : World) (R : Ending → World → Prop) : Prop :=
 Dr w_3 fun w1 =>
 Br (k == ((bN : Nat) : Int))
 (IdxA a aN i 3 fun q44 =>
 LdI .u64 (w1.cell? q44) fun x45_0 =>
 LdI .u64 (w1.cell? (q44.add 1)) fun x45_1 =>
 LdI .i64 (w1.cell? (q44.add 2)) fun x45_2 =>
 Al w1 #[(.int .u64 x45_0), (.int .u64 x45_1), (.int .i64 x45_2)] 77 fun g46 w1_2 =>
 Raw Try.prog (Builtin.append_ #[119, 119] 119 #[(.slice out outN outC), (.slice (some g46) 1 1)]) w1_2 fun v w1_3 =>
 ∃ (x47 : Option Addr) (x47N : Nat) (x47C : Nat), v = (.slice x47 x47N x47C) ∧
 InR .i64 (i + (1 : Int)) ∧ L3 x47 x47N x47C (i + (1 : Int)) k w1_3)
 (Br (decide (i < ((aN : Nat) : Int)))
 (IdxA a aN i 3 fun q30 =>
 LdI .u64 (w1.cell? q30) fun x32 =>
 IdxA b bN k 3 fun q35 =>
 LdI .u64 (w1.cell? q35) fun x37 =>
 Br (decide (x32 ≤ x37))
 (IdxA a aN i 3 fun q44 =>
 LdI .u64 (w1.cell? q44) fun x45_0 =>
 LdI .u64 (w1.cell? (q44.add 1)) fun x45_1 =>
 LdI .i64 (w1.cell? (q44.add 2)) fun x45_2 =>
 Al w1 #[(.int .u64 x45_0), (.int .u64 x45_1), (.int .i64 x45_2)] 77 fun g46 w1_2 =>
 Raw Try.prog (Builtin.append_ #[119, 119] 119 #[(.slice out outN outC), (.slice (some g46) 1 1)]) w1_2 fun v w1_3 =>
 ∃ (x47 : Option Addr) (x47N : Nat) (x47C : Nat), v = (.slice x47 x47N x47C) ∧
 InR .i64 (i + (1 : Int)) ∧ L3 x47 x47N x47C (i + (1 : Int)) k w1_3)
 (IdxA b bN k 3 fun q53 =>
 LdI .u64 (w1.cell? q53) fun x54_0 =>
 LdI .u64 (w1.cell? (q53.add 1)) fun x54_1 =>
 LdI .i64 (w1.cell? (q53.add 2)) fun x54_2 =>
 Al w1 #[(.int .u64 x54_0), (.int .u64 x54_1), (.int .i64 x54_2)] 77 fun g55 w1_2 =>
 Raw Try.prog (Builtin.append_ #[119, 119] 119 #[(.slice out outN outC), (.slice (some g55) 1 1)]) w1_2 fun v w1_3 =>
 ∃ (x56 : Option Addr) (x56N : Nat) (x56C : Nat), v = (.slice x56 x56N x56C) ∧
 InR .i64 (k + (1 : Int)) ∧ L3 x56 x56N x56C i (k + (1 : Int)) w1_3))
 (IdxA b bN k 3 fun q53 =>
 LdI .u64 (w1.cell? q53) fun x54_0 =>
 LdI .u64 (w1.cell? (q53.add 1)) fun x54_1 =>
 LdI .i64 (w1.cell? (q53.add 2)) fun x54_2 =>
 Al w1 #[(.int .u64 x54_0), (.int .u64 x54_1), (.int .i64 x54_2)] 77 fun g55 w1_2 =>
 Raw Try.prog (Builtin.append_ #[119, 119] 119 #[(.slice out outN outC), (.slice (some g55) 1 1)]) w1_2 fun v w1_3 =>
 ∃ (x56 : Option Addr) (x56N : Nat) (x56C : Nat), v = (.slice x56 x56N x56C) ∧
 InR .i64 (k + (1 : Int)) ∧ L3 x56 x56N x56C i (k + (1 : Int)) w1_3))

def F73_l3 (a : Option Addr) (aN : Nat) (b : Option Addr) (bN : Nat) (J9 : Option Addr → Nat → Nat → World → Prop) (L3 : Option Addr → Nat → Nat → Int → Int → World → Prop) (out : Option Addr) (outN : Nat) (outC : Nat) (i : Int) (k : Int) (w_2 : World) (R : Ending → World → Prop) : Prop :=
 ∃ J4 : World → Prop, (∀  (w1 : World), J4 w1 → F73_j4 a aN b bN L3 out outN outC i k w1 R) ∧
 (Br (decide (i < ((aN : Nat) : Int)))
 (J4 w_2)
 (Br (decide (k < ((bN : Nat) : Int)))
 (J4 w_2)
 (J9 out outN outC w_2)))

def F73 (a : Option Addr) (aN : Nat) (aC : Nat) (b : Option Addr) (bN : Nat) (bC : Nat) (w_ : World) (R : Ending → World → Prop) : Prop :=
 ∃ J9 : Option Addr → Nat → Nat → World → Prop, (∀ (out : Option Addr) (outN : Nat) (outC : Nat) (w1 : World), J9 out outN outC w1 → F73_j9 out outN outC w1 R) ∧
 (∃ (I : Option Addr → Nat → Nat → Int → Int → World → Prop) (m : Option Addr → Nat → Nat → Int → Int → World → Nat), I none 0 0 (0 : Int) (0 : Int) w_ ∧
 ∀ (out : Option Addr) (outN : Nat) (outC : Nat) (i : Int) (k : Int) (w1 : World), I out outN outC i k w1 → F73_l3 a aN b bN J9 (fun out' outN' outC' i' k' w2 => I out' outN' outC' i' k' w2 ∧ m out' outN' outC' i' k' w2 < m out outN outC i k w1) out outN outC i k w1 R)

def pl73 : Plan := ⟨60, ⟨[]⟩, [(4, ⟨[], [(8, 18)]⟩), (9, ⟨[(5, (.s .slice))], [(5, 59)]⟩)], [(3, ⟨[(5, (.s .slice)), (6, (.s (.int .i64))), (7, (.s (.int .i64)))], [(5, 59)]⟩)]⟩

theorem eq73 (a : Option Addr) (aN : Nat) (aC : Nat) (b : Option Addr) (bN : Nat) (bC : Nat) (w : World) (R : Ending → World → Prop) : F73 a aN aC b bN bC w R = vc Try.prog Try.f73 pl73 R 100000 [.code (bodyOf Try.f73)] (argEnv 0 #[(.slice a aN aC), (.slice b bN bC)].toList) w := by kernel_rfl

theorem ok73 (a : Option Addr) (aN : Nat) (aC : Nat) (b : Option Addr) (bN : Nat) (bC : Nat) {w : World} {R : Ending → World → Prop} (h : F73 a aN aC b bN bC w R) : Calls Try.prog 73 #[(.slice a aN aC), (.slice b bN bC)] w R :=
  vc_calls (pl := pl73) Try.func73 (by kernel_rfl) (by kernel_rfl) (by kernel_rfl) (Eq.mp (eq73 a aN aC b bN bC w R) h)

-- espalierref12.crossed
def F56_j8 (L7 : Option Addr → Nat → Nat → Int → World → Prop) (i2 : Int) (open_2 : Option Addr) (openN2 : Nat) (openC2 : Nat) (w_4 : World) (R : Ending → World → Prop) : Prop :=
 InR .i64 (i2 + (1 : Int)) ∧ L7 open_2 openN2 openC2 (i2 + (1 : Int)) w_4

def F56_j16 (l : Option Addr) (lN : Nat) (i2 : Int) (J8 : Option Addr → Nat → Nat → World → Prop) (open_2 : Option Addr) (openN2 : Nat) (openC2 : Nat) (w_5 : World) (R : Ending → World → Prop) : Prop :=
 IdxA l lN i2 3 fun q75 =>
 LdI .u64 (w_5.cell? q75) fun x76_0 =>
 LdI .u64 (w_5.cell? (q75.add 1)) fun x76_1 =>
 LdI .i64 (w_5.cell? (q75.add 2)) fun x76_2 =>
 Al w_5 #[(.int .u64 x76_0), (.int .u64 x76_1), (.int .i64 x76_2)] 77 fun g77 w1 =>
 Raw Try.prog (Builtin.append_ #[119, 119] 119 #[(.slice open_2 openN2 openC2), (.slice (some g77) 1 1)]) w1 fun v w1_2 =>
 ∃ (x78 : Option Addr) (x78N : Nat) (x78C : Nat), v = (.slice x78 x78N x78C) ∧
 J8 x78 x78N x78C w1_2

def F56_j11 (l : Option Addr) (lN : Nat) (i2 : Int) (J8 : Option Addr → Nat → Nat → World → Prop) (open_2 : Option Addr) (openN2 : Nat) (openC2 : Nat) (w_4 : World) (R : Ending → World → Prop) : Prop :=
 ∃ J16 : World → Prop, (∀  (w1 : World), J16 w1 → F56_j16 l lN i2 J8 open_2 openN2 openC2 w1 R) ∧
 (Br (decide (((openN2 : Nat) : Int) > (0 : Int)))
 (InR .i64 (((openN2 : Nat) : Int) - (1 : Int)) ∧ IdxA open_2 openN2 (((openN2 : Nat) : Int) - (1 : Int)) 3 fun q57 =>
 LdI .u64 (w_4.cell? q57) fun x58_0 =>
 LdI .u64 (w_4.cell? (q57.add 1)) fun x58_1 =>
 LdI .i64 (w_4.cell? (q57.add 2)) fun x58_2 =>
 Al w_4 #[(.int .u64 0), (.int .u64 0), (.int .i64 0)] 77 fun top w1 =>
 St w1 top (.int .u64 x58_0) fun w1_2 =>
 St w1_2 (top.add 1) (.int .u64 x58_1) fun w1_3 =>
 St w1_3 (top.add 2) (.int .i64 x58_2) fun w1_4 =>
 Dr w1_4 fun w1_5 =>
 LdI .u64 (w1_5.cell? top) fun x59_0 =>
 LdI .u64 (w1_5.cell? (top.add 1)) fun x59_1 =>
 LdI .i64 (w1_5.cell? (top.add 2)) fun x59_2 =>
 IdxA l lN i2 3 fun q62 =>
 LdI .u64 (w1_5.cell? q62) fun x63_0 =>
 LdI .u64 (w1_5.cell? (q62.add 1)) fun x63_1 =>
 LdI .i64 (w1_5.cell? (q62.add 2)) fun x63_2 =>
 Br ((x59_0 == x63_0) && ((x59_1 == x63_1) && ((x59_2 == x63_2) && true)))
 (J8 open_2 openN2 openC2 w1_5)
 (∃ S : World → Prop, S w1_5.drew ∧ ∃ (x65_0 : Int), Held S top (.int .u64 x65_0) ∧ ∃ (x65_1 : Int), Held S (top.add 1) (.int .u64 x65_1) ∧ ∃ (x65_2 : Int), Held S (top.add 2) (.int .i64 x65_2) ∧ IdxA l lN i2 3 fun q68 =>
 ∃ (x69_0 : Int), Held S q68 (.int .u64 x69_0) ∧ ∃ (x69_1 : Int), Held S (q68.add 1) (.int .u64 x69_1) ∧ ∃ (x69_2 : Int), Held S (q68.add 2) (.int .i64 x69_2) ∧ Calls Try.prog 75 #[(.agg #[(.int .u64 x65_0), (.int .u64 x65_1), (.int .i64 x65_2)]), (.agg #[(.int .u64 x69_0), (.int .u64 x69_1), (.int .i64 x69_2)])] w1_5.drew (post R fun v w1_7 =>
 ∃ (x70 : Bool), v = (.bool x70) ∧
 Br (!x70)
 (R (.returned (.bool true)) w1_7)
 (J16 w1_7))))
 (J16 w_4))

def F56_j10 (L9 : Option Addr → Nat → Nat → World → Prop) (open_2 : Option Addr) (openN2 : Nat) (openC2 : Nat) (w_5 : World) (R : Ending → World → Prop) : Prop :=
 InR .i64 (((openN2 : Nat) : Int) - (1 : Int)) ∧ SlB 0 (((openN2 : Nat) : Int) - (1 : Int)) ((openC2 : Nat) : Int)
 (L9 open_2 ((((openN2 : Nat) : Int) - (1 : Int))).toNat openC2 w_5)

def F56_l9 (l : Option Addr) (lN : Nat) (i2 : Int) (J11 : Option Addr → Nat → Nat → World → Prop) (L9 : Option Addr → Nat → Nat → World → Prop) (open_2 : Option Addr) (openN2 : Nat) (openC2 : Nat) (w_4 : World) (R : Ending → World → Prop) : Prop :=
 ∃ J10 : World → Prop, (∀  (w1 : World), J10 w1 → F56_j10 L9 open_2 openN2 openC2 w1 R) ∧
 (Dr w_4 fun w1 =>
 Br (decide (((openN2 : Nat) : Int) > (0 : Int)))
 (InR .i64 (((openN2 : Nat) : Int) - (1 : Int)) ∧ IdxA open_2 openN2 (((openN2 : Nat) : Int) - (1 : Int)) 3 fun q35 =>
 LdI .u64 (w1.cell? (q35.add 1)) fun x37 =>
 IdxA l lN i2 3 fun q40 =>
 LdI .u64 (w1.cell? q40) fun x42 =>
 Br (decide (x37 < x42))
 (J10 w1)
 (J11 open_2 openN2 openC2 w1))
 (J11 open_2 openN2 openC2 w1))

def F56_l7 (l : Option Addr) (lN : Nat) (L7 : Option Addr → Nat → Nat → Int → World → Prop) (open_ : Option Addr) (openN : Nat) (openC : Nat) (i2 : Int) (w_3 : World) (R : Ending → World → Prop) : Prop :=
 Br (decide (i2 < ((lN : Nat) : Int)))
 (∃ J8 : Option Addr → Nat → Nat → World → Prop, (∀ (open_2 : Option Addr) (openN2 : Nat) (openC2 : Nat) (w1 : World), J8 open_2 openN2 openC2 w1 → F56_j8 L7 i2 open_2 openN2 openC2 w1 R) ∧
 (∃ J11 : Option Addr → Nat → Nat → World → Prop, (∀ (open_2 : Option Addr) (openN2 : Nat) (openC2 : Nat) (w1 : World), J11 open_2 openN2 openC2 w1 → F56_j11 l lN i2 J8 open_2 openN2 openC2 w1 R) ∧
 (∃ (I : Option Addr → Nat → Nat → World → Prop) (m : Option Addr → Nat → Nat → World → Nat), I open_ openN openC w_3 ∧
 ∀ (open_2 : Option Addr) (openN2 : Nat) (openC2 : Nat) (w1 : World), I open_2 openN2 openC2 w1 → F56_l9 l lN i2 J11 (fun open_2' openN2' openC2' w2 => I open_2' openN2' openC2' w2 ∧ m open_2' openN2' openC2' w2 < m open_2 openN2 openC2 w1) open_2 openN2 openC2 w1 R)))
 (R (.returned (.bool false)) w_3)

def F56_l3 (lists : Option Addr) (listsN : Nat) (L3 : Option Addr → Nat → Nat → Int → World → Prop) (l : Option Addr) (lN : Nat) (lC : Nat) (i : Int) (w_2 : World) (R : Ending → World → Prop) : Prop :=
 Br (decide (i < ((listsN : Nat) : Int)))
 (IdxA lists listsN i 1 fun q17 =>
 LdSl (w_2.cell? q17) fun x18 x18N x18C =>
 Calls Try.prog 74 #[(.slice x18 x18N x18C)] w_2 (post R fun v w1 =>
 ∃ (x19 : Option Addr) (x19N : Nat) (x19C : Nat), v = (.slice x19 x19N x19C) ∧
 Calls Try.prog 73 #[(.slice l lN lC), (.slice x19 x19N x19C)] w1 (post R fun v2 w1_2 =>
 ∃ (x20 : Option Addr) (x20N : Nat) (x20C : Nat), v2 = (.slice x20 x20N x20C) ∧
 InR .i64 (i + (1 : Int)) ∧ L3 x20 x20N x20C (i + (1 : Int)) w1_2)))
 (∃ (I : Option Addr → Nat → Nat → Int → World → Prop) (m : Option Addr → Nat → Nat → Int → World → Nat), I none 0 0 (0 : Int) w_2 ∧
 ∀ (open_ : Option Addr) (openN : Nat) (openC : Nat) (i2 : Int) (w1 : World), I open_ openN openC i2 w1 → F56_l7 l lN (fun open_' openN' openC' i2' w2 => I open_' openN' openC' i2' w2 ∧ m open_' openN' openC' i2' w2 < m open_ openN openC i2 w1) open_ openN openC i2 w1 R)

def F56 (lists : Option Addr) (listsN : Nat) (listsC : Nat) (w_ : World) (R : Ending → World → Prop) : Prop :=
 ∃ (I : Option Addr → Nat → Nat → Int → World → Prop) (m : Option Addr → Nat → Nat → Int → World → Nat), I none 0 0 (0 : Int) w_ ∧
 ∀ (l : Option Addr) (lN : Nat) (lC : Nat) (i : Int) (w1 : World), I l lN lC i w1 → F56_l3 lists listsN (fun l' lN' lC' i' w2 => I l' lN' lC' i' w2 ∧ m l' lN' lC' i' w2 < m l lN lC i w1) l lN lC i w1 R

def pl56 : Plan := ⟨79, ⟨[]⟩, [(10, ⟨[], [(27, 45)]⟩), (16, ⟨[], [(2, 3), (7, 72)]⟩), (11, ⟨[(4, (.s .slice))], [(4, 5), (27, 50)]⟩), (8, ⟨[(4, (.s .slice))], [(2, 3), (4, 5), (7, 79)]⟩)], [(3, ⟨[(3, (.s .slice)), (5, (.s (.int .i64)))], [(3, 4), (5, 21)]⟩), (9, ⟨[(4, (.s .slice))], [(4, 5), (27, 50)]⟩), (7, ⟨[(4, (.s .slice)), (6, (.s (.int .i64)))], [(2, 3), (4, 79)]⟩)]⟩

theorem eq56 (lists : Option Addr) (listsN : Nat) (listsC : Nat) (w : World) (R : Ending → World → Prop) : F56 lists listsN listsC w R = vc Try.prog Try.f56 pl56 R 100000 [.code (bodyOf Try.f56)] (argEnv 0 #[(.slice lists listsN listsC)].toList) w := by kernel_rfl

theorem ok56 (lists : Option Addr) (listsN : Nat) (listsC : Nat) {w : World} {R : Ending → World → Prop} (h : F56 lists listsN listsC w R) : Calls Try.prog 56 #[(.slice lists listsN listsC)] w R :=
  vc_calls (pl := pl56) Try.func56 (by kernel_rfl) (by kernel_rfl) (by kernel_rfl) (Eq.mp (eq56 lists listsN listsC w R) h)

end Go.Proofs.Ytbocfedmdjkccaa
/- Twigs: a pattern's nodes in their order; how many; Check and Size of the document's answer. -/
namespace Go.Proofs.Ytbocfedmdjkccaa
open Go.RowKit Go.Vc
set_option linter.unusedVariables false
set_option linter.unusedSimpArgs false
set_option maxRecDepth 100000
def Tw.nm : Tw → ByteArray | .mk nm _ _ => nm
def Tw.d : Tw → Bool | .mk _ d _ => d
def Tw.kids : Tw → List Tw | .mk _ _ ks => ks
mutual
def Tw.sz : Tw → Nat
  | .mk _ _ ks => 1 + szL ks
def szL : List Tw → Nat
  | [] => 0
  | k :: ks => k.sz + szL ks
end
mutual
def Tw.pre (up : Int) (at_ : Nat) : Tw → List (Tw × Int)
  | .mk nm d ks => (.mk nm d ks, up) :: preL at_ (at_ + 1) ks
def preL (me nx : Nat) : List Tw → List (Tw × Int)
  | [] => []
  | k :: ks => Tw.pre me nx k ++ preL me (nx + k.sz) ks
end
mutual
theorem Tw.pre_len (up : Int) (at_ : Nat) : ∀ t : Tw, (t.pre up at_).length = t.sz
  | .mk nm d ks => by rw [Tw.pre, Tw.sz, List.length_cons, preL_len]; omega
theorem preL_len (me nx : Nat) : ∀ ks : List Tw, (preL me nx ks).length = szL ks
  | [] => by rw [preL, szL]; rfl
  | k :: ks => by rw [preL, szL, List.length_append, Tw.pre_len, preL_len]
end
theorem Tw.sz_pos : ∀ t : Tw, 0 < t.sz
  | .mk _ _ _ => by rw [Tw.sz]; omega
theorem szL_snoc : ∀ (ks : List Tw) (k : Tw), szL (ks ++ [k]) = szL ks + k.sz
  | [], k => by simp [szL]
  | x :: ks, k => by rw [List.cons_append, szL, szL, szL_snoc ks k]; omega
theorem szL_take : ∀ (ks : List Tw) (i : Nat), szL (ks.take i) ≤ szL ks
  | [], i => by simp
  | x :: ks, 0 => by simp [szL]
  | x :: ks, i + 1 => by rw [List.take_succ_cons, szL, szL]; have := szL_take ks i; omega
theorem preL_snoc (me : Nat) : ∀ (ks : List Tw) (k : Tw) (nx : Nat), preL me nx (ks ++ [k]) = preL me nx ks ++ k.pre me (nx + szL ks)
  | [], k, nx => by simp [preL, szL]
  | x :: ks, k, nx => by rw [List.cons_append, preL, preL, preL_snoc me ks k, szL, List.append_assoc, Nat.add_assoc]
/-- At most one more than can be. -/
def cap17 (n : Nat) : Nat := if n > 16 then 17 else n
theorem size_calls : ∀ (t : Tw) (e : E3) {w : World} {R : Ending → World → Prop}, RTw w t e →
    (∀ w', Below w.heap.size w w' → R (.returned (.int .i64 (cap17 t.sz : Nat))) w') →
    Calls Try.prog 12 #[.agg #[.string e.nm, .bool e.d, .slice e.sl.1 e.sl.2.1 e.sl.2.2]] w R := by
  refine Tw.ind fun nm d ks ih e w R ht h => ?_
  simp only [RTw] at ht
  obtain ⟨hnm, hd, hlen, es, hn, hr, hks⟩ := ht
  have hel := hks.len
  have hsz : (Tw.mk nm d ks).sz = 1 + szL ks := by rw [Tw.sz]
  refine ok12 e.nm e.d e.sl.1 e.sl.2.1 e.sl.2.2 ?_
  unfold F12
  refine al fun gt w1 hb1 bt hge1 => ?_
  refine ⟨fun n w' => ∃ m : Nat, n = m ∧ cap17 m = cap17 (1 + szL ks) ∧ Below w.heap.size w w', ?_, ?_⟩
  · rintro n w' ⟨m, rfl, hm, hb'⟩
    unfold F12_j6
    have H := h w' hb'
    rw [hsz, ← hm] at H
    unfold cap17 at H
    refine brd (fun hgt => ?_) (fun hle => ?_)
    · rw [if_pos (by omega)] at H; exact H
    · rw [if_neg (by omega)] at H; exact H
  refine ⟨fun n i w4 => ∃ k m : Nat, i = k ∧ n = m ∧ k ≤ ks.length ∧ cap17 m = cap17 (1 + szL (ks.take k)) ∧ m ≤ 34 ∧ Below w1.heap.size w1 w4, fun _ i _ => ks.length - i.toNat, ⟨0, 1, rfl, rfl, by omega, by simp [szL], by omega, Below.refl _ _⟩, ?_⟩
  rintro n i w4 ⟨k, m, rfl, rfl, hk, hm, hm2, hb4⟩
  unfold F12_l3
  have bt4 := bt.keep hb4
  have B4 := btr hb1 hb1.size hb4
  refine ⟨fun w' => w4 = w' ∧ k < ks.length ∧ m ≤ 16, ?_, ?_⟩
  · rintro _ ⟨rfl, hk2, hm16⟩
    unfold F12_j5
    simp only [Addr.add_mk, bt4.cell, List.getElem?_toArray, List.getElem?_cons_zero, List.getElem?_cons_succ, Addr.add_mk, List.getElem?_toArray, List.getElem?_cons_zero, List.getElem?_cons_succ, LdI_some, LdB_some, LdStr_some, LdP_some, LdSl_some, LdM_some, Nat.zero_add, Br_t, Br_f]
    refine (hr.keep B4).e3 hn rfl (k := k) (by omega) fun b o c0 c1 c2 => ?_
    simp only [Addr.add_mk, c0, c1, c2, Addr.add_mk, List.getElem?_toArray, List.getElem?_cons_zero, List.getElem?_cons_succ, LdI_some, LdB_some, LdStr_some, LdP_some, LdSl_some, LdM_some, Nat.zero_add, Br_t, Br_f]
    refine ih ks[k] (List.getElem_mem _) es[k] ((hks.keep B4).get k hk2 (by omega)) fun w5 hb5 => ⟨_, rfl, ?_⟩
    have h17 : cap17 ks[k].sz ≤ 17 := by unfold cap17; split <;> omega
    refine ⟨inR_i64 (by omega) (by omega), inR_i64 (by omega) (by omega), ⟨k + 1, m + cap17 ks[k].sz, by simp, by simp, by omega, ?_, by omega, btr hb4 hb4.size hb5⟩, by omega⟩
    rw [List.take_succ_eq_append_getElem hk2, szL_snoc]
    unfold cap17 at hm ⊢
    split at hm <;> split at hm <;> split <;> split <;> (try split) <;> omega
  · simp only [Addr.add_mk, bt4.cell, List.getElem?_toArray, List.getElem?_cons_zero, List.getElem?_cons_succ, Addr.add_mk, List.getElem?_toArray, List.getElem?_cons_zero, List.getElem?_cons_succ, LdI_some, LdB_some, LdStr_some, LdP_some, LdSl_some, LdM_some, Nat.zero_add, Br_t, Br_f]
    refine brd (fun hlt => ?_) (fun hge => ?_)
    · refine brd (fun h16 => ⟨trivial, by omega, by omega⟩) (fun h16 => ⟨m, rfl, ?_, B4⟩)
      have := szL_take ks k
      unfold cap17 at hm ⊢
      rw [if_pos (by omega)] at hm ⊢
      split at hm
      · rw [if_pos (by omega)]
      · omega
    · have hk2 : k = ks.length := by omega
      subst hk2
      rw [List.take_length] at hm
      exact ⟨m, rfl, hm, B4⟩
end Go.Proofs.Ytbocfedmdjkccaa
/- Twigs: Check of the document's answer. -/
namespace Go.Proofs.Ytbocfedmdjkccaa
open Go.RowKit Go.Vc
set_option linter.unusedVariables false
set_option linter.unusedSimpArgs false
set_option maxRecDepth 100000
def nmOk (a : ByteArray) : Bool := decide (a = ByteArray.mk #[]) || isName a
mutual
def Tw.named : Tw → Bool
  | .mk nm _ ks => nmOk nm && namedL ks
def namedL : List Tw → Bool
  | [] => true
  | k :: ks => k.named && namedL ks
end
theorem namedL_snoc : ∀ (ks : List Tw) (k : Tw), namedL (ks ++ [k]) = (namedL ks && k.named)
  | [], k => by simp [namedL]
  | x :: ks, k => by rw [List.cons_append, namedL, namedL, namedL_snoc ks k, Bool.and_assoc]
theorem namedL_at : ∀ (ks : List Tw) (i : Nat) (h : i < ks.length), ks[i].named = false → namedL ks = false
  | x :: ks, 0, _, h => by rw [namedL]; simp at h; simp [h]
  | x :: ks, i + 1, hi, h => by rw [namedL, namedL_at ks i (by simpa using hi) (by simpa using h)]; simp
theorem named_calls : ∀ (t : Tw) (e : E3) {w : World} {R : Ending → World → Prop}, RTw w t e →
    (∀ w', Below w.heap.size w w' → R (.returned (.bool t.named)) w') →
    Calls Try.prog 32 #[.agg #[.string e.nm, .bool e.d, .slice e.sl.1 e.sl.2.1 e.sl.2.2]] w R := by
  refine Tw.ind fun nm d ks ih e w R ht h => ?_
  simp only [RTw] at ht
  obtain ⟨hnm, hd, hlen, es, hn, hr, hks⟩ := ht
  have hel := hks.len
  rw [Tw.named] at h
  refine ok32 e.nm e.d e.sl.1 e.sl.2.1 e.sl.2.2 ?_
  unfold F32
  refine al fun gt w1 hb1 bt hge1 => ?_
  refine ⟨fun w' => w1 = w' ∧ nmOk nm = true, ?_, ?_⟩
  · rintro _ ⟨rfl, hok⟩
    unfold F32_j3
    refine ⟨fun i w4 => ∃ k : Nat, i = k ∧ k ≤ ks.length ∧ namedL (ks.take k) = true ∧ Below w1.heap.size w1 w4, fun i _ => ks.length - i.toNat, ⟨0, rfl, by omega, by simp [namedL], Below.refl _ _⟩, ?_⟩
    rintro i w4 ⟨k, rfl, hk, hall, hb4⟩
    unfold F32_l4
    have bt4 := bt.keep hb4
    have B4 := btr hb1 hb1.size hb4
    simp only [Addr.add_mk, bt4.cell, List.getElem?_toArray, List.getElem?_cons_zero, List.getElem?_cons_succ, Addr.add_mk, List.getElem?_toArray, List.getElem?_cons_zero, List.getElem?_cons_succ, LdI_some, LdB_some, LdStr_some, LdP_some, LdSl_some, LdM_some, Nat.zero_add, Br_t, Br_f]
    refine brd (fun hlt => ?_) (fun hge => ?_)
    · have hk2 : k < ks.length := by omega
      refine (hr.keep B4).e3 hn rfl (k := k) (by omega) fun b o c0 c1 c2 => ?_
      simp only [Addr.add_mk, c0, c1, c2, Addr.add_mk, List.getElem?_toArray, List.getElem?_cons_zero, List.getElem?_cons_succ, LdI_some, LdB_some, LdStr_some, LdP_some, LdSl_some, LdM_some, Nat.zero_add, Br_t, Br_f]
      refine ih ks[k] (List.getElem_mem _) es[k] ((hks.keep B4).get k hk2 (by omega)) fun w5 hb5 => ⟨_, rfl, ?_⟩
      have B5 := btr B4 B4.size hb5
      cases hb : ks[k].named with
      | false =>
        have H := h w5 B5
        rw [namedL_at ks k hk2 hb, Bool.and_false] at H
        exact H
      | true => exact ⟨inR_i64 (by omega) (by omega), ⟨k + 1, by simp, by omega, by rw [List.take_succ_eq_append_getElem hk2, namedL_snoc, hall, hb]; rfl, btr hb4 hb4.size hb5⟩, by omega⟩
    · have hk2 : k = ks.length := by omega
      subst hk2
      rw [List.take_length] at hall
      have H := h w4 B4
      rw [hok, hall] at H
      exact H
  · simp only [Addr.add_mk, bt.cell, List.getElem?_toArray, List.getElem?_cons_zero, List.getElem?_cons_succ, Addr.add_mk, List.getElem?_toArray, List.getElem?_cons_zero, List.getElem?_cons_succ, LdI_some, LdB_some, LdStr_some, LdP_some, LdSl_some, LdM_some, Nat.zero_add, Br_t, Br_f]
    rw [bytes_eq, hnm]
    by_cases h0 : nm = ByteArray.mk #[]
    · rw [decide_eq_true h0]
      exact ⟨by trivial, by simp [nmOk, h0]⟩
    · rw [decide_eq_false h0]
      refine name2_calls ⟨_, rfl, ?_⟩
      cases hi : isName nm with
      | true => exact ⟨by trivial, by simp [nmOk, hi]⟩
      | false =>
        have H := h w1 hb1
        rw [show nmOk nm = false by simp [nmOk, h0, hi], Bool.false_and] at H
        exact H
/-- What is wrong with a pattern. -/
def checkF (t : Tw) : Int := if t.sz > 16 then 120 else if t.named then 0 else 6
theorem checkR_calls (t : Tw) (e : E3) {w : World} {R : Ending → World → Prop} (ht : RTw w t e)
    (h : ∀ w', Below w.heap.size w w' → R (.returned (.int .i64 (checkF t))) w') :
    Calls Try.prog 10 #[.agg #[.string e.nm, .bool e.d, .slice e.sl.1 e.sl.2.1 e.sl.2.2]] w R := by
  refine ok10 e.nm e.d e.sl.1 e.sl.2.1 e.sl.2.2 ?_
  unfold F10
  refine al fun gt w1 hb1 bt hge1 => ?_
  simp only [Addr.add_mk, bt.cell, List.getElem?_toArray, List.getElem?_cons_zero, List.getElem?_cons_succ, Addr.add_mk, List.getElem?_toArray, List.getElem?_cons_zero, List.getElem?_cons_succ, LdI_some, LdB_some, LdStr_some, LdP_some, LdSl_some, LdM_some, Nat.zero_add, Br_t, Br_f]
  refine size_calls t e (ht.keep hb1) fun w2 hb2 => ⟨_, rfl, ?_⟩
  have B2 := btr hb1 hb1.size hb2
  have hcap : ((cap17 t.sz : Nat) : Int) > 16 ↔ t.sz > 16 := by unfold cap17; split <;> omega
  refine brd (fun hgt => ?_) (fun hle => ?_)
  · have H := h w2 B2
    unfold checkF at H
    rw [if_pos (hcap.1 hgt)] at H
    exact H
  · have bt2 := bt.keep hb2
    simp only [Addr.add_mk, bt2.cell, List.getElem?_toArray, List.getElem?_cons_zero, List.getElem?_cons_succ, Addr.add_mk, List.getElem?_toArray, List.getElem?_cons_zero, List.getElem?_cons_succ, LdI_some, LdB_some, LdStr_some, LdP_some, LdSl_some, LdM_some, Nat.zero_add, Br_t, Br_f]
    refine named_calls t e (ht.keep B2) fun w3 hb3 => ⟨_, rfl, ?_⟩
    have H := h w3 (btr B2 B2.size hb3)
    unfold checkF at H
    rw [if_neg fun k => hle (hcap.2 k)] at H
    cases hn : t.named <;> rw [hn] at H <;> exact H
end Go.Proofs.Ytbocfedmdjkccaa
set_option linter.unusedVariables false
set_option maxRecDepth 100000
namespace Go.Proofs.Ytbocfedmdjkccaa
open Go.Vc
-- twig.places
def F33 (t_0 : ByteArray) (t_1 : Bool) (t_2 : Option Addr) (t_2N : Nat) (t_2C : Nat) (w_ : World) (R : Ending → World → Prop) : Prop :=
 Al w_ #[(.string t_0), (.bool t_1), (.slice t_2 t_2N t_2C)] 24 fun t w1 =>
 Al w1 #[(.slice none 0 0)] 59 fun l w1_2 =>
 Al w1_2 #[.nilFunc] 100 fun goes w1_3 =>
 St w1_3 goes (.func (.func 52) #[] #[(.pointer (some l)), (.pointer (some goes))]) fun w1_4 =>
 LdV (w1_4.cell? goes) fun x6 =>
 LdStr (w1_4.cell? t) fun x7_0 =>
 LdB (w1_4.cell? (t.add 1)) fun x7_1 =>
 LdSl (w1_4.cell? (t.add 2)) fun x7_2 x7_2N x7_2C =>
 CallV Try.prog x6 #[(.agg #[(.string x7_0), (.bool x7_1), (.slice x7_2 x7_2N x7_2C)]), (.int .i64 (-1))] w1_4 R (fun v w1_5 =>
 v = (.tuple #[]) ∧
 LdSl (w1_5.cell? l) fun x9 x9N x9C =>
 R (.returned (.slice x9 x9N x9C)) w1_5)

def pl33 : Plan := ⟨10, ⟨[]⟩, [], []⟩

theorem eq33 (t_0 : ByteArray) (t_1 : Bool) (t_2 : Option Addr) (t_2N : Nat) (t_2C : Nat) (w : World) (R : Ending → World → Prop) : F33 t_0 t_1 t_2 t_2N t_2C w R = vc Try.prog Try.f33 pl33 R 100000 [.code (bodyOf Try.f33)] (argEnv 0 #[(.agg #[(.string t_0), (.bool t_1), (.slice t_2 t_2N t_2C)])].toList) w := by kernel_rfl

theorem ok33 (t_0 : ByteArray) (t_1 : Bool) (t_2 : Option Addr) (t_2N : Nat) (t_2C : Nat) {w : World} {R : Ending → World → Prop} (h : F33 t_0 t_1 t_2 t_2N t_2C w R) : Calls Try.prog 33 #[(.agg #[(.string t_0), (.bool t_1), (.slice t_2 t_2N t_2C)])] w R :=
  vc_calls (pl := pl33) Try.func33 (by kernel_rfl) (by kernel_rfl) (by kernel_rfl) (Eq.mp (eq33 t_0 t_1 t_2 t_2N t_2C w R) h)

-- twig.places$1
def F52_l5 (cap1 : Addr) (x18N : Nat) (x22 : Option Addr) (x22N : Nat) (L5 : Int → World → Prop) (x24 : Int) (w_2 : World) (R : Ending → World → Prop) : Prop :=
 Br (decide (x24 < ((x22N : Nat) : Int)))
 (IdxA x22 x22N x24 3 fun q26 =>
 LdStr (w_2.cell? q26) fun x27_0 =>
 LdB (w_2.cell? (q26.add 1)) fun x27_1 =>
 LdSl (w_2.cell? (q26.add 2)) fun x27_2 x27_2N x27_2C =>
 Al w_2 #[(.string (ByteArray.mk #[])), (.bool false), (.slice none 0 0)] 24 fun k w1_5 =>
 St w1_5 k (.string x27_0) fun w1_6 =>
 St w1_6 (k.add 1) (.bool x27_1) fun w1_7 =>
 St w1_7 (k.add 2) (.slice x27_2 x27_2N x27_2C) fun w1_8 =>
 LdV (w1_8.cell? cap1) fun x28 =>
 LdStr (w1_8.cell? k) fun x29_0 =>
 LdB (w1_8.cell? (k.add 1)) fun x29_1 =>
 LdSl (w1_8.cell? (k.add 2)) fun x29_2 x29_2N x29_2C =>
 CallV Try.prog x28 #[(.agg #[(.string x29_0), (.bool x29_1), (.slice x29_2 x29_2N x29_2C)]), (.int .i64 (((x18N : Nat) : Int) - (1 : Int)))] w1_8 R (fun v2 w1_9 =>
 v2 = (.tuple #[]) ∧
 InR .i64 (x24 + (1 : Int)) ∧ L5 (x24 + (1 : Int)) w1_9))
 (R (.returned (.tuple #[])) w_2)

def F52 (t_0 : ByteArray) (t_1 : Bool) (t_2 : Option Addr) (t_2N : Nat) (t_2C : Nat) (above : Int) (cap0 : Addr) (cap1 : Addr) (w_ : World) (R : Ending → World → Prop) : Prop :=
 Al w_ #[(.string t_0), (.bool t_1), (.slice t_2 t_2N t_2C)] 24 fun t w1 =>
 LdSl (w1.cell? cap0) fun x9 x9N x9C =>
 Br (decide (((x9N : Nat) : Int) > (16 : Int)))
 (R (.returned (.tuple #[])) w1)
 (LdSl (w1.cell? cap0) fun x12 x12N x12C =>
 LdStr (w1.cell? t) fun x13_0 =>
 LdB (w1.cell? (t.add 1)) fun x13_1 =>
 LdSl (w1.cell? (t.add 2)) fun x13_2 x13_2N x13_2C =>
 Al w1 #[(.string x13_0), (.bool x13_1), (.slice x13_2 x13_2N x13_2C), (.int .i64 above)] 73 fun g16 w1_2 =>
 Raw Try.prog (Builtin.append_ #[59, 59] 59 #[(.slice x12 x12N x12C), (.slice (some g16) 1 1)]) w1_2 fun v w1_3 =>
 ∃ (x17 : Option Addr) (x17N : Nat) (x17C : Nat), v = (.slice x17 x17N x17C) ∧
 St w1_3 cap0 (.slice x17 x17N x17C) fun w1_4 =>
 LdSl (w1_4.cell? cap0) fun x18 x18N x18C =>
 InR .i64 (((x18N : Nat) : Int) - (1 : Int)) ∧ LdSl (w1_4.cell? (t.add 2)) fun x22 x22N x22C =>
 ∃ (I : Int → World → Prop) (m : Int → World → Nat), I (0 : Int) w1_4 ∧
 ∀ (x24 : Int) (w1_5 : World), I x24 w1_5 → F52_l5 cap1 x18N x22 x22N (fun x24' w2 => I x24' w2 ∧ m x24' w2 < m x24 w1_5) x24 w1_5 R)

def pl52 : Plan := ⟨33, ⟨[]⟩, [], [(5, ⟨[(24, (.s (.int .i64)))], [(8, 9), (24, 33)]⟩)]⟩

theorem eq52 (t_0 : ByteArray) (t_1 : Bool) (t_2 : Option Addr) (t_2N : Nat) (t_2C : Nat) (above : Int) (cap0 : Addr) (cap1 : Addr) (w : World) (R : Ending → World → Prop) : F52 t_0 t_1 t_2 t_2N t_2C above cap0 cap1 w R = vc Try.prog Try.f52 pl52 R 100000 [.code (bodyOf Try.f52)] (argEnv 0 #[(.agg #[(.string t_0), (.bool t_1), (.slice t_2 t_2N t_2C)]), (.int .i64 above), (.pointer (some cap0)), (.pointer (some cap1))].toList) w := by kernel_rfl

theorem ok52 (t_0 : ByteArray) (t_1 : Bool) (t_2 : Option Addr) (t_2N : Nat) (t_2C : Nat) (above : Int) (cap0 : Addr) (cap1 : Addr) {w : World} {R : Ending → World → Prop} (h : F52 t_0 t_1 t_2 t_2N t_2C above cap0 cap1 w R) : Calls Try.prog 52 #[(.agg #[(.string t_0), (.bool t_1), (.slice t_2 t_2N t_2C)]), (.int .i64 above), (.pointer (some cap0)), (.pointer (some cap1))] w R :=
  vc_calls (pl := pl52) Try.func52 (by kernel_rfl) (by kernel_rfl) (by kernel_rfl) (Eq.mp (eq52 t_0 t_1 t_2 t_2N t_2C above cap0 cap1 w R) h)

-- twig.checked
def F31 (t_0 : ByteArray) (t_1 : Bool) (t_2 : Option Addr) (t_2N : Nat) (t_2C : Nat) (w_ : World) (R : Ending → World → Prop) : Prop :=
 Al w_ #[(.string t_0), (.bool t_1), (.slice t_2 t_2N t_2C)] 24 fun t w1 =>
 LdStr (w1.cell? t) fun x5_0 =>
 LdB (w1.cell? (t.add 1)) fun x5_1 =>
 LdSl (w1.cell? (t.add 2)) fun x5_2 x5_2N x5_2C =>
 Calls Try.prog 33 #[(.agg #[(.string x5_0), (.bool x5_1), (.slice x5_2 x5_2N x5_2C)])] w1 (post R fun v w1_2 =>
 ∃ (x6 : Option Addr) (x6N : Nat) (x6C : Nat), v = (.slice x6 x6N x6C) ∧
 Br (decide (((x6N : Nat) : Int) > (16 : Int)))
 (R (.returned (.tuple #[(.slice none 0 0), (.int .i64 120)])) w1_2)
 (Calls Try.prog 39 #[(.slice x6 x6N x6C), (.func (.func 49) #[] #[])] w1_2 (post R fun v2 w1_3 =>
 ∃ (x11 : Bool), v2 = (.bool x11) ∧
 Br x11
 (R (.returned (.tuple #[(.slice none 0 0), (.int .i64 6)])) w1_3)
 (R (.returned (.tuple #[(.slice x6 x6N x6C), (.int .i64 0)])) w1_3))))

def pl31 : Plan := ⟨13, ⟨[]⟩, [], []⟩

theorem eq31 (t_0 : ByteArray) (t_1 : Bool) (t_2 : Option Addr) (t_2N : Nat) (t_2C : Nat) (w : World) (R : Ending → World → Prop) : F31 t_0 t_1 t_2 t_2N t_2C w R = vc Try.prog Try.f31 pl31 R 100000 [.code (bodyOf Try.f31)] (argEnv 0 #[(.agg #[(.string t_0), (.bool t_1), (.slice t_2 t_2N t_2C)])].toList) w := by kernel_rfl

theorem ok31 (t_0 : ByteArray) (t_1 : Bool) (t_2 : Option Addr) (t_2N : Nat) (t_2C : Nat) {w : World} {R : Ending → World → Prop} (h : F31 t_0 t_1 t_2 t_2N t_2C w R) : Calls Try.prog 31 #[(.agg #[(.string t_0), (.bool t_1), (.slice t_2 t_2N t_2C)])] w R :=
  vc_calls (pl := pl31) Try.func31 (by kernel_rfl) (by kernel_rfl) (by kernel_rfl) (Eq.mp (eq31 t_0 t_1 t_2 t_2N t_2C w R) h)

-- twig.checked$1
def F49 (p_0 : ByteArray) (p_1 : Bool) (p_2 : Option Addr) (p_2N : Nat) (p_2C : Nat) (p_3 : Int) (w_ : World) (R : Ending → World → Prop) : Prop :=
 Al w_ #[(.string p_0), (.bool p_1), (.slice p_2 p_2N p_2C), (.int .i64 p_3)] 73 fun p w1 =>
 LdStr (w1.cell? p) fun x5 =>
 Br (!(x5.toList == (ByteArray.mk #[]).toList))
 (LdStr (w1.cell? p) fun x10 =>
 Calls Try.prog 50 #[(.string x10)] w1 (post R fun v w1_2 =>
 ∃ (x11 : Bool), v = (.bool x11) ∧
 R (.returned (.bool (!x11))) w1_2))
 (R (.returned (.bool false)) w1)

def pl49 : Plan := ⟨14, ⟨[]⟩, [], []⟩

theorem eq49 (p_0 : ByteArray) (p_1 : Bool) (p_2 : Option Addr) (p_2N : Nat) (p_2C : Nat) (p_3 : Int) (w : World) (R : Ending → World → Prop) : F49 p_0 p_1 p_2 p_2N p_2C p_3 w R = vc Try.prog Try.f49 pl49 R 100000 [.code (bodyOf Try.f49)] (argEnv 0 #[(.agg #[(.string p_0), (.bool p_1), (.slice p_2 p_2N p_2C), (.int .i64 p_3)])].toList) w := by kernel_rfl

theorem ok49 (p_0 : ByteArray) (p_1 : Bool) (p_2 : Option Addr) (p_2N : Nat) (p_2C : Nat) (p_3 : Int) {w : World} {R : Ending → World → Prop} (h : F49 p_0 p_1 p_2 p_2N p_2C p_3 w R) : Calls Try.prog 49 #[(.agg #[(.string p_0), (.bool p_1), (.slice p_2 p_2N p_2C), (.int .i64 p_3)])] w R :=
  vc_calls (pl := pl49) Try.func49 (by kernel_rfl) (by kernel_rfl) (by kernel_rfl) (Eq.mp (eq49 p_0 p_1 p_2 p_2N p_2C p_3 w R) h)

-- twig.Check
def F9 (t_0 : ByteArray) (t_1 : Bool) (t_2 : Option Addr) (t_2N : Nat) (t_2C : Nat) (w_ : World) (R : Ending → World → Prop) : Prop :=
 Al w_ #[(.string t_0), (.bool t_1), (.slice t_2 t_2N t_2C)] 24 fun t w1 =>
 LdStr (w1.cell? t) fun x6_0 =>
 LdB (w1.cell? (t.add 1)) fun x6_1 =>
 LdSl (w1.cell? (t.add 2)) fun x6_2 x6_2N x6_2C =>
 Calls Try.prog 31 #[(.agg #[(.string x6_0), (.bool x6_1), (.slice x6_2 x6_2N x6_2C)])] w1 (post R fun v w1_2 =>
 ∃ (x7_0 : Option Addr) (x7_0N : Nat) (x7_0C : Nat) (x7_1 : Int), v = (.tuple #[(.slice x7_0 x7_0N x7_0C), (.int .i64 x7_1)]) ∧
 R (.returned (.int .i64 x7_1)) w1_2)

def pl9 : Plan := ⟨11, ⟨[]⟩, [], []⟩

theorem eq9 (t_0 : ByteArray) (t_1 : Bool) (t_2 : Option Addr) (t_2N : Nat) (t_2C : Nat) (w : World) (R : Ending → World → Prop) : F9 t_0 t_1 t_2 t_2N t_2C w R = vc Try.prog Try.f9 pl9 R 100000 [.code (bodyOf Try.f9)] (argEnv 0 #[(.agg #[(.string t_0), (.bool t_1), (.slice t_2 t_2N t_2C)])].toList) w := by kernel_rfl

theorem ok9 (t_0 : ByteArray) (t_1 : Bool) (t_2 : Option Addr) (t_2N : Nat) (t_2C : Nat) {w : World} {R : Ending → World → Prop} (h : F9 t_0 t_1 t_2 t_2N t_2C w R) : Calls Try.prog 9 #[(.agg #[(.string t_0), (.bool t_1), (.slice t_2 t_2N t_2C)])] w R :=
  vc_calls (pl := pl9) Try.func9 (by kernel_rfl) (by kernel_rfl) (by kernel_rfl) (Eq.mp (eq9 t_0 t_1 t_2 t_2N t_2C w R) h)

-- twig.Size
def F11 (t_0 : ByteArray) (t_1 : Bool) (t_2 : Option Addr) (t_2N : Nat) (t_2C : Nat) (w_ : World) (R : Ending → World → Prop) : Prop :=
 Al w_ #[(.string t_0), (.bool t_1), (.slice t_2 t_2N t_2C)] 24 fun t w1 =>
 LdStr (w1.cell? t) fun x3_0 =>
 LdB (w1.cell? (t.add 1)) fun x3_1 =>
 LdSl (w1.cell? (t.add 2)) fun x3_2 x3_2N x3_2C =>
 Calls Try.prog 33 #[(.agg #[(.string x3_0), (.bool x3_1), (.slice x3_2 x3_2N x3_2C)])] w1 (post R fun v w1_2 =>
 ∃ (x4 : Option Addr) (x4N : Nat) (x4C : Nat), v = (.slice x4 x4N x4C) ∧
 R (.returned (.int .i64 ((x4N : Nat) : Int))) w1_2)

def pl11 : Plan := ⟨6, ⟨[]⟩, [], []⟩

theorem eq11 (t_0 : ByteArray) (t_1 : Bool) (t_2 : Option Addr) (t_2N : Nat) (t_2C : Nat) (w : World) (R : Ending → World → Prop) : F11 t_0 t_1 t_2 t_2N t_2C w R = vc Try.prog Try.f11 pl11 R 100000 [.code (bodyOf Try.f11)] (argEnv 0 #[(.agg #[(.string t_0), (.bool t_1), (.slice t_2 t_2N t_2C)])].toList) w := by kernel_rfl

theorem ok11 (t_0 : ByteArray) (t_1 : Bool) (t_2 : Option Addr) (t_2N : Nat) (t_2C : Nat) {w : World} {R : Ending → World → Prop} (h : F11 t_0 t_1 t_2 t_2N t_2C w R) : Calls Try.prog 11 #[(.agg #[(.string t_0), (.bool t_1), (.slice t_2 t_2N t_2C)])] w R :=
  vc_calls (pl := pl11) Try.func11 (by kernel_rfl) (by kernel_rfl) (by kernel_rfl) (Eq.mp (eq11 t_0 t_1 t_2 t_2N t_2C w R) h)

-- slices.ContainsFunc[[]espalier/twig.place,espalier/twig.place]
def F39 (s : Option Addr) (sN : Nat) (sC : Nat) (f : Value) (w_ : World) (R : Ending → World → Prop) : Prop :=
 Calls Try.prog 62 #[(.slice s sN sC), f] w_ (post R fun v w1 =>
 ∃ (x7 : Int), v = (.int .i64 x7) ∧
 R (.returned (.bool (decide (x7 ≥ (0 : Int))))) w1)

def pl39 : Plan := ⟨9, ⟨[]⟩, [], []⟩

theorem eq39 (s : Option Addr) (sN : Nat) (sC : Nat) (f : Value) (w : World) (R : Ending → World → Prop) : F39 s sN sC f w R = vc Try.prog Try.f39 pl39 R 100000 [.code (bodyOf Try.f39)] (argEnv 0 #[(.slice s sN sC), f].toList) w := by kernel_rfl

theorem ok39 (s : Option Addr) (sN : Nat) (sC : Nat) (f : Value) {w : World} {R : Ending → World → Prop} (h : F39 s sN sC f w R) : Calls Try.prog 39 #[(.slice s sN sC), f] w R :=
  vc_calls (pl := pl39) Try.func39 (by kernel_rfl) (by kernel_rfl) (by kernel_rfl) (Eq.mp (eq39 s sN sC f w R) h)

-- slices.IndexFunc[[]espalier/twig.place,espalier/twig.place]
def F62_l2 (s : Option Addr) (sN : Nat) (f : Value) (L2 : Int → World → Prop) (x8 : Int) (w_2 : World) (R : Ending → World → Prop) : Prop :=
 Br (decide (x8 < ((sN : Nat) : Int)))
 (IdxA s sN x8 4 fun q14 =>
 LdStr (w_2.cell? q14) fun x15_0 =>
 LdB (w_2.cell? (q14.add 1)) fun x15_1 =>
 LdSl (w_2.cell? (q14.add 2)) fun x15_2 x15_2N x15_2C =>
 LdI .i64 (w_2.cell? (q14.add 3)) fun x15_3 =>
 CallV Try.prog f #[(.agg #[(.string x15_0), (.bool x15_1), (.slice x15_2 x15_2N x15_2C), (.int .i64 x15_3)])] w_2 R (fun v w1 =>
 ∃ (x16 : Bool), v = (.bool x16) ∧
 Br x16
 (R (.returned (.int .i64 x8)) w1)
 (InR .i64 (x8 + (1 : Int)) ∧ L2 (x8 + (1 : Int)) w1)))
 (R (.returned (.int .i64 (-1))) w_2)

def F62 (s : Option Addr) (sN : Nat) (sC : Nat) (f : Value) (w_ : World) (R : Ending → World → Prop) : Prop :=
 ∃ (I : Int → World → Prop) (m : Int → World → Nat), I (0 : Int) w_ ∧
 ∀ (x8 : Int) (w1 : World), I x8 w1 → F62_l2 s sN f (fun x8' w2 => I x8' w2 ∧ m x8' w2 < m x8 w1) x8 w1 R

def pl62 : Plan := ⟨19, ⟨[]⟩, [], [(2, ⟨[(8, (.s (.int .i64)))], [(4, 6), (8, 19)]⟩)]⟩

theorem eq62 (s : Option Addr) (sN : Nat) (sC : Nat) (f : Value) (w : World) (R : Ending → World → Prop) : F62 s sN sC f w R = vc Try.prog Try.f62 pl62 R 100000 [.code (bodyOf Try.f62)] (argEnv 0 #[(.slice s sN sC), f].toList) w := by kernel_rfl

theorem ok62 (s : Option Addr) (sN : Nat) (sC : Nat) (f : Value) {w : World} {R : Ending → World → Prop} (h : F62 s sN sC f w R) : Calls Try.prog 62 #[(.slice s sN sC), f] w R :=
  vc_calls (pl := pl62) Try.func62 (by kernel_rfl) (by kernel_rfl) (by kernel_rfl) (Eq.mp (eq62 s sN sC f w R) h)

end Go.Proofs.Ytbocfedmdjkccaa
/- Twigs: a pattern's nodes, in their order. -/
namespace Go.Proofs.Ytbocfedmdjkccaa
open Go.RowKit Go.Vc
set_option linter.unusedVariables false
set_option linter.unusedSimpArgs false
set_option maxRecDepth 100000
theorem Fm.trans2 {M M' : Nat → Prop} {w w1 w2 : World} (h : Fm M w w1) (k : Fm M' w1 w2) (hm : ∀ b, b < w.heap.size → M' b → M b) : Fm M w w2 :=
  ⟨k.os.trans h.os, k.tape.trans h.tape, k.output.trans h.output, Nat.le_trans h.size k.size, fun b hb h1 => (k.block b (Nat.lt_of_lt_of_le hb h.size) fun h2 => h1 (hm b hb h2)).trans (h.block b hb h1)⟩
/-- A node's cells: the pattern's, and the number of the one above. -/
structure E4 where
  e : E3
  up : Int
def E4.cells (x : E4) : List Value := x.e.cells ++ [.int .i64 x.up]
def LE4 : Lay E4 := ⟨4, E4.cells, fun _ => rfl, fun _ => by simp [E4.cells, E3.cells, Value.oneCell'], by decide⟩
def RP (w0 : World) : List (Tw × Int) → List E4 → Prop
  | [], es => es = []
  | a :: l, es => ∃ x es', es = x :: es' ∧ RTw w0 a.1 x.e ∧ x.up = a.2 ∧ RP w0 l es'
theorem RP.len {w0 : World} : ∀ {l : List (Tw × Int)} {es : List E4}, RP w0 l es → es.length = l.length
  | [], es, h => by simp only [RP] at h; subst h; rfl
  | a :: l, es, h => by
    simp only [RP] at h
    obtain ⟨x, es', rfl, _, _, h3⟩ := h
    simp [h3.len]
theorem RP.snoc {w0 : World} {a : Tw × Int} {x : E4} (h1 : RTw w0 a.1 x.e) (h2 : x.up = a.2) : ∀ {l : List (Tw × Int)} {es : List E4}, RP w0 l es → RP w0 (l ++ [a]) (es ++ [x])
  | [], es, h => by simp only [RP] at h; subst h; simp only [List.nil_append, RP]; exact ⟨x, [], rfl, h1, h2, rfl⟩
  | b :: l, es, h => by
    simp only [RP] at h
    obtain ⟨y, es', rfl, k1, k2, k3⟩ := h
    simp only [List.cons_append, RP]
    exact ⟨y, _, rfl, k1, k2, RP.snoc h1 h2 k3⟩
/-- The list under construction. -/
structure PI (w0 : World) (g0 g1 lo : Nat) (w : World) (v : Sv) (acc : List (Tw × Int)) : Prop where
  below : Below w0.heap.size w0 w
  b0 : Blk w g0 #[slv v] 59
  b1 : ∃ ty, Blk w g1 #[.func (.func 52) #[] #[.pointer (some ⟨g0, 0, none⟩), .pointer (some ⟨g1, 0, none⟩)]] ty
  base : w0.heap.size ≤ g0 ∧ w0.heap.size ≤ g1 ∧ g0 < lo ∧ g1 < lo ∧ lo ≤ w.heap.size ∧ g0 ≠ g1
  own : ∃ es, Own LE4 w lo 73 (slv v) es ∧ RP w0 acc es
theorem PI.keep {w0 : World} {g0 g1 lo : Nat} {w w1 : World} {v : Sv} {acc : List (Tw × Int)} (h : PI w0 g0 g1 lo w v acc) (hb : Below w.heap.size w w1) : PI w0 g0 g1 lo w1 v acc := by
  obtain ⟨es, h1, h2⟩ := h.own
  exact ⟨btr h.below h.below.size hb, h.b0.keep hb, ⟨_, h.b1.choose_spec.keep hb⟩, by have := h.base; have := hb.size; omega, es, h1.keep hb, h2⟩
theorem take17 {α : Type} (L : List α) (f : Nat → List α) : (L.take 17 ++ f (L.take 17).length).take 17 = (L ++ f L.length).take 17 := by
  by_cases h : L.length ≤ 17
  · rw [List.take_of_length_le h]
  · rw [List.take_append_of_le_length (by simp; omega), List.take_append_of_le_length (by omega), List.take_take]; simp
theorem goes_calls {w0 : World} {g0 g1 lo : Nat} : ∀ (t : Tw) (e : E3) (up : Int) {acc : List (Tw × Int)} {v : Sv} {w : World} {R : Ending → World → Prop}, RTw w0 t e → PI w0 g0 g1 lo w v acc → acc.length ≤ 17 →
    (∀ v' w', PI w0 g0 g1 lo w' v' ((acc ++ t.pre up acc.length).take 17) → Fm (fun b => b = g0 ∨ rowOf (slv v) = some b) w w' → (∀ b, rowOf (slv v') = some b → rowOf (slv v) = some b ∨ w.heap.size ≤ b) → R (.returned (.tuple #[])) w') →
    Calls Try.prog 52 #[.agg #[.string e.nm, .bool e.d, .slice e.sl.1 e.sl.2.1 e.sl.2.2], .int .i64 up, .pointer (some ⟨g0, 0, none⟩), .pointer (some ⟨g1, 0, none⟩)] w R := by
  refine Tw.ind fun nm d ks ih e up acc v w R ht hp hacc h => ?_
  have ht0 := ht
  simp only [RTw] at ht
  obtain ⟨hnm, hd, hlen, es0, hn, hr, hks⟩ := ht
  have hel := hks.len
  refine ok52 e.nm e.d e.sl.1 e.sl.2.1 e.sl.2.2 up _ _ ?_
  unfold F52
  refine al fun gt w1 hb1 bt hge1 => ?_
  have p1 := hp.keep hb1
  obtain ⟨es, ho, hrp⟩ := p1.own
  obtain ⟨hn1, hrd⟩ := ho.rd
  have hlen1 := hrp.len
  have hbase := hp.base
  have hs1 := hb1.size
  simp only [Addr.add_mk, p1.b0.cell, List.getElem?_toArray, List.getElem?_cons_zero, List.getElem?_cons_succ, Addr.add_mk, List.getElem?_toArray, List.getElem?_cons_zero, List.getElem?_cons_succ, LdI_some, LdB_some, LdStr_some, LdP_some, LdSl_some, LdM_some, Nat.zero_add, Br_t, Br_f]
  refine brd (fun hgt => ?_) (fun hle => ?_)
  · refine h v w1 ?_ (.below hb1) fun b hb => .inl hb
    rw [List.take_append_of_le_length (by omega), List.take_of_length_le (by omega)]
    exact p1
  simp only [Addr.add_mk, bt.cell, List.getElem?_toArray, List.getElem?_cons_zero, List.getElem?_cons_succ, Addr.add_mk, List.getElem?_toArray, List.getElem?_cons_zero, List.getElem?_cons_succ, LdI_some, LdB_some, LdStr_some, LdP_some, LdSl_some, LdM_some, Nat.zero_add, Br_t, Br_f]
  refine ap1 (L := LE4) (x := ⟨e, up⟩) (.agg #[.string ⟨#[]⟩, .bool false, .slice none 0 0, .int .i64 0]) 56 rfl rfl rfl rfl ho (by have := p1.base; omega) (by omega) (by simp [maxLen]; omega) fun A' c' w3 ho3 hg => ⟨A', _, c', rfl, ?_⟩
  have hlt : ∀ b, rowOf (slv v) = some b → lo ≤ b ∧ b < w.heap.size := by
    obtain ⟨es', ho', _⟩ := hp.own
    exact ho'.lt
  have b03 : Blk w3 g0 #[slv v] 59 := p1.b0.below hg.below hbase.2.2.1
  have b13 := p1.b1.choose_spec.below hg.below hbase.2.2.2.1
  have bt3 : Blk w3 gt #[.string e.nm, .bool e.d, .slice e.sl.1 e.sl.2.1 e.sl.2.2] 24 := by
    have hl := bt.lt
    unfold Blk at bt ⊢
    rw [hg.grown.block gt hl fun hh => by have := hlt gt hh.symm; omega]; exact bt
  refine st_blk b03 (by simp) fun w4 b04 hf4 => ?_
  simp only [List.setIfInBounds_toArray, List.set_cons_zero] at b04
  have bt4 := hf4.blk bt3 (by omega)
  have b14 := hf4.blk b13 (by omega)
  simp only [Addr.add_mk, b04.cell, bt4.cell, List.getElem?_toArray, List.getElem?_cons_zero, List.getElem?_cons_succ, Addr.add_mk, List.getElem?_toArray, List.getElem?_cons_zero, List.getElem?_cons_succ, LdI_some, LdB_some, LdStr_some, LdP_some, LdSl_some, LdM_some, Nat.zero_add, Br_t, Br_f]
  refine ⟨inR_i64 (by omega) (by omega), ?_⟩
  have hM3 : Fm (fun b => b = g0 ∨ rowOf (slv v) = some b) w w3 := (Fm.below hb1).trans (.grown hg.grown fun b hb => .inr hb)
  have hM4 : Fm (fun b => b = g0 ∨ rowOf (slv v) = some b) w w4 := hM3.trans (hf4.mono fun b _ hb => .inl hb)
  have hrow4 : ∀ b, rowOf (slv (A', es.length + 1, c')) = some b → rowOf (slv v) = some b ∨ w.heap.size ≤ b := by
    intro b hb
    rcases hg.row with h1 | h1 | ⟨g, h1, h2⟩
    · rw [← hb]; exact .inl h1.symm
    · rw [show rowOf (slv (A', es.length + 1, c')) = rowOf (.slice A' (es.length + 1) c') from rfl, h1] at hb; cases hb
    · rw [show rowOf (slv (A', es.length + 1, c')) = rowOf (.slice A' (es.length + 1) c') from rfl, h1] at hb; cases hb; exact .inr (by omega)
  have p4 : PI w0 g0 g1 lo w4 (A', es.length + 1, c') (acc ++ [(Tw.mk nm d ks, up)]) := by
    refine ⟨?_, b04, ⟨_, b14⟩, ?_, es ++ [⟨e, up⟩], ?_, hrp.snoc ht0 rfl⟩
    · exact hp.below.trans (hM4.toBelow hp.below.size fun b hb hm => by
        rcases hm with hm | hm
        · omega
        · have := hlt b hm; omega)
    · have := hM4.size; omega
    · exact own_fm ho3 hf4 fun b hb hb2 => by have := (ho3.lt b hb).1; omega
  refine ⟨fun i w5 => ∃ (k : Nat) (v5 : Sv), i = k ∧ k ≤ ks.length ∧ PI w0 g0 g1 lo w5 v5 ((acc ++ (Tw.mk nm d ks, up) :: preL acc.length (acc.length + 1) (ks.take k)).take 17) ∧ Fm (fun b => b = g0 ∨ rowOf (slv v) = some b) w w5 ∧ (∀ b, rowOf (slv v5) = some b → rowOf (slv v) = some b ∨ w.heap.size ≤ b), fun i _ => ks.length - i.toNat,
    ⟨0, _, rfl, by omega, ?_, hM4, hrow4⟩, ?_⟩
  · rw [List.take_zero, preL, List.take_of_length_le (by simp; omega)]; exact p4
  rintro i w5 ⟨k, v5, rfl, hk, p5, hM5, hrow5⟩
  unfold F52_l5
  have B5 := p5.below
  refine brd (fun hlt2 => ?_) (fun hge => ?_)
  · have hk2 : k < ks.length := by omega
    refine (hr.keep B5).e3 hn rfl (k := k) (by omega) fun b o c0 c1 c2 => ?_
    simp only [Addr.add_mk, c0, c1, c2, Addr.add_mk, List.getElem?_toArray, List.getElem?_cons_zero, List.getElem?_cons_succ, LdI_some, LdB_some, LdStr_some, LdP_some, LdSl_some, LdM_some, Nat.zero_add, Br_t, Br_f]
    refine al3 fun gk w6 hb6 bk hge6 => ?_
    have p6 := p5.keep hb6
    obtain ⟨ty, b1⟩ := p6.b1
    simp only [Addr.add_mk, bk.cell, b1.cell, List.getElem?_toArray, List.getElem?_cons_zero, List.getElem?_cons_succ, Addr.add_mk, List.getElem?_toArray, List.getElem?_cons_zero, List.getElem?_cons_succ, LdI_some, LdB_some, LdStr_some, LdP_some, LdSl_some, LdM_some, Nat.zero_add, Br_t, Br_f, LdV_some]
    refine ⟨by kernel_rfl, ?_⟩
    refine ih ks[k] (List.getElem_mem _) es0[k] _ (hks.get k hk2 (by omega)) p6 (by simp; omega) fun v7 w7 p7 hM7 hrow7 => ⟨rfl, inR_i64 (by omega) (by omega), ⟨k + 1, v7, by simp, by omega, ?_, ?_, ?_⟩, by omega⟩
    · have hl : (acc ++ (Tw.mk nm d ks, up) :: preL acc.length (acc.length + 1) (ks.take k)).length = acc.length + 1 + szL (ks.take k) := by rw [List.length_append, List.length_cons, preL_len]; omega
      have hT := take17 (acc ++ (Tw.mk nm d ks, up) :: preL acc.length (acc.length + 1) (ks.take k)) fun n => ks[k].pre acc.length n
      have ha : (((es.length + 1 : Nat) : Int) - 1) = acc.length := by omega
      rw [ha, hT, hl] at p7
      rw [List.take_succ_eq_append_getElem hk2, preL_snoc]
      simpa using p7
    · refine hM5.trans2 ((Fm.below hb6).trans hM7) fun b hb hm => ?_
      rcases hm with hm | hm
      · exact .inl hm
      · rcases hrow5 b hm with h1 | h1
        · exact .inr h1
        · omega
    · intro b hb
      rcases hrow7 b hb with h1 | h1
      · exact hrow5 b h1
      · exact .inr (by have := hM5.size; have := hb6.size; omega)
  · have hk2 : k = ks.length := by omega
    subst hk2
    rw [List.take_length] at p5
    exact h v5 w5 (by rw [Tw.pre]; exact p5) hM5 hrow5
end Go.Proofs.Ytbocfedmdjkccaa
/- Twigs: places; what is wrong with a pattern. -/
namespace Go.Proofs.Ytbocfedmdjkccaa
open Go.RowKit Go.Vc
set_option linter.unusedVariables false
set_option linter.unusedSimpArgs false
set_option maxRecDepth 100000
theorem RP.sub {w w1 : World} (h : Sub w w1) : ∀ {l : List (Tw × Int)} {es : List E4}, RP w l es → RP w1 l es
  | [], es, k => by simp only [RP] at k ⊢; exact k
  | a :: l, es, k => by
    simp only [RP] at k ⊢
    obtain ⟨x, es', rfl, k1, k2, k3⟩ := k
    exact ⟨x, es', rfl, RTw.sub h _ _ k1, k2, RP.sub h k3⟩
theorem RP.get {w : World} : ∀ {l : List (Tw × Int)} {es : List E4}, RP w l es → ∀ (i : Nat) (h : i < l.length) (h' : i < es.length), RTw w l[i].1 es[i].e ∧ es[i].up = l[i].2
  | [], es, _, i, h, _ => by simp at h
  | a :: l, es, k, i, h, h' => by
    simp only [RP] at k
    obtain ⟨x, es', rfl, k1, k2, k3⟩ := k
    cases i with
    | zero => exact ⟨k1, k2⟩
    | succ i => exact RP.get k3 i (by simpa using h) (by simpa using h')
/-- Nodes in a slice. -/
def RPs (w : World) (l : List (Tw × Int)) (v : Sv) : Prop := ∃ es, v.2.1 = es.length ∧ Rd LE4 w v.1 v.2.2 es ∧ RP w l es
theorem RPs.keep {w w1 : World} {l : List (Tw × Int)} {v : Sv} (h : RPs w l v) (hb : Below w.heap.size w w1) : RPs w1 l v := by
  obtain ⟨es, h1, h2, h3⟩ := h
  exact ⟨es, h1, h2.keep hb, h3.sub (sub_below hb)⟩
/-- A pattern's nodes, at most one more than can be. -/
def placesF (t : Tw) : List (Tw × Int) := (t.pre (-1) 0).take 17
theorem placesF_len (t : Tw) : (placesF t).length = min 17 t.sz := by rw [placesF, List.length_take, Tw.pre_len]
theorem places_calls (t : Tw) (e : E3) {w : World} {R : Ending → World → Prop} (ht : RTw w t e)
    (h : ∀ v w', Below w.heap.size w w' → RPs w' (placesF t) v → R (.returned (slv v)) w') :
    Calls Try.prog 33 #[.agg #[.string e.nm, .bool e.d, .slice e.sl.1 e.sl.2.1 e.sl.2.2]] w R := by
  refine ok33 e.nm e.d e.sl.1 e.sl.2.1 e.sl.2.2 ?_
  unfold F33
  refine al fun gt w1 hb1 bt hge1 => al fun g0 w2 hb2 b0 hge2 => al fun g1 w3 hb3 b1 hge3 => ?_
  have hs1 := hb1.size
  have hs2 := hb2.size
  have hs3 := hb3.size
  have hl0 := b0.lt
  have hl1 := b1.lt
  have hlt := bt.lt
  refine st_blk b1 (by simp) fun w4 b14 hf4 => ?_
  simp only [List.setIfInBounds_toArray, List.set_cons_zero] at b14
  have b04 := hf4.blk (b0.keep hb3) (by omega)
  have bt4 := hf4.blk ((bt.keep hb2).keep hb3) (by omega)
  have hs4 := hf4.size
  have B4 : Below w.heap.size w w4 := (btr (btr hb1 hb1.size hb2) (by omega) hb3).trans (hf4.toBelow (by omega) fun b hb hm => by omega)
  simp only [Addr.add_mk, b14.cell, bt4.cell, List.getElem?_toArray, List.getElem?_cons_zero, List.getElem?_cons_succ, Addr.add_mk, List.getElem?_toArray, List.getElem?_cons_zero, List.getElem?_cons_succ, LdI_some, LdB_some, LdStr_some, LdP_some, LdSl_some, LdM_some, Nat.zero_add, Br_t, Br_f, LdV_some]
  refine ⟨by kernel_rfl, ?_⟩
  have p4 : PI w g0 g1 w4.heap.size w4 (none, 0, 0) [] := by
    refine ⟨B4, b04, ⟨_, b14⟩, by omega, [], Own.nil _ _ _ _, by simp only [RP]⟩
  refine goes_calls t e (-1) ht p4 (by simp) fun v w5 p5 _ _ => ⟨rfl, ?_⟩
  simp only [p5.b0.cell, List.getElem?_toArray, List.getElem?_cons_zero, Addr.add_mk, List.getElem?_toArray, List.getElem?_cons_zero, List.getElem?_cons_succ, LdI_some, LdB_some, LdStr_some, LdP_some, LdSl_some, LdM_some, Nat.zero_add, Br_t, Br_f]
  obtain ⟨es, ho, hrp⟩ := p5.own
  obtain ⟨hn, hrd⟩ := ho.rd
  refine h v w5 p5.below ⟨es, hn, hrd, ?_⟩
  have : RP w (placesF t) es := by simpa [placesF] using hrp
  exact this.sub (sub_below p5.below)
end Go.Proofs.Ytbocfedmdjkccaa
/- Twigs: what is wrong with a pattern; its size. -/
namespace Go.Proofs.Ytbocfedmdjkccaa
open Go.RowKit Go.Vc
set_option linter.unusedVariables false
set_option linter.unusedSimpArgs false
set_option maxRecDepth 100000
theorem Rd.e4 {w : World} {A : Option Addr} {c : Nat} {xs : List E4} (h : Rd LE4 w A c xs) {n : Nat} (hn : n = xs.length) {i : Int} {k : Nat} (hi : i = k) (hk : k < xs.length) {K : Addr → Prop}
    (hK : ∀ b o, w.cell? ⟨b, o, none⟩ = some (.string xs[k].e.nm) → w.cell? ⟨b, o + 1, none⟩ = some (.bool xs[k].e.d) → w.cell? ⟨b, o + 2, none⟩ = some (.slice xs[k].e.sl.1 xs[k].e.sl.2.1 xs[k].e.sl.2.2) → w.cell? ⟨b, o + 3, none⟩ = some (.int .i64 xs[k].up) → K ⟨b, o, none⟩) : IdxA A n i 4 K := by
  subst hi
  refine h.idx hn (by omega) (by omega) rfl fun b o hc => ?_
  simp only [Int.toNat_natCast] at hc
  exact hK b o (hc 0 _ rfl) (hc 1 _ rfl) (hc 2 _ rfl) (hc 3 _ rfl)
/-- What a function value answers of nodes. -/
def Tells (f : Value) (q : Tw × Int → Bool) : Prop := ∀ (a : Tw × Int) (e : E3) {w : World} {R : Ending → World → Prop} {K : Value → World → Prop}, RTw w a.1 e →
  (∀ w', Below w.heap.size w w' → K (.bool (q a)) w') → CallV Try.prog f #[.agg #[.string e.nm, .bool e.d, .slice e.sl.1 e.sl.2.1 e.sl.2.2, .int .i64 a.2]] w R K
theorem contains_calls (l : List (Tw × Int)) (v : Sv) (f : Value) (q : Tw × Int → Bool) {w : World} {R : Ending → World → Prop} (hf : Tells f q) (hl : RPs w l v) (hz : l.length ≤ 1048576)
    (h : ∀ w', Below w.heap.size w w' → R (.returned (.bool (l.any q))) w') :
    Calls Try.prog 39 #[slv v, f] w R := by
  refine ok39 v.1 v.2.1 v.2.2 f ?_
  unfold F39
  refine ok62 v.1 v.2.1 v.2.2 f ?_
  unfold F62
  obtain ⟨es, hn, hr, hp⟩ := hl
  have hel := hp.len
  refine ⟨fun i w1 => ∃ k : Nat, i = k ∧ k ≤ l.length ∧ (l.take k).any q = false ∧ Below w.heap.size w w1, fun i _ => l.length - i.toNat, ⟨0, rfl, by omega, by simp, Below.refl _ _⟩, ?_⟩
  rintro i w1 ⟨k, rfl, hk, hall, hb1⟩
  unfold F62_l2
  refine brd (fun hlt => ?_) (fun hge => ?_)
  · have hk2 : k < l.length := by omega
    refine (hr.keep hb1).e4 hn rfl (k := k) (by omega) fun b o c0 c1 c2 c3 => ?_
    simp only [Addr.add_mk, c0, c1, c2, c3, Addr.add_mk, List.getElem?_toArray, List.getElem?_cons_zero, List.getElem?_cons_succ, LdI_some, LdB_some, LdStr_some, LdP_some, LdSl_some, LdM_some, Nat.zero_add, Br_t, Br_f]
    obtain ⟨g1, g2⟩ := (hp.sub (sub_below hb1)).get k hk2 (by omega)
    rw [g2]
    refine hf l[k] es[k].e g1 fun w2 hb2 => ⟨_, rfl, ?_⟩
    have B2 := btr hb1 hb1.size hb2
    cases hq : q l[k] with
    | true =>
      refine ⟨_, rfl, ?_⟩
      have e : l.any q = true := List.any_eq_true.2 ⟨l[k], List.getElem_mem _, hq⟩
      have H := h w2 B2
      rw [e] at H
      rw [decide_eq_true (by omega)]
      exact H
    | false => exact ⟨inR_i64 (by omega) (by omega), ⟨k + 1, by simp, by omega, by rw [List.take_succ_eq_append_getElem hk2, List.any_append, hall]; simp [hq], B2⟩, by omega⟩
  · have hk2 : k = l.length := by omega
    subst hk2
    rw [List.take_length] at hall
    have H := h w1 hb1
    rw [hall] at H
    exact ⟨_, rfl, H⟩
mutual
theorem pre_named (up : Int) (at_ : Nat) : ∀ t : Tw, (t.pre up at_).any (fun a => !(nmOk a.1.nm)) = !t.named
  | .mk nm d ks => by rw [Tw.pre, List.any_cons, preL_named, Tw.named, Bool.not_and]; rfl
theorem preL_named (me nx : Nat) : ∀ ks : List Tw, (preL me nx ks).any (fun a => !(nmOk a.1.nm)) = !namedL ks
  | [] => by rw [preL, namedL]; rfl
  | k :: ks => by rw [preL, namedL, List.any_append, pre_named, preL_named, Bool.not_and]
end
theorem RTw.nm {w : World} {t : Tw} {e : E3} (h : RTw w t e) : e.nm = t.nm := by cases t; simp only [RTw] at h; exact h.1
theorem tells_named : Tells (.func (.func 49) #[] #[]) (fun a => !(nmOk a.1.nm)) := by
  intro a e w R K ht h
  refine ⟨by kernel_rfl, ?_⟩
  refine ok49 e.nm e.d e.sl.1 e.sl.2.1 e.sl.2.2 a.2 ?_
  unfold F49
  refine al fun g w1 hb1 bg hge => ?_
  have H := h w1 hb1
  dsimp only at H
  simp only [bg.cell, List.getElem?_toArray, List.getElem?_cons_zero, Addr.add_mk, List.getElem?_toArray, List.getElem?_cons_zero, List.getElem?_cons_succ, LdI_some, LdB_some, LdStr_some, LdP_some, LdSl_some, LdM_some, Nat.zero_add, Br_t, Br_f]
  rw [bytes_eq, ht.nm]
  by_cases h0 : a.1.nm = ByteArray.mk #[]
  · rw [decide_eq_true h0]
    rw [show nmOk a.1.nm = true by simp [nmOk, h0]] at H
    exact H
  · rw [decide_eq_false h0]
    refine name_calls ⟨_, rfl, ?_⟩
    rw [show nmOk a.1.nm = isName a.1.nm by simp [nmOk, h0]] at H
    exact H
theorem checked_calls (t : Tw) (e : E3) {w : World} {R : Ending → World → Prop} (ht : RTw w t e)
    (h : ∀ v w', Below w.heap.size w w' → (checkF t = 0 → RPs w' (t.pre (-1) 0) v) → R (.returned (.tuple #[slv v, .int .i64 (checkF t)])) w') :
    Calls Try.prog 31 #[.agg #[.string e.nm, .bool e.d, .slice e.sl.1 e.sl.2.1 e.sl.2.2]] w R := by
  refine ok31 e.nm e.d e.sl.1 e.sl.2.1 e.sl.2.2 ?_
  unfold F31
  refine al fun gt w1 hb1 bt hge1 => ?_
  simp only [Addr.add_mk, bt.cell, List.getElem?_toArray, List.getElem?_cons_zero, List.getElem?_cons_succ, Addr.add_mk, List.getElem?_toArray, List.getElem?_cons_zero, List.getElem?_cons_succ, LdI_some, LdB_some, LdStr_some, LdP_some, LdSl_some, LdM_some, Nat.zero_add, Br_t, Br_f]
  refine places_calls t e (ht.keep hb1) fun v w2 hb2 hv => ⟨_, _, _, rfl, ?_⟩
  have B2 := btr hb1 hb1.size hb2
  have hvn : v.2.1 = min 17 t.sz := by
    obtain ⟨es, h1, -, h3⟩ := hv
    rw [h1, h3.len, placesF_len]
  refine brd (fun hgt => ?_) (fun hle => ?_)
  · have H := h (none, 0, 0) w2 B2
    rw [show checkF t = 120 by unfold checkF; rw [if_pos (by omega)]] at H
    exact H fun h0 => by cases h0
  · have hpl : placesF t = t.pre (-1) 0 := by rw [placesF, List.take_of_length_le]; rw [Tw.pre_len]; omega
    have hsz : ¬ t.sz > 16 := by omega
    rw [hpl] at hv
    refine contains_calls _ v _ _ tells_named hv (by rw [Tw.pre_len]; omega) fun w3 hb3 => ⟨_, rfl, ?_⟩
    rw [pre_named]
    have B3 := btr B2 B2.size hb3
    cases hn : t.named with
    | false =>
      have H := h (none, 0, 0) w3 B3
      rw [show checkF t = 6 by unfold checkF; rw [if_neg hsz, hn]; rfl] at H
      exact H fun h0 => by cases h0
    | true =>
      have H := h v w3 B3
      rw [show checkF t = 0 by unfold checkF; rw [if_neg hsz, hn]; rfl] at H
      exact H fun _ => hv.keep hb3
theorem checkP_calls (t : Tw) (e : E3) {w : World} {R : Ending → World → Prop} (ht : RTw w t e)
    (h : ∀ w', Below w.heap.size w w' → R (.returned (.int .i64 (checkF t))) w') :
    Calls Try.prog 9 #[.agg #[.string e.nm, .bool e.d, .slice e.sl.1 e.sl.2.1 e.sl.2.2]] w R := by
  refine ok9 e.nm e.d e.sl.1 e.sl.2.1 e.sl.2.2 ?_
  unfold F9
  refine al fun gt w1 hb1 bt hge1 => ?_
  simp only [Addr.add_mk, bt.cell, List.getElem?_toArray, List.getElem?_cons_zero, List.getElem?_cons_succ, Addr.add_mk, List.getElem?_toArray, List.getElem?_cons_zero, List.getElem?_cons_succ, LdI_some, LdB_some, LdStr_some, LdP_some, LdSl_some, LdM_some, Nat.zero_add, Br_t, Br_f]
  exact checked_calls t e (ht.keep hb1) fun v w2 hb2 _ => ⟨_, _, _, _, rfl, h w2 (btr hb1 hb1.size hb2)⟩
theorem sizeP_calls (t : Tw) (e : E3) {w : World} {R : Ending → World → Prop} (ht : RTw w t e)
    (h : ∀ w', Below w.heap.size w w' → R (.returned (.int .i64 (cap17 t.sz : Nat))) w') :
    Calls Try.prog 11 #[.agg #[.string e.nm, .bool e.d, .slice e.sl.1 e.sl.2.1 e.sl.2.2]] w R := by
  refine ok11 e.nm e.d e.sl.1 e.sl.2.1 e.sl.2.2 ?_
  unfold F11
  refine al fun gt w1 hb1 bt hge1 => ?_
  simp only [Addr.add_mk, bt.cell, List.getElem?_toArray, List.getElem?_cons_zero, List.getElem?_cons_succ, Addr.add_mk, List.getElem?_toArray, List.getElem?_cons_zero, List.getElem?_cons_succ, LdI_some, LdB_some, LdStr_some, LdP_some, LdSl_some, LdM_some, Nat.zero_add, Br_t, Br_f]
  refine places_calls t e (ht.keep hb1) fun v w2 hb2 hv => ⟨_, _, _, rfl, ?_⟩
  have hvn : v.2.1 = cap17 t.sz := by
    obtain ⟨es, h1, -, h3⟩ := hv
    rw [h1, h3.len, placesF_len]; unfold cap17; split <;> omega
  rw [hvn]
  exact h w2 (btr hb1 hb1.size hb2)
end Go.Proofs.Ytbocfedmdjkccaa
set_option linter.unusedVariables false
set_option maxRecDepth 100000
namespace Go.Proofs.Ytbocfedmdjkccaa
open Go.Vc
-- twig.one
def F77_j11 (L4 : Int → World → Prop) (x11 : Int) (w_3 : World) (R : Ending → World → Prop) : Prop :=
 InR .i64 (x11 + (1 : Int)) ∧ L4 (x11 + (1 : Int)) w_3

def F77_j9 (l : Option Addr) (lN : Nat) (x11 : Int) (J11 : World → Prop) (s : Addr) (w_3 : World) (R : Ending → World → Prop) : Prop :=
 Dr w_3 fun w1_10 =>
 Br (decide (x11 > (0 : Int)))
 (LdI .u64 (w1_10.cell? s) fun x47 =>
 InR .i64 (x11 - (1 : Int)) ∧ IdxA l lN (x11 - (1 : Int)) 4 fun q51 =>
 LdI .u64 (w1_10.cell? (q51.add 1)) fun x54 =>
 Br (decide (x47 ≤ x54))
 (R (.returned (.int .i64 71)) w1_10)
 (J11 w1_10))
 (J11 w1_10)

def F77_l4 (l : Option Addr) (lN : Nat) (L4 : Int → World → Prop) (x11 : Int) (w_2 : World) (R : Ending → World → Prop) : Prop :=
 Br (decide (x11 < ((lN : Nat) : Int)))
 (∃ J11 : World → Prop, (∀  (w1 : World), J11 w1 → F77_j11 L4 x11 w1 R) ∧
 (IdxA l lN x11 4 fun q14 =>
 LdI .u64 (w_2.cell? q14) fun x15_0 =>
 LdI .u64 (w_2.cell? (q14.add 1)) fun x15_1 =>
 LdI .u64 (w_2.cell? (q14.add 2)) fun x15_2 =>
 LdI .i64 (w_2.cell? (q14.add 3)) fun x15_3 =>
 Al w_2 #[(.int .u64 0), (.int .u64 0), (.int .u64 0), (.int .i64 0)] 79 fun p w1 =>
 St w1 p (.int .u64 x15_0) fun w1_2 =>
 St w1_2 (p.add 1) (.int .u64 x15_1) fun w1_3 =>
 St w1_3 (p.add 2) (.int .u64 x15_2) fun w1_4 =>
 St w1_4 (p.add 3) (.int .i64 x15_3) fun w1_5 =>
 LdI .u64 (w1_5.cell? (p.add 1)) fun x17_0 =>
 LdI .u64 (w1_5.cell? ((p.add 1).add 1)) fun x17_1 =>
 LdI .i64 (w1_5.cell? ((p.add 1).add 2)) fun x17_2 =>
 Al w1_5 #[(.int .u64 0), (.int .u64 0), (.int .i64 0)] 77 fun s w1_6 =>
 St w1_6 s (.int .u64 x17_0) fun w1_7 =>
 St w1_7 (s.add 1) (.int .u64 x17_1) fun w1_8 =>
 St w1_8 (s.add 2) (.int .i64 x17_2) fun w1_9 =>
 ∃ J9 : World → Prop, (∀  (w1_10 : World), J9 w1_10 → F77_j9 l lN x11 J11 s w1_10 R) ∧
 (LdI .u64 (w1_9.cell? s) fun x19 =>
 Br (decide (x19 < (1 : Int)))
 (R (.returned (.int .i64 110)) w1_9)
 (LdI .u64 (w1_9.cell? s) fun x23 =>
 LdI .u64 (w1_9.cell? (s.add 1)) fun x25 =>
 Br (decide (x23 ≥ x25))
 (R (.returned (.int .i64 110)) w1_9)
 (LdI .u64 (w1_9.cell? (s.add 1)) fun x30 =>
 Br (decide (x30 ≥ (4611686018427387904 : Int)))
 (R (.returned (.int .i64 110)) w1_9)
 (LdI .i64 (w1_9.cell? (s.add 2)) fun x35 =>
 Br (decide (x35 < (0 : Int)))
 (R (.returned (.int .i64 110)) w1_9)
 (LdI .i64 (w1_9.cell? (s.add 2)) fun x40 =>
 Br (decide (x40 ≥ (64 : Int)))
 (R (.returned (.int .i64 110)) w1_9)
 (J9 w1_9))))))))
 (R (.returned (.int .i64 0)) w_2)

def F77 (l : Option Addr) (lN : Nat) (lC : Nat) (w_ : World) (R : Ending → World → Prop) : Prop :=
 Br (decide (((lN : Nat) : Int) > (4096 : Int)))
 (R (.returned (.int .i64 2)) w_)
 (∃ (I : Int → World → Prop) (m : Int → World → Nat), I (0 : Int) w_ ∧
 ∀ (x11 : Int) (w1 : World), I x11 w1 → F77_l4 l lN (fun x11' w2 => I x11' w2 ∧ m x11' w2 < m x11 w1) x11 w1 R)

def pl77 : Plan := ⟨58, ⟨[]⟩, [(9, ⟨[], [(2, 3), (18, 43)]⟩), (11, ⟨[], [(2, 6), (13, 57)]⟩)], [(4, ⟨[(11, (.s (.int .i64)))], [(2, 6), (11, 58)]⟩)]⟩

theorem eq77 (l : Option Addr) (lN : Nat) (lC : Nat) (w : World) (R : Ending → World → Prop) : F77 l lN lC w R = vc Try.prog Try.f77 pl77 R 100000 [.code (bodyOf Try.f77)] (argEnv 0 #[(.slice l lN lC)].toList) w := by kernel_rfl

theorem ok77 (l : Option Addr) (lN : Nat) (lC : Nat) {w : World} {R : Ending → World → Prop} (h : F77 l lN lC w R) : Calls Try.prog 77 #[(.slice l lN lC)] w R :=
  vc_calls (pl := pl77) Try.func77 (by kernel_rfl) (by kernel_rfl) (by kernel_rfl) (Eq.mp (eq77 l lN lC w R) h)

-- twig.fits
def F63_l11 (L5 : Option Addr → Nat → Nat → Int → World → Prop) (x21 : Int) (x24 : Option Addr) (x24N : Nat) (L11 : Option Addr → Nat → Nat → Int → World → Prop) (all2 : Option Addr) (allN2 : Nat) (allC2 : Nat) (x32 : Int) (w_3 : World) (R : Ending → World → Prop) : Prop :=
 Br (decide (x32 < ((x24N : Nat) : Int)))
 (IdxA x24 x24N x32 4 fun q34 =>
 LdI .u64 (w_3.cell? q34) fun x35_0 =>
 LdI .u64 (w_3.cell? (q34.add 1)) fun x35_1 =>
 LdI .u64 (w_3.cell? (q34.add 2)) fun x35_2 =>
 LdI .i64 (w_3.cell? (q34.add 3)) fun x35_3 =>
 Al w_3 #[(.int .u64 0), (.int .u64 0), (.int .u64 0), (.int .i64 0)] 79 fun p w1_2 =>
 St w1_2 p (.int .u64 x35_0) fun w1_3 =>
 St w1_3 (p.add 1) (.int .u64 x35_1) fun w1_4 =>
 St w1_4 (p.add 2) (.int .u64 x35_2) fun w1_5 =>
 St w1_5 (p.add 3) (.int .i64 x35_3) fun w1_6 =>
 LdI .u64 (w1_6.cell? (p.add 1)) fun x38_0 =>
 LdI .u64 (w1_6.cell? ((p.add 1).add 1)) fun x38_1 =>
 LdI .i64 (w1_6.cell? ((p.add 1).add 2)) fun x38_2 =>
 Al w1_6 #[(.int .u64 x38_0), (.int .u64 x38_1), (.int .i64 x38_2)] 77 fun g39 w1_7 =>
 Raw Try.prog (Builtin.append_ #[119, 119] 119 #[(.slice all2 allN2 allC2), (.slice (some g39) 1 1)]) w1_7 fun v2 w1_8 =>
 ∃ (x40 : Option Addr) (x40N : Nat) (x40C : Nat), v2 = (.slice x40 x40N x40C) ∧
 InR .i64 (x32 + (1 : Int)) ∧ L11 x40 x40N x40C (x32 + (1 : Int)) w1_8)
 (InR .i64 (x21 + (1 : Int)) ∧ L5 all2 allN2 allC2 (x21 + (1 : Int)) w_3)

def F63_j25 (L19 : Option Addr → Nat → Nat → Int → World → Prop) (x48 : Int) (s : Addr) (around2 : Option Addr) (aroundN2 : Nat) (aroundC2 : Nat) (w_5 : World) (R : Ending → World → Prop) : Prop :=
 LdI .u64 (w_5.cell? s) fun x87_0 =>
 LdI .u64 (w_5.cell? (s.add 1)) fun x87_1 =>
 LdI .i64 (w_5.cell? (s.add 2)) fun x87_2 =>
 Al w_5 #[(.int .u64 x87_0), (.int .u64 x87_1), (.int .i64 x87_2)] 77 fun g88 w1_7 =>
 Raw Try.prog (Builtin.append_ #[119, 119] 119 #[(.slice around2 aroundN2 aroundC2), (.slice (some g88) 1 1)]) w1_7 fun v3 w1_8 =>
 ∃ (x89 : Option Addr) (x89N : Nat) (x89C : Nat), v3 = (.slice x89 x89N x89C) ∧
 InR .i64 (x48 + (1 : Int)) ∧ L19 x89 x89N x89C (x48 + (1 : Int)) w1_8

def F63_j23 (L19 : Option Addr → Nat → Nat → Int → World → Prop) (x48 : Int) (s : Addr) (around2 : Option Addr) (aroundN2 : Nat) (aroundC2 : Nat) (w_4 : World) (R : Ending → World → Prop) : Prop :=
 ∃ J25 : World → Prop, (∀  (w1_7 : World), J25 w1_7 → F63_j25 L19 x48 s around2 aroundN2 aroundC2 w1_7 R) ∧
 (∃ S : World → Prop, S w_4.drew ∧ Br (decide (((aroundN2 : Nat) : Int) > (0 : Int)))
 (InR .i64 (((aroundN2 : Nat) : Int) - (1 : Int)) ∧ IdxA around2 aroundN2 (((aroundN2 : Nat) : Int) - (1 : Int)) 3 fun q80 =>
 ∃ (x81_0 : Int), Held S q80 (.int .u64 x81_0) ∧ ∃ (x81_1 : Int), Held S (q80.add 1) (.int .u64 x81_1) ∧ ∃ (x81_2 : Int), Held S (q80.add 2) (.int .i64 x81_2) ∧ ∃ (x82_0 : Int), Held S s (.int .u64 x82_0) ∧ ∃ (x82_1 : Int), Held S (s.add 1) (.int .u64 x82_1) ∧ ∃ (x82_2 : Int), Held S (s.add 2) (.int .i64 x82_2) ∧ Calls Try.prog 66 #[(.agg #[(.int .u64 x81_0), (.int .u64 x81_1), (.int .i64 x81_2)]), (.agg #[(.int .u64 x82_0), (.int .u64 x82_1), (.int .i64 x82_2)])] w_4.drew (post R fun v3 w1_8 =>
 ∃ (x83 : Bool), v3 = (.bool x83) ∧
 Br (!x83)
 (R (.returned (.int .i64 111)) w1_8)
 (J25 w1_8)))
 (J25 w_4.drew))

def F63_j22 (L21 : Option Addr → Nat → Nat → World → Prop) (around2 : Option Addr) (aroundN2 : Nat) (aroundC2 : Nat) (w_5 : World) (R : Ending → World → Prop) : Prop :=
 InR .i64 (((aroundN2 : Nat) : Int) - (1 : Int)) ∧ SlB 0 (((aroundN2 : Nat) : Int) - (1 : Int)) ((aroundC2 : Nat) : Int)
 (L21 around2 ((((aroundN2 : Nat) : Int) - (1 : Int))).toNat aroundC2 w_5)

def F63_l21 (s : Addr) (J23 : Option Addr → Nat → Nat → World → Prop) (L21 : Option Addr → Nat → Nat → World → Prop) (around2 : Option Addr) (aroundN2 : Nat) (aroundC2 : Nat) (w_4 : World) (R : Ending → World → Prop) : Prop :=
 ∃ J22 : World → Prop, (∀  (w1_7 : World), J22 w1_7 → F63_j22 L21 around2 aroundN2 aroundC2 w1_7 R) ∧
 (Dr w_4 fun w1_7 =>
 Br (decide (((aroundN2 : Nat) : Int) > (0 : Int)))
 (InR .i64 (((aroundN2 : Nat) : Int) - (1 : Int)) ∧ IdxA around2 aroundN2 (((aroundN2 : Nat) : Int) - (1 : Int)) 3 fun q60 =>
 LdI .u64 (w1_7.cell? (q60.add 1)) fun x62 =>
 LdI .u64 (w1_7.cell? s) fun x64 =>
 Br (decide (x62 < x64))
 (J22 w1_7)
 (J23 around2 aroundN2 aroundC2 w1_7))
 (J23 around2 aroundN2 aroundC2 w1_7))

def F63_l19 (x46 : Option Addr) (x46N : Nat) (L19 : Option Addr → Nat → Nat → Int → World → Prop) (around : Option Addr) (aroundN : Nat) (aroundC : Nat) (x48 : Int) (w_3 : World) (R : Ending → World → Prop) : Prop :=
 Br (decide (x48 < ((x46N : Nat) : Int)))
 (IdxA x46 x46N x48 3 fun q50 =>
 LdI .u64 (w_3.cell? q50) fun x51_0 =>
 LdI .u64 (w_3.cell? (q50.add 1)) fun x51_1 =>
 LdI .i64 (w_3.cell? (q50.add 2)) fun x51_2 =>
 Al w_3 #[(.int .u64 0), (.int .u64 0), (.int .i64 0)] 77 fun s w1_3 =>
 St w1_3 s (.int .u64 x51_0) fun w1_4 =>
 St w1_4 (s.add 1) (.int .u64 x51_1) fun w1_5 =>
 St w1_5 (s.add 2) (.int .i64 x51_2) fun w1_6 =>
 ∃ J23 : Option Addr → Nat → Nat → World → Prop, (∀ (around2 : Option Addr) (aroundN2 : Nat) (aroundC2 : Nat) (w1_7 : World), J23 around2 aroundN2 aroundC2 w1_7 → F63_j23 L19 x48 s around2 aroundN2 aroundC2 w1_7 R) ∧
 (∃ (I : Option Addr → Nat → Nat → World → Prop) (m : Option Addr → Nat → Nat → World → Nat), I around aroundN aroundC w1_6 ∧
 ∀ (around2 : Option Addr) (aroundN2 : Nat) (aroundC2 : Nat) (w1_7 : World), I around2 aroundN2 aroundC2 w1_7 → F63_l21 s J23 (fun around2' aroundN2' aroundC2' w2 => I around2' aroundN2' aroundC2' w2 ∧ m around2' aroundN2' aroundC2' w2 < m around2 aroundN2 aroundC2 w1_7) around2 aroundN2 aroundC2 w1_7 R))
 (R (.returned (.int .i64 0)) w_3)

def F63_l5 (lists : Option Addr) (listsN : Nat) (L5 : Option Addr → Nat → Nat → Int → World → Prop) (all : Option Addr) (allN : Nat) (allC : Nat) (x21 : Int) (w_2 : World) (R : Ending → World → Prop) : Prop :=
 Br (decide (x21 < ((listsN : Nat) : Int)))
 (IdxA lists listsN x21 1 fun q23 =>
 LdSl (w_2.cell? q23) fun x24 x24N x24C =>
 Calls Try.prog 77 #[(.slice x24 x24N x24C)] w_2 (post R fun v w1 =>
 ∃ (x26 : Int), v = (.int .i64 x26) ∧
 Br (x26 != (0 : Int))
 (R (.returned (.int .i64 x26)) w1)
 (∃ (I : Option Addr → Nat → Nat → Int → World → Prop) (m : Option Addr → Nat → Nat → Int → World → Nat), I all allN allC (0 : Int) w1 ∧
 ∀ (all2 : Option Addr) (allN2 : Nat) (allC2 : Nat) (x32 : Int) (w1_2 : World), I all2 allN2 allC2 x32 w1_2 → F63_l11 L5 x21 x24 x24N (fun all2' allN2' allC2' x32' w2 => I all2' allN2' allC2' x32' w2 ∧ m all2' allN2' allC2' x32' w2 < m all2 allN2 allC2 x32 w1_2) all2 allN2 allC2 x32 w1_2 R)))
 (Calls Try.prog 78 #[(.slice all allN allC), (.func (.func 79) #[] #[])] w_2 (post R fun v w1 =>
 v = (.tuple #[]) ∧
 Calls Try.prog 80 #[(.slice all allN allC)] w1 (post R fun v2 w1_2 =>
 ∃ (x46 : Option Addr) (x46N : Nat) (x46C : Nat), v2 = (.slice x46 x46N x46C) ∧
 ∃ (I : Option Addr → Nat → Nat → Int → World → Prop) (m : Option Addr → Nat → Nat → Int → World → Nat), I none 0 0 (0 : Int) w1_2 ∧
 ∀ (around : Option Addr) (aroundN : Nat) (aroundC : Nat) (x48 : Int) (w1_3 : World), I around aroundN aroundC x48 w1_3 → F63_l19 x46 x46N (fun around' aroundN' aroundC' x48' w2 => I around' aroundN' aroundC' x48' w2 ∧ m around' aroundN' aroundC' x48' w2 < m around aroundN aroundC x48 w1_3) around aroundN aroundC x48 w1_3 R)))

def F63 (ps : Option Addr) (psN : Nat) (psC : Nat) (lists : Option Addr) (listsN : Nat) (listsC : Nat) (w_ : World) (R : Ending → World → Prop) : Prop :=
 Br (((listsN : Nat) : Int) != ((psN : Nat) : Int))
 (R (.returned (.int .i64 1)) w_)
 (∃ (I : Option Addr → Nat → Nat → Int → World → Prop) (m : Option Addr → Nat → Nat → Int → World → Nat), I none 0 0 (0 : Int) w_ ∧
 ∀ (all : Option Addr) (allN : Nat) (allC : Nat) (x21 : Int) (w1 : World), I all allN allC x21 w1 → F63_l5 lists listsN (fun all' allN' allC' x21' w2 => I all' allN' allC' x21' w2 ∧ m all' allN' allC' x21' w2 < m all allN allC x21 w1) all allN allC x21 w1 R)

def pl63 : Plan := ⟨91, ⟨[]⟩, [(22, ⟨[], [(52, 67)]⟩), (25, ⟨[], [(4, 5), (72, 86)]⟩), (23, ⟨[(11, (.s .slice))], [(11, 12), (52, 72)]⟩)], [(11, ⟨[(5, (.s .slice)), (32, (.s (.int .i64)))], [(5, 11), (32, 42)]⟩), (5, ⟨[(5, (.s .slice)), (21, (.s (.int .i64)))], [(4, 11), (21, 43)]⟩), (21, ⟨[(11, (.s .slice))], [(11, 12), (52, 72)]⟩), (19, ⟨[(11, (.s .slice)), (48, (.s (.int .i64)))], [(4, 14), (48, 91)]⟩)]⟩

theorem eq63 (ps : Option Addr) (psN : Nat) (psC : Nat) (lists : Option Addr) (listsN : Nat) (listsC : Nat) (w : World) (R : Ending → World → Prop) : F63 ps psN psC lists listsN listsC w R = vc Try.prog Try.f63 pl63 R 100000 [.code (bodyOf Try.f63)] (argEnv 0 #[(.slice ps psN psC), (.slice lists listsN listsC)].toList) w := by kernel_rfl

theorem ok63 (ps : Option Addr) (psN : Nat) (psC : Nat) (lists : Option Addr) (listsN : Nat) (listsC : Nat) {w : World} {R : Ending → World → Prop} (h : F63 ps psN psC lists listsN listsC w R) : Calls Try.prog 63 #[(.slice ps psN psC), (.slice lists listsN listsC)] w R :=
  vc_calls (pl := pl63) Try.func63 (by kernel_rfl) (by kernel_rfl) (by kernel_rfl) (Eq.mp (eq63 ps psN psC lists listsN listsC w R) h)

-- twig.fits$1
def F79_j7  (w_2 : World) (R : Ending → World → Prop) : Prop :=
 R (.returned (.int .i64 1)) w_2

def F79 (a_0 : Int) (a_1 : Int) (a_2 : Int) (b_0 : Int) (b_1 : Int) (b_2 : Int) (w_ : World) (R : Ending → World → Prop) : Prop :=
 Al w_ #[(.int .u64 a_0), (.int .u64 a_1), (.int .i64 a_2)] 77 fun a w1 =>
 Al w1 #[(.int .u64 b_0), (.int .u64 b_1), (.int .i64 b_2)] 77 fun b w1_2 =>
 ∃ J7 : World → Prop, (∀  (w1_3 : World), J7 w1_3 → F79_j7 w1_3 R) ∧
 (LdI .u64 (w1_2.cell? a) fun x7 =>
 LdI .u64 (w1_2.cell? b) fun x9 =>
 Br (decide (x7 < x9))
 (R (.returned (.int .i64 (-1))) w1_2)
 (LdI .u64 (w1_2.cell? a) fun x13 =>
 LdI .u64 (w1_2.cell? b) fun x15 =>
 Br (x13 == x15)
 (LdI .u64 (w1_2.cell? (a.add 1)) fun x19 =>
 LdI .u64 (w1_2.cell? (b.add 1)) fun x21 =>
 Br (decide (x19 > x21))
 (R (.returned (.int .i64 (-1))) w1_2)
 (LdI .u64 (w1_2.cell? a) fun x26_0 =>
 LdI .u64 (w1_2.cell? (a.add 1)) fun x26_1 =>
 LdI .i64 (w1_2.cell? (a.add 2)) fun x26_2 =>
 LdI .u64 (w1_2.cell? b) fun x27_0 =>
 LdI .u64 (w1_2.cell? (b.add 1)) fun x27_1 =>
 LdI .i64 (w1_2.cell? (b.add 2)) fun x27_2 =>
 Br ((x26_0 == x27_0) && ((x26_1 == x27_1) && ((x26_2 == x27_2) && true)))
 (R (.returned (.int .i64 0)) w1_2)
 (LdI .u64 (w1_2.cell? a) fun x31 =>
 LdI .u64 (w1_2.cell? b) fun x33 =>
 Br (x31 == x33)
 (LdI .u64 (w1_2.cell? (a.add 1)) fun x37 =>
 LdI .u64 (w1_2.cell? (b.add 1)) fun x39 =>
 Br (x37 == x39)
 (LdI .i64 (w1_2.cell? (a.add 2)) fun x43 =>
 LdI .i64 (w1_2.cell? (b.add 2)) fun x45 =>
 InR .i64 (x43 - x45) ∧ R (.returned (.int .i64 (x43 - x45))) w1_2)
 (J7 w1_2))
 (J7 w1_2))))
 (LdI .u64 (w1_2.cell? a) fun x26_0 =>
 LdI .u64 (w1_2.cell? (a.add 1)) fun x26_1 =>
 LdI .i64 (w1_2.cell? (a.add 2)) fun x26_2 =>
 LdI .u64 (w1_2.cell? b) fun x27_0 =>
 LdI .u64 (w1_2.cell? (b.add 1)) fun x27_1 =>
 LdI .i64 (w1_2.cell? (b.add 2)) fun x27_2 =>
 Br ((x26_0 == x27_0) && ((x26_1 == x27_1) && ((x26_2 == x27_2) && true)))
 (R (.returned (.int .i64 0)) w1_2)
 (LdI .u64 (w1_2.cell? a) fun x31 =>
 LdI .u64 (w1_2.cell? b) fun x33 =>
 Br (x31 == x33)
 (LdI .u64 (w1_2.cell? (a.add 1)) fun x37 =>
 LdI .u64 (w1_2.cell? (b.add 1)) fun x39 =>
 Br (x37 == x39)
 (LdI .i64 (w1_2.cell? (a.add 2)) fun x43 =>
 LdI .i64 (w1_2.cell? (b.add 2)) fun x45 =>
 InR .i64 (x43 - x45) ∧ R (.returned (.int .i64 (x43 - x45))) w1_2)
 (J7 w1_2))
 (J7 w1_2)))))

def pl79 : Plan := ⟨47, ⟨[]⟩, [(7, ⟨[], [(4, 47)]⟩)], []⟩

theorem eq79 (a_0 : Int) (a_1 : Int) (a_2 : Int) (b_0 : Int) (b_1 : Int) (b_2 : Int) (w : World) (R : Ending → World → Prop) : F79 a_0 a_1 a_2 b_0 b_1 b_2 w R = vc Try.prog Try.f79 pl79 R 100000 [.code (bodyOf Try.f79)] (argEnv 0 #[(.agg #[(.int .u64 a_0), (.int .u64 a_1), (.int .i64 a_2)]), (.agg #[(.int .u64 b_0), (.int .u64 b_1), (.int .i64 b_2)])].toList) w := by kernel_rfl

theorem ok79 (a_0 : Int) (a_1 : Int) (a_2 : Int) (b_0 : Int) (b_1 : Int) (b_2 : Int) {w : World} {R : Ending → World → Prop} (h : F79 a_0 a_1 a_2 b_0 b_1 b_2 w R) : Calls Try.prog 79 #[(.agg #[(.int .u64 a_0), (.int .u64 a_1), (.int .i64 a_2)]), (.agg #[(.int .u64 b_0), (.int .u64 b_1), (.int .i64 b_2)])] w R :=
  vc_calls (pl := pl79) Try.func79 (by kernel_rfl) (by kernel_rfl) (by kernel_rfl) (Eq.mp (eq79 a_0 a_1 a_2 b_0 b_1 b_2 w R) h)

-- twig.sure
def F64_j21 (L8 : Int → World → Prop) (x72 : Int) (w_6 : World) (R : Ending → World → Prop) : Prop :=
 InR .i64 (x72 + (1 : Int)) ∧ L8 (x72 + (1 : Int)) w_6

def F64_j20 (f : Option Addr) (p : Int) (J21 : World → Prop) (n : Int) (full : Bool) (w_6 : World) (R : Ending → World → Prop) : Prop :=
 ∃ S : World → Prop, S w_6.drew ∧ NonNil f fun p127 =>
 ∃ (x129 : Option Addr) (x129N : Nat) (x129C : Nat), Held S (p127.add 3) (.slice x129 x129N x129C) ∧ NonNil f fun p132 =>
 ∃ (x134 : Option Addr) (x134N : Nat) (x134C : Nat), Held S (p132.add 4) (.slice x134 x134N x134C) ∧ NonNil f fun p137 =>
 ∃ (x139 : Option Addr) (x139N : Nat) (x139C : Nat), Held S (p137.add 3) (.slice x139 x139N x139C) ∧ IdxA x139 x139N p 1 fun q141 =>
 ∃ (x142 : Option Addr) (x142N : Nat) (x142C : Nat), Held S q141 (.slice x142 x142N x142C) ∧ NonNil f fun p147 =>
 ∃ (x149 : Option Addr) (x149N : Nat) (x149C : Nat), Held S (p147.add 4) (.slice x149 x149N x149C) ∧ IdxA x149 x149N p 1 fun q151 =>
 ∃ (x152 : Option Addr) (x152N : Nat) (x152C : Nat), Held S q151 (.slice x152 x152N x152C) ∧ (Al w_6.drew #[(.int .u64 n)] 41 fun g144 w1_7 =>
 S w1_7 ∧ (Raw Try.prog (Builtin.append_ #[83, 83] 83 #[(.slice x142 x142N x142C), (.slice (some g144) 1 1)]) w1_7 fun v w1_8 =>
 ∃ (x145 : Option Addr) (x145N : Nat) (x145C : Nat), v = (.slice x145 x145N x145C) ∧
 S w1_8 ∧ Al w1_8 #[(.bool full)] 4 fun g154 w1_9 =>
 S w1_9 ∧ Raw Try.prog (Builtin.append_ #[91, 91] 91 #[(.slice x152 x152N x152C), (.slice (some g154) 1 1)]) w1_9 fun v2 w1_10 =>
 ∃ (x155 : Option Addr) (x155N : Nat) (x155C : Nat), v2 = (.slice x155 x155N x155C) ∧
 S w1_10 ∧ IdxA x129 x129N p 1 fun q156 =>
 St w1_10 q156 (.slice x145 x145N x145C) fun w1_11 =>
 IdxA x134 x134N p 1 fun q157 =>
 St w1_11 q157 (.slice x155 x155N x155C) fun w1_12 =>
 J21 w1_12)
 ∧ (Al w1_7 #[(.bool full)] 4 fun g154 w1_8 =>
 S w1_8 ∧ Raw Try.prog (Builtin.append_ #[83, 83] 83 #[(.slice x142 x142N x142C), (.slice (some g144) 1 1)]) w1_8 fun v w1_9 =>
 ∃ (x145 : Option Addr) (x145N : Nat) (x145C : Nat), v = (.slice x145 x145N x145C) ∧
 S w1_9 ∧ Raw Try.prog (Builtin.append_ #[91, 91] 91 #[(.slice x152 x152N x152C), (.slice (some g154) 1 1)]) w1_9 fun v2 w1_10 =>
 ∃ (x155 : Option Addr) (x155N : Nat) (x155C : Nat), v2 = (.slice x155 x155N x155C) ∧
 S w1_10 ∧ IdxA x129 x129N p 1 fun q156 =>
 St w1_10 q156 (.slice x145 x145N x145C) fun w1_11 =>
 IdxA x134 x134N p 1 fun q157 =>
 St w1_11 q157 (.slice x155 x155N x155C) fun w1_12 =>
 J21 w1_12))
 ∧ (Al w_6.drew #[(.bool full)] 4 fun g154 w1_7 =>
 S w1_7 ∧ Al w1_7 #[(.int .u64 n)] 41 fun g144 w1_8 =>
 S w1_8 ∧ Raw Try.prog (Builtin.append_ #[83, 83] 83 #[(.slice x142 x142N x142C), (.slice (some g144) 1 1)]) w1_8 fun v w1_9 =>
 ∃ (x145 : Option Addr) (x145N : Nat) (x145C : Nat), v = (.slice x145 x145N x145C) ∧
 S w1_9 ∧ Raw Try.prog (Builtin.append_ #[91, 91] 91 #[(.slice x152 x152N x152C), (.slice (some g154) 1 1)]) w1_9 fun v2 w1_10 =>
 ∃ (x155 : Option Addr) (x155N : Nat) (x155C : Nat), v2 = (.slice x155 x155N x155C) ∧
 S w1_10 ∧ IdxA x129 x129N p 1 fun q156 =>
 St w1_10 q156 (.slice x145 x145N x145C) fun w1_11 =>
 IdxA x134 x134N p 1 fun q157 =>
 St w1_11 q157 (.slice x155 x155N x155C) fun w1_12 =>
 J21 w1_12)

def F64_j19 (L12 : Int → Bool → Int → World → Prop) (x84 : Int) (n2 : Int) (full2 : Bool) (w_7 : World) (R : Ending → World → Prop) : Prop :=
 InR .i64 (x84 + (1 : Int)) ∧ L12 n2 full2 (x84 + (1 : Int)) w_7

def F64_j18 (J19 : Int → Bool → World → Prop) (x93_1 : Bool) (x99_0 : Int) (x99_1 : Int) (full2 : Bool) (w_7 : World) (R : Ending → World → Prop) : Prop :=
 Br full2
 (J19 x99_1 true w_7)
 (Br x93_1
 (J19 x99_1 true w_7)
 (J19 x99_1 (decide (x99_0 > (0 : Int))) w_7))

def F64_l12 (f : Option Addr) (g8 : Addr) (J20 : Int → Bool → World → Prop) (x82 : Option Addr) (x82N : Nat) (L12 : Int → Bool → Int → World → Prop) (n : Int) (full : Bool) (x84 : Int) (w_6 : World) (R : Ending → World → Prop) : Prop :=
 Br (decide (x84 < ((x82N : Nat) : Int)))
 (∃ J19 : Int → Bool → World → Prop, (∀ (n2 : Int) (full2 : Bool) (w1_6 : World), J19 n2 full2 w1_6 → F64_j19 L12 x84 n2 full2 w1_6 R) ∧
 (IdxA x82 x82N x84 1 fun q86 =>
 LdI .i64 (w_6.cell? q86) fun x87 =>
 LdI .u64 (w_6.cell? (g8.add 1)) fun x92_0 =>
 LdI .u64 (w_6.cell? ((g8.add 1).add 1)) fun x92_1 =>
 LdI .i64 (w_6.cell? ((g8.add 1).add 2)) fun x92_2 =>
 Calls Try.prog 81 #[(.pointer f), (.int .i64 x87), (.agg #[(.int .u64 x92_0), (.int .u64 x92_1), (.int .i64 x92_2)])] w_6 (post R fun v w1_6 =>
 ∃ (x93_0 : Int) (x93_1 : Bool), v = (.tuple #[(.int .u64 x93_0), (.bool x93_1)]) ∧
 Calls Try.prog 82 #[(.int .u64 n), (.int .u64 x93_0)] w1_6 (post R fun v2 w1_7 =>
 ∃ (x99_0 : Int) (x99_1 : Int), v2 = (.tuple #[(.int .u64 x99_0), (.int .u64 x99_1)]) ∧
 ∃ J18 : Bool → World → Prop, (∀ (full2 : Bool) (w1_8 : World), J18 full2 w1_8 → F64_j18 J19 x93_1 x99_0 x99_1 full2 w1_8 R) ∧
 (Br (x93_0 == (0 : Int))
 (Br (!x93_1)
 (J20 (0 : Int) false w1_7)
 (Br (n == (0 : Int))
 (Br (!full)
 (J20 (0 : Int) false w1_7)
 (J18 full w1_7))
 (J18 full w1_7)))
 (Br (n == (0 : Int))
 (Br (!full)
 (J20 (0 : Int) false w1_7)
 (J18 full w1_7))
 (J18 full w1_7)))))))
 (J20 n full w_6)

def F64_l8 (f : Option Addr) (L3 : Int → World → Prop) (p : Int) (x70 : Option Addr) (x70N : Nat) (L8 : Int → World → Prop) (x72 : Int) (w_5 : World) (R : Ending → World → Prop) : Prop :=
 Br (decide (x72 < ((x70N : Nat) : Int)))
 (∃ J21 : World → Prop, (∀  (w1 : World), J21 w1 → F64_j21 L8 x72 w1 R) ∧
 (IdxA x70 x70N x72 4 fun q74 =>
 LdI .u64 (w_5.cell? q74) fun x75_0 =>
 LdI .u64 (w_5.cell? (q74.add 1)) fun x75_1 =>
 LdI .u64 (w_5.cell? (q74.add 2)) fun x75_2 =>
 LdI .i64 (w_5.cell? (q74.add 3)) fun x75_3 =>
 Al w_5 #[(.int .u64 0), (.int .u64 0), (.int .u64 0), (.int .i64 0)] 79 fun g8 w1 =>
 St w1 g8 (.int .u64 x75_0) fun w1_2 =>
 St w1_2 (g8.add 1) (.int .u64 x75_1) fun w1_3 =>
 St w1_3 (g8.add 2) (.int .u64 x75_2) fun w1_4 =>
 St w1_4 (g8.add 3) (.int .i64 x75_3) fun w1_5 =>
 ∃ J20 : Int → Bool → World → Prop, (∀ (n : Int) (full : Bool) (w1_6 : World), J20 n full w1_6 → F64_j20 f p J21 n full w1_6 R) ∧
 (NonNil f fun p77 =>
 LdSl (w1_5.cell? (p77.add 2)) fun x79 x79N x79C =>
 IdxA x79 x79N p 1 fun q81 =>
 LdSl (w1_5.cell? q81) fun x82 x82N x82C =>
 ∃ (I : Int → Bool → Int → World → Prop) (m : Int → Bool → Int → World → Nat), I (1 : Int) false (0 : Int) w1_5 ∧
 ∀ (n : Int) (full : Bool) (x84 : Int) (w1_6 : World), I n full x84 w1_6 → F64_l12 f g8 J20 x82 x82N (fun n' full' x84' w2 => I n' full' x84' w2 ∧ m n' full' x84' w2 < m n full x84 w1_6) n full x84 w1_6 R)))
 (InR .i64 (p - (1 : Int)) ∧ L3 (p - (1 : Int)) w_5)

def F64_j7 (lists : Option Addr) (listsN : Nat) (f : Option Addr) (L3 : Int → World → Prop) (p : Int) (w_4 : World) (R : Ending → World → Prop) : Prop :=
 IdxA lists listsN p 1 fun q69 =>
 LdSl (w_4.cell? q69) fun x70 x70N x70C =>
 ∃ (I : Int → World → Prop) (m : Int → World → Nat), I (0 : Int) w_4 ∧
 ∀ (x72 : Int) (w1 : World), I x72 w1 → F64_l8 f L3 p x70 x70N (fun x72' w2 => I x72' w2 ∧ m x72' w2 < m x72 w1) x72 w1 R

def F64_l3 (ps : Option Addr) (psN : Nat) (lists : Option Addr) (listsN : Nat) (f : Option Addr) (L3 : Int → World → Prop) (p : Int) (w_3 : World) (R : Ending → World → Prop) : Prop :=
 Br (decide (p ≥ (0 : Int)))
 (∃ J7 : World → Prop, (∀  (w1 : World), J7 w1 → F64_j7 lists listsN f L3 p w1 R) ∧
 (IdxA ps psN p 4 fun q39 =>
 LdI .i64 (w_3.cell? (q39.add 3)) fun x41 =>
 Br (decide (x41 ≥ (0 : Int)))
 (∃ S : World → Prop, S w_3.drew ∧ NonNil f fun p44 =>
 ∃ (x46 : Option Addr) (x46N : Nat) (x46C : Nat), Held S (p44.add 2) (.slice x46 x46N x46C) ∧ IdxA ps psN p 4 fun q49 =>
 ∃ (x51 : Int), Held S (q49.add 3) (.int .i64 x51) ∧ NonNil f fun p55 =>
 ∃ (x57 : Option Addr) (x57N : Nat) (x57C : Nat), Held S (p55.add 2) (.slice x57 x57N x57C) ∧ IdxA ps psN p 4 fun q60 =>
 ∃ (x62 : Int), Held S (q60.add 3) (.int .i64 x62) ∧ IdxA x57 x57N x62 1 fun q63 =>
 ∃ (x64 : Option Addr) (x64N : Nat) (x64C : Nat), Held S q63 (.slice x64 x64N x64C) ∧ Al w_3.drew #[(.int .i64 p)] 3 fun g53 w1_2 =>
 S w1_2 ∧ Raw Try.prog (Builtin.append_ #[92, 92] 92 #[(.slice (some g53) 1 1), (.slice x64 x64N x64C)]) w1_2 fun v w1_3 =>
 ∃ (x65 : Option Addr) (x65N : Nat) (x65C : Nat), v = (.slice x65 x65N x65C) ∧
 S w1_3 ∧ IdxA x46 x46N x51 1 fun q66 =>
 St w1_3 q66 (.slice x65 x65N x65C) fun w1_4 =>
 J7 w1_4)
 (J7 w_3)))
 (R (.returned (.pointer f)) w_3)

def F64_j2 (ps : Option Addr) (psN : Nat) (lists : Option Addr) (listsN : Nat) (f : Option Addr) (w_2 : World) (R : Ending → World → Prop) : Prop :=
 InR .i64 (((psN : Nat) : Int) - (1 : Int)) ∧ ∃ (I : Int → World → Prop) (m : Int → World → Nat), I (((psN : Nat) : Int) - (1 : Int)) w_2 ∧
 ∀ (p : Int) (w1 : World), I p w1 → F64_l3 ps psN lists listsN f (fun p' w2 => I p' w2 ∧ m p' w2 < m p w1) p w1 R

def F64 (ps : Option Addr) (psN : Nat) (psC : Nat) (lists : Option Addr) (listsN : Nat) (listsC : Nat) (w_ : World) (R : Ending → World → Prop) : Prop :=
 ∃ J2 : Option Addr → World → Prop, (∀ (f : Option Addr) (w1 : World), J2 f w1 → F64_j2 ps psN lists listsN f w1 R) ∧
 (∃ S : World → Prop, S w_.drew ∧ (0 ≤ ((psN : Nat) : Int) ∧ ((psN : Nat) : Int) ≤ ((psN : Nat) : Int) ∧ ((24 : Nat) : Int) * ((psN : Nat) : Int) ≤ 281474976710656 ∧ Al w_.drew (zrow #[(.slice none 0 0)] ((((psN : Nat) : Int)).toNat * 1)) 92 fun g21 w1_2 =>
 (0 ≤ ((psN : Nat) : Int) ∧ ((psN : Nat) : Int) ≤ ((psN : Nat) : Int) ∧ ((24 : Nat) : Int) * ((psN : Nat) : Int) ≤ 281474976710656 ∧ Al w1_2 (zrow #[(.slice none 0 0)] ((((psN : Nat) : Int)).toNat * 1)) 83 fun g24 w1_3 =>
 0 ≤ ((psN : Nat) : Int) ∧ ((psN : Nat) : Int) ≤ ((psN : Nat) : Int) ∧ ((24 : Nat) : Int) * ((psN : Nat) : Int) ≤ 281474976710656 ∧ Al w1_3 (zrow #[(.slice none 0 0)] ((((psN : Nat) : Int)).toNat * 1)) 91 fun g27 w1_4 =>
 Al w1_4 #[(.slice ps psN psC), (.slice lists listsN listsC), (.slice (some g21) (((psN : Nat) : Int)).toNat (((psN : Nat) : Int)).toNat), (.slice (some g24) (((psN : Nat) : Int)).toNat (((psN : Nat) : Int)).toNat), (.slice (some g27) (((psN : Nat) : Int)).toNat (((psN : Nat) : Int)).toNat)] 88 fun g29 w1_5 =>
 J2 (some g29) w1_5)
 ∧ (0 ≤ ((psN : Nat) : Int) ∧ ((psN : Nat) : Int) ≤ ((psN : Nat) : Int) ∧ ((24 : Nat) : Int) * ((psN : Nat) : Int) ≤ 281474976710656 ∧ Al w1_2 (zrow #[(.slice none 0 0)] ((((psN : Nat) : Int)).toNat * 1)) 91 fun g27 w1_3 =>
 0 ≤ ((psN : Nat) : Int) ∧ ((psN : Nat) : Int) ≤ ((psN : Nat) : Int) ∧ ((24 : Nat) : Int) * ((psN : Nat) : Int) ≤ 281474976710656 ∧ Al w1_3 (zrow #[(.slice none 0 0)] ((((psN : Nat) : Int)).toNat * 1)) 83 fun g24 w1_4 =>
 Al w1_4 #[(.slice ps psN psC), (.slice lists listsN listsC), (.slice (some g21) (((psN : Nat) : Int)).toNat (((psN : Nat) : Int)).toNat), (.slice (some g24) (((psN : Nat) : Int)).toNat (((psN : Nat) : Int)).toNat), (.slice (some g27) (((psN : Nat) : Int)).toNat (((psN : Nat) : Int)).toNat)] 88 fun g29 w1_5 =>
 J2 (some g29) w1_5))
 ∧ (0 ≤ ((psN : Nat) : Int) ∧ ((psN : Nat) : Int) ≤ ((psN : Nat) : Int) ∧ ((24 : Nat) : Int) * ((psN : Nat) : Int) ≤ 281474976710656 ∧ Al w_.drew (zrow #[(.slice none 0 0)] ((((psN : Nat) : Int)).toNat * 1)) 83 fun g24 w1_2 =>
 (0 ≤ ((psN : Nat) : Int) ∧ ((psN : Nat) : Int) ≤ ((psN : Nat) : Int) ∧ ((24 : Nat) : Int) * ((psN : Nat) : Int) ≤ 281474976710656 ∧ Al w1_2 (zrow #[(.slice none 0 0)] ((((psN : Nat) : Int)).toNat * 1)) 92 fun g21 w1_3 =>
 0 ≤ ((psN : Nat) : Int) ∧ ((psN : Nat) : Int) ≤ ((psN : Nat) : Int) ∧ ((24 : Nat) : Int) * ((psN : Nat) : Int) ≤ 281474976710656 ∧ Al w1_3 (zrow #[(.slice none 0 0)] ((((psN : Nat) : Int)).toNat * 1)) 91 fun g27 w1_4 =>
 Al w1_4 #[(.slice ps psN psC), (.slice lists listsN listsC), (.slice (some g21) (((psN : Nat) : Int)).toNat (((psN : Nat) : Int)).toNat), (.slice (some g24) (((psN : Nat) : Int)).toNat (((psN : Nat) : Int)).toNat), (.slice (some g27) (((psN : Nat) : Int)).toNat (((psN : Nat) : Int)).toNat)] 88 fun g29 w1_5 =>
 J2 (some g29) w1_5)
 ∧ (0 ≤ ((psN : Nat) : Int) ∧ ((psN : Nat) : Int) ≤ ((psN : Nat) : Int) ∧ ((24 : Nat) : Int) * ((psN : Nat) : Int) ≤ 281474976710656 ∧ Al w1_2 (zrow #[(.slice none 0 0)] ((((psN : Nat) : Int)).toNat * 1)) 91 fun g27 w1_3 =>
 0 ≤ ((psN : Nat) : Int) ∧ ((psN : Nat) : Int) ≤ ((psN : Nat) : Int) ∧ ((24 : Nat) : Int) * ((psN : Nat) : Int) ≤ 281474976710656 ∧ Al w1_3 (zrow #[(.slice none 0 0)] ((((psN : Nat) : Int)).toNat * 1)) 92 fun g21 w1_4 =>
 Al w1_4 #[(.slice ps psN psC), (.slice lists listsN listsC), (.slice (some g21) (((psN : Nat) : Int)).toNat (((psN : Nat) : Int)).toNat), (.slice (some g24) (((psN : Nat) : Int)).toNat (((psN : Nat) : Int)).toNat), (.slice (some g27) (((psN : Nat) : Int)).toNat (((psN : Nat) : Int)).toNat)] 88 fun g29 w1_5 =>
 J2 (some g29) w1_5))
 ∧ (0 ≤ ((psN : Nat) : Int) ∧ ((psN : Nat) : Int) ≤ ((psN : Nat) : Int) ∧ ((24 : Nat) : Int) * ((psN : Nat) : Int) ≤ 281474976710656 ∧ Al w_.drew (zrow #[(.slice none 0 0)] ((((psN : Nat) : Int)).toNat * 1)) 91 fun g27 w1_2 =>
 (0 ≤ ((psN : Nat) : Int) ∧ ((psN : Nat) : Int) ≤ ((psN : Nat) : Int) ∧ ((24 : Nat) : Int) * ((psN : Nat) : Int) ≤ 281474976710656 ∧ Al w1_2 (zrow #[(.slice none 0 0)] ((((psN : Nat) : Int)).toNat * 1)) 92 fun g21 w1_3 =>
 0 ≤ ((psN : Nat) : Int) ∧ ((psN : Nat) : Int) ≤ ((psN : Nat) : Int) ∧ ((24 : Nat) : Int) * ((psN : Nat) : Int) ≤ 281474976710656 ∧ Al w1_3 (zrow #[(.slice none 0 0)] ((((psN : Nat) : Int)).toNat * 1)) 83 fun g24 w1_4 =>
 Al w1_4 #[(.slice ps psN psC), (.slice lists listsN listsC), (.slice (some g21) (((psN : Nat) : Int)).toNat (((psN : Nat) : Int)).toNat), (.slice (some g24) (((psN : Nat) : Int)).toNat (((psN : Nat) : Int)).toNat), (.slice (some g27) (((psN : Nat) : Int)).toNat (((psN : Nat) : Int)).toNat)] 88 fun g29 w1_5 =>
 J2 (some g29) w1_5)
 ∧ (0 ≤ ((psN : Nat) : Int) ∧ ((psN : Nat) : Int) ≤ ((psN : Nat) : Int) ∧ ((24 : Nat) : Int) * ((psN : Nat) : Int) ≤ 281474976710656 ∧ Al w1_2 (zrow #[(.slice none 0 0)] ((((psN : Nat) : Int)).toNat * 1)) 83 fun g24 w1_3 =>
 0 ≤ ((psN : Nat) : Int) ∧ ((psN : Nat) : Int) ≤ ((psN : Nat) : Int) ∧ ((24 : Nat) : Int) * ((psN : Nat) : Int) ≤ 281474976710656 ∧ Al w1_3 (zrow #[(.slice none 0 0)] ((((psN : Nat) : Int)).toNat * 1)) 92 fun g21 w1_4 =>
 Al w1_4 #[(.slice ps psN psC), (.slice lists listsN listsC), (.slice (some g21) (((psN : Nat) : Int)).toNat (((psN : Nat) : Int)).toNat), (.slice (some g24) (((psN : Nat) : Int)).toNat (((psN : Nat) : Int)).toNat), (.slice (some g27) (((psN : Nat) : Int)).toNat (((psN : Nat) : Int)).toNat)] 88 fun g29 w1_5 =>
 J2 (some g29) w1_5)))

def pl64 : Plan := ⟨160, ⟨[]⟩, [(18, ⟨[(10, (.s .bool))], [(9, 11), (102, 116)]⟩), (19, ⟨[(9, (.s (.int .u64))), (10, (.s .bool))], [(9, 17), (86, 125)]⟩), (20, ⟨[(9, (.s (.int .u64))), (10, (.s .bool))], [(9, 17), (76, 126)]⟩), (21, ⟨[], [(8, 17), (74, 158)]⟩), (7, ⟨[], [(37, 67)]⟩), (2, ⟨[(5, (.s .ptr))], [(5, 30)]⟩)], [(12, ⟨[(9, (.s (.int .u64))), (10, (.s .bool)), (84, (.s (.int .i64)))], [(9, 17), (84, 126)]⟩), (8, ⟨[(72, (.s (.int .i64)))], [(8, 17), (72, 159)]⟩), (3, ⟨[(6, (.s (.int .i64)))], [(6, 159)]⟩)]⟩

theorem eq64 (ps : Option Addr) (psN : Nat) (psC : Nat) (lists : Option Addr) (listsN : Nat) (listsC : Nat) (w : World) (R : Ending → World → Prop) : F64 ps psN psC lists listsN listsC w R = vc Try.prog Try.f64 pl64 R 100000 [.code (bodyOf Try.f64)] (argEnv 0 #[(.slice ps psN psC), (.slice lists listsN listsC)].toList) w := by kernel_rfl

theorem ok64 (ps : Option Addr) (psN : Nat) (psC : Nat) (lists : Option Addr) (listsN : Nat) (listsC : Nat) {w : World} {R : Ending → World → Prop} (h : F64 ps psN psC lists listsN listsC w R) : Calls Try.prog 64 #[(.slice ps psN psC), (.slice lists listsN listsC)] w R :=
  vc_calls (pl := pl64) Try.func64 (by kernel_rfl) (by kernel_rfl) (by kernel_rfl) (Eq.mp (eq64 ps psN psC lists listsN listsC w R) h)

-- (*twig.finder).below
def F81_j9 (n : Int) (full : Bool) (w_2 : World) (R : Ending → World → Prop) : Prop :=
 R (.returned (.tuple #[(.int .u64 n), (.bool full)])) w_2

def F81_j5 (L4 : Int → Bool → Int → World → Prop) (i : Int) (n2 : Int) (full2 : Bool) (w_4 : World) (R : Ending → World → Prop) : Prop :=
 InR .i64 (i + (1 : Int)) ∧ L4 n2 full2 (i + (1 : Int)) w_4

def F81_j6 (f : Option Addr) (p : Int) (above : Addr) (L4 : Int → Bool → Int → World → Prop) (n : Int) (full : Bool) (i : Int) (w_3 : World) (R : Ending → World → Prop) : Prop :=
 ∃ J5 : Int → Bool → World → Prop, (∀ (n2 : Int) (full2 : Bool) (w1_4 : World), J5 n2 full2 w1_4 → F81_j5 L4 i n2 full2 w1_4 R) ∧
 (∃ S2 : World → Prop, S2 w_3.drew ∧ ∃ (x56_0 : Int), Held S2 above (.int .u64 x56_0) ∧ ∃ (x56_1 : Int), Held S2 (above.add 1) (.int .u64 x56_1) ∧ ∃ (x56_2 : Int), Held S2 (above.add 2) (.int .i64 x56_2) ∧ NonNil f fun p58 =>
 ∃ (x60 : Option Addr) (x60N : Nat) (x60C : Nat), Held S2 (p58.add 1) (.slice x60 x60N x60C) ∧ IdxA x60 x60N p 1 fun q62 =>
 ∃ (x63 : Option Addr) (x63N : Nat) (x63C : Nat), Held S2 q62 (.slice x63 x63N x63C) ∧ IdxA x63 x63N i 4 fun q65 =>
 ∃ (x67_0 : Int), Held S2 (q65.add 1) (.int .u64 x67_0) ∧ ∃ (x67_1 : Int), Held S2 ((q65.add 1).add 1) (.int .u64 x67_1) ∧ ∃ (x67_2 : Int), Held S2 ((q65.add 1).add 2) (.int .i64 x67_2) ∧ Calls Try.prog 48 #[(.pointer f), (.int .i64 p), (.agg #[(.int .u64 x56_0), (.int .u64 x56_1), (.int .i64 x56_2)]), (.agg #[(.int .u64 x67_0), (.int .u64 x67_1), (.int .i64 x67_2)])] w_3.drew (post R fun v2 w1_5 =>
 ∃ (x68 : Bool), v2 = (.bool x68) ∧
 Br (!x68)
 (J5 n full w1_5)
 (NonNil f fun p73 =>
 LdSl (w1_5.cell? (p73.add 3)) fun x75 x75N x75C =>
 IdxA x75 x75N p 1 fun q77 =>
 LdSl (w1_5.cell? q77) fun x78 x78N x78C =>
 IdxA x78 x78N i 1 fun q80 =>
 LdI .u64 (w1_5.cell? q80) fun x81 =>
 ByRow Try.prog 43 #[(.int .u64 n), (.int .u64 x81), (.int .u64 0)] w1_5 (fun v3 w1_6 =>
 ∃ (x82_0 : Int) (x82_1 : Int), v3 = (.tuple #[(.int .u64 x82_0), (.int .u64 x82_1)]) ∧
 Br full
 (J5 x82_0 true w1_6)
 (NonNil f fun p89 =>
 LdSl (w1_6.cell? (p89.add 4)) fun x91 x91N x91C =>
 IdxA x91 x91N p 1 fun q93 =>
 LdSl (w1_6.cell? q93) fun x94 x94N x94C =>
 IdxA x94 x94N i 1 fun q96 =>
 LdB (w1_6.cell? q96) fun x97 =>
 Br x97
 (J5 x82_0 true w1_6)
 (J5 x82_0 (decide (x82_1 > (0 : Int))) w1_6))))))

def F81_l4 (f : Option Addr) (p : Int) (above : Addr) (J9 : Int → Bool → World → Prop) (L4 : Int → Bool → Int → World → Prop) (n : Int) (full : Bool) (i : Int) (w_2 : World) (R : Ending → World → Prop) : Prop :=
 ∃ J6 : World → Prop, (∀  (w1_4 : World), J6 w1_4 → F81_j6 f p above L4 n full i w1_4 R) ∧
 (Dr w_2 fun w1_4 =>
 NonNil f fun p27 =>
 LdSl (w1_4.cell? (p27.add 1)) fun x29 x29N x29C =>
 IdxA x29 x29N p 1 fun q31 =>
 LdSl (w1_4.cell? q31) fun x32 x32N x32C =>
 Br (decide (i < ((x32N : Nat) : Int)))
 (NonNil f fun p37 =>
 LdSl (w1_4.cell? (p37.add 1)) fun x39 x39N x39C =>
 IdxA x39 x39N p 1 fun q41 =>
 LdSl (w1_4.cell? q41) fun x42 x42N x42C =>
 IdxA x42 x42N i 4 fun q44 =>
 LdI .u64 (w1_4.cell? (q44.add 1)) fun x47 =>
 LdI .u64 (w1_4.cell? (above.add 1)) fun x49 =>
 Br (decide (x47 < x49))
 (J6 w1_4)
 (J9 n full w1_4))
 (J9 n full w1_4))

def F81 (f : Option Addr) (p : Int) (above_0 : Int) (above_1 : Int) (above_2 : Int) (w_ : World) (R : Ending → World → Prop) : Prop :=
 Al w_ #[(.int .u64 above_0), (.int .u64 above_1), (.int .i64 above_2)] 77 fun above w1 =>
 ∃ S : World → Prop, S w1.drew ∧ NonNil f fun p15 =>
 ∃ (x17 : Option Addr) (x17N : Nat) (x17C : Nat), Held S (p15.add 1) (.slice x17 x17N x17C) ∧ IdxA x17 x17N p 1 fun q19 =>
 ∃ (x20 : Option Addr) (x20N : Nat) (x20C : Nat), Held S q19 (.slice x20 x20N x20C) ∧ ∃ (x22 : Int), Held S above (.int .u64 x22) ∧ Calls Try.prog 71 #[(.slice x20 x20N x20C), (.int .u64 x22)] w1.drew (post R fun v w1_3 =>
 ∃ (x23 : Int), v = (.int .i64 x23) ∧
 ∃ J9 : Int → Bool → World → Prop, (∀ (n : Int) (full : Bool) (w1_4 : World), J9 n full w1_4 → F81_j9 n full w1_4 R) ∧
 (∃ (I : Int → Bool → Int → World → Prop) (m : Int → Bool → Int → World → Nat), I (0 : Int) false x23 w1_3 ∧
 ∀ (n : Int) (full : Bool) (i : Int) (w1_4 : World), I n full i w1_4 → F81_l4 f p above J9 (fun n' full' i' w2 => I n' full' i' w2 ∧ m n' full' i' w2 < m n full i w1_4) n full i w1_4 R))

def pl81 : Plan := ⟨105, ⟨[]⟩, [(5, ⟨[(8, (.s (.int .u64))), (9, (.s .bool))], [(8, 10), (12, 103)]⟩), (6, ⟨[], [(25, 52)]⟩), (9, ⟨[(8, (.s (.int .u64))), (9, (.s .bool))], [(8, 103)]⟩)], [(4, ⟨[(8, (.s (.int .u64))), (9, (.s .bool)), (11, (.s (.int .i64)))], [(8, 103)]⟩)]⟩

theorem eq81 (f : Option Addr) (p : Int) (above_0 : Int) (above_1 : Int) (above_2 : Int) (w : World) (R : Ending → World → Prop) : F81 f p above_0 above_1 above_2 w R = vc Try.prog Try.f81 pl81 R 100000 [.code (bodyOf Try.f81)] (argEnv 0 #[(.pointer f), (.int .i64 p), (.agg #[(.int .u64 above_0), (.int .u64 above_1), (.int .i64 above_2)])].toList) w := by kernel_rfl

theorem ok81 (f : Option Addr) (p : Int) (above_0 : Int) (above_1 : Int) (above_2 : Int) {w : World} {R : Ending → World → Prop} (h : F81 f p above_0 above_1 above_2 w R) : Calls Try.prog 81 #[(.pointer f), (.int .i64 p), (.agg #[(.int .u64 above_0), (.int .u64 above_1), (.int .i64 above_2)])] w R :=
  vc_calls (pl := pl81) Try.func81 (by kernel_rfl) (by kernel_rfl) (by kernel_rfl) (Eq.mp (eq81 f p above_0 above_1 above_2 w R) h)

-- twig.first
def F71 (l : Option Addr) (lN : Nat) (lC : Nat) (begin : Int) (w_ : World) (R : Ending → World → Prop) : Prop :=
 Calls Try.prog 83 #[(.slice l lN lC), (.int .u64 begin), (.func (.func 84) #[] #[])] w_ (post R fun v w1 =>
 ∃ (x10_0 : Int) (x10_1 : Bool), v = (.tuple #[(.int .i64 x10_0), (.bool x10_1)]) ∧
 R (.returned (.int .i64 x10_0)) w1)

def pl71 : Plan := ⟨14, ⟨[]⟩, [], []⟩

theorem eq71 (l : Option Addr) (lN : Nat) (lC : Nat) (begin : Int) (w : World) (R : Ending → World → Prop) : F71 l lN lC begin w R = vc Try.prog Try.f71 pl71 R 100000 [.code (bodyOf Try.f71)] (argEnv 0 #[(.slice l lN lC), (.int .u64 begin)].toList) w := by kernel_rfl

theorem ok71 (l : Option Addr) (lN : Nat) (lC : Nat) (begin : Int) {w : World} {R : Ending → World → Prop} (h : F71 l lN lC begin w R) : Calls Try.prog 71 #[(.slice l lN lC), (.int .u64 begin)] w R :=
  vc_calls (pl := pl71) Try.func71 (by kernel_rfl) (by kernel_rfl) (by kernel_rfl) (Eq.mp (eq71 l lN lC begin w R) h)

-- twig.first$1
def F84 (p_0 : Int) (p_1 : Int) (p_2 : Int) (p_3 : Int) (begin : Int) (w_ : World) (R : Ending → World → Prop) : Prop :=
 Al w_ #[(.int .u64 p_0), (.int .u64 p_1), (.int .u64 p_2), (.int .i64 p_3)] 79 fun p w1 =>
 LdI .u64 (w1.cell? (p.add 1)) fun x7 =>
 Br (decide (x7 ≤ begin))
 (R (.returned (.int .i64 (-1))) w1)
 (R (.returned (.int .i64 1)) w1)

def pl84 : Plan := ⟨10, ⟨[]⟩, [], []⟩

theorem eq84 (p_0 : Int) (p_1 : Int) (p_2 : Int) (p_3 : Int) (begin : Int) (w : World) (R : Ending → World → Prop) : F84 p_0 p_1 p_2 p_3 begin w R = vc Try.prog Try.f84 pl84 R 100000 [.code (bodyOf Try.f84)] (argEnv 0 #[(.agg #[(.int .u64 p_0), (.int .u64 p_1), (.int .u64 p_2), (.int .i64 p_3)]), (.int .u64 begin)].toList) w := by kernel_rfl

theorem ok84 (p_0 : Int) (p_1 : Int) (p_2 : Int) (p_3 : Int) (begin : Int) {w : World} {R : Ending → World → Prop} (h : F84 p_0 p_1 p_2 p_3 begin w R) : Calls Try.prog 84 #[(.agg #[(.int .u64 p_0), (.int .u64 p_1), (.int .u64 p_2), (.int .i64 p_3)]), (.int .u64 begin)] w R :=
  vc_calls (pl := pl84) Try.func84 (by kernel_rfl) (by kernel_rfl) (by kernel_rfl) (Eq.mp (eq84 p_0 p_1 p_2 p_3 begin w R) h)

-- (*twig.finder).some
def F47 (f : Option Addr) (p : Int) (i : Int) (w_ : World) (R : Ending → World → Prop) : Prop :=
 NonNil f fun p8 =>
 LdSl (w_.cell? (p8.add 3)) fun x10 x10N x10C =>
 IdxA x10 x10N p 1 fun q12 =>
 LdSl (w_.cell? q12) fun x13 x13N x13C =>
 IdxA x13 x13N i 1 fun q15 =>
 LdI .u64 (w_.cell? q15) fun x16 =>
 Br (decide (x16 > (0 : Int)))
 (R (.returned (.bool true)) w_)
 (NonNil f fun p20 =>
 LdSl (w_.cell? (p20.add 4)) fun x22 x22N x22C =>
 IdxA x22 x22N p 1 fun q24 =>
 LdSl (w_.cell? q24) fun x25 x25N x25C =>
 IdxA x25 x25N i 1 fun q27 =>
 LdB (w_.cell? q27) fun x28 =>
 R (.returned (.bool x28)) w_)

def pl47 : Plan := ⟨30, ⟨[]⟩, [], []⟩

theorem eq47 (f : Option Addr) (p : Int) (i : Int) (w : World) (R : Ending → World → Prop) : F47 f p i w R = vc Try.prog Try.f47 pl47 R 100000 [.code (bodyOf Try.f47)] (argEnv 0 #[(.pointer f), (.int .i64 p), (.int .i64 i)].toList) w := by kernel_rfl

theorem ok47 (f : Option Addr) (p : Int) (i : Int) {w : World} {R : Ending → World → Prop} (h : F47 f p i w R) : Calls Try.prog 47 #[(.pointer f), (.int .i64 p), (.int .i64 i)] w R :=
  vc_calls (pl := pl47) Try.func47 (by kernel_rfl) (by kernel_rfl) (by kernel_rfl) (Eq.mp (eq47 f p i w R) h)

-- (*twig.finder).under
def F48 (f : Option Addr) (p : Int) (above_0 : Int) (above_1 : Int) (above_2 : Int) (s_0 : Int) (s_1 : Int) (s_2 : Int) (w_ : World) (R : Ending → World → Prop) : Prop :=
 Al w_ #[(.int .u64 above_0), (.int .u64 above_1), (.int .i64 above_2)] 77 fun above w1 =>
 Al w1 #[(.int .u64 s_0), (.int .u64 s_1), (.int .i64 s_2)] 77 fun s w1_2 =>
 NonNil f fun p10 =>
 LdSl (w1_2.cell? p10) fun x12 x12N x12C =>
 IdxA x12 x12N p 4 fun q14 =>
 LdB (w1_2.cell? (q14.add 1)) fun x17 =>
 Br x17
 (LdI .u64 (w1_2.cell? s) fun x18_0 =>
 LdI .u64 (w1_2.cell? (s.add 1)) fun x18_1 =>
 LdI .i64 (w1_2.cell? (s.add 2)) fun x18_2 =>
 LdI .u64 (w1_2.cell? above) fun x19_0 =>
 LdI .u64 (w1_2.cell? (above.add 1)) fun x19_1 =>
 LdI .i64 (w1_2.cell? (above.add 2)) fun x19_2 =>
 Calls Try.prog 44 #[(.agg #[(.int .u64 x18_0), (.int .u64 x18_1), (.int .i64 x18_2)]), (.agg #[(.int .u64 x19_0), (.int .u64 x19_1), (.int .i64 x19_2)])] w1_2 (post R fun v w1_3 =>
 ∃ (x20 : Bool), v = (.bool x20) ∧
 R (.returned (.bool x20)) w1_3))
 (LdI .u64 (w1_2.cell? s) fun x21_0 =>
 LdI .u64 (w1_2.cell? (s.add 1)) fun x21_1 =>
 LdI .i64 (w1_2.cell? (s.add 2)) fun x21_2 =>
 LdI .u64 (w1_2.cell? above) fun x22_0 =>
 LdI .u64 (w1_2.cell? (above.add 1)) fun x22_1 =>
 LdI .i64 (w1_2.cell? (above.add 2)) fun x22_2 =>
 Calls Try.prog 45 #[(.agg #[(.int .u64 x21_0), (.int .u64 x21_1), (.int .i64 x21_2)]), (.agg #[(.int .u64 x22_0), (.int .u64 x22_1), (.int .i64 x22_2)])] w1_2 (post R fun v w1_3 =>
 ∃ (x23 : Bool), v = (.bool x23) ∧
 R (.returned (.bool x23)) w1_3))

def pl48 : Plan := ⟨24, ⟨[]⟩, [], []⟩

theorem eq48 (f : Option Addr) (p : Int) (above_0 : Int) (above_1 : Int) (above_2 : Int) (s_0 : Int) (s_1 : Int) (s_2 : Int) (w : World) (R : Ending → World → Prop) : F48 f p above_0 above_1 above_2 s_0 s_1 s_2 w R = vc Try.prog Try.f48 pl48 R 100000 [.code (bodyOf Try.f48)] (argEnv 0 #[(.pointer f), (.int .i64 p), (.agg #[(.int .u64 above_0), (.int .u64 above_1), (.int .i64 above_2)]), (.agg #[(.int .u64 s_0), (.int .u64 s_1), (.int .i64 s_2)])].toList) w := by kernel_rfl

theorem ok48 (f : Option Addr) (p : Int) (above_0 : Int) (above_1 : Int) (above_2 : Int) (s_0 : Int) (s_1 : Int) (s_2 : Int) {w : World} {R : Ending → World → Prop} (h : F48 f p above_0 above_1 above_2 s_0 s_1 s_2 w R) : Calls Try.prog 48 #[(.pointer f), (.int .i64 p), (.agg #[(.int .u64 above_0), (.int .u64 above_1), (.int .i64 above_2)]), (.agg #[(.int .u64 s_0), (.int .u64 s_1), (.int .i64 s_2)])] w R :=
  vc_calls (pl := pl48) Try.func48 (by kernel_rfl) (by kernel_rfl) (by kernel_rfl) (Eq.mp (eq48 f p above_0 above_1 above_2 s_0 s_1 s_2 w R) h)

-- (*twig.finder).find
def F53 (f : Option Addr) (tell : Value) (w_ : World) (R : Ending → World → Prop) : Prop :=
 Al w_ #[(.pointer f)] 80 fun f2 w1 =>
 Al w1 (tell).cells 102 fun tell2 w1_2 =>
 LdP (w1_2.cell? f2) fun x6 =>
 NonNil x6 fun p7 =>
 LdSl (w1_2.cell? p7) fun x9 x9N x9C =>
 0 ≤ ((x9N : Nat) : Int) ∧ ((x9N : Nat) : Int) ≤ ((x9N : Nat) : Int) ∧ ((8 : Nat) : Int) * ((x9N : Nat) : Int) ≤ 281474976710656 ∧ Al w1_2 (zrow #[(.int .i64 0)] ((((x9N : Nat) : Int)).toNat * 1)) 3 fun g11 w1_3 =>
 Al w1_3 #[(.slice none 0 0)] 92 fun match_ w1_4 =>
 St w1_4 match_ (.slice (some g11) (((x9N : Nat) : Int)).toNat (((x9N : Nat) : Int)).toNat) fun w1_5 =>
 Al w1_5 #[.nilFunc] 116 fun goes w1_6 =>
 St w1_6 goes (.func (.func 70) #[] #[(.pointer (some f2)), (.pointer (some tell2)), (.pointer (some match_)), (.pointer (some goes))]) fun w1_7 =>
 LdV (w1_7.cell? goes) fun x13 =>
 CallV Try.prog x13 #[(.int .i64 0)] w1_7 R (fun v w1_8 =>
 ∃ (x14 : Bool), v = (.bool x14) ∧
 R (.returned (.tuple #[])) w1_8)

def pl53 : Plan := ⟨15, ⟨[]⟩, [], []⟩

theorem eq53 (f : Option Addr) (tell : Value) (w : World) (R : Ending → World → Prop) : F53 f tell w R = vc Try.prog Try.f53 pl53 R 100000 [.code (bodyOf Try.f53)] (argEnv 0 #[(.pointer f), tell].toList) w := by kernel_rfl

theorem ok53 (f : Option Addr) (tell : Value) {w : World} {R : Ending → World → Prop} (h : F53 f tell w R) : Calls Try.prog 53 #[(.pointer f), tell] w R :=
  vc_calls (pl := pl53) Try.func53 (by kernel_rfl) (by kernel_rfl) (by kernel_rfl) (Eq.mp (eq53 f tell w R) h)

-- (*twig.finder).find$1
def F70_j18  (w_3 : World) (R : Ending → World → Prop) : Prop :=
 R (.returned (.bool true)) w_3

def F70_j9 (L8 : Int → World → Prop) (i : Int) (w_4 : World) (R : Ending → World → Prop) : Prop :=
 InR .i64 (i + (1 : Int)) ∧ L8 (i + (1 : Int)) w_4

def F70_j14 (p : Int) (cap0 : Addr) (cap2 : Addr) (cap3 : Addr) (i : Int) (J9 : World → Prop) (w_4 : World) (R : Ending → World → Prop) : Prop :=
 LdP (w_4.cell? cap0) fun x98 =>
 Calls Try.prog 47 #[(.pointer x98), (.int .i64 p), (.int .i64 i)] w_4 (post R fun v w1 =>
 ∃ (x101 : Bool), v = (.bool x101) ∧
 Br (!x101)
 (J9 w1)
 (LdSl (w1.cell? cap2) fun x103 x103N x103C =>
 IdxA x103 x103N p 1 fun q106 =>
 St w1 q106 (.int .i64 i) fun w1_2 =>
 LdV (w1_2.cell? cap3) fun x107 =>
 InR .i64 (p + (1 : Int)) ∧ CallV Try.prog x107 #[(.int .i64 (p + (1 : Int)))] w1_2 R (fun v2 w1_3 =>
 ∃ (x110 : Bool), v2 = (.bool x110) ∧
 Br (!x110)
 (R (.returned (.bool false)) w1_3)
 (J9 w1_3))))

def F70_l8 (p : Int) (cap0 : Addr) (cap2 : Addr) (cap3 : Addr) (x28 : Option Addr) (x28N : Nat) (x36 : Int) (J18 : World → Prop) (L8 : Int → World → Prop) (i : Int) (w_3 : World) (R : Ending → World → Prop) : Prop :=
 Br (decide (i < ((x28N : Nat) : Int)))
 (∃ J9 : World → Prop, (∀  (w1 : World), J9 w1 → F70_j9 L8 i w1 R) ∧
 (∃ J14 : World → Prop, (∀  (w1 : World), J14 w1 → F70_j14 p cap0 cap2 cap3 i J9 w1 R) ∧
 (Br (decide (x36 ≥ (0 : Int)))
 (∃ S : World → Prop, S w_3.drew ∧ ∃ (x65 : Option Addr), Held S cap0 (.pointer x65) ∧ NonNil x65 fun p66 =>
 ∃ (x68 : Option Addr) (x68N : Nat) (x68C : Nat), Held S (p66.add 1) (.slice x68 x68N x68C) ∧ IdxA x68 x68N x36 1 fun q70 =>
 ∃ (x71 : Option Addr) (x71N : Nat) (x71C : Nat), Held S q70 (.slice x71 x71N x71C) ∧ ∃ (x72 : Option Addr) (x72N : Nat) (x72C : Nat), Held S cap2 (.slice x72 x72N x72C) ∧ IdxA x72 x72N x36 1 fun q74 =>
 ∃ (x75 : Int), Held S q74 (.int .i64 x75) ∧ IdxA x71 x71N x75 4 fun q76 =>
 ∃ (x78_0 : Int), Held S (q76.add 1) (.int .u64 x78_0) ∧ ∃ (x78_1 : Int), Held S ((q76.add 1).add 1) (.int .u64 x78_1) ∧ ∃ (x78_2 : Int), Held S ((q76.add 1).add 2) (.int .i64 x78_2) ∧ Al w_3.drew #[(.int .u64 0), (.int .u64 0), (.int .i64 0)] 77 fun s w1_2 =>
 S w1_2 ∧ St w1_2 s (.int .u64 x78_0) fun w1_3 =>
 St w1_3 (s.add 1) (.int .u64 x78_1) fun w1_4 =>
 St w1_4 (s.add 2) (.int .i64 x78_2) fun w1_5 =>
 Dr w1_5 fun w1_6 =>
 IdxA x28 x28N i 4 fun q81 =>
 LdI .u64 (w1_6.cell? (q81.add 1)) fun x84 =>
 LdI .u64 (w1_6.cell? (s.add 1)) fun x86 =>
 Br (decide (x84 ≥ x86))
 (J18 w1_6)
 (∃ S2 : World → Prop, S2 w1_6.drew ∧ ∃ (x88 : Option Addr), Held S2 cap0 (.pointer x88) ∧ ∃ (x90_0 : Int), Held S2 s (.int .u64 x90_0) ∧ ∃ (x90_1 : Int), Held S2 (s.add 1) (.int .u64 x90_1) ∧ ∃ (x90_2 : Int), Held S2 (s.add 2) (.int .i64 x90_2) ∧ IdxA x28 x28N i 4 fun q93 =>
 ∃ (x95_0 : Int), Held S2 (q93.add 1) (.int .u64 x95_0) ∧ ∃ (x95_1 : Int), Held S2 ((q93.add 1).add 1) (.int .u64 x95_1) ∧ ∃ (x95_2 : Int), Held S2 ((q93.add 1).add 2) (.int .i64 x95_2) ∧ Calls Try.prog 48 #[(.pointer x88), (.int .i64 p), (.agg #[(.int .u64 x90_0), (.int .u64 x90_1), (.int .i64 x90_2)]), (.agg #[(.int .u64 x95_0), (.int .u64 x95_1), (.int .i64 x95_2)])] w1_6.drew (post R fun v w1_8 =>
 ∃ (x96 : Bool), v = (.bool x96) ∧
 Br (!x96)
 (J9 w1_8)
 (J14 w1_8))))
 (J14 w_3))))
 (J18 w_3)

def F70_j7 (p : Int) (cap0 : Addr) (cap2 : Addr) (cap3 : Addr) (x28 : Option Addr) (x28N : Nat) (x36 : Int) (from_ : Int) (w_2 : World) (R : Ending → World → Prop) : Prop :=
 ∃ J18 : World → Prop, (∀  (w1 : World), J18 w1 → F70_j18 w1 R) ∧
 (∃ (I : Int → World → Prop) (m : Int → World → Nat), I from_ w_2 ∧
 ∀ (i : Int) (w1 : World), I i w1 → F70_l8 p cap0 cap2 cap3 x28 x28N x36 J18 (fun i' w2 => I i' w2 ∧ m i' w2 < m i w1) i w1 R)

def F70 (p : Int) (cap0 : Addr) (cap1 : Addr) (cap2 : Addr) (cap3 : Addr) (w_ : World) (R : Ending → World → Prop) : Prop :=
 LdP (w_.cell? cap0) fun x13 =>
 NonNil x13 fun p14 =>
 LdSl (w_.cell? p14) fun x16 x16N x16C =>
 Br (p == ((x16N : Nat) : Int))
 (LdV (w_.cell? cap1) fun x19 =>
 LdSl (w_.cell? cap2) fun x20 x20N x20C =>
 CallV Try.prog x19 #[(.slice x20 x20N x20C)] w_ R (fun v w1 =>
 ∃ (x21 : Bool), v = (.bool x21) ∧
 R (.returned (.bool x21)) w1))
 (LdP (w_.cell? cap0) fun x22 =>
 NonNil x22 fun p23 =>
 LdSl (w_.cell? (p23.add 1)) fun x25 x25N x25C =>
 IdxA x25 x25N p 1 fun q27 =>
 LdSl (w_.cell? q27) fun x28 x28N x28C =>
 LdP (w_.cell? cap0) fun x29 =>
 NonNil x29 fun p30 =>
 LdSl (w_.cell? p30) fun x32 x32N x32C =>
 IdxA x32 x32N p 4 fun q34 =>
 LdI .i64 (w_.cell? (q34.add 3)) fun x36 =>
 ∃ J7 : Int → World → Prop, (∀ (from_ : Int) (w1 : World), J7 from_ w1 → F70_j7 p cap0 cap2 cap3 x28 x28N x36 from_ w1 R) ∧
 (Br (decide (x36 ≥ (0 : Int)))
 (∃ S : World → Prop, S w_.drew ∧ ∃ (x40 : Option Addr), Held S cap0 (.pointer x40) ∧ NonNil x40 fun p41 =>
 ∃ (x43 : Option Addr) (x43N : Nat) (x43C : Nat), Held S (p41.add 1) (.slice x43 x43N x43C) ∧ IdxA x43 x43N x36 1 fun q45 =>
 ∃ (x46 : Option Addr) (x46N : Nat) (x46C : Nat), Held S q45 (.slice x46 x46N x46C) ∧ ∃ (x47 : Option Addr) (x47N : Nat) (x47C : Nat), Held S cap2 (.slice x47 x47N x47C) ∧ IdxA x47 x47N x36 1 fun q49 =>
 ∃ (x50 : Int), Held S q49 (.int .i64 x50) ∧ IdxA x46 x46N x50 4 fun q51 =>
 ∃ (x54 : Int), Held S (q51.add 1) (.int .u64 x54) ∧ Calls Try.prog 71 #[(.slice x28 x28N x28C), (.int .u64 x54)] w_.drew (post R fun v w1_2 =>
 ∃ (x55 : Int), v = (.int .i64 x55) ∧
 J7 x55 w1_2))
 (J7 (0 : Int) w_)))

def pl70 : Plan := ⟨112, ⟨[]⟩, [(14, ⟨[], [(11, 98)]⟩), (9, ⟨[], [(6, 7), (11, 112)]⟩), (18, ⟨[], [(6, 112)]⟩), (7, ⟨[(8, (.s (.int .i64)))], [(8, 9), (37, 56)]⟩)], [(8, ⟨[(10, (.s (.int .i64)))], [(6, 7), (10, 112)]⟩)]⟩

theorem eq70 (p : Int) (cap0 : Addr) (cap1 : Addr) (cap2 : Addr) (cap3 : Addr) (w : World) (R : Ending → World → Prop) : F70 p cap0 cap1 cap2 cap3 w R = vc Try.prog Try.f70 pl70 R 100000 [.code (bodyOf Try.f70)] (argEnv 0 #[(.int .i64 p), (.pointer (some cap0)), (.pointer (some cap1)), (.pointer (some cap2)), (.pointer (some cap3))].toList) w := by kernel_rfl

theorem ok70 (p : Int) (cap0 : Addr) (cap1 : Addr) (cap2 : Addr) (cap3 : Addr) {w : World} {R : Ending → World → Prop} (h : F70 p cap0 cap1 cap2 cap3 w R) : Calls Try.prog 70 #[(.int .i64 p), (.pointer (some cap0)), (.pointer (some cap1)), (.pointer (some cap2)), (.pointer (some cap3))] w R :=
  vc_calls (pl := pl70) Try.func70 (by kernel_rfl) (by kernel_rfl) (by kernel_rfl) (Eq.mp (eq70 p cap0 cap1 cap2 cap3 w R) h)

-- twig.begun
def F42 (t_0 : ByteArray) (t_1 : Bool) (t_2 : Option Addr) (t_2N : Nat) (t_2C : Nat) (lists : Option Addr) (listsN : Nat) (listsC : Nat) (w_ : World) (R : Ending → World → Prop) : Prop :=
 Al w_ #[(.string t_0), (.bool t_1), (.slice t_2 t_2N t_2C)] 24 fun t w1 =>
 LdStr (w1.cell? t) fun x10_0 =>
 LdB (w1.cell? (t.add 1)) fun x10_1 =>
 LdSl (w1.cell? (t.add 2)) fun x10_2 x10_2N x10_2C =>
 Calls Try.prog 31 #[(.agg #[(.string x10_0), (.bool x10_1), (.slice x10_2 x10_2N x10_2C)])] w1 (post R fun v w1_2 =>
 ∃ (x11_0 : Option Addr) (x11_0N : Nat) (x11_0C : Nat) (x11_1 : Int), v = (.tuple #[(.slice x11_0 x11_0N x11_0C), (.int .i64 x11_1)]) ∧
 Br (x11_1 != (0 : Int))
 (R (.returned (.tuple #[(.pointer none), (.int .i64 x11_1)])) w1_2)
 (Calls Try.prog 63 #[(.slice x11_0 x11_0N x11_0C), (.slice lists listsN listsC)] w1_2 (post R fun v2 w1_3 =>
 ∃ (x19 : Int), v2 = (.int .i64 x19) ∧
 Br (x19 != (0 : Int))
 (R (.returned (.tuple #[(.pointer none), (.int .i64 x19)])) w1_3)
 (Calls Try.prog 64 #[(.slice x11_0 x11_0N x11_0C), (.slice lists listsN listsC)] w1_3 (post R fun v3 w1_4 =>
 ∃ (x25 : Option Addr), v3 = (.pointer x25) ∧
 R (.returned (.tuple #[(.pointer x25), (.int .i64 0)])) w1_4)))))

def pl42 : Plan := ⟨26, ⟨[]⟩, [], []⟩

theorem eq42 (t_0 : ByteArray) (t_1 : Bool) (t_2 : Option Addr) (t_2N : Nat) (t_2C : Nat) (lists : Option Addr) (listsN : Nat) (listsC : Nat) (w : World) (R : Ending → World → Prop) : F42 t_0 t_1 t_2 t_2N t_2C lists listsN listsC w R = vc Try.prog Try.f42 pl42 R 100000 [.code (bodyOf Try.f42)] (argEnv 0 #[(.agg #[(.string t_0), (.bool t_1), (.slice t_2 t_2N t_2C)]), (.slice lists listsN listsC)].toList) w := by kernel_rfl

theorem ok42 (t_0 : ByteArray) (t_1 : Bool) (t_2 : Option Addr) (t_2N : Nat) (t_2C : Nat) (lists : Option Addr) (listsN : Nat) (listsC : Nat) {w : World} {R : Ending → World → Prop} (h : F42 t_0 t_1 t_2 t_2N t_2C lists listsN listsC w R) : Calls Try.prog 42 #[(.agg #[(.string t_0), (.bool t_1), (.slice t_2 t_2N t_2C)]), (.slice lists listsN listsC)] w R :=
  vc_calls (pl := pl42) Try.func42 (by kernel_rfl) (by kernel_rfl) (by kernel_rfl) (Eq.mp (eq42 t_0 t_1 t_2 t_2N t_2C lists listsN listsC w R) h)

-- twig.find
def F34 (t_0 : ByteArray) (t_1 : Bool) (t_2 : Option Addr) (t_2N : Nat) (t_2C : Nat) (lists : Option Addr) (listsN : Nat) (listsC : Nat) (most : Int) (w_ : World) (R : Ending → World → Prop) : Prop :=
 Al w_ #[(.string t_0), (.bool t_1), (.slice t_2 t_2N t_2C)] 24 fun t w1 =>
 Al w1 #[(.int .i64 most)] 3 fun most2 w1_2 =>
 LdStr (w1_2.cell? t) fun x13_0 =>
 LdB (w1_2.cell? (t.add 1)) fun x13_1 =>
 LdSl (w1_2.cell? (t.add 2)) fun x13_2 x13_2N x13_2C =>
 Calls Try.prog 42 #[(.agg #[(.string x13_0), (.bool x13_1), (.slice x13_2 x13_2N x13_2C)]), (.slice lists listsN listsC)] w1_2 (post R fun v w1_3 =>
 ∃ (x15_0 : Option Addr) (x15_1 : Int), v = (.tuple #[(.pointer x15_0), (.int .i64 x15_1)]) ∧
 Al w1_3 #[(.pointer none)] 80 fun f w1_4 =>
 St w1_4 f (.pointer x15_0) fun w1_5 =>
 Br (x15_1 != (0 : Int))
 (R (.returned (.tuple #[(.slice none 0 0), (.int .i64 x15_1)])) w1_5)
 (LdI .i64 (w1_5.cell? most2) fun x21 =>
 Br (decide (x21 < (0 : Int)))
 (R (.returned (.tuple #[(.slice none 0 0), (.int .i64 1)])) w1_5)
 (Al w1_5 #[(.slice none 0 0)] 31 fun l w1_6 =>
 Al w1_6 #[(.bool false)] 4 fun more w1_7 =>
 St w1_7 more (.bool false) fun w1_8 =>
 LdP (w1_8.cell? f) fun x23 =>
 Calls Try.prog 53 #[(.pointer x23), (.func (.func 54) #[] #[(.pointer (some l)), (.pointer (some most2)), (.pointer (some more)), (.pointer (some f))])] w1_8 (post R fun v2 w1_9 =>
 v2 = (.tuple #[]) ∧
 LdB (w1_9.cell? more) fun x26 =>
 Br x26
 (R (.returned (.tuple #[(.slice none 0 0), (.int .i64 2)])) w1_9)
 (LdSl (w1_9.cell? l) fun x27 x27N x27C =>
 R (.returned (.tuple #[(.slice x27 x27N x27C), (.int .i64 0)])) w1_9)))))

def pl34 : Plan := ⟨28, ⟨[]⟩, [], []⟩

theorem eq34 (t_0 : ByteArray) (t_1 : Bool) (t_2 : Option Addr) (t_2N : Nat) (t_2C : Nat) (lists : Option Addr) (listsN : Nat) (listsC : Nat) (most : Int) (w : World) (R : Ending → World → Prop) : F34 t_0 t_1 t_2 t_2N t_2C lists listsN listsC most w R = vc Try.prog Try.f34 pl34 R 100000 [.code (bodyOf Try.f34)] (argEnv 0 #[(.agg #[(.string t_0), (.bool t_1), (.slice t_2 t_2N t_2C)]), (.slice lists listsN listsC), (.int .i64 most)].toList) w := by kernel_rfl

theorem ok34 (t_0 : ByteArray) (t_1 : Bool) (t_2 : Option Addr) (t_2N : Nat) (t_2C : Nat) (lists : Option Addr) (listsN : Nat) (listsC : Nat) (most : Int) {w : World} {R : Ending → World → Prop} (h : F34 t_0 t_1 t_2 t_2N t_2C lists listsN listsC most w R) : Calls Try.prog 34 #[(.agg #[(.string t_0), (.bool t_1), (.slice t_2 t_2N t_2C)]), (.slice lists listsN listsC), (.int .i64 most)] w R :=
  vc_calls (pl := pl34) Try.func34 (by kernel_rfl) (by kernel_rfl) (by kernel_rfl) (Eq.mp (eq34 t_0 t_1 t_2 t_2N t_2C lists listsN listsC most w R) h)

-- twig.find$1
def F54_l6 (match_ : Option Addr) (matchN : Nat) (cap0 : Addr) (cap3 : Addr) (L6 : Option Addr → Nat → Nat → Int → World → Prop) (m_ : Option Addr) (mN : Nat) (mC : Nat) (x18 : Int) (w_2 : World) (R : Ending → World → Prop) : Prop :=
 Br (decide (x18 < ((matchN : Nat) : Int)))
 (IdxA match_ matchN x18 1 fun q21 =>
 LdI .i64 (w_2.cell? q21) fun x22 =>
 LdP (w_2.cell? cap3) fun x24 =>
 NonNil x24 fun p25 =>
 LdSl (w_2.cell? (p25.add 1)) fun x27 x27N x27C =>
 IdxA x27 x27N x18 1 fun q29 =>
 LdSl (w_2.cell? q29) fun x30 x30N x30C =>
 IdxA x30 x30N x22 4 fun q32 =>
 LdI .u64 (w_2.cell? q32) fun x34 =>
 Al w_2 #[(.int .u64 x34)] 75 fun g35 w1_2 =>
 Raw Try.prog (Builtin.append_ #[53, 53] 53 #[(.slice m_ mN mC), (.slice (some g35) 1 1)]) w1_2 fun v w1_3 =>
 ∃ (x36 : Option Addr) (x36N : Nat) (x36C : Nat), v = (.slice x36 x36N x36C) ∧
 InR .i64 (x18 + (1 : Int)) ∧ L6 x36 x36N x36C (x18 + (1 : Int)) w1_3)
 (LdSl (w_2.cell? cap0) fun x38 x38N x38C =>
 Al w_2 #[(.slice m_ mN mC)] 53 fun g40 w1_2 =>
 Raw Try.prog (Builtin.append_ #[31, 31] 31 #[(.slice x38 x38N x38C), (.slice (some g40) 1 1)]) w1_2 fun v w1_3 =>
 ∃ (x41 : Option Addr) (x41N : Nat) (x41C : Nat), v = (.slice x41 x41N x41C) ∧
 St w1_3 cap0 (.slice x41 x41N x41C) fun w1_4 =>
 R (.returned (.bool true)) w1_4)

def F54 (match_ : Option Addr) (matchN : Nat) (matchC : Nat) (cap0 : Addr) (cap1 : Addr) (cap2 : Addr) (cap3 : Addr) (w_ : World) (R : Ending → World → Prop) : Prop :=
 LdSl (w_.cell? cap0) fun x10 x10N x10C =>
 LdI .i64 (w_.cell? cap1) fun x12 =>
 St w_ cap2 (.bool (decide (((x10N : Nat) : Int) ≥ (if (16384 : Int) < x12 then (16384 : Int) else x12)))) fun w1 =>
 LdB (w1.cell? cap2) fun x15 =>
 Br x15
 (R (.returned (.bool false)) w1)
 (∃ (I : Option Addr → Nat → Nat → Int → World → Prop) (m : Option Addr → Nat → Nat → Int → World → Nat), I none 0 0 (0 : Int) w1 ∧
 ∀ (m_ : Option Addr) (mN : Nat) (mC : Nat) (x18 : Int) (w1_2 : World), I m_ mN mC x18 w1_2 → F54_l6 match_ matchN cap0 cap3 (fun m_' mN' mC' x18' w2 => I m_' mN' mC' x18' w2 ∧ m m_' mN' mC' x18' w2 < m m_ mN mC x18 w1_2) m_ mN mC x18 w1_2 R)

def pl54 : Plan := ⟨42, ⟨[]⟩, [], [(6, ⟨[(7, (.s .slice)), (18, (.s (.int .i64)))], [(7, 10), (18, 38)]⟩)]⟩

theorem eq54 (match_ : Option Addr) (matchN : Nat) (matchC : Nat) (cap0 : Addr) (cap1 : Addr) (cap2 : Addr) (cap3 : Addr) (w : World) (R : Ending → World → Prop) : F54 match_ matchN matchC cap0 cap1 cap2 cap3 w R = vc Try.prog Try.f54 pl54 R 100000 [.code (bodyOf Try.f54)] (argEnv 0 #[(.slice match_ matchN matchC), (.pointer (some cap0)), (.pointer (some cap1)), (.pointer (some cap2)), (.pointer (some cap3))].toList) w := by kernel_rfl

theorem ok54 (match_ : Option Addr) (matchN : Nat) (matchC : Nat) (cap0 : Addr) (cap1 : Addr) (cap2 : Addr) (cap3 : Addr) {w : World} {R : Ending → World → Prop} (h : F54 match_ matchN matchC cap0 cap1 cap2 cap3 w R) : Calls Try.prog 54 #[(.slice match_ matchN matchC), (.pointer (some cap0)), (.pointer (some cap1)), (.pointer (some cap2)), (.pointer (some cap3))] w R :=
  vc_calls (pl := pl54) Try.func54 (by kernel_rfl) (by kernel_rfl) (by kernel_rfl) (Eq.mp (eq54 match_ matchN matchC cap0 cap1 cap2 cap3 w R) h)

-- twig.Find
def F13 (t_0 : ByteArray) (t_1 : Bool) (t_2 : Option Addr) (t_2N : Nat) (t_2C : Nat) (lists : Option Addr) (listsN : Nat) (listsC : Nat) (most : Int) (w_ : World) (R : Ending → World → Prop) : Prop :=
 Al w_ #[(.string t_0), (.bool t_1), (.slice t_2 t_2N t_2C)] 24 fun t w1 =>
 LdStr (w1.cell? t) fun x8_0 =>
 LdB (w1.cell? (t.add 1)) fun x8_1 =>
 LdSl (w1.cell? (t.add 2)) fun x8_2 x8_2N x8_2C =>
 Calls Try.prog 34 #[(.agg #[(.string x8_0), (.bool x8_1), (.slice x8_2 x8_2N x8_2C)]), (.slice lists listsN listsC), (.int .i64 most)] w1 (post R fun v w1_2 =>
 ∃ (x11_0 : Option Addr) (x11_0N : Nat) (x11_0C : Nat) (x11_1 : Int), v = (.tuple #[(.slice x11_0 x11_0N x11_0C), (.int .i64 x11_1)]) ∧
 R (.returned (.tuple #[(.slice x11_0 x11_0N x11_0C), (.int .i64 x11_1)])) w1_2)

def pl13 : Plan := ⟨14, ⟨[]⟩, [], []⟩

theorem eq13 (t_0 : ByteArray) (t_1 : Bool) (t_2 : Option Addr) (t_2N : Nat) (t_2C : Nat) (lists : Option Addr) (listsN : Nat) (listsC : Nat) (most : Int) (w : World) (R : Ending → World → Prop) : F13 t_0 t_1 t_2 t_2N t_2C lists listsN listsC most w R = vc Try.prog Try.f13 pl13 R 100000 [.code (bodyOf Try.f13)] (argEnv 0 #[(.agg #[(.string t_0), (.bool t_1), (.slice t_2 t_2N t_2C)]), (.slice lists listsN listsC), (.int .i64 most)].toList) w := by kernel_rfl

theorem ok13 (t_0 : ByteArray) (t_1 : Bool) (t_2 : Option Addr) (t_2N : Nat) (t_2C : Nat) (lists : Option Addr) (listsN : Nat) (listsC : Nat) (most : Int) {w : World} {R : Ending → World → Prop} (h : F13 t_0 t_1 t_2 t_2N t_2C lists listsN listsC most w R) : Calls Try.prog 13 #[(.agg #[(.string t_0), (.bool t_1), (.slice t_2 t_2N t_2C)]), (.slice lists listsN listsC), (.int .i64 most)] w R :=
  vc_calls (pl := pl13) Try.func13 (by kernel_rfl) (by kernel_rfl) (by kernel_rfl) (Eq.mp (eq13 t_0 t_1 t_2 t_2N t_2C lists listsN listsC most w R) h)

-- twig.Paths
def F15 (t_0 : ByteArray) (t_1 : Bool) (t_2 : Option Addr) (t_2N : Nat) (t_2C : Nat) (lists : Option Addr) (listsN : Nat) (listsC : Nat) (most : Int) (w_ : World) (R : Ending → World → Prop) : Prop :=
 Al w_ #[(.string t_0), (.bool t_1), (.slice t_2 t_2N t_2C)] 24 fun t w1 =>
 LdStr (w1.cell? t) fun x11_0 =>
 LdB (w1.cell? (t.add 1)) fun x11_1 =>
 LdSl (w1.cell? (t.add 2)) fun x11_2 x11_2N x11_2C =>
 Calls Try.prog 31 #[(.agg #[(.string x11_0), (.bool x11_1), (.slice x11_2 x11_2N x11_2C)])] w1 (post R fun v w1_2 =>
 ∃ (x12_0 : Option Addr) (x12_0N : Nat) (x12_0C : Nat) (x12_1 : Int), v = (.tuple #[(.slice x12_0 x12_0N x12_0C), (.int .i64 x12_1)]) ∧
 Br (x12_1 != (0 : Int))
 (R (.returned (.tuple #[(.slice none 0 0), (.int .i64 x12_1)])) w1_2)
 (Calls Try.prog 39 #[(.slice x12_0 x12_0N x12_0C), (.func (.func 40) #[] #[])] w1_2 (post R fun v2 w1_3 =>
 ∃ (x19 : Bool), v2 = (.bool x19) ∧
 Br x19
 (R (.returned (.tuple #[(.slice none 0 0), (.int .i64 120)])) w1_3)
 (LdStr (w1_3.cell? t) fun x20_0 =>
 LdB (w1_3.cell? (t.add 1)) fun x20_1 =>
 LdSl (w1_3.cell? (t.add 2)) fun x20_2 x20_2N x20_2C =>
 Calls Try.prog 34 #[(.agg #[(.string x20_0), (.bool x20_1), (.slice x20_2 x20_2N x20_2C)]), (.slice lists listsN listsC), (.int .i64 most)] w1_3 (post R fun v3 w1_4 =>
 ∃ (x23_0 : Option Addr) (x23_0N : Nat) (x23_0C : Nat) (x23_1 : Int), v3 = (.tuple #[(.slice x23_0 x23_0N x23_0C), (.int .i64 x23_1)]) ∧
 R (.returned (.tuple #[(.slice x23_0 x23_0N x23_0C), (.int .i64 x23_1)])) w1_4)))))

def pl15 : Plan := ⟨26, ⟨[]⟩, [], []⟩

theorem eq15 (t_0 : ByteArray) (t_1 : Bool) (t_2 : Option Addr) (t_2N : Nat) (t_2C : Nat) (lists : Option Addr) (listsN : Nat) (listsC : Nat) (most : Int) (w : World) (R : Ending → World → Prop) : F15 t_0 t_1 t_2 t_2N t_2C lists listsN listsC most w R = vc Try.prog Try.f15 pl15 R 100000 [.code (bodyOf Try.f15)] (argEnv 0 #[(.agg #[(.string t_0), (.bool t_1), (.slice t_2 t_2N t_2C)]), (.slice lists listsN listsC), (.int .i64 most)].toList) w := by kernel_rfl

theorem ok15 (t_0 : ByteArray) (t_1 : Bool) (t_2 : Option Addr) (t_2N : Nat) (t_2C : Nat) (lists : Option Addr) (listsN : Nat) (listsC : Nat) (most : Int) {w : World} {R : Ending → World → Prop} (h : F15 t_0 t_1 t_2 t_2N t_2C lists listsN listsC most w R) : Calls Try.prog 15 #[(.agg #[(.string t_0), (.bool t_1), (.slice t_2 t_2N t_2C)]), (.slice lists listsN listsC), (.int .i64 most)] w R :=
  vc_calls (pl := pl15) Try.func15 (by kernel_rfl) (by kernel_rfl) (by kernel_rfl) (Eq.mp (eq15 t_0 t_1 t_2 t_2N t_2C lists listsN listsC most w R) h)

-- twig.Paths$1
def F40 (p_0 : ByteArray) (p_1 : Bool) (p_2 : Option Addr) (p_2N : Nat) (p_2C : Nat) (p_3 : Int) (w_ : World) (R : Ending → World → Prop) : Prop :=
 Al w_ #[(.string p_0), (.bool p_1), (.slice p_2 p_2N p_2C), (.int .i64 p_3)] 73 fun p w1 =>
 LdSl (w1.cell? (p.add 2)) fun x5 x5N x5C =>
 R (.returned (.bool (decide (((x5N : Nat) : Int) > (1 : Int))))) w1

def pl40 : Plan := ⟨8, ⟨[]⟩, [], []⟩

theorem eq40 (p_0 : ByteArray) (p_1 : Bool) (p_2 : Option Addr) (p_2N : Nat) (p_2C : Nat) (p_3 : Int) (w : World) (R : Ending → World → Prop) : F40 p_0 p_1 p_2 p_2N p_2C p_3 w R = vc Try.prog Try.f40 pl40 R 100000 [.code (bodyOf Try.f40)] (argEnv 0 #[(.agg #[(.string p_0), (.bool p_1), (.slice p_2 p_2N p_2C), (.int .i64 p_3)])].toList) w := by kernel_rfl

theorem ok40 (p_0 : ByteArray) (p_1 : Bool) (p_2 : Option Addr) (p_2N : Nat) (p_2C : Nat) (p_3 : Int) {w : World} {R : Ending → World → Prop} (h : F40 p_0 p_1 p_2 p_2N p_2C p_3 w R) : Calls Try.prog 40 #[(.agg #[(.string p_0), (.bool p_1), (.slice p_2 p_2N p_2C), (.int .i64 p_3)])] w R :=
  vc_calls (pl := pl40) Try.func40 (by kernel_rfl) (by kernel_rfl) (by kernel_rfl) (Eq.mp (eq40 p_0 p_1 p_2 p_2N p_2C p_3 w R) h)

-- twig.Count
def F23_j10 (L6 : Int → Bool → Int → World → Prop) (x30 : Int) (n2 : Int) (full2 : Bool) (w_3 : World) (R : Ending → World → Prop) : Prop :=
 InR .i64 (x30 + (1 : Int)) ∧ L6 n2 full2 (x30 + (1 : Int)) w_3

def F23_l6 (x17_0 : Option Addr) (x28 : Option Addr) (x28N : Nat) (L6 : Int → Bool → Int → World → Prop) (n : Int) (full : Bool) (x30 : Int) (w_2 : World) (R : Ending → World → Prop) : Prop :=
 Br (decide (x30 < ((x28N : Nat) : Int)))
 (∃ J10 : Int → Bool → World → Prop, (∀ (n2 : Int) (full2 : Bool) (w1_3 : World), J10 n2 full2 w1_3 → F23_j10 L6 x30 n2 full2 w1_3 R) ∧
 (IdxA x28 x28N x30 1 fun q33 =>
 LdI .u64 (w_2.cell? q33) fun x34 =>
 ByRow Try.prog 43 #[(.int .u64 n), (.int .u64 x34), (.int .u64 0)] w_2 (fun v2 w1_3 =>
 ∃ (x38_0 : Int) (x38_1 : Int), v2 = (.tuple #[(.int .u64 x38_0), (.int .u64 x38_1)]) ∧
 Br full
 (J10 x38_0 true w1_3)
 (NonNil x17_0 fun p45 =>
 LdSl (w1_3.cell? (p45.add 4)) fun x47 x47N x47C =>
 IdxA x47 x47N (0 : Int) 1 fun q48 =>
 LdSl (w1_3.cell? q48) fun x49 x49N x49C =>
 IdxA x49 x49N x30 1 fun q51 =>
 LdB (w1_3.cell? q51) fun x52 =>
 Br x52
 (J10 x38_0 true w1_3)
 (J10 x38_0 (decide (x38_1 > (0 : Int))) w1_3)))))
 (Br full
 (R (.returned (.tuple #[(.int .u64 0), (.int .i64 2)])) w_2)
 (R (.returned (.tuple #[(.int .u64 n), (.int .i64 0)])) w_2))

def F23 (t_0 : ByteArray) (t_1 : Bool) (t_2 : Option Addr) (t_2N : Nat) (t_2C : Nat) (lists : Option Addr) (listsN : Nat) (listsC : Nat) (w_ : World) (R : Ending → World → Prop) : Prop :=
 Al w_ #[(.string t_0), (.bool t_1), (.slice t_2 t_2N t_2C)] 24 fun t w1 =>
 LdStr (w1.cell? t) fun x15_0 =>
 LdB (w1.cell? (t.add 1)) fun x15_1 =>
 LdSl (w1.cell? (t.add 2)) fun x15_2 x15_2N x15_2C =>
 Calls Try.prog 42 #[(.agg #[(.string x15_0), (.bool x15_1), (.slice x15_2 x15_2N x15_2C)]), (.slice lists listsN listsC)] w1 (post R fun v w1_2 =>
 ∃ (x17_0 : Option Addr) (x17_1 : Int), v = (.tuple #[(.pointer x17_0), (.int .i64 x17_1)]) ∧
 Br (x17_1 != (0 : Int))
 (R (.returned (.tuple #[(.int .u64 0), (.int .i64 x17_1)])) w1_2)
 (NonNil x17_0 fun p24 =>
 LdSl (w1_2.cell? (p24.add 3)) fun x26 x26N x26C =>
 IdxA x26 x26N (0 : Int) 1 fun q27 =>
 LdSl (w1_2.cell? q27) fun x28 x28N x28C =>
 ∃ (I : Int → Bool → Int → World → Prop) (m : Int → Bool → Int → World → Nat), I (0 : Int) false (0 : Int) w1_2 ∧
 ∀ (n : Int) (full : Bool) (x30 : Int) (w1_3 : World), I n full x30 w1_3 → F23_l6 x17_0 x28 x28N (fun n' full' x30' w2 => I n' full' x30' w2 ∧ m n' full' x30' w2 < m n full x30 w1_3) n full x30 w1_3 R))

def pl23 : Plan := ⟨61, ⟨[]⟩, [(10, ⟨[(8, (.s (.int .u64))), (9, (.s .bool))], [(8, 14), (32, 58)]⟩)], [(6, ⟨[(8, (.s (.int .u64))), (9, (.s .bool)), (30, (.s (.int .i64)))], [(8, 14), (30, 59)]⟩)]⟩

theorem eq23 (t_0 : ByteArray) (t_1 : Bool) (t_2 : Option Addr) (t_2N : Nat) (t_2C : Nat) (lists : Option Addr) (listsN : Nat) (listsC : Nat) (w : World) (R : Ending → World → Prop) : F23 t_0 t_1 t_2 t_2N t_2C lists listsN listsC w R = vc Try.prog Try.f23 pl23 R 100000 [.code (bodyOf Try.f23)] (argEnv 0 #[(.agg #[(.string t_0), (.bool t_1), (.slice t_2 t_2N t_2C)]), (.slice lists listsN listsC)].toList) w := by kernel_rfl

theorem ok23 (t_0 : ByteArray) (t_1 : Bool) (t_2 : Option Addr) (t_2N : Nat) (t_2C : Nat) (lists : Option Addr) (listsN : Nat) (listsC : Nat) {w : World} {R : Ending → World → Prop} (h : F23 t_0 t_1 t_2 t_2N t_2C lists listsN listsC w R) : Calls Try.prog 23 #[(.agg #[(.string t_0), (.bool t_1), (.slice t_2 t_2N t_2C)]), (.slice lists listsN listsC)] w R :=
  vc_calls (pl := pl23) Try.func23 (by kernel_rfl) (by kernel_rfl) (by kernel_rfl) (Eq.mp (eq23 t_0 t_1 t_2 t_2N t_2C lists listsN listsC w R) h)

-- twig.Tops
def F29_j10 (L6 : Option Addr → Nat → Nat → Int → World → Prop) (x27 : Int) (l2 : Option Addr) (lN2 : Nat) (lC2 : Nat) (w_3 : World) (R : Ending → World → Prop) : Prop :=
 InR .i64 (x27 + (1 : Int)) ∧ L6 l2 lN2 lC2 (x27 + (1 : Int)) w_3

def F29_l6 (x14_0 : Option Addr) (x25 : Option Addr) (x25N : Nat) (L6 : Option Addr → Nat → Nat → Int → World → Prop) (l : Option Addr) (lN : Nat) (lC : Nat) (x27 : Int) (w_2 : World) (R : Ending → World → Prop) : Prop :=
 Br (decide (x27 < ((x25N : Nat) : Int)))
 (∃ J10 : Option Addr → Nat → Nat → World → Prop, (∀ (l2 : Option Addr) (lN2 : Nat) (lC2 : Nat) (w1_3 : World), J10 l2 lN2 lC2 w1_3 → F29_j10 L6 x27 l2 lN2 lC2 w1_3 R) ∧
 (IdxA x25 x25N x27 4 fun q30 =>
 LdI .u64 (w_2.cell? q30) fun x31_0 =>
 LdI .u64 (w_2.cell? (q30.add 1)) fun x31_1 =>
 LdI .u64 (w_2.cell? (q30.add 2)) fun x31_2 =>
 LdI .i64 (w_2.cell? (q30.add 3)) fun x31_3 =>
 Al w_2 #[(.int .u64 0), (.int .u64 0), (.int .u64 0), (.int .i64 0)] 79 fun p w1_3 =>
 St w1_3 p (.int .u64 x31_0) fun w1_4 =>
 St w1_4 (p.add 1) (.int .u64 x31_1) fun w1_5 =>
 St w1_5 (p.add 2) (.int .u64 x31_2) fun w1_6 =>
 St w1_6 (p.add 3) (.int .i64 x31_3) fun w1_7 =>
 Calls Try.prog 47 #[(.pointer x14_0), (.int .i64 0), (.int .i64 x27)] w1_7 (post R fun v2 w1_8 =>
 ∃ (x34 : Bool), v2 = (.bool x34) ∧
 Br x34
 (LdI .u64 (w1_8.cell? p) fun x37 =>
 Al w1_8 #[(.int .u64 x37)] 75 fun g38 w1_9 =>
 Raw Try.prog (Builtin.append_ #[53, 53] 53 #[(.slice l lN lC), (.slice (some g38) 1 1)]) w1_9 fun v3 w1_10 =>
 ∃ (x39 : Option Addr) (x39N : Nat) (x39C : Nat), v3 = (.slice x39 x39N x39C) ∧
 J10 x39 x39N x39C w1_10)
 (J10 l lN lC w1_8))))
 (R (.returned (.tuple #[(.slice l lN lC), (.int .i64 0)])) w_2)

def F29 (t_0 : ByteArray) (t_1 : Bool) (t_2 : Option Addr) (t_2N : Nat) (t_2C : Nat) (lists : Option Addr) (listsN : Nat) (listsC : Nat) (w_ : World) (R : Ending → World → Prop) : Prop :=
 Al w_ #[(.string t_0), (.bool t_1), (.slice t_2 t_2N t_2C)] 24 fun t w1 =>
 LdStr (w1.cell? t) fun x12_0 =>
 LdB (w1.cell? (t.add 1)) fun x12_1 =>
 LdSl (w1.cell? (t.add 2)) fun x12_2 x12_2N x12_2C =>
 Calls Try.prog 42 #[(.agg #[(.string x12_0), (.bool x12_1), (.slice x12_2 x12_2N x12_2C)]), (.slice lists listsN listsC)] w1 (post R fun v w1_2 =>
 ∃ (x14_0 : Option Addr) (x14_1 : Int), v = (.tuple #[(.pointer x14_0), (.int .i64 x14_1)]) ∧
 Br (x14_1 != (0 : Int))
 (R (.returned (.tuple #[(.slice none 0 0), (.int .i64 x14_1)])) w1_2)
 (NonNil x14_0 fun p21 =>
 LdSl (w1_2.cell? (p21.add 1)) fun x23 x23N x23C =>
 IdxA x23 x23N (0 : Int) 1 fun q24 =>
 LdSl (w1_2.cell? q24) fun x25 x25N x25C =>
 ∃ (I : Option Addr → Nat → Nat → Int → World → Prop) (m : Option Addr → Nat → Nat → Int → World → Nat), I none 0 0 (0 : Int) w1_2 ∧
 ∀ (l : Option Addr) (lN : Nat) (lC : Nat) (x27 : Int) (w1_3 : World), I l lN lC x27 w1_3 → F29_l6 x14_0 x25 x25N (fun l' lN' lC' x27' w2 => I l' lN' lC' x27' w2 ∧ m l' lN' lC' x27' w2 < m l lN lC x27 w1_3) l lN lC x27 w1_3 R))

def pl29 : Plan := ⟨42, ⟨[]⟩, [(10, ⟨[(8, (.s .slice))], [(8, 11), (29, 40)]⟩)], [(6, ⟨[(8, (.s .slice)), (27, (.s (.int .i64)))], [(8, 11), (27, 41)]⟩)]⟩

theorem eq29 (t_0 : ByteArray) (t_1 : Bool) (t_2 : Option Addr) (t_2N : Nat) (t_2C : Nat) (lists : Option Addr) (listsN : Nat) (listsC : Nat) (w : World) (R : Ending → World → Prop) : F29 t_0 t_1 t_2 t_2N t_2C lists listsN listsC w R = vc Try.prog Try.f29 pl29 R 100000 [.code (bodyOf Try.f29)] (argEnv 0 #[(.agg #[(.string t_0), (.bool t_1), (.slice t_2 t_2N t_2C)]), (.slice lists listsN listsC)].toList) w := by kernel_rfl

theorem ok29 (t_0 : ByteArray) (t_1 : Bool) (t_2 : Option Addr) (t_2N : Nat) (t_2C : Nat) (lists : Option Addr) (listsN : Nat) (listsC : Nat) {w : World} {R : Ending → World → Prop} (h : F29 t_0 t_1 t_2 t_2N t_2C lists listsN listsC w R) : Calls Try.prog 29 #[(.agg #[(.string t_0), (.bool t_1), (.slice t_2 t_2N t_2C)]), (.slice lists listsN listsC)] w R :=
  vc_calls (pl := pl29) Try.func29 (by kernel_rfl) (by kernel_rfl) (by kernel_rfl) (Eq.mp (eq29 t_0 t_1 t_2 t_2N t_2C lists listsN listsC w R) h)

-- twig.Used
def F26_j24 (L11 : Int → World → Prop) (x68 : Int) (w_4 : World) (R : Ending → World → Prop) : Prop :=
 InR .i64 (x68 + (1 : Int)) ∧ L11 (x68 + (1 : Int)) w_4

def F26_j21 (x29N : Nat) (g31 : Addr) (x35N : Nat) (g37 : Addr) (x43 : Int) (x68 : Int) (J24 : World → Prop) (n : Addr) (ok : Bool) (w_4 : World) (R : Ending → World → Prop) : Prop :=
 IdxA (some g31) (((x29N : Nat) : Int)).toNat x43 1 fun q120 =>
 LdSl (w_4.cell? q120) fun x121 x121N x121C =>
 IdxA x121 x121N x68 1 fun q124 =>
 St w_4 q124 (.bool ok) fun w1_18 =>
 Br ok
 (∃ S : World → Prop, S w1_18.drew ∧ IdxA (some g37) (((x35N : Nat) : Int)).toNat x43 1 fun q130 =>
 ∃ (x131 : Option Addr) (x131N : Nat) (x131C : Nat), Held S q130 (.slice x131 x131N x131C) ∧ ∃ (x133 : Int), Held S n (.int .u64 x133) ∧ Al w1_18.drew #[(.int .u64 x133)] 75 fun g134 w1_20 =>
 S w1_20 ∧ Raw Try.prog (Builtin.append_ #[53, 53] 53 #[(.slice x131 x131N x131C), (.slice (some g134) 1 1)]) w1_20 fun v3 w1_21 =>
 ∃ (x135 : Option Addr) (x135N : Nat) (x135C : Nat), v3 = (.slice x135 x135N x135C) ∧
 IdxA (some g37) (((x35N : Nat) : Int)).toNat x43 1 fun q136 =>
 St w1_21 q136 (.slice x135 x135N x135C) fun w1_22 =>
 J24 w1_22)
 (J24 w1_18)

def F26_j20 (L17 : Bool → Int → World → Prop) (x92 : Int) (ok2 : Bool) (w_5 : World) (R : Ending → World → Prop) : Prop :=
 InR .i64 (x92 + (1 : Int)) ∧ L17 ok2 (x92 + (1 : Int)) w_5

def F26_l17 (x20_0 : Option Addr) (x29N : Nat) (g31 : Addr) (x43 : Int) (g11 : Addr) (n : Addr) (J21 : Bool → World → Prop) (x90 : Option Addr) (x90N : Nat) (L17 : Bool → Int → World → Prop) (ok : Bool) (x92 : Int) (w_4 : World) (R : Ending → World → Prop) : Prop :=
 Br (decide (x92 < ((x90N : Nat) : Int)))
 (∃ J20 : Bool → World → Prop, (∀ (ok2 : Bool) (w1_19 : World), J20 ok2 w1_19 → F26_j20 L17 x92 ok2 w1_19 R) ∧
 (IdxA x90 x90N x92 4 fun q95 =>
 LdI .u64 (w_4.cell? q95) fun x96_0 =>
 LdI .u64 (w_4.cell? (q95.add 1)) fun x96_1 =>
 LdI .u64 (w_4.cell? (q95.add 2)) fun x96_2 =>
 LdI .i64 (w_4.cell? (q95.add 3)) fun x96_3 =>
 Al w_4 #[(.int .u64 0), (.int .u64 0), (.int .u64 0), (.int .i64 0)] 79 fun a w1_19 =>
 St w1_19 a (.int .u64 x96_0) fun w1_20 =>
 St w1_20 (a.add 1) (.int .u64 x96_1) fun w1_21 =>
 St w1_21 (a.add 2) (.int .u64 x96_2) fun w1_22 =>
 St w1_22 (a.add 3) (.int .i64 x96_3) fun w1_23 =>
 Br ok
 (J20 true w1_23)
 (LdI .i64 (w1_23.cell? (g11.add 3)) fun x101 =>
 IdxA (some g31) (((x29N : Nat) : Int)).toNat x101 1 fun q102 =>
 LdSl (w1_23.cell? q102) fun x103 x103N x103C =>
 IdxA x103 x103N x92 1 fun q105 =>
 LdB (w1_23.cell? q105) fun x106 =>
 Br x106
 (LdI .u64 (w1_23.cell? (a.add 1)) fun x111_0 =>
 LdI .u64 (w1_23.cell? ((a.add 1).add 1)) fun x111_1 =>
 LdI .i64 (w1_23.cell? ((a.add 1).add 2)) fun x111_2 =>
 LdI .u64 (w1_23.cell? (n.add 1)) fun x113_0 =>
 LdI .u64 (w1_23.cell? ((n.add 1).add 1)) fun x113_1 =>
 LdI .i64 (w1_23.cell? ((n.add 1).add 2)) fun x113_2 =>
 Calls Try.prog 48 #[(.pointer x20_0), (.int .i64 x43), (.agg #[(.int .u64 x111_0), (.int .u64 x111_1), (.int .i64 x111_2)]), (.agg #[(.int .u64 x113_0), (.int .u64 x113_1), (.int .i64 x113_2)])] w1_23 (post R fun v3 w1_24 =>
 ∃ (x114 : Bool), v3 = (.bool x114) ∧
 J20 x114 w1_24))
 (J20 false w1_23))))
 (J21 ok w_4)

def F26_l11 (x20_0 : Option Addr) (x29N : Nat) (g31 : Addr) (x35N : Nat) (g37 : Addr) (L7 : Int → World → Prop) (x43 : Int) (g11 : Addr) (x66 : Option Addr) (x66N : Nat) (L11 : Int → World → Prop) (x68 : Int) (w_3 : World) (R : Ending → World → Prop) : Prop :=
 Br (decide (x68 < ((x66N : Nat) : Int)))
 (∃ J24 : World → Prop, (∀  (w1_12 : World), J24 w1_12 → F26_j24 L11 x68 w1_12 R) ∧
 (IdxA x66 x66N x68 4 fun q71 =>
 LdI .u64 (w_3.cell? q71) fun x72_0 =>
 LdI .u64 (w_3.cell? (q71.add 1)) fun x72_1 =>
 LdI .u64 (w_3.cell? (q71.add 2)) fun x72_2 =>
 LdI .i64 (w_3.cell? (q71.add 3)) fun x72_3 =>
 Al w_3 #[(.int .u64 0), (.int .u64 0), (.int .u64 0), (.int .i64 0)] 79 fun n w1_12 =>
 St w1_12 n (.int .u64 x72_0) fun w1_13 =>
 St w1_13 (n.add 1) (.int .u64 x72_1) fun w1_14 =>
 St w1_14 (n.add 2) (.int .u64 x72_2) fun w1_15 =>
 St w1_15 (n.add 3) (.int .i64 x72_3) fun w1_16 =>
 Calls Try.prog 47 #[(.pointer x20_0), (.int .i64 x43), (.int .i64 x68)] w1_16 (post R fun v2 w1_17 =>
 ∃ (x76 : Bool), v2 = (.bool x76) ∧
 ∃ J21 : Bool → World → Prop, (∀ (ok : Bool) (w1_18 : World), J21 ok w1_18 → F26_j21 x29N g31 x35N g37 x43 x68 J24 n ok w1_18 R) ∧
 (Br x76
 (LdI .i64 (w1_17.cell? (g11.add 3)) fun x80 =>
 Br (decide (x80 ≥ (0 : Int)))
 (Dr w1_17 fun w1_18 =>
 NonNil x20_0 fun p84 =>
 LdSl (w1_18.cell? (p84.add 1)) fun x86 x86N x86C =>
 LdI .i64 (w1_18.cell? (g11.add 3)) fun x88 =>
 IdxA x86 x86N x88 1 fun q89 =>
 LdSl (w1_18.cell? q89) fun x90 x90N x90C =>
 ∃ (I : Bool → Int → World → Prop) (m : Bool → Int → World → Nat), I false (0 : Int) w1_18 ∧
 ∀ (ok : Bool) (x92 : Int) (w1_19 : World), I ok x92 w1_19 → F26_l17 x20_0 x29N g31 x43 g11 n J21 x90 x90N (fun ok' x92' w2 => I ok' x92' w2 ∧ m ok' x92' w2 < m ok x92 w1_19) ok x92 w1_19 R)
 (J21 x76 w1_17))
 (J21 x76 w1_17)))))
 (InR .i64 (x43 + (1 : Int)) ∧ L7 (x43 + (1 : Int)) w_3)

def F26_l7 (x20_0 : Option Addr) (x29N : Nat) (g31 : Addr) (x35N : Nat) (g37 : Addr) (x41 : Option Addr) (x41N : Nat) (L7 : Int → World → Prop) (x43 : Int) (w_2 : World) (R : Ending → World → Prop) : Prop :=
 Br (decide (x43 < ((x41N : Nat) : Int)))
 (IdxA x41 x41N x43 4 fun q46 =>
 LdStr (w_2.cell? q46) fun x47_0 =>
 LdB (w_2.cell? (q46.add 1)) fun x47_1 =>
 LdSl (w_2.cell? (q46.add 2)) fun x47_2 x47_2N x47_2C =>
 LdI .i64 (w_2.cell? (q46.add 3)) fun x47_3 =>
 Al w_2 #[(.string (ByteArray.mk #[])), (.bool false), (.slice none 0 0), (.int .i64 0)] 73 fun g11 w1_5 =>
 St w1_5 g11 (.string x47_0) fun w1_6 =>
 St w1_6 (g11.add 1) (.bool x47_1) fun w1_7 =>
 St w1_7 (g11.add 2) (.slice x47_2 x47_2N x47_2C) fun w1_8 =>
 St w1_8 (g11.add 3) (.int .i64 x47_3) fun w1_9 =>
 NonNil x20_0 fun p51 =>
 LdSl (w1_9.cell? (p51.add 1)) fun x53 x53N x53C =>
 IdxA x53 x53N x43 1 fun q55 =>
 LdSl (w1_9.cell? q55) fun x56 x56N x56C =>
 0 ≤ ((x56N : Nat) : Int) ∧ ((x56N : Nat) : Int) ≤ ((x56N : Nat) : Int) ∧ ((1 : Nat) : Int) * ((x56N : Nat) : Int) ≤ 281474976710656 ∧ Al w1_9 (zrow #[(.bool false)] ((((x56N : Nat) : Int)).toNat * 1)) 4 fun g58 w1_10 =>
 IdxA (some g31) (((x29N : Nat) : Int)).toNat x43 1 fun q59 =>
 St w1_10 q59 (.slice (some g58) (((x56N : Nat) : Int)).toNat (((x56N : Nat) : Int)).toNat) fun w1_11 =>
 NonNil x20_0 fun p61 =>
 LdSl (w1_11.cell? (p61.add 1)) fun x63 x63N x63C =>
 IdxA x63 x63N x43 1 fun q65 =>
 LdSl (w1_11.cell? q65) fun x66 x66N x66C =>
 ∃ (I : Int → World → Prop) (m : Int → World → Nat), I (0 : Int) w1_11 ∧
 ∀ (x68 : Int) (w1_12 : World), I x68 w1_12 → F26_l11 x20_0 x29N g31 x35N g37 L7 x43 g11 x66 x66N (fun x68' w2 => I x68' w2 ∧ m x68' w2 < m x68 w1_12) x68 w1_12 R)
 (R (.returned (.tuple #[(.slice (some g37) (((x35N : Nat) : Int)).toNat (((x35N : Nat) : Int)).toNat), (.int .i64 0)])) w_2)

def F26 (t_0 : ByteArray) (t_1 : Bool) (t_2 : Option Addr) (t_2N : Nat) (t_2C : Nat) (lists : Option Addr) (listsN : Nat) (listsC : Nat) (w_ : World) (R : Ending → World → Prop) : Prop :=
 Al w_ #[(.string t_0), (.bool t_1), (.slice t_2 t_2N t_2C)] 24 fun t w1 =>
 LdStr (w1.cell? t) fun x18_0 =>
 LdB (w1.cell? (t.add 1)) fun x18_1 =>
 LdSl (w1.cell? (t.add 2)) fun x18_2 x18_2N x18_2C =>
 Calls Try.prog 42 #[(.agg #[(.string x18_0), (.bool x18_1), (.slice x18_2 x18_2N x18_2C)]), (.slice lists listsN listsC)] w1 (post R fun v w1_2 =>
 ∃ (x20_0 : Option Addr) (x20_1 : Int), v = (.tuple #[(.pointer x20_0), (.int .i64 x20_1)]) ∧
 Br (x20_1 != (0 : Int))
 (R (.returned (.tuple #[(.slice none 0 0), (.int .i64 x20_1)])) w1_2)
 (NonNil x20_0 fun p27 =>
 LdSl (w1_2.cell? p27) fun x29 x29N x29C =>
 0 ≤ ((x29N : Nat) : Int) ∧ ((x29N : Nat) : Int) ≤ ((x29N : Nat) : Int) ∧ ((24 : Nat) : Int) * ((x29N : Nat) : Int) ≤ 281474976710656 ∧ Al w1_2 (zrow #[(.slice none 0 0)] ((((x29N : Nat) : Int)).toNat * 1)) 91 fun g31 w1_3 =>
 NonNil x20_0 fun p33 =>
 LdSl (w1_3.cell? p33) fun x35 x35N x35C =>
 0 ≤ ((x35N : Nat) : Int) ∧ ((x35N : Nat) : Int) ≤ ((x35N : Nat) : Int) ∧ ((24 : Nat) : Int) * ((x35N : Nat) : Int) ≤ 281474976710656 ∧ Al w1_3 (zrow #[(.slice none 0 0)] ((((x35N : Nat) : Int)).toNat * 1)) 53 fun g37 w1_4 =>
 NonNil x20_0 fun p39 =>
 LdSl (w1_4.cell? p39) fun x41 x41N x41C =>
 ∃ (I : Int → World → Prop) (m : Int → World → Nat), I (0 : Int) w1_4 ∧
 ∀ (x43 : Int) (w1_5 : World), I x43 w1_5 → F26_l7 x20_0 x29N g31 x35N g37 x41 x41N (fun x43' w2 => I x43' w2 ∧ m x43' w2 < m x43 w1_5) x43 w1_5 R))

def pl26 : Plan := ⟨140, ⟨[]⟩, [(20, ⟨[(14, (.s .bool))], [(14, 17), (94, 117)]⟩), (21, ⟨[(14, (.s .bool))], [(14, 17), (77, 118)]⟩), (24, ⟨[], [(12, 17), (70, 137)]⟩)], [(17, ⟨[(14, (.s .bool)), (92, (.s (.int .i64)))], [(14, 17), (92, 118)]⟩), (11, ⟨[(68, (.s (.int .i64)))], [(12, 17), (68, 138)]⟩), (7, ⟨[(43, (.s (.int .i64)))], [(10, 17), (43, 139)]⟩)]⟩

theorem eq26 (t_0 : ByteArray) (t_1 : Bool) (t_2 : Option Addr) (t_2N : Nat) (t_2C : Nat) (lists : Option Addr) (listsN : Nat) (listsC : Nat) (w : World) (R : Ending → World → Prop) : F26 t_0 t_1 t_2 t_2N t_2C lists listsN listsC w R = vc Try.prog Try.f26 pl26 R 100000 [.code (bodyOf Try.f26)] (argEnv 0 #[(.agg #[(.string t_0), (.bool t_1), (.slice t_2 t_2N t_2C)]), (.slice lists listsN listsC)].toList) w := by kernel_rfl

theorem ok26 (t_0 : ByteArray) (t_1 : Bool) (t_2 : Option Addr) (t_2N : Nat) (t_2C : Nat) (lists : Option Addr) (listsN : Nat) (listsC : Nat) {w : World} {R : Ending → World → Prop} (h : F26 t_0 t_1 t_2 t_2N t_2C lists listsN listsC w R) : Calls Try.prog 26 #[(.agg #[(.string t_0), (.bool t_1), (.slice t_2 t_2N t_2C)]), (.slice lists listsN listsC)] w R :=
  vc_calls (pl := pl26) Try.func26 (by kernel_rfl) (by kernel_rfl) (by kernel_rfl) (Eq.mp (eq26 t_0 t_1 t_2 t_2N t_2C lists listsN listsC w R) h)

end Go.Proofs.Ytbocfedmdjkccaa
/- Twigs: what is wrong with a list. -/
namespace Go.Proofs.Ytbocfedmdjkccaa
open Go.RowKit Go.Vc
set_option linter.unusedVariables false
set_option linter.unusedSimpArgs false
set_option maxRecDepth 100000
def listF (l : List Pl) : Int := if l.length > 4096 then 2 else oneF none l
theorem listR_calls (l : List Pl) (v : Sv) {w : World} (hl : RLv w l v) {R : Ending → World → Prop} (h : ∀ w', Below w.heap.size w w' → R (.returned (.int .i64 (listF l))) w') :
    Calls Try.prog 55 #[slv v] w R := by
  obtain ⟨hz, hn, hr⟩ := hl
  refine ok55 v.1 v.2.1 v.2.2 ?_
  unfold F55
  unfold listF at h
  refine brd (fun hgt => ?_) (fun hle => ?_)
  · rw [if_pos (by omega)] at h
    exact h w (Below.refl _ _)
  rw [if_neg (by omega)] at h
  refine ⟨fun i w1 => ∃ k : Nat, i = k ∧ k ≤ l.length ∧ Below w.heap.size w w1 ∧ oneF (prevB l k) (l.drop k) = oneF none l, fun i w1 => l.length - i.toNat, ⟨0, rfl, by omega, Below.refl _ _, by simp [prevB]⟩, ?_⟩
  rintro i w1 ⟨k, rfl, hk, hb, ho⟩
  unfold F55_l4
  refine brd (fun hlt => ?_) (fun hge => ?_)
  · have hk2 : k < l.length := by omega
    rw [oneF_step l k hk2] at ho
    refine ⟨fun w2 => Below w.heap.size w w2 ∧ oneF (prevB l (k + 1)) (l.drop (k + 1)) = oneF none l, ?_, ?_⟩
    · rintro w2 ⟨hb2, ho2⟩
      unfold F55_j5
      exact ⟨inR_i64 (by omega) (by omega), ⟨k + 1, by simp, by omega, hb2, ho2⟩, by dsimp only; omega⟩
    · refine (hr.keep hb).pl hn rfl hk2 fun b o c0 c1 c2 c3 => ?_
      simp only [Addr.add_mk, Nat.add_assoc, Nat.reduceAdd, c0, c1, c2, c3, Addr.add_mk, List.getElem?_toArray, List.getElem?_cons_zero, List.getElem?_cons_succ, LdI_some, LdB_some, LdStr_some, LdP_some, LdSl_some, LdM_some, Nat.zero_add, Br_t, Br_f]
      refine valid_calls l[k].s fun w3 hb3 => ⟨_, rfl, ?_⟩
      have B3 := btr hb hb.size hb3
      cases hc : canB l[k].s with
      | false =>
        rw [if_pos hc] at ho
        rw [← ho] at h
        exact h w3 B3
      | true =>
        rw [if_neg (by rw [hc]; decide)] at ho
        simp only [Bool.not_true, Br_f]
        refine dr fun w4 hb4 _ => ?_
        have B4 := btr B3 B3.size hb4
        cases k with
        | zero =>
          simp only [prevB, leO, Bool.false_eq_true, if_false] at ho
          rw [show decide (((0 : Nat) : Int) > 0) = false from rfl, Br_f]
          exact ⟨B4, ho⟩
        | succ k =>
          rw [show decide (((k + 1 : Nat) : Int) > 0) = true by simp, Br_t]
          refine (hr.keep B4).pl hn rfl hk2 fun b o c0 c1 c2 c3 => ?_
          simp only [Addr.add_mk, c1, Addr.add_mk, List.getElem?_toArray, List.getElem?_cons_zero, List.getElem?_cons_succ, LdI_some, LdB_some, LdStr_some, LdP_some, LdSl_some, LdM_some, Nat.zero_add, Br_t, Br_f]
          refine ⟨inR_i64 (by omega) (by omega), ?_⟩
          refine (hr.keep B4).pl hn (k := k) (by simp) (by omega) fun b o c0 c1 c2 c3 => ?_
          simp only [Addr.add_mk, c1, Addr.add_mk, List.getElem?_toArray, List.getElem?_cons_zero, List.getElem?_cons_succ, LdI_some, LdB_some, LdStr_some, LdP_some, LdSl_some, LdM_some, Nat.zero_add, Br_t, Br_f]
          have hp : prevB l (k + 1) = some l[k].s.b := by simp only [prevB]; rw [List.getElem?_eq_getElem (by omega)]; simp
          rw [hp, leO] at ho
          refine brd (fun hle => ?_) (fun hle => ?_)
          · rw [if_pos (by simpa using hle)] at ho
            rw [← ho] at h
            exact h w4 B4
          · rw [if_neg (by simpa using hle)] at ho
            exact ⟨B4, ho⟩
  · rw [← ho, List.drop_of_length_le (by omega), oneF] at h
    exact h w1 hb
theorem oneP_calls (l : List Pl) (v : Sv) {w : World} (hl : RLv w l v) {R : Ending → World → Prop} (h : ∀ w', Below w.heap.size w w' → R (.returned (.int .i64 (listF l))) w') :
    Calls Try.prog 77 #[slv v] w R := by
  obtain ⟨hz, hn, hr⟩ := hl
  refine ok77 v.1 v.2.1 v.2.2 ?_
  unfold F77
  unfold listF at h
  refine brd (fun hgt => ?_) (fun hle => ?_)
  · rw [if_pos (by omega)] at h
    exact h w (Below.refl _ _)
  rw [if_neg (by omega)] at h
  refine ⟨fun i w1 => ∃ k : Nat, i = k ∧ k ≤ l.length ∧ Below w.heap.size w w1 ∧ oneF (prevB l k) (l.drop k) = oneF none l, fun i w1 => l.length - i.toNat, ⟨0, rfl, by omega, Below.refl _ _, by simp [prevB]⟩, ?_⟩
  rintro i w1 ⟨k, rfl, hk, hb, ho⟩
  unfold F77_l4
  refine brd (fun hlt => ?_) (fun hge => ?_)
  · have hk2 : k < l.length := by omega
    rw [oneF_step l k hk2] at ho
    refine ⟨fun w2 => Below w.heap.size w w2 ∧ oneF (prevB l (k + 1)) (l.drop (k + 1)) = oneF none l, ?_, ?_⟩
    · rintro w2 ⟨hb2, ho2⟩
      unfold F77_j11
      exact ⟨inR_i64 (by omega) (by omega), ⟨k + 1, by simp, by omega, hb2, ho2⟩, by dsimp only; omega⟩
    · refine (hr.keep hb).pl hn rfl hk2 fun b o c0 c1 c2 c3 => ?_
      simp only [Addr.add_mk, c0, c1, c2, c3, Addr.add_mk, List.getElem?_toArray, List.getElem?_cons_zero, List.getElem?_cons_succ, LdI_some, LdB_some, LdStr_some, LdP_some, LdSl_some, LdM_some, Nat.zero_add, Br_t, Br_f]
      refine al4 fun gp w2 hb2 bp _ => ?_
      simp only [Addr.add_mk, Nat.add_assoc, Nat.reduceAdd, bp.cell, List.getElem?_toArray, List.getElem?_cons_zero, List.getElem?_cons_succ, Addr.add_mk, List.getElem?_toArray, List.getElem?_cons_zero, List.getElem?_cons_succ, LdI_some, LdB_some, LdStr_some, LdP_some, LdSl_some, LdM_some, Nat.zero_add, Br_t, Br_f]
      refine al3 fun gs w3 hb3 bs _ => ?_
      have B3 := btr (btr hb hb.size hb2) (Nat.le_trans hb.size hb2.size) hb3
      refine ⟨fun w4 => w3 = w4 ∧ canB l[k].s = true, ?_, ?_⟩
      · rintro _ ⟨rfl, hc⟩
        unfold F77_j9
        rw [if_neg (by rw [hc]; decide)] at ho
        refine dr fun w4 hb4 _ => ?_
        have B4 := btr B3 B3.size hb4
        have bs4 := bs.keep hb4
        cases k with
        | zero =>
          simp only [prevB, leO, Bool.false_eq_true, if_false] at ho
          rw [show decide (((0 : Nat) : Int) > 0) = false from rfl, Br_f]
          exact ⟨B4, ho⟩
        | succ k =>
          rw [show decide (((k + 1 : Nat) : Int) > 0) = true by simp, Br_t]
          simp only [bs4.cell, List.getElem?_toArray, List.getElem?_cons_zero, Addr.add_mk, List.getElem?_toArray, List.getElem?_cons_zero, List.getElem?_cons_succ, LdI_some, LdB_some, LdStr_some, LdP_some, LdSl_some, LdM_some, Nat.zero_add, Br_t, Br_f]
          refine ⟨inR_i64 (by omega) (by omega), ?_⟩
          refine (hr.keep B4).pl hn (k := k) (by simp) (by omega) fun b o c0 c1 c2 c3 => ?_
          simp only [Addr.add_mk, c1, Addr.add_mk, List.getElem?_toArray, List.getElem?_cons_zero, List.getElem?_cons_succ, LdI_some, LdB_some, LdStr_some, LdP_some, LdSl_some, LdM_some, Nat.zero_add, Br_t, Br_f]
          have hp : prevB l (k + 1) = some l[k].s.b := by simp only [prevB]; rw [List.getElem?_eq_getElem (by omega)]; simp
          rw [hp, leO] at ho
          refine brd (fun hle => ?_) (fun hle => ?_)
          · rw [if_pos (by simpa using hle)] at ho
            rw [← ho] at h
            exact h w4 B4
          · rw [if_neg (by simpa using hle)] at ho
            exact ⟨B4, ho⟩
      · have bad : canB l[k].s = false → R (.returned (.int .i64 110)) w3 := fun hc => by
          rw [if_pos hc] at ho
          rw [← ho] at h
          exact h w3 B3
        simp only [Addr.add_mk, Nat.add_assoc, Nat.reduceAdd, bs.cell, List.getElem?_toArray, List.getElem?_cons_zero, List.getElem?_cons_succ, Addr.add_mk, List.getElem?_toArray, List.getElem?_cons_zero, List.getElem?_cons_succ, LdI_some, LdB_some, LdStr_some, LdP_some, LdSl_some, LdM_some, Nat.zero_add, Br_t, Br_f]
        have hcan : canB l[k].s = (decide (l[k].s.b ≥ 1) && (decide (l[k].s.b < l[k].s.e) && (decide (l[k].s.e < 4611686018427387904) && (decide (l[k].s.l ≥ 0) && decide (l[k].s.l < 64))))) := rfl
        repeat' refine brd (fun _ => ?_) (fun _ => ?_)
        all_goals first
          | exact bad (by rw [hcan]; simp only [Bool.and_eq_false_iff, decide_eq_false_iff_not]; omega)
          | exact ⟨by trivial, by rw [hcan]; simp only [Bool.and_eq_true, decide_eq_true_eq]; omega⟩
  · rw [← ho, List.drop_of_length_le (by omega), oneF] at h
    exact h w1 hb
end Go.Proofs.Ytbocfedmdjkccaa
/- Twigs: spans of a list; two lists of spans, by their begins. -/
namespace Go.Proofs.Ytbocfedmdjkccaa
open Go.RowKit Go.Vc
set_option linter.unusedVariables false
set_option linter.unusedSimpArgs false
set_option maxRecDepth 100000
theorem push_span {w1 : World} {base : Nat} {out : Option Addr} {outN outC : Nat} {pre : List Sp} (ho : Own LSp w1 base 77 (.slice out outN outC) pre) (hb : base ≤ w1.heap.size) (hl : pre.length ≤ 16777216) (s : Sp) {K : Value → World → Prop}
    (hK : ∀ A' c' w2, Own LSp w2 base 77 (.slice A' (pre.length + 1) c') (pre ++ [s]) → Below base w1 w2 → K (.slice A' (pre.length + 1) c') w2) :
    Al w1 #[.int .u64 s.b, .int .u64 s.e, .int .i64 s.l] 77 fun g w2 => Raw Try.prog (Builtin.append_ #[119, 119] 119 #[.slice out outN outC, .slice (some g) 1 1]) w2 K :=
  ap1 (L := LSp) (x := s) (.agg #[.int .u64 0, .int .u64 0, .int .i64 0]) 24 rfl rfl rfl rfl ho hb (by omega) (by simp [maxLen]; omega) fun A' c' w2 ho2 hg => hK A' c' w2 ho2 hg.below
theorem spans_calls (l : List Pl) (v : Sv) {w : World} (hl : RLv w l v) {R : Ending → World → Prop}
    (h : ∀ v' w', Below w.heap.size w w' → Own LSp w' w.heap.size 77 (slv v') (l.map (·.s)) → R (.returned (slv v')) w') :
    Calls Try.prog 74 #[slv v] w R := by
  obtain ⟨hz, hn, hr⟩ := hl
  refine ok74 v.1 v.2.1 v.2.2 ?_
  unfold F74
  refine ⟨fun out outN outC i w1 => ∃ k : Nat, i = k ∧ k ≤ l.length ∧ Below w.heap.size w w1 ∧ Own LSp w1 w.heap.size 77 (.slice out outN outC) ((l.take k).map (·.s)), fun _ _ _ i w1 => l.length - i.toNat, ⟨0, rfl, by omega, Below.refl _ _, by simpa using Own.nil _ _ _ _⟩, ?_⟩
  rintro out outN outC i w1 ⟨k, rfl, hk, hb, ho⟩
  unfold F74_l3
  refine brd (fun hlt => ?_) (fun hge => ?_)
  · have hk2 : k < l.length := by omega
    refine (hr.keep hb).pl hn rfl hk2 fun b o c0 c1 c2 c3 => ?_
    simp only [Addr.add_mk, Nat.add_assoc, Nat.reduceAdd, c0, c1, c2, c3, Addr.add_mk, List.getElem?_toArray, List.getElem?_cons_zero, List.getElem?_cons_succ, LdI_some, LdB_some, LdStr_some, LdP_some, LdSl_some, LdM_some, Nat.zero_add, Br_t, Br_f]
    refine push_span ho hb.size (by simp; omega) l[k].s fun A' c' w2 ho2 hb2 => ⟨A', _, c', rfl, inR_i64 (by omega) (by omega), ⟨k + 1, by simp, by omega, hb.trans hb2, ?_⟩, by omega⟩
    rw [List.take_succ_eq_append_getElem hk2, List.map_append]
    exact ho2
  · have hk2 : k = l.length := by omega
    subst hk2
    rw [List.take_length] at ho
    exact h (out, outN, outC) w1 hb ho
theorem mergeS_l {x : Sp} {p q : List Sp} (h : ∀ y r, q = y :: r → x.b ≤ y.b) : mergeS (x :: p) q = x :: mergeS p q := by
  cases q with
  | nil => rw [mergeS_nil, mergeS_nil]
  | cons y r => rw [mergeS, if_pos (h y r rfl)]
theorem mergeS_r {y : Sp} {p q : List Sp} (h : ∀ x r, p = x :: r → ¬ x.b ≤ y.b) : mergeS p (y :: q) = y :: mergeS p q := by
  cases p with
  | nil => simp [mergeS]
  | cons x r => rw [mergeS, if_neg (h x r rfl)]
theorem merged_calls (a b : List Sp) (u v : Sv) {w : World} (hu : u.2.1 = a.length) (hv : v.2.1 = b.length) (ha : Rd LSp w u.1 u.2.2 a) (hb : Rd LSp w v.1 v.2.2 b) (hz : a.length + b.length ≤ 16777216) {R : Ending → World → Prop}
    (h : ∀ v' w', Below w.heap.size w w' → Own LSp w' w.heap.size 77 (slv v') (mergeS a b) → R (.returned (slv v')) w') :
    Calls Try.prog 73 #[slv u, slv v] w R := by
  refine ok73 u.1 u.2.1 u.2.2 v.1 v.2.1 v.2.2 ?_
  unfold F73
  refine ⟨fun out outN outC w' => Below w.heap.size w w' ∧ Own LSp w' w.heap.size 77 (.slice out outN outC) (mergeS a b), fun out outN outC w' hh => h (out, outN, outC) w' hh.1 hh.2, ?_⟩
  refine ⟨fun out outN outC i k w1 => ∃ (m n : Nat) (pre : List Sp), i = m ∧ k = n ∧ m ≤ a.length ∧ n ≤ b.length ∧ Below w.heap.size w w1 ∧ Own LSp w1 w.heap.size 77 (.slice out outN outC) pre ∧ pre ++ mergeS (a.drop m) (b.drop n) = mergeS a b,
    fun _ _ _ i k _ => (a.length - i.toNat) + (b.length - k.toNat), ⟨0, 0, [], rfl, rfl, by omega, by omega, Below.refl _ _, Own.nil _ _ _ _, by simp⟩, ?_⟩
  rintro out outN outC i k w1 ⟨m, n, pre, rfl, rfl, hm, hn, hb1, ho, heq⟩
  have hlen : pre.length ≤ 16777216 := by
    have := congrArg List.length heq
    rw [List.length_append, mergeS_len, mergeS_len] at this
    omega
  unfold F73_l3
  refine ⟨fun w' => w1 = w' ∧ (m < a.length ∨ n < b.length), ?_, ?_⟩
  · rintro _ ⟨rfl, hor⟩
    unfold F73_j4
    refine dr fun w2 hb2 _ => ?_
    have B2 := btr hb1 hb1.size hb2
    have ho2 := ho.keep hb2
    have hs2 : w.heap.size ≤ w2.heap.size := B2.size
    refine bre (fun h0 => ?_) (fun h0 => ?_)
    · have hm2 : m < a.length := by omega
      (refine (ha.keep B2).sp hu rfl (k := m) hm2 fun q o c0 c1 c2 => ?_; simp only [Addr.add_mk, c0, c1, c2, Addr.add_mk, List.getElem?_toArray, List.getElem?_cons_zero, List.getElem?_cons_succ, LdI_some, LdB_some, LdStr_some, LdP_some, LdSl_some, LdM_some, Nat.zero_add, Br_t, Br_f]; refine push_span ho2 hs2 hlen a[m] fun A' c' w3 ho3 hb3 => ⟨A', _, c', rfl, inR_i64 (by omega) (by omega), ⟨m + 1, n, pre ++ [a[m]], by simp, by simp, by omega, by omega, B2.trans hb3, ho3, ?_⟩, by omega⟩)
      rw [← heq, List.drop_eq_getElem_cons hm2, mergeS_l (by rw [List.drop_of_length_le (by omega)]; simp)]; simp
    · have hn2 : n < b.length := by omega
      refine brd (fun hlt => ?_) (fun hge => ?_)
      · have hm2 : m < a.length := by omega
        refine (ha.keep B2).sp hu rfl (k := m) hm2 fun q o c0 c1 c2 => ?_
        simp only [c0, Addr.add_mk, List.getElem?_toArray, List.getElem?_cons_zero, List.getElem?_cons_succ, LdI_some, LdB_some, LdStr_some, LdP_some, LdSl_some, LdM_some, Nat.zero_add, Br_t, Br_f]
        refine (hb.keep B2).sp hv rfl (k := n) hn2 fun q o c0 c1 c2 => ?_
        simp only [c0, Addr.add_mk, List.getElem?_toArray, List.getElem?_cons_zero, List.getElem?_cons_succ, LdI_some, LdB_some, LdStr_some, LdP_some, LdSl_some, LdM_some, Nat.zero_add, Br_t, Br_f]
        refine brd (fun hle => ?_) (fun hle => ?_)
        · (refine (ha.keep B2).sp hu rfl (k := m) hm2 fun q o c0 c1 c2 => ?_; simp only [Addr.add_mk, c0, c1, c2, Addr.add_mk, List.getElem?_toArray, List.getElem?_cons_zero, List.getElem?_cons_succ, LdI_some, LdB_some, LdStr_some, LdP_some, LdSl_some, LdM_some, Nat.zero_add, Br_t, Br_f]; refine push_span ho2 hs2 hlen a[m] fun A' c' w3 ho3 hb3 => ⟨A', _, c', rfl, inR_i64 (by omega) (by omega), ⟨m + 1, n, pre ++ [a[m]], by simp, by simp, by omega, by omega, B2.trans hb3, ho3, ?_⟩, by omega⟩)
          rw [← heq, List.drop_eq_getElem_cons hm2, List.drop_eq_getElem_cons hn2, mergeS_l (by rintro _ _ ⟨⟩; exact hle)]; simp
        · (refine (hb.keep B2).sp hv rfl (k := n) hn2 fun q o c0 c1 c2 => ?_; simp only [Addr.add_mk, c0, c1, c2, Addr.add_mk, List.getElem?_toArray, List.getElem?_cons_zero, List.getElem?_cons_succ, LdI_some, LdB_some, LdStr_some, LdP_some, LdSl_some, LdM_some, Nat.zero_add, Br_t, Br_f]; refine push_span ho2 hs2 hlen b[n] fun A' c' w3 ho3 hb3 => ⟨A', _, c', rfl, inR_i64 (by omega) (by omega), ⟨m, n + 1, pre ++ [b[n]], by simp, by simp, by omega, by omega, B2.trans hb3, ho3, ?_⟩, by omega⟩)
          rw [← heq, List.drop_eq_getElem_cons hn2, mergeS_r (by rw [List.drop_eq_getElem_cons hm2]; rintro _ _ ⟨⟩; exact hle)]; simp
      · (refine (hb.keep B2).sp hv rfl (k := n) hn2 fun q o c0 c1 c2 => ?_; simp only [Addr.add_mk, c0, c1, c2, Addr.add_mk, List.getElem?_toArray, List.getElem?_cons_zero, List.getElem?_cons_succ, LdI_some, LdB_some, LdStr_some, LdP_some, LdSl_some, LdM_some, Nat.zero_add, Br_t, Br_f]; refine push_span ho2 hs2 hlen b[n] fun A' c' w3 ho3 hb3 => ⟨A', _, c', rfl, inR_i64 (by omega) (by omega), ⟨m, n + 1, pre ++ [b[n]], by simp, by simp, by omega, by omega, B2.trans hb3, ho3, ?_⟩, by omega⟩)
        rw [← heq, List.drop_eq_getElem_cons hn2, mergeS_r (by rw [List.drop_of_length_le (by omega)]; simp)]; simp
  · refine brd (fun hlt => ⟨by trivial, .inl (by omega)⟩) (fun hge => ?_)
    refine brd (fun hlt => ⟨by trivial, .inr (by omega)⟩) (fun hge2 => ?_)
    rw [List.drop_of_length_le (by omega), List.drop_of_length_le (by omega), mergeS_nil, List.append_nil] at heq
    rw [heq] at ho
    exact ⟨hb1, ho⟩
end Go.Proofs.Ytbocfedmdjkccaa
