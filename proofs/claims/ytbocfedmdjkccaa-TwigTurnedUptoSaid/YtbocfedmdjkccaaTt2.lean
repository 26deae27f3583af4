import Derived.Test.YtbocfedmdjkccaaProg
import Derived.Test.YtbocfedmdjkccaaRows
import Derived.Lib.SmallJoins
import Derived.Laws.Closers25b
import Derived.Test.YtbocfedmdjkccaaTt1
set_option linter.unusedVariables false
set_option maxRecDepth 100000
namespace Go.Proofs.Ytbocfedmdjkccaa
open Go.Vc
-- espalierlaw12.copied
def F7_l3 (t : Addr) (g2 : Addr) (L3 : Option Addr → Nat → Nat → Int → World → Prop) (l : Option Addr) (lN : Nat) (lC : Nat) (i : Int) (w_2 : World) (R : Ending → World → Prop) : Prop :=
 LdSl (w_2.cell? (t.add 2)) fun x12 x12N x12C =>
 Br (decide (i < ((x12N : Nat) : Int)))
 (LdSl (w_2.cell? (t.add 2)) fun x19 x19N x19C =>
 IdxA x19 x19N i 3 fun q21 =>
 LdStr (w_2.cell? q21) fun x22_0 =>
 LdB (w_2.cell? (q21.add 1)) fun x22_1 =>
 LdSl (w_2.cell? (q21.add 2)) fun x22_2 x22_2N x22_2C =>
 Calls Try.prog 7 #[(.agg #[(.string x22_0), (.bool x22_1), (.slice x22_2 x22_2N x22_2C)])] w_2 (post R fun v w1_4 =>
 ∃ (x23_0 : ByteArray) (x23_1 : Bool) (x23_2 : Option Addr) (x23_2N : Nat) (x23_2C : Nat), v = (.agg #[(.string x23_0), (.bool x23_1), (.slice x23_2 x23_2N x23_2C)]) ∧
 Al w1_4 #[(.string x23_0), (.bool x23_1), (.slice x23_2 x23_2N x23_2C)] 24 fun g24 w1_5 =>
 Raw Try.prog (Builtin.append_ #[22, 22] 22 #[(.slice l lN lC), (.slice (some g24) 1 1)]) w1_5 fun v2 w1_6 =>
 ∃ (x25 : Option Addr) (x25N : Nat) (x25C : Nat), v2 = (.slice x25 x25N x25C) ∧
 InR .i64 (i + (1 : Int)) ∧ L3 x25 x25N x25C (i + (1 : Int)) w1_6))
 (St w_2 (t.add 2) (.slice l lN lC) fun w1_4 =>
 LdStr (w1_4.cell? t) fun x28_0 =>
 LdB (w1_4.cell? (t.add 1)) fun x28_1 =>
 LdSl (w1_4.cell? (t.add 2)) fun x28_2 x28_2N x28_2C =>
 St w1_4 g2 (.string x28_0) fun w1_5 =>
 St w1_5 (g2.add 1) (.bool x28_1) fun w1_6 =>
 St w1_6 (g2.add 2) (.slice x28_2 x28_2N x28_2C) fun w1_7 =>
 LdStr (w1_7.cell? g2) fun res0_0 =>
 LdB (w1_7.cell? (g2.add 1)) fun res0_1 =>
 LdSl (w1_7.cell? (g2.add 2)) fun res0_2 res0_2N res0_2C =>
 R (.returned (.agg #[(.string res0_0), (.bool res0_1), (.slice res0_2 res0_2N res0_2C)])) w1_7)

def F7 (t_0 : ByteArray) (t_1 : Bool) (t_2 : Option Addr) (t_2N : Nat) (t_2C : Nat) (w_ : World) (R : Ending → World → Prop) : Prop :=
 Al w_ #[(.string t_0), (.bool t_1), (.slice t_2 t_2N t_2C)] 24 fun t w1 =>
 Al w1 #[(.string (ByteArray.mk #[])), (.bool false), (.slice none 0 0)] 24 fun g2 w1_2 =>
 LdSl (w1_2.cell? (t.add 2)) fun x6 x6N x6C =>
 InR .i64 (((x6N : Nat) : Int) + (1 : Int)) ∧ 0 ≤ (0 : Int) ∧ (0 : Int) ≤ (((x6N : Nat) : Int) + (1 : Int)) ∧ ((48 : Nat) : Int) * (((x6N : Nat) : Int) + (1 : Int)) ≤ 281474976710656 ∧ Al w1_2 (zrow #[(.string (ByteArray.mk #[])), (.bool false), (.slice none 0 0)] (((((x6N : Nat) : Int) + (1 : Int))).toNat * 3)) 24 fun g9 w1_3 =>
 ∃ (I : Option Addr → Nat → Nat → Int → World → Prop) (m : Option Addr → Nat → Nat → Int → World → Nat), I (some g9) ((0 : Int)).toNat ((((x6N : Nat) : Int) + (1 : Int))).toNat (0 : Int) w1_3 ∧
 ∀ (l : Option Addr) (lN : Nat) (lC : Nat) (i : Int) (w1_4 : World), I l lN lC i w1_4 → F7_l3 t g2 (fun l' lN' lC' i' w2 => I l' lN' lC' i' w2 ∧ m l' lN' lC' i' w2 < m l lN lC i w1_4) l lN lC i w1_4 R

def pl7 : Plan := ⟨29, ⟨[]⟩, [], [(3, ⟨[(3, (.s .slice)), (4, (.s (.int .i64)))], [(3, 26)]⟩)]⟩

theorem eq7 (t_0 : ByteArray) (t_1 : Bool) (t_2 : Option Addr) (t_2N : Nat) (t_2C : Nat) (w : World) (R : Ending → World → Prop) : F7 t_0 t_1 t_2 t_2N t_2C w R = vc Try.prog Try.f7 pl7 R 100000 [.code (bodyOf Try.f7)] (argEnv 0 #[(.agg #[(.string t_0), (.bool t_1), (.slice t_2 t_2N t_2C)])].toList) w := by kernel_rfl

theorem ok7 (t_0 : ByteArray) (t_1 : Bool) (t_2 : Option Addr) (t_2N : Nat) (t_2C : Nat) {w : World} {R : Ending → World → Prop} (h : F7 t_0 t_1 t_2 t_2N t_2C w R) : Calls Try.prog 7 #[(.agg #[(.string t_0), (.bool t_1), (.slice t_2 t_2N t_2C)])] w R :=
  vc_calls (pl := pl7) Try.func7 (by kernel_rfl) (by kernel_rfl) (by kernel_rfl) (Eq.mp (eq7 t_0 t_1 t_2 t_2N t_2C w R) h)

-- espalierlaw12.own
def F8_l3 (lists : Option Addr) (listsN : Nat) (L3 : Option Addr → Nat → Nat → Int → World → Prop) (out : Option Addr) (outN : Nat) (outC : Nat) (i : Int) (w_2 : World) (R : Ending → World → Prop) : Prop :=
 Br (decide (i < ((listsN : Nat) : Int)))
 (∃ S : World → Prop, S w_2.drew ∧ IdxA lists listsN i 1 fun q18 =>
 ∃ (x19 : Option Addr) (x19N : Nat) (x19C : Nat), Held S q18 (.slice x19 x19N x19C) ∧ InR .i64 (((x19N : Nat) : Int) + (1 : Int)) ∧ IdxA lists listsN i 1 fun q25 =>
 ∃ (x26 : Option Addr) (x26N : Nat) (x26C : Nat), Held S q25 (.slice x26 x26N x26C) ∧ 0 ≤ (0 : Int) ∧ (0 : Int) ≤ (((x19N : Nat) : Int) + (1 : Int)) ∧ ((32 : Nat) : Int) * (((x19N : Nat) : Int) + (1 : Int)) ≤ 281474976710656 ∧ Al w_2.drew (zrow #[(.int .u64 0), (.int .u64 0), (.int .u64 0), (.int .i64 0)] (((((x19N : Nat) : Int) + (1 : Int))).toNat * 4)) 79 fun g22 w1_3 =>
 S w1_3 ∧ Raw Try.prog (Builtin.append_ #[51, 51] 51 #[(.slice (some g22) ((0 : Int)).toNat ((((x19N : Nat) : Int) + (1 : Int))).toNat), (.slice x26 x26N x26C)]) w1_3 fun v w1_4 =>
 ∃ (x27 : Option Addr) (x27N : Nat) (x27C : Nat), v = (.slice x27 x27N x27C) ∧
 Al w1_4 #[(.slice x27 x27N x27C)] 51 fun g28 w1_5 =>
 Raw Try.prog (Builtin.append_ #[25, 25] 25 #[(.slice out outN outC), (.slice (some g28) 1 1)]) w1_5 fun v2 w1_6 =>
 ∃ (x29 : Option Addr) (x29N : Nat) (x29C : Nat), v2 = (.slice x29 x29N x29C) ∧
 InR .i64 (i + (1 : Int)) ∧ L3 x29 x29N x29C (i + (1 : Int)) w1_6)
 (R (.returned (.slice out outN outC)) w_2)

def F8 (lists : Option Addr) (listsN : Nat) (listsC : Nat) (w_ : World) (R : Ending → World → Prop) : Prop :=
 InR .i64 (((listsN : Nat) : Int) + (1 : Int)) ∧ 0 ≤ (0 : Int) ∧ (0 : Int) ≤ (((listsN : Nat) : Int) + (1 : Int)) ∧ ((24 : Nat) : Int) * (((listsN : Nat) : Int) + (1 : Int)) ≤ 281474976710656 ∧ Al w_ (zrow #[(.slice none 0 0)] (((((listsN : Nat) : Int) + (1 : Int))).toNat * 1)) 51 fun g8 w1 =>
 ∃ (I : Option Addr → Nat → Nat → Int → World → Prop) (m : Option Addr → Nat → Nat → Int → World → Nat), I (some g8) ((0 : Int)).toNat ((((listsN : Nat) : Int) + (1 : Int))).toNat (0 : Int) w1 ∧
 ∀ (out : Option Addr) (outN : Nat) (outC : Nat) (i : Int) (w1_2 : World), I out outN outC i w1_2 → F8_l3 lists listsN (fun out' outN' outC' i' w2 => I out' outN' outC' i' w2 ∧ m out' outN' outC' i' w2 < m out outN outC i w1_2) out outN outC i w1_2 R

def pl8 : Plan := ⟨31, ⟨[]⟩, [], [(3, ⟨[(3, (.s .slice)), (4, (.s (.int .i64)))], [(3, 30)]⟩)]⟩

theorem eq8 (lists : Option Addr) (listsN : Nat) (listsC : Nat) (w : World) (R : Ending → World → Prop) : F8 lists listsN listsC w R = vc Try.prog Try.f8 pl8 R 100000 [.code (bodyOf Try.f8)] (argEnv 0 #[(.slice lists listsN listsC)].toList) w := by kernel_rfl

theorem ok8 (lists : Option Addr) (listsN : Nat) (listsC : Nat) {w : World} {R : Ending → World → Prop} (h : F8 lists listsN listsC w R) : Calls Try.prog 8 #[(.slice lists listsN listsC)] w R :=
  vc_calls (pl := pl8) Try.func8 (by kernel_rfl) (by kernel_rfl) (by kernel_rfl) (Eq.mp (eq8 lists listsN listsC w R) h)

-- espalierlaw12.equal
def F18_l4 (a : Addr) (b : Addr) (L4 : Int → World → Prop) (i : Int) (w_3 : World) (R : Ending → World → Prop) : Prop :=
 LdSl (w_3.cell? (a.add 2)) fun x29 x29N x29C =>
 Br (decide (i < ((x29N : Nat) : Int)))
 (∃ S : World → Prop, S w_3.drew ∧ ∃ (x35 : Option Addr) (x35N : Nat) (x35C : Nat), Held S (a.add 2) (.slice x35 x35N x35C) ∧ IdxA x35 x35N i 3 fun q37 =>
 ∃ (x38_0 : ByteArray), Held S q37 (.string x38_0) ∧ ∃ (x38_1 : Bool), Held S (q37.add 1) (.bool x38_1) ∧ ∃ (x38_2 : Option Addr) (x38_2N : Nat) (x38_2C : Nat), Held S (q37.add 2) (.slice x38_2 x38_2N x38_2C) ∧ ∃ (x40 : Option Addr) (x40N : Nat) (x40C : Nat), Held S (b.add 2) (.slice x40 x40N x40C) ∧ IdxA x40 x40N i 3 fun q42 =>
 ∃ (x43_0 : ByteArray), Held S q42 (.string x43_0) ∧ ∃ (x43_1 : Bool), Held S (q42.add 1) (.bool x43_1) ∧ ∃ (x43_2 : Option Addr) (x43_2N : Nat) (x43_2C : Nat), Held S (q42.add 2) (.slice x43_2 x43_2N x43_2C) ∧ Calls Try.prog 18 #[(.agg #[(.string x38_0), (.bool x38_1), (.slice x38_2 x38_2N x38_2C)]), (.agg #[(.string x43_0), (.bool x43_1), (.slice x43_2 x43_2N x43_2C)])] w_3.drew (post R fun v w1_4 =>
 ∃ (x44 : Bool), v = (.bool x44) ∧
 Br (!x44)
 (R (.returned (.bool false)) w1_4)
 (InR .i64 (i + (1 : Int)) ∧ L4 (i + (1 : Int)) w1_4)))
 (R (.returned (.bool true)) w_3)

def F18_j3 (a : Addr) (b : Addr) (w_2 : World) (R : Ending → World → Prop) : Prop :=
 ∃ (I : Int → World → Prop) (m : Int → World → Nat), I (0 : Int) w_2 ∧
 ∀ (i : Int) (w1_3 : World), I i w1_3 → F18_l4 a b (fun i' w2 => I i' w2 ∧ m i' w2 < m i w1_3) i w1_3 R

def F18 (a_0 : ByteArray) (a_1 : Bool) (a_2 : Option Addr) (a_2N : Nat) (a_2C : Nat) (b_0 : ByteArray) (b_1 : Bool) (b_2 : Option Addr) (b_2N : Nat) (b_2C : Nat) (w_ : World) (R : Ending → World → Prop) : Prop :=
 Al w_ #[(.string a_0), (.bool a_1), (.slice a_2 a_2N a_2C)] 24 fun a w1 =>
 Al w1 #[(.string b_0), (.bool b_1), (.slice b_2 b_2N b_2C)] 24 fun b w1_2 =>
 ∃ J3 : World → Prop, (∀  (w1_3 : World), J3 w1_3 → F18_j3 a b w1_3 R) ∧
 (LdStr (w1_2.cell? a) fun x7 =>
 LdStr (w1_2.cell? b) fun x9 =>
 Br (!(x7.toList == x9.toList))
 (R (.returned (.bool false)) w1_2)
 (LdB (w1_2.cell? (a.add 1)) fun x13 =>
 LdB (w1_2.cell? (b.add 1)) fun x15 =>
 Br (!(x13 == x15))
 (R (.returned (.bool false)) w1_2)
 (LdSl (w1_2.cell? (a.add 2)) fun x20 x20N x20C =>
 LdSl (w1_2.cell? (b.add 2)) fun x23 x23N x23C =>
 Br (((x20N : Nat) : Int) != ((x23N : Nat) : Int))
 (R (.returned (.bool false)) w1_2)
 (J3 w1_2))))

def pl18 : Plan := ⟨46, ⟨[]⟩, [(3, ⟨[], [(4, 27)]⟩)], [(4, ⟨[(5, (.s (.int .i64)))], [(4, 46)]⟩)]⟩

theorem eq18 (a_0 : ByteArray) (a_1 : Bool) (a_2 : Option Addr) (a_2N : Nat) (a_2C : Nat) (b_0 : ByteArray) (b_1 : Bool) (b_2 : Option Addr) (b_2N : Nat) (b_2C : Nat) (w : World) (R : Ending → World → Prop) : F18 a_0 a_1 a_2 a_2N a_2C b_0 b_1 b_2 b_2N b_2C w R = vc Try.prog Try.f18 pl18 R 100000 [.code (bodyOf Try.f18)] (argEnv 0 #[(.agg #[(.string a_0), (.bool a_1), (.slice a_2 a_2N a_2C)]), (.agg #[(.string b_0), (.bool b_1), (.slice b_2 b_2N b_2C)])].toList) w := by kernel_rfl

theorem ok18 (a_0 : ByteArray) (a_1 : Bool) (a_2 : Option Addr) (a_2N : Nat) (a_2C : Nat) (b_0 : ByteArray) (b_1 : Bool) (b_2 : Option Addr) (b_2N : Nat) (b_2C : Nat) {w : World} {R : Ending → World → Prop} (h : F18 a_0 a_1 a_2 a_2N a_2C b_0 b_1 b_2 b_2N b_2C w R) : Calls Try.prog 18 #[(.agg #[(.string a_0), (.bool a_1), (.slice a_2 a_2N a_2C)]), (.agg #[(.string b_0), (.bool b_1), (.slice b_2 b_2N b_2C)])] w R :=
  vc_calls (pl := pl18) Try.func18 (by kernel_rfl) (by kernel_rfl) (by kernel_rfl) (Eq.mp (eq18 a_0 a_1 a_2 a_2N a_2C b_0 b_1 b_2 b_2N b_2C w R) h)

-- espalierlaw12.kept
def F19_l9 (a : Option Addr) (aN : Nat) (b : Option Addr) (bN : Nat) (L4 : Int → World → Prop) (i : Int) (L9 : Int → World → Prop) (k : Int) (w_3 : World) (R : Ending → World → Prop) : Prop :=
 IdxA a aN i 1 fun q32 =>
 LdSl (w_3.cell? q32) fun x33 x33N x33C =>
 Br (decide (k < ((x33N : Nat) : Int)))
 (Dr w_3 fun w1_2 =>
 IdxA a aN i 1 fun q40 =>
 LdSl (w1_2.cell? q40) fun x41 x41N x41C =>
 IdxA x41 x41N k 4 fun q43 =>
 LdI .u64 (w1_2.cell? q43) fun x44_0 =>
 LdI .u64 (w1_2.cell? (q43.add 1)) fun x44_1 =>
 LdI .u64 (w1_2.cell? (q43.add 2)) fun x44_2 =>
 LdI .i64 (w1_2.cell? (q43.add 3)) fun x44_3 =>
 IdxA b bN i 1 fun q47 =>
 LdSl (w1_2.cell? q47) fun x48 x48N x48C =>
 IdxA x48 x48N k 4 fun q50 =>
 LdI .u64 (w1_2.cell? q50) fun x51_0 =>
 LdI .u64 (w1_2.cell? (q50.add 1)) fun x51_1 =>
 LdI .u64 (w1_2.cell? (q50.add 2)) fun x51_2 =>
 LdI .i64 (w1_2.cell? (q50.add 3)) fun x51_3 =>
 Br (!((x44_0 == x51_0) && ((x44_1 == x51_1) && ((x44_2 == x51_2) && ((x44_3 == x51_3) && true)))))
 (R (.returned (.bool false)) w1_2)
 (InR .i64 (k + (1 : Int)) ∧ L9 (k + (1 : Int)) w1_2))
 (InR .i64 (i + (1 : Int)) ∧ L4 (i + (1 : Int)) w_3)

def F19_l4 (a : Option Addr) (aN : Nat) (b : Option Addr) (bN : Nat) (L4 : Int → World → Prop) (i : Int) (w_2 : World) (R : Ending → World → Prop) : Prop :=
 Br (decide (i < ((aN : Nat) : Int)))
 (Dr w_2 fun w1 =>
 IdxA a aN i 1 fun q20 =>
 LdSl (w1.cell? q20) fun x21 x21N x21C =>
 IdxA b bN i 1 fun q25 =>
 LdSl (w1.cell? q25) fun x26 x26N x26C =>
 Br (((x21N : Nat) : Int) != ((x26N : Nat) : Int))
 (R (.returned (.bool false)) w1)
 (∃ (I : Int → World → Prop) (m : Int → World → Nat), I (0 : Int) w1 ∧
 ∀ (k : Int) (w1_2 : World), I k w1_2 → F19_l9 a aN b bN L4 i (fun k' w2 => I k' w2 ∧ m k' w2 < m k w1_2) k w1_2 R))
 (R (.returned (.bool true)) w_2)

def F19 (a : Option Addr) (aN : Nat) (aC : Nat) (b : Option Addr) (bN : Nat) (bC : Nat) (w_ : World) (R : Ending → World → Prop) : Prop :=
 Br (((aN : Nat) : Int) != ((bN : Nat) : Int))
 (R (.returned (.bool false)) w_)
 (∃ (I : Int → World → Prop) (m : Int → World → Nat), I (0 : Int) w_ ∧
 ∀ (i : Int) (w1 : World), I i w1 → F19_l4 a aN b bN (fun i' w2 => I i' w2 ∧ m i' w2 < m i w1) i w1 R)

def pl19 : Plan := ⟨53, ⟨[]⟩, [], [(9, ⟨[(6, (.s (.int .i64)))], [(4, 5), (6, 53)]⟩), (4, ⟨[(5, (.s (.int .i64)))], [(4, 53)]⟩)]⟩

theorem eq19 (a : Option Addr) (aN : Nat) (aC : Nat) (b : Option Addr) (bN : Nat) (bC : Nat) (w : World) (R : Ending → World → Prop) : F19 a aN aC b bN bC w R = vc Try.prog Try.f19 pl19 R 100000 [.code (bodyOf Try.f19)] (argEnv 0 #[(.slice a aN aC), (.slice b bN bC)].toList) w := by kernel_rfl

theorem ok19 (a : Option Addr) (aN : Nat) (aC : Nat) (b : Option Addr) (bN : Nat) (bC : Nat) {w : World} {R : Ending → World → Prop} (h : F19 a aN aC b bN bC w R) : Calls Try.prog 19 #[(.slice a aN aC), (.slice b bN bC)] w R :=
  vc_calls (pl := pl19) Try.func19 (by kernel_rfl) (by kernel_rfl) (by kernel_rfl) (Eq.mp (eq19 a aN aC b bN bC w R) h)

-- espalierlaw12.handles
def F30_l9 (a : Option Addr) (aN : Nat) (aC : Nat) (L9 : Int → World → Prop) (i2 : Int) (w_3 : World) (R : Ending → World → Prop) : Prop :=
 Br (decide (i2 < ((aN : Nat) : Int)))
 (IdxA a aN i2 1 fun q35 =>
 St w_3 q35 (.int .u64 4711) fun w1 =>
 InR .i64 (i2 + (1 : Int)) ∧ L9 (i2 + (1 : Int)) w1)
 (Al w_3 #[(.int .u64 4712)] 75 fun g37 w1 =>
 Raw Try.prog (Builtin.append_ #[53, 53] 53 #[(.slice a aN aC), (.slice (some g37) 1 1)]) w1 fun v w1_2 =>
 ∃ (x38 : Option Addr) (x38N : Nat) (x38C : Nat), v = (.slice x38 x38N x38C) ∧
 R (.returned (.bool true)) w1_2)

def F30_l4 (a : Option Addr) (aN : Nat) (aC : Nat) (b : Option Addr) (bN : Nat) (L4 : Int → World → Prop) (i : Int) (w_2 : World) (R : Ending → World → Prop) : Prop :=
 Br (decide (i < ((aN : Nat) : Int)))
 (Dr w_2 fun w1 =>
 IdxA a aN i 1 fun q20 =>
 LdI .u64 (w1.cell? q20) fun x21 =>
 IdxA b bN i 1 fun q24 =>
 LdI .u64 (w1.cell? q24) fun x25 =>
 Br (x21 != x25)
 (R (.returned (.bool false)) w1)
 (InR .i64 (i + (1 : Int)) ∧ L4 (i + (1 : Int)) w1))
 (∃ (I : Int → World → Prop) (m : Int → World → Nat), I (0 : Int) w_2 ∧
 ∀ (i2 : Int) (w1 : World), I i2 w1 → F30_l9 a aN aC (fun i2' w2 => I i2' w2 ∧ m i2' w2 < m i2 w1) i2 w1 R)

def F30 (a : Option Addr) (aN : Nat) (aC : Nat) (b : Option Addr) (bN : Nat) (bC : Nat) (w_ : World) (R : Ending → World → Prop) : Prop :=
 Br (((aN : Nat) : Int) != ((bN : Nat) : Int))
 (R (.returned (.bool false)) w_)
 (∃ (I : Int → World → Prop) (m : Int → World → Nat), I (0 : Int) w_ ∧
 ∀ (i : Int) (w1 : World), I i w1 → F30_l4 a aN aC b bN (fun i' w2 => I i' w2 ∧ m i' w2 < m i w1) i w1 R)

def pl30 : Plan := ⟨39, ⟨[]⟩, [], [(4, ⟨[(5, (.s (.int .i64)))], [(4, 27)]⟩), (9, ⟨[(6, (.s (.int .i64)))], [(6, 36)]⟩)]⟩

theorem eq30 (a : Option Addr) (aN : Nat) (aC : Nat) (b : Option Addr) (bN : Nat) (bC : Nat) (w : World) (R : Ending → World → Prop) : F30 a aN aC b bN bC w R = vc Try.prog Try.f30 pl30 R 100000 [.code (bodyOf Try.f30)] (argEnv 0 #[(.slice a aN aC), (.slice b bN bC)].toList) w := by kernel_rfl

theorem ok30 (a : Option Addr) (aN : Nat) (aC : Nat) (b : Option Addr) (bN : Nat) (bC : Nat) {w : World} {R : Ending → World → Prop} (h : F30 a aN aC b bN bC w R) : Calls Try.prog 30 #[(.slice a aN aC), (.slice b bN bC)] w R :=
  vc_calls (pl := pl30) Try.func30 (by kernel_rfl) (by kernel_rfl) (by kernel_rfl) (Eq.mp (eq30 a aN aC b bN bC w R) h)

-- espalierlaw12.matches
def F17_l4 (a : Option Addr) (aN : Nat) (b : Option Addr) (bN : Nat) (L4 : Int → World → Prop) (i : Int) (w_2 : World) (R : Ending → World → Prop) : Prop :=
 Br (decide (i < ((aN : Nat) : Int)))
 (∃ S : World → Prop, S w_2.drew ∧ IdxA a aN i 1 fun q19 =>
 ∃ (x20 : Option Addr) (x20N : Nat) (x20C : Nat), Held S q19 (.slice x20 x20N x20C) ∧ IdxA b bN i 1 fun q23 =>
 ∃ (x24 : Option Addr) (x24N : Nat) (x24C : Nat), Held S q23 (.slice x24 x24N x24C) ∧ Calls Try.prog 30 #[(.slice x20 x20N x20C), (.slice x24 x24N x24C)] w_2.drew (post R fun v w1_2 =>
 ∃ (x25 : Bool), v = (.bool x25) ∧
 Br (!x25)
 (R (.returned (.bool false)) w1_2)
 (IdxA a aN i 1 fun q29 =>
 St w1_2 q29 (.slice none 0 0) fun w1_3 =>
 InR .i64 (i + (1 : Int)) ∧ L4 (i + (1 : Int)) w1_3)))
 (R (.returned (.bool true)) w_2)

def F17 (a : Option Addr) (aN : Nat) (aC : Nat) (b : Option Addr) (bN : Nat) (bC : Nat) (w_ : World) (R : Ending → World → Prop) : Prop :=
 Br (((aN : Nat) : Int) != ((bN : Nat) : Int))
 (R (.returned (.bool false)) w_)
 (∃ (I : Int → World → Prop) (m : Int → World → Nat), I (0 : Int) w_ ∧
 ∀ (i : Int) (w1 : World), I i w1 → F17_l4 a aN b bN (fun i' w2 => I i' w2 ∧ m i' w2 < m i w1) i w1 R)

def pl17 : Plan := ⟨30, ⟨[]⟩, [], [(4, ⟨[(5, (.s (.int .i64)))], [(4, 30)]⟩)]⟩

theorem eq17 (a : Option Addr) (aN : Nat) (aC : Nat) (b : Option Addr) (bN : Nat) (bC : Nat) (w : World) (R : Ending → World → Prop) : F17 a aN aC b bN bC w R = vc Try.prog Try.f17 pl17 R 100000 [.code (bodyOf Try.f17)] (argEnv 0 #[(.slice a aN aC), (.slice b bN bC)].toList) w := by kernel_rfl

theorem ok17 (a : Option Addr) (aN : Nat) (aC : Nat) (b : Option Addr) (bN : Nat) (bC : Nat) {w : World} {R : Ending → World → Prop} (h : F17 a aN aC b bN bC w R) : Calls Try.prog 17 #[(.slice a aN aC), (.slice b bN bC)] w R :=
  vc_calls (pl := pl17) Try.func17 (by kernel_rfl) (by kernel_rfl) (by kernel_rfl) (Eq.mp (eq17 a aN aC b bN bC w R) h)

-- espalierlaw12.TwigFinds
def F3_j4 (lists : Option Addr) (listsN : Nat) (listsC : Nat) (most : Int) (t : Addr) (x20 : Option Addr) (x20N : Nat) (x20C : Nat) (p : Addr) (w_2 : World) (R : Ending → World → Prop) : Prop :=
 LdStr (w_2.cell? p) fun x34_0 =>
 LdB (w_2.cell? (p.add 1)) fun x34_1 =>
 LdSl (w_2.cell? (p.add 2)) fun x34_2 x34_2N x34_2C =>
 Calls Try.prog 13 #[(.agg #[(.string x34_0), (.bool x34_1), (.slice x34_2 x34_2N x34_2C)]), (.slice x20 x20N x20C), (.int .i64 most)] w_2 (post R fun v3 w1_8 =>
 ∃ (x37_0 : Option Addr) (x37_0N : Nat) (x37_0C : Nat) (x37_1 : Int), v3 = (.tuple #[(.slice x37_0 x37_0N x37_0C), (.int .i64 x37_1)]) ∧
 LdStr (w1_8.cell? t) fun x41_0 =>
 LdB (w1_8.cell? (t.add 1)) fun x41_1 =>
 LdSl (w1_8.cell? (t.add 2)) fun x41_2 x41_2N x41_2C =>
 Calls Try.prog 14 #[(.agg #[(.string x41_0), (.bool x41_1), (.slice x41_2 x41_2N x41_2C)]), (.slice lists listsN listsC), (.int .i64 most)] w1_8 (post R fun v4 w1_9 =>
 ∃ (x44_0 : Option Addr) (x44_0N : Nat) (x44_0C : Nat) (x44_1 : Int), v4 = (.tuple #[(.slice x44_0 x44_0N x44_0C), (.int .i64 x44_1)]) ∧
 LdStr (w1_9.cell? p) fun x48_0 =>
 LdB (w1_9.cell? (p.add 1)) fun x48_1 =>
 LdSl (w1_9.cell? (p.add 2)) fun x48_2 x48_2N x48_2C =>
 Calls Try.prog 15 #[(.agg #[(.string x48_0), (.bool x48_1), (.slice x48_2 x48_2N x48_2C)]), (.slice x20 x20N x20C), (.int .i64 most)] w1_9 (post R fun v5 w1_10 =>
 ∃ (x51_0 : Option Addr) (x51_0N : Nat) (x51_0C : Nat) (x51_1 : Int), v5 = (.tuple #[(.slice x51_0 x51_0N x51_0C), (.int .i64 x51_1)]) ∧
 LdStr (w1_10.cell? t) fun x55_0 =>
 LdB (w1_10.cell? (t.add 1)) fun x55_1 =>
 LdSl (w1_10.cell? (t.add 2)) fun x55_2 x55_2N x55_2C =>
 Calls Try.prog 16 #[(.agg #[(.string x55_0), (.bool x55_1), (.slice x55_2 x55_2N x55_2C)]), (.slice lists listsN listsC), (.int .i64 most)] w1_10 (post R fun v6 w1_11 =>
 ∃ (x58_0 : Option Addr) (x58_0N : Nat) (x58_0C : Nat) (x58_1 : Int), v6 = (.tuple #[(.slice x58_0 x58_0N x58_0C), (.int .i64 x58_1)]) ∧
 Br (x37_1 == x44_1)
 (Br (x51_1 == x58_1)
 (Calls Try.prog 17 #[(.slice x37_0 x37_0N x37_0C), (.slice x44_0 x44_0N x44_0C)] w1_11 (post R fun v7 w1_12 =>
 ∃ (x72 : Bool), v7 = (.bool x72) ∧
 Br x72
 (Calls Try.prog 17 #[(.slice x51_0 x51_0N x51_0C), (.slice x58_0 x58_0N x58_0C)] w1_12 (post R fun v8 w1_13 =>
 ∃ (x77 : Bool), v8 = (.bool x77) ∧
 Br x77
 (LdStr (w1_13.cell? p) fun x80_0 =>
 LdB (w1_13.cell? (p.add 1)) fun x80_1 =>
 LdSl (w1_13.cell? (p.add 2)) fun x80_2 x80_2N x80_2C =>
 LdStr (w1_13.cell? t) fun x81_0 =>
 LdB (w1_13.cell? (t.add 1)) fun x81_1 =>
 LdSl (w1_13.cell? (t.add 2)) fun x81_2 x81_2N x81_2C =>
 Calls Try.prog 18 #[(.agg #[(.string x80_0), (.bool x80_1), (.slice x80_2 x80_2N x80_2C)]), (.agg #[(.string x81_0), (.bool x81_1), (.slice x81_2 x81_2N x81_2C)])] w1_13 (post R fun v9 w1_14 =>
 ∃ (x82 : Bool), v9 = (.bool x82) ∧
 Br x82
 (Calls Try.prog 19 #[(.slice x20 x20N x20C), (.slice lists listsN listsC)] w1_14 (post R fun v10 w1_15 =>
 ∃ (x87 : Bool), v10 = (.bool x87) ∧
 R (.returned (.bool x87)) w1_15))
 (R (.returned (.bool false)) w1_14)))
 (R (.returned (.bool false)) w1_13)))
 (R (.returned (.bool false)) w1_12)))
 (R (.returned (.bool false)) w1_11))
 (R (.returned (.bool false)) w1_11)))))

def F3 (t_0 : ByteArray) (t_1 : Bool) (t_2 : Option Addr) (t_2N : Nat) (t_2C : Nat) (lists : Option Addr) (listsN : Nat) (listsC : Nat) (most : Int) (w_ : World) (R : Ending → World → Prop) : Prop :=
 Al w_ #[(.string t_0), (.bool t_1), (.slice t_2 t_2N t_2C)] 24 fun t w1 =>
 LdStr (w1.cell? t) fun x17_0 =>
 LdB (w1.cell? (t.add 1)) fun x17_1 =>
 LdSl (w1.cell? (t.add 2)) fun x17_2 x17_2N x17_2C =>
 Calls Try.prog 7 #[(.agg #[(.string x17_0), (.bool x17_1), (.slice x17_2 x17_2N x17_2C)])] w1 (post R fun v w1_2 =>
 ∃ (x18_0 : ByteArray) (x18_1 : Bool) (x18_2 : Option Addr) (x18_2N : Nat) (x18_2C : Nat), v = (.agg #[(.string x18_0), (.bool x18_1), (.slice x18_2 x18_2N x18_2C)]) ∧
 Calls Try.prog 8 #[(.slice lists listsN listsC)] w1_2 (post R fun v2 w1_3 =>
 ∃ (x20 : Option Addr) (x20N : Nat) (x20C : Nat), v2 = (.slice x20 x20N x20C) ∧
 Al w1_3 #[(.string (ByteArray.mk #[])), (.bool false), (.slice none 0 0)] 24 fun p w1_4 =>
 St w1_4 p (.string x18_0) fun w1_5 =>
 St w1_5 (p.add 1) (.bool x18_1) fun w1_6 =>
 St w1_6 (p.add 2) (.slice x18_2 x18_2N x18_2C) fun w1_7 =>
 ∃ J4 : World → Prop, (∀  (w1_8 : World), J4 w1_8 → F3_j4 lists listsN listsC most t x20 x20N x20C p w1_8 R) ∧
 (∃ S : World → Prop, S w1_7.drew ∧ ∃ (x21_0 : ByteArray), Held S p (.string x21_0) ∧ ∃ (x21_1 : Bool), Held S (p.add 1) (.bool x21_1) ∧ ∃ (x21_2 : Option Addr) (x21_2N : Nat) (x21_2C : Nat), Held S (p.add 2) (.slice x21_2 x21_2N x21_2C) ∧ ∃ (x23_0 : ByteArray), Held S t (.string x23_0) ∧ ∃ (x23_1 : Bool), Held S (t.add 1) (.bool x23_1) ∧ ∃ (x23_2 : Option Addr) (x23_2N : Nat) (x23_2C : Nat), Held S (t.add 2) (.slice x23_2 x23_2N x23_2C) ∧ Calls Try.prog 9 #[(.agg #[(.string x21_0), (.bool x21_1), (.slice x21_2 x21_2N x21_2C)])] w1_7.drew (post R fun v3 w1_9 =>
 ∃ (x22 : Int), v3 = (.int .i64 x22) ∧
 S w1_9 ∧ Calls Try.prog 10 #[(.agg #[(.string x23_0), (.bool x23_1), (.slice x23_2 x23_2N x23_2C)])] w1_9 (post R fun v4 w1_10 =>
 ∃ (x24 : Int), v4 = (.int .i64 x24) ∧
 S w1_10 ∧ Br (x22 != x24)
 (R (.returned (.bool false)) w1_10)
 (∃ (x27_0 : ByteArray), Held S p (.string x27_0) ∧ ∃ (x27_1 : Bool), Held S (p.add 1) (.bool x27_1) ∧ ∃ (x27_2 : Option Addr) (x27_2N : Nat) (x27_2C : Nat), Held S (p.add 2) (.slice x27_2 x27_2N x27_2C) ∧ ∃ (x29_0 : ByteArray), Held S t (.string x29_0) ∧ ∃ (x29_1 : Bool), Held S (t.add 1) (.bool x29_1) ∧ ∃ (x29_2 : Option Addr) (x29_2N : Nat) (x29_2C : Nat), Held S (t.add 2) (.slice x29_2 x29_2N x29_2C) ∧ Calls Try.prog 11 #[(.agg #[(.string x27_0), (.bool x27_1), (.slice x27_2 x27_2N x27_2C)])] w1_10 (post R fun v5 w1_11 =>
 ∃ (x28 : Int), v5 = (.int .i64 x28) ∧
 S w1_11 ∧ Calls Try.prog 12 #[(.agg #[(.string x29_0), (.bool x29_1), (.slice x29_2 x29_2N x29_2C)])] w1_11 (post R fun v6 w1_12 =>
 ∃ (x30 : Int), v6 = (.int .i64 x30) ∧
 Br (x28 != x30)
 (R (.returned (.bool false)) w1_12)
 (J4 w1_12)))))))))

def pl3 : Plan := ⟨89, ⟨[]⟩, [(4, ⟨[], [(6, 7), (21, 33)]⟩)], []⟩

theorem eq3 (t_0 : ByteArray) (t_1 : Bool) (t_2 : Option Addr) (t_2N : Nat) (t_2C : Nat) (lists : Option Addr) (listsN : Nat) (listsC : Nat) (most : Int) (w : World) (R : Ending → World → Prop) : F3 t_0 t_1 t_2 t_2N t_2C lists listsN listsC most w R = vc Try.prog Try.f3 pl3 R 100000 [.code (bodyOf Try.f3)] (argEnv 0 #[(.agg #[(.string t_0), (.bool t_1), (.slice t_2 t_2N t_2C)]), (.slice lists listsN listsC), (.int .i64 most)].toList) w := by kernel_rfl

theorem ok3 (t_0 : ByteArray) (t_1 : Bool) (t_2 : Option Addr) (t_2N : Nat) (t_2C : Nat) (lists : Option Addr) (listsN : Nat) (listsC : Nat) (most : Int) {w : World} {R : Ending → World → Prop} (h : F3 t_0 t_1 t_2 t_2N t_2C lists listsN listsC most w R) : Calls Try.prog 3 #[(.agg #[(.string t_0), (.bool t_1), (.slice t_2 t_2N t_2C)]), (.slice lists listsN listsC), (.int .i64 most)] w R :=
  vc_calls (pl := pl3) Try.func3 (by kernel_rfl) (by kernel_rfl) (by kernel_rfl) (Eq.mp (eq3 t_0 t_1 t_2 t_2N t_2C lists listsN listsC most w R) h)

-- espalierlaw12.lives
def F20  (w_ : World) (R : Ending → World → Prop) : Prop :=
 Al w_ #[(.int .u64 1), (.int .u64 1), (.int .u64 6), (.int .i64 0), (.int .u64 2), (.int .u64 2), (.int .u64 5), (.int .i64 1), (.int .u64 3), (.int .u64 3), (.int .u64 4), (.int .i64 2)] 79 fun g15 w1 =>
 Al w1 #[(.string (ByteArray.mk #[])), (.bool false), (.slice none 0 0)] 24 fun g17 w1_2 =>
 Al w1_2 #[(.string (ByteArray.mk #[])), (.bool false), (.slice none 0 0)] 24 fun t w1_3 =>
 St w1_3 t (.string (ByteArray.mk #[])) fun w1_4 =>
 St w1_4 (t.add 1) (.bool false) fun w1_5 =>
 St w1_5 (t.add 2) (.slice (some g17) 1 1) fun w1_6 =>
 LdStr (w1_6.cell? t) fun x20_0 =>
 LdB (w1_6.cell? (t.add 1)) fun x20_1 =>
 LdSl (w1_6.cell? (t.add 2)) fun x20_2 x20_2N x20_2C =>
 Al w1_6 #[(.slice (some g15) 3 3), (.slice (some g15) 3 3)] 51 fun g23 w1_7 =>
 Calls Try.prog 13 #[(.agg #[(.string x20_0), (.bool x20_1), (.slice x20_2 x20_2N x20_2C)]), (.slice (some g23) 2 2), (.int .i64 9)] w1_7 (post R fun v w1_8 =>
 ∃ (x24_0 : Option Addr) (x24_0N : Nat) (x24_0C : Nat) (x24_1 : Int), v = (.tuple #[(.slice x24_0 x24_0N x24_0C), (.int .i64 x24_1)]) ∧
 LdStr (w1_8.cell? t) fun x28_0 =>
 LdB (w1_8.cell? (t.add 1)) fun x28_1 =>
 LdSl (w1_8.cell? (t.add 2)) fun x28_2 x28_2N x28_2C =>
 Al w1_8 #[(.slice (some g15) 3 3), (.slice (some g15) 3 3)] 51 fun g31 w1_9 =>
 Calls Try.prog 23 #[(.agg #[(.string x28_0), (.bool x28_1), (.slice x28_2 x28_2N x28_2C)]), (.slice (some g31) 2 2)] w1_9 (post R fun v2 w1_10 =>
 ∃ (x32_0 : Int) (x32_1 : Int), v2 = (.tuple #[(.int .u64 x32_0), (.int .i64 x32_1)]) ∧
 LdStr (w1_10.cell? t) fun x36_0 =>
 LdB (w1_10.cell? (t.add 1)) fun x36_1 =>
 LdSl (w1_10.cell? (t.add 2)) fun x36_2 x36_2N x36_2C =>
 Al w1_10 #[(.slice (some g15) 3 3), (.slice (some g15) 3 3)] 51 fun g39 w1_11 =>
 Calls Try.prog 26 #[(.agg #[(.string x36_0), (.bool x36_1), (.slice x36_2 x36_2N x36_2C)]), (.slice (some g39) 2 2)] w1_11 (post R fun v3 w1_12 =>
 ∃ (x40_0 : Option Addr) (x40_0N : Nat) (x40_0C : Nat) (x40_1 : Int), v3 = (.tuple #[(.slice x40_0 x40_0N x40_0C), (.int .i64 x40_1)]) ∧
 Br (x24_1 == (0 : Int))
 (Br (((x24_0N : Nat) : Int) == (3 : Int))
 (Br (x32_1 == (0 : Int))
 (Br (x32_0 == (3 : Int))
 (Br (x40_1 == (0 : Int))
 (Br (((x40_0N : Nat) : Int) == (2 : Int))
 (IdxA x40_0 x40_0N (0 : Int) 1 fun q69 =>
 LdSl (w1_12.cell? q69) fun x70 x70N x70C =>
 Br (((x70N : Nat) : Int) == (2 : Int))
 (IdxA x40_0 x40_0N (1 : Int) 1 fun q76 =>
 LdSl (w1_12.cell? q76) fun x77 x77N x77C =>
 R (.returned (.bool (((x77N : Nat) : Int) == (2 : Int)))) w1_12)
 (R (.returned (.bool false)) w1_12))
 (R (.returned (.bool false)) w1_12))
 (R (.returned (.bool false)) w1_12))
 (R (.returned (.bool false)) w1_12))
 (R (.returned (.bool false)) w1_12))
 (R (.returned (.bool false)) w1_12))
 (R (.returned (.bool false)) w1_12))))

def pl20 : Plan := ⟨81, ⟨[]⟩, [], []⟩

theorem eq20  (w : World) (R : Ending → World → Prop) : F20  w R = vc Try.prog Try.f20 pl20 R 100000 [.code (bodyOf Try.f20)] (argEnv 0 #[].toList) w := by kernel_rfl

theorem ok20  {w : World} {R : Ending → World → Prop} (h : F20  w R) : Calls Try.prog 20 #[] w R :=
  vc_calls (pl := pl20) Try.func20 (by kernel_rfl) (by kernel_rfl) (by kernel_rfl) (Eq.mp (eq20  w R) h)

-- espalierlaw12.few
def F22_j11 (L4 : Option Addr → Nat → Nat → Int → World → Prop) (out : Option Addr) (outN : Nat) (outC : Nat) (i : Int) (l2 : Option Addr) (lN2 : Nat) (lC2 : Nat) (w_4 : World) (R : Ending → World → Prop) : Prop :=
 Al w_4 #[(.slice l2 lN2 lC2)] 51 fun g35 w1_3 =>
 Raw Try.prog (Builtin.append_ #[25, 25] 25 #[(.slice out outN outC), (.slice (some g35) 1 1)]) w1_3 fun v2 w1_4 =>
 ∃ (x36 : Option Addr) (x36N : Nat) (x36C : Nat), v2 = (.slice x36 x36N x36C) ∧
 InR .i64 (i + (1 : Int)) ∧ L4 x36 x36N x36C (i + (1 : Int)) w1_4

def F22_j9 (most : Int) (L4 : Option Addr → Nat → Nat → Int → World → Prop) (out : Option Addr) (outN : Nat) (outC : Nat) (i : Int) (l : Option Addr) (lN : Nat) (lC : Nat) (w_3 : World) (R : Ending → World → Prop) : Prop :=
 ∃ J11 : Option Addr → Nat → Nat → World → Prop, (∀ (l2 : Option Addr) (lN2 : Nat) (lC2 : Nat) (w1_3 : World), J11 l2 lN2 lC2 w1_3 → F22_j11 L4 out outN outC i l2 lN2 lC2 w1_3 R) ∧
 (Br (decide (((lN : Nat) : Int) > most))
 (SlB 0 most ((lC : Nat) : Int)
 (J11 l (most).toNat lC w_3))
 (J11 l lN lC w_3))

def F22_l4 (lists : Option Addr) (listsN : Nat) (most : Int) (x12 : Int) (L4 : Option Addr → Nat → Nat → Int → World → Prop) (out : Option Addr) (outN : Nat) (outC : Nat) (i : Int) (w_2 : World) (R : Ending → World → Prop) : Prop :=
 Br (decide (i < x12))
 (∃ J9 : Option Addr → Nat → Nat → World → Prop, (∀ (l : Option Addr) (lN : Nat) (lC : Nat) (w1_3 : World), J9 l lN lC w1_3 → F22_j9 most L4 out outN outC i l lN lC w1_3 R) ∧
 (Br (decide (i < ((listsN : Nat) : Int)))
 (IdxA lists listsN i 1 fun q24 =>
 LdSl (w_2.cell? q24) fun x25 x25N x25C =>
 J9 x25 x25N x25C w_2)
 (J9 none 0 0 w_2)))
 (R (.returned (.slice out outN outC)) w_2)

def F22 (t_0 : ByteArray) (t_1 : Bool) (t_2 : Option Addr) (t_2N : Nat) (t_2C : Nat) (lists : Option Addr) (listsN : Nat) (listsC : Nat) (most : Int) (w_ : World) (R : Ending → World → Prop) : Prop :=
 Al w_ #[(.string t_0), (.bool t_1), (.slice t_2 t_2N t_2C)] 24 fun t w1 =>
 LdStr (w1.cell? t) fun x11_0 =>
 LdB (w1.cell? (t.add 1)) fun x11_1 =>
 LdSl (w1.cell? (t.add 2)) fun x11_2 x11_2N x11_2C =>
 Calls Try.prog 12 #[(.agg #[(.string x11_0), (.bool x11_1), (.slice x11_2 x11_2N x11_2C)])] w1 (post R fun v w1_2 =>
 ∃ (x12 : Int), v = (.int .i64 x12) ∧
 ∃ (I : Option Addr → Nat → Nat → Int → World → Prop) (m : Option Addr → Nat → Nat → Int → World → Nat), I none 0 0 (0 : Int) w1_2 ∧
 ∀ (out : Option Addr) (outN : Nat) (outC : Nat) (i : Int) (w1_3 : World), I out outN outC i w1_3 → F22_l4 lists listsN most x12 (fun out' outN' outC' i' w2 => I out' outN' outC' i' w2 ∧ m out' outN' outC' i' w2 < m out outN outC i w1_3) out outN outC i w1_3 R)

def pl22 : Plan := ⟨38, ⟨[]⟩, [(11, ⟨[(10, (.s .slice))], [(10, 33)]⟩), (9, ⟨[(10, (.s .slice))], [(10, 26)]⟩)], [(4, ⟨[(7, (.s .slice)), (9, (.s (.int .i64)))], [(7, 8), (9, 37)]⟩)]⟩

theorem eq22 (t_0 : ByteArray) (t_1 : Bool) (t_2 : Option Addr) (t_2N : Nat) (t_2C : Nat) (lists : Option Addr) (listsN : Nat) (listsC : Nat) (most : Int) (w : World) (R : Ending → World → Prop) : F22 t_0 t_1 t_2 t_2N t_2C lists listsN listsC most w R = vc Try.prog Try.f22 pl22 R 100000 [.code (bodyOf Try.f22)] (argEnv 0 #[(.agg #[(.string t_0), (.bool t_1), (.slice t_2 t_2N t_2C)]), (.slice lists listsN listsC), (.int .i64 most)].toList) w := by kernel_rfl

theorem ok22 (t_0 : ByteArray) (t_1 : Bool) (t_2 : Option Addr) (t_2N : Nat) (t_2C : Nat) (lists : Option Addr) (listsN : Nat) (listsC : Nat) (most : Int) {w : World} {R : Ending → World → Prop} (h : F22 t_0 t_1 t_2 t_2N t_2C lists listsN listsC most w R) : Calls Try.prog 22 #[(.agg #[(.string t_0), (.bool t_1), (.slice t_2 t_2N t_2C)]), (.slice lists listsN listsC), (.int .i64 most)] w R :=
  vc_calls (pl := pl22) Try.func22 (by kernel_rfl) (by kernel_rfl) (by kernel_rfl) (Eq.mp (eq22 t_0 t_1 t_2 t_2N t_2C lists listsN listsC most w R) h)

-- espalierlaw12.small
def F21_j9 (t : Addr) (g4 : Addr) (w_3 : World) (R : Ending → World → Prop) : Prop :=
 LdStr (w_3.cell? t) fun x37_0 =>
 LdB (w_3.cell? (t.add 1)) fun x37_1 =>
 LdSl (w_3.cell? (t.add 2)) fun x37_2 x37_2N x37_2C =>
 St w_3 g4 (.string x37_0) fun w1_4 =>
 St w1_4 (g4.add 1) (.bool x37_1) fun w1_5 =>
 St w1_5 (g4.add 2) (.slice x37_2 x37_2N x37_2C) fun w1_6 =>
 LdStr (w1_6.cell? g4) fun res0_0 =>
 LdB (w1_6.cell? (g4.add 1)) fun res0_1 =>
 LdSl (w1_6.cell? (g4.add 2)) fun res0_2 res0_2N res0_2C =>
 R (.returned (.agg #[(.string res0_0), (.bool res0_1), (.slice res0_2 res0_2N res0_2C)])) w1_6

def F21_j8 (deep : Int) (t : Addr) (l : Option Addr) (lN : Nat) (L6 : Int → World → Prop) (i : Int) (w_4 : World) (R : Ending → World → Prop) : Prop :=
 ∃ S : World → Prop, S w_4.drew ∧ ∃ (x26 : Option Addr) (x26N : Nat) (x26C : Nat), Held S (t.add 2) (.slice x26 x26N x26C) ∧ IdxA l lN i 3 fun q29 =>
 ∃ (x30_0 : ByteArray), Held S q29 (.string x30_0) ∧ ∃ (x30_1 : Bool), Held S (q29.add 1) (.bool x30_1) ∧ ∃ (x30_2 : Option Addr) (x30_2N : Nat) (x30_2C : Nat), Held S (q29.add 2) (.slice x30_2 x30_2N x30_2C) ∧ InR .i64 (deep + (1 : Int)) ∧ Calls Try.prog 21 #[(.agg #[(.string x30_0), (.bool x30_1), (.slice x30_2 x30_2N x30_2C)]), (.int .i64 (deep + (1 : Int)))] w_4.drew (post R fun v w1_5 =>
 ∃ (x33_0 : ByteArray) (x33_1 : Bool) (x33_2 : Option Addr) (x33_2N : Nat) (x33_2C : Nat), v = (.agg #[(.string x33_0), (.bool x33_1), (.slice x33_2 x33_2N x33_2C)]) ∧
 S w1_5 ∧ Al w1_5 #[(.string x33_0), (.bool x33_1), (.slice x33_2 x33_2N x33_2C)] 24 fun g34 w1_6 =>
 S w1_6 ∧ Raw Try.prog (Builtin.append_ #[22, 22] 22 #[(.slice x26 x26N x26C), (.slice (some g34) 1 1)]) w1_6 fun v2 w1_7 =>
 ∃ (x35 : Option Addr) (x35N : Nat) (x35C : Nat), v2 = (.slice x35 x35N x35C) ∧
 St w1_7 (t.add 2) (.slice x35 x35N x35C) fun w1_8 =>
 InR .i64 (i + (1 : Int)) ∧ L6 (i + (1 : Int)) w1_8)

def F21_l6 (deep : Int) (t : Addr) (l : Option Addr) (lN : Nat) (J9 : World → Prop) (L6 : Int → World → Prop) (i : Int) (w_3 : World) (R : Ending → World → Prop) : Prop :=
 ∃ J8 : World → Prop, (∀  (w1_4 : World), J8 w1_4 → F21_j8 deep t l lN L6 i w1_4 R) ∧
 (Br (decide (i < ((lN : Nat) : Int)))
 (Br (decide (deep < (2 : Int)))
 (J8 w_3)
 (J9 w_3))
 (J9 w_3))

def F21_j4 (deep : Int) (t : Addr) (g4 : Addr) (l : Option Addr) (lN : Nat) (lC : Nat) (w_2 : World) (R : Ending → World → Prop) : Prop :=
 St w_2 (t.add 2) (.slice none 0 0) fun w1_3 =>
 ∃ J9 : World → Prop, (∀  (w1_4 : World), J9 w1_4 → F21_j9 t g4 w1_4 R) ∧
 (∃ (I : Int → World → Prop) (m : Int → World → Nat), I (0 : Int) w1_3 ∧
 ∀ (i : Int) (w1_4 : World), I i w1_4 → F21_l6 deep t l lN J9 (fun i' w2 => I i' w2 ∧ m i' w2 < m i w1_4) i w1_4 R)

def F21 (t_0 : ByteArray) (t_1 : Bool) (t_2 : Option Addr) (t_2N : Nat) (t_2C : Nat) (deep : Int) (w_ : World) (R : Ending → World → Prop) : Prop :=
 Al w_ #[(.string t_0), (.bool t_1), (.slice t_2 t_2N t_2C)] 24 fun t w1 =>
 Al w1 #[(.string (ByteArray.mk #[])), (.bool false), (.slice none 0 0)] 24 fun g4 w1_2 =>
 LdSl (w1_2.cell? (t.add 2)) fun x8 x8N x8C =>
 ∃ J4 : Option Addr → Nat → Nat → World → Prop, (∀ (l : Option Addr) (lN : Nat) (lC : Nat) (w1_3 : World), J4 l lN lC w1_3 → F21_j4 deep t g4 l lN lC w1_3 R) ∧
 (Br (decide (((x8N : Nat) : Int) > (2 : Int)))
 (SlB 0 (2 : Int) ((x8C : Nat) : Int)
 (J4 x8 ((2 : Int)).toNat x8C w1_2))
 (J4 x8 x8N x8C w1_2))

def pl21 : Plan := ⟨38, ⟨[]⟩, [(8, ⟨[], [(15, 23)]⟩), (9, ⟨[], [(6, 37)]⟩), (4, ⟨[(5, (.s .slice))], [(5, 14)]⟩)], [(6, ⟨[(6, (.s (.int .i64)))], [(6, 37)]⟩)]⟩

theorem eq21 (t_0 : ByteArray) (t_1 : Bool) (t_2 : Option Addr) (t_2N : Nat) (t_2C : Nat) (deep : Int) (w : World) (R : Ending → World → Prop) : F21 t_0 t_1 t_2 t_2N t_2C deep w R = vc Try.prog Try.f21 pl21 R 100000 [.code (bodyOf Try.f21)] (argEnv 0 #[(.agg #[(.string t_0), (.bool t_1), (.slice t_2 t_2N t_2C)]), (.int .i64 deep)].toList) w := by kernel_rfl

theorem ok21 (t_0 : ByteArray) (t_1 : Bool) (t_2 : Option Addr) (t_2N : Nat) (t_2C : Nat) (deep : Int) {w : World} {R : Ending → World → Prop} (h : F21 t_0 t_1 t_2 t_2N t_2C deep w R) : Calls Try.prog 21 #[(.agg #[(.string t_0), (.bool t_1), (.slice t_2 t_2N t_2C)]), (.int .i64 deep)] w R :=
  vc_calls (pl := pl21) Try.func21 (by kernel_rfl) (by kernel_rfl) (by kernel_rfl) (Eq.mp (eq21 t_0 t_1 t_2 t_2N t_2C deep w R) h)

-- espalierlaw12.tried
def F24_l5 (lists : Option Addr) (listsN : Nat) (chosen : Option Addr) (chosenN : Nat) (out : Option Addr) (outN : Nat) (outC : Nat) (L5 : Option Addr → Nat → Nat → Int → World → Prop) (one : Option Addr) (oneN : Nat) (oneC : Nat) (k : Int) (w_2 : World) (R : Ending → World → Prop) : Prop :=
 Br (decide (k < ((chosenN : Nat) : Int)))
 (∃ S : World → Prop, S w_2.drew ∧ IdxA lists listsN k 1 fun q30 =>
 ∃ (x31 : Option Addr) (x31N : Nat) (x31C : Nat), Held S q30 (.slice x31 x31N x31C) ∧ IdxA chosen chosenN k 1 fun q34 =>
 ∃ (x35 : Int), Held S q34 (.int .i64 x35) ∧ IdxA x31 x31N x35 4 fun q36 =>
 ∃ (x38 : Int), Held S q36 (.int .u64 x38) ∧ Al w_2.drew #[(.int .u64 x38)] 75 fun g39 w1_2 =>
 Raw Try.prog (Builtin.append_ #[53, 53] 53 #[(.slice one oneN oneC), (.slice (some g39) 1 1)]) w1_2 fun v w1_3 =>
 ∃ (x40 : Option Addr) (x40N : Nat) (x40C : Nat), v = (.slice x40 x40N x40C) ∧
 InR .i64 (k + (1 : Int)) ∧ L5 x40 x40N x40C (k + (1 : Int)) w1_3)
 (Al w_2 #[(.slice one oneN oneC)] 53 fun g43 w1 =>
 Raw Try.prog (Builtin.append_ #[31, 31] 31 #[(.slice out outN outC), (.slice (some g43) 1 1)]) w1 fun v w1_2 =>
 ∃ (x44 : Option Addr) (x44N : Nat) (x44C : Nat), v = (.slice x44 x44N x44C) ∧
 R (.returned (.slice x44 x44N x44C)) w1_2)

def F24_j17 (out2 : Option Addr) (outN2 : Nat) (outC2 : Nat) (w_2 : World) (R : Ending → World → Prop) : Prop :=
 R (.returned (.slice out2 outN2 outC2)) w_2

def F24_j11 (L10 : Option Addr → Nat → Nat → Int → World → Prop) (k : Int) (out3 : Option Addr) (outN3 : Nat) (outC3 : Nat) (w_4 : World) (R : Ending → World → Prop) : Prop :=
 InR .i64 (k + (1 : Int)) ∧ L10 out3 outN3 outC3 (k + (1 : Int)) w_4

def F24_j16 (n : Option Addr) (nN : Nat) (nC : Nat) (lists : Option Addr) (listsN : Nat) (listsC : Nat) (chosen : Option Addr) (chosenN : Nat) (chosenC : Nat) (out2 : Option Addr) (outN2 : Nat) (outC2 : Nat) (k : Int) (J11 : Option Addr → Nat → Nat → World → Prop) (w_4 : World) (R : Ending → World → Prop) : Prop :=
 Al w_4 #[] 3 fun g107 w1 =>
 Raw Try.prog (Builtin.append_ #[92, 92] 92 #[(.slice (some g107) 0 0), (.slice chosen chosenN chosenC)]) w1 fun v w1_2 =>
 ∃ (x109 : Option Addr) (x109N : Nat) (x109C : Nat), v = (.slice x109 x109N x109C) ∧
 Al w1_2 #[(.int .i64 k)] 3 fun g111 w1_3 =>
 Raw Try.prog (Builtin.append_ #[92, 92] 92 #[(.slice x109 x109N x109C), (.slice (some g111) 1 1)]) w1_3 fun v2 w1_4 =>
 ∃ (x112 : Option Addr) (x112N : Nat) (x112C : Nat), v2 = (.slice x112 x112N x112C) ∧
 Calls Try.prog 24 #[(.slice n nN nC), (.slice lists listsN listsC), (.slice x112 x112N x112C), (.slice out2 outN2 outC2)] w1_4 (post R fun v3 w1_5 =>
 ∃ (x114 : Option Addr) (x114N : Nat) (x114C : Nat), v3 = (.slice x114 x114N x114C) ∧
 J11 x114 x114N x114C w1_5)

def F24_j12 (n : Option Addr) (nN : Nat) (nC : Nat) (lists : Option Addr) (listsN : Nat) (listsC : Nat) (chosen : Option Addr) (chosenN : Nat) (chosenC : Nat) (L10 : Option Addr → Nat → Nat → Int → World → Prop) (out2 : Option Addr) (outN2 : Nat) (outC2 : Nat) (k : Int) (w_3 : World) (R : Ending → World → Prop) : Prop :=
 ∃ J11 : Option Addr → Nat → Nat → World → Prop, (∀ (out3 : Option Addr) (outN3 : Nat) (outC3 : Nat) (w1 : World), J11 out3 outN3 outC3 w1 → F24_j11 L10 k out3 outN3 outC3 w1 R) ∧
 (∃ J16 : World → Prop, (∀  (w1 : World), J16 w1 → F24_j16 n nN nC lists listsN listsC chosen chosenN chosenC out2 outN2 outC2 k J11 w1 R) ∧
 (Br (decide (((chosenN : Nat) : Int) > (0 : Int)))
 (∃ S : World → Prop, S w_3.drew ∧ IdxA n nN ((chosenN : Nat) : Int) 3 fun q64 =>
 ∃ (x66 : Int), Held S q64 (.int .i64 x66) ∧ IdxA lists listsN x66 1 fun q67 =>
 ∃ (x68 : Option Addr) (x68N : Nat) (x68C : Nat), Held S q67 (.slice x68 x68N x68C) ∧ IdxA n nN ((chosenN : Nat) : Int) 3 fun q72 =>
 ∃ (x74 : Int), Held S q72 (.int .i64 x74) ∧ IdxA chosen chosenN x74 1 fun q75 =>
 ∃ (x76 : Int), Held S q75 (.int .i64 x76) ∧ IdxA x68 x68N x76 4 fun q77 =>
 ∃ (x79_0 : Int), Held S (q77.add 1) (.int .u64 x79_0) ∧ ∃ (x79_1 : Int), Held S ((q77.add 1).add 1) (.int .u64 x79_1) ∧ ∃ (x79_2 : Int), Held S ((q77.add 1).add 2) (.int .i64 x79_2) ∧ Al w_3.drew #[(.int .u64 0), (.int .u64 0), (.int .i64 0)] 77 fun up w1_2 =>
 S w1_2 ∧ St w1_2 up (.int .u64 x79_0) fun w1_3 =>
 St w1_3 (up.add 1) (.int .u64 x79_1) fun w1_4 =>
 St w1_4 (up.add 2) (.int .i64 x79_2) fun w1_5 =>
 IdxA lists listsN ((chosenN : Nat) : Int) 1 fun q82 =>
 LdSl (w1_5.cell? q82) fun x83 x83N x83C =>
 IdxA x83 x83N k 4 fun q85 =>
 LdI .u64 (w1_5.cell? (q85.add 1)) fun x87_0 =>
 LdI .u64 (w1_5.cell? ((q85.add 1).add 1)) fun x87_1 =>
 LdI .i64 (w1_5.cell? ((q85.add 1).add 2)) fun x87_2 =>
 Al w1_5 #[(.int .u64 0), (.int .u64 0), (.int .i64 0)] 77 fun g14 w1_6 =>
 St w1_6 g14 (.int .u64 x87_0) fun w1_7 =>
 St w1_7 (g14.add 1) (.int .u64 x87_1) fun w1_8 =>
 St w1_8 (g14.add 2) (.int .i64 x87_2) fun w1_9 =>
 IdxA n nN ((chosenN : Nat) : Int) 3 fun q90 =>
 LdB (w1_9.cell? (q90.add 1)) fun x92 =>
 Br x92
 (LdI .u64 (w1_9.cell? g14) fun x94_0 =>
 LdI .u64 (w1_9.cell? (g14.add 1)) fun x94_1 =>
 LdI .i64 (w1_9.cell? (g14.add 2)) fun x94_2 =>
 LdI .u64 (w1_9.cell? up) fun x95_0 =>
 LdI .u64 (w1_9.cell? (up.add 1)) fun x95_1 =>
 LdI .i64 (w1_9.cell? (up.add 2)) fun x95_2 =>
 Calls Try.prog 44 #[(.agg #[(.int .u64 x94_0), (.int .u64 x94_1), (.int .i64 x94_2)]), (.agg #[(.int .u64 x95_0), (.int .u64 x95_1), (.int .i64 x95_2)])] w1_9 (post R fun v w1_10 =>
 ∃ (x96 : Bool), v = (.bool x96) ∧
 Br (!x96)
 (J11 out2 outN2 outC2 w1_10)
 (LdI .u64 (w1_10.cell? g14) fun x100_0 =>
 LdI .u64 (w1_10.cell? (g14.add 1)) fun x100_1 =>
 LdI .i64 (w1_10.cell? (g14.add 2)) fun x100_2 =>
 LdI .u64 (w1_10.cell? up) fun x101_0 =>
 LdI .u64 (w1_10.cell? (up.add 1)) fun x101_1 =>
 LdI .i64 (w1_10.cell? (up.add 2)) fun x101_2 =>
 Calls Try.prog 45 #[(.agg #[(.int .u64 x100_0), (.int .u64 x100_1), (.int .i64 x100_2)]), (.agg #[(.int .u64 x101_0), (.int .u64 x101_1), (.int .i64 x101_2)])] w1_10 (post R fun v2 w1_11 =>
 ∃ (x102 : Bool), v2 = (.bool x102) ∧
 Br (!x102)
 (J11 out2 outN2 outC2 w1_11)
 (J16 w1_11)))))
 (LdI .u64 (w1_9.cell? g14) fun x100_0 =>
 LdI .u64 (w1_9.cell? (g14.add 1)) fun x100_1 =>
 LdI .i64 (w1_9.cell? (g14.add 2)) fun x100_2 =>
 LdI .u64 (w1_9.cell? up) fun x101_0 =>
 LdI .u64 (w1_9.cell? (up.add 1)) fun x101_1 =>
 LdI .i64 (w1_9.cell? (up.add 2)) fun x101_2 =>
 Calls Try.prog 45 #[(.agg #[(.int .u64 x100_0), (.int .u64 x100_1), (.int .i64 x100_2)]), (.agg #[(.int .u64 x101_0), (.int .u64 x101_1), (.int .i64 x101_2)])] w1_9 (post R fun v w1_10 =>
 ∃ (x102 : Bool), v = (.bool x102) ∧
 Br (!x102)
 (J11 out2 outN2 outC2 w1_10)
 (J16 w1_10))))
 (J16 w_3)))

def F24_l10 (n : Option Addr) (nN : Nat) (nC : Nat) (lists : Option Addr) (listsN : Nat) (listsC : Nat) (chosen : Option Addr) (chosenN : Nat) (chosenC : Nat) (J17 : Option Addr → Nat → Nat → World → Prop) (L10 : Option Addr → Nat → Nat → Int → World → Prop) (out2 : Option Addr) (outN2 : Nat) (outC2 : Nat) (k : Int) (w_2 : World) (R : Ending → World → Prop) : Prop :=
 ∃ J12 : World → Prop, (∀  (w1 : World), J12 w1 → F24_j12 n nN nC lists listsN listsC chosen chosenN chosenC L10 out2 outN2 outC2 k w1 R) ∧
 (IdxA lists listsN ((chosenN : Nat) : Int) 1 fun q48 =>
 LdSl (w_2.cell? q48) fun x49 x49N x49C =>
 Br (decide (k < ((x49N : Nat) : Int)))
 (Br (decide (((outN2 : Nat) : Int) ≤ (2000 : Int)))
 (J12 w_2)
 (J17 out2 outN2 outC2 w_2))
 (J17 out2 outN2 outC2 w_2))

def F24 (n : Option Addr) (nN : Nat) (nC : Nat) (lists : Option Addr) (listsN : Nat) (listsC : Nat) (chosen : Option Addr) (chosenN : Nat) (chosenC : Nat) (out : Option Addr) (outN : Nat) (outC : Nat) (w_ : World) (R : Ending → World → Prop) : Prop :=
 Br (((chosenN : Nat) : Int) == ((nN : Nat) : Int))
 (∃ (I : Option Addr → Nat → Nat → Int → World → Prop) (m : Option Addr → Nat → Nat → Int → World → Nat), I none 0 0 (0 : Int) w_ ∧
 ∀ (one : Option Addr) (oneN : Nat) (oneC : Nat) (k : Int) (w1 : World), I one oneN oneC k w1 → F24_l5 lists listsN chosen chosenN out outN outC (fun one' oneN' oneC' k' w2 => I one' oneN' oneC' k' w2 ∧ m one' oneN' oneC' k' w2 < m one oneN oneC k w1) one oneN oneC k w1 R)
 (∃ J17 : Option Addr → Nat → Nat → World → Prop, (∀ (out2 : Option Addr) (outN2 : Nat) (outC2 : Nat) (w1 : World), J17 out2 outN2 outC2 w1 → F24_j17 out2 outN2 outC2 w1 R) ∧
 (∃ (I : Option Addr → Nat → Nat → Int → World → Prop) (m : Option Addr → Nat → Nat → Int → World → Nat), I out outN outC (0 : Int) w_ ∧
 ∀ (out2 : Option Addr) (outN2 : Nat) (outC2 : Nat) (k : Int) (w1 : World), I out2 outN2 outC2 k w1 → F24_l10 n nN nC lists listsN listsC chosen chosenN chosenC J17 (fun out2' outN2' outC2' k' w2 => I out2' outN2' outC2' k' w2 ∧ m out2' outN2' outC2' k' w2 < m out2 outN2 outC2 k w1) out2 outN2 outC2 k w1 R))

def pl24 : Plan := ⟨116, ⟨[]⟩, [(16, ⟨[], [(13, 105)]⟩), (11, ⟨[(3, (.s .slice))], [(3, 4), (13, 115)]⟩), (12, ⟨[], [(45, 57)]⟩), (17, ⟨[(3, (.s .slice))], [(3, 115)]⟩)], [(5, ⟨[(10, (.s .slice)), (11, (.s (.int .i64)))], [(10, 41)]⟩), (10, ⟨[(3, (.s .slice)), (12, (.s (.int .i64)))], [(3, 4), (12, 115)]⟩)]⟩

theorem eq24 (n : Option Addr) (nN : Nat) (nC : Nat) (lists : Option Addr) (listsN : Nat) (listsC : Nat) (chosen : Option Addr) (chosenN : Nat) (chosenC : Nat) (out : Option Addr) (outN : Nat) (outC : Nat) (w : World) (R : Ending → World → Prop) : F24 n nN nC lists listsN listsC chosen chosenN chosenC out outN outC w R = vc Try.prog Try.f24 pl24 R 100000 [.code (bodyOf Try.f24)] (argEnv 0 #[(.slice n nN nC), (.slice lists listsN listsC), (.slice chosen chosenN chosenC), (.slice out outN outC)].toList) w := by kernel_rfl

theorem ok24 (n : Option Addr) (nN : Nat) (nC : Nat) (lists : Option Addr) (listsN : Nat) (listsC : Nat) (chosen : Option Addr) (chosenN : Nat) (chosenC : Nat) (out : Option Addr) (outN : Nat) (outC : Nat) {w : World} {R : Ending → World → Prop} (h : F24 n nN nC lists listsN listsC chosen chosenN chosenC out outN outC w R) : Calls Try.prog 24 #[(.slice n nN nC), (.slice lists listsN listsC), (.slice chosen chosenN chosenC), (.slice out outN outC)] w R :=
  vc_calls (pl := pl24) Try.func24 (by kernel_rfl) (by kernel_rfl) (by kernel_rfl) (Eq.mp (eq24 n nN nC lists listsN listsC chosen chosenN chosenC out outN outC w R) h)

-- espalierlaw12.TwigJust
def F4 (t_0 : ByteArray) (t_1 : Bool) (t_2 : Option Addr) (t_2N : Nat) (t_2C : Nat) (lists : Option Addr) (listsN : Nat) (listsC : Nat) (w_ : World) (R : Ending → World → Prop) : Prop :=
 Al w_ #[(.string t_0), (.bool t_1), (.slice t_2 t_2N t_2C)] 24 fun t w1 =>
 Calls Try.prog 20 #[] w1 (post R fun v w1_2 =>
 ∃ (x11 : Bool), v = (.bool x11) ∧
 Br (!x11)
 (R (.returned (.bool false)) w1_2)
 (LdStr (w1_2.cell? t) fun x13_0 =>
 LdB (w1_2.cell? (t.add 1)) fun x13_1 =>
 LdSl (w1_2.cell? (t.add 2)) fun x13_2 x13_2N x13_2C =>
 Calls Try.prog 21 #[(.agg #[(.string x13_0), (.bool x13_1), (.slice x13_2 x13_2N x13_2C)]), (.int .i64 0)] w1_2 (post R fun v2 w1_3 =>
 ∃ (x14_0 : ByteArray) (x14_1 : Bool) (x14_2 : Option Addr) (x14_2N : Nat) (x14_2C : Nat), v2 = (.agg #[(.string x14_0), (.bool x14_1), (.slice x14_2 x14_2N x14_2C)]) ∧
 St w1_3 t (.string x14_0) fun w1_4 =>
 St w1_4 (t.add 1) (.bool x14_1) fun w1_5 =>
 St w1_5 (t.add 2) (.slice x14_2 x14_2N x14_2C) fun w1_6 =>
 LdStr (w1_6.cell? t) fun x15_0 =>
 LdB (w1_6.cell? (t.add 1)) fun x15_1 =>
 LdSl (w1_6.cell? (t.add 2)) fun x15_2 x15_2N x15_2C =>
 Calls Try.prog 22 #[(.agg #[(.string x15_0), (.bool x15_1), (.slice x15_2 x15_2N x15_2C)]), (.slice lists listsN listsC), (.int .i64 7)] w1_6 (post R fun v3 w1_7 =>
 ∃ (x17 : Option Addr) (x17N : Nat) (x17C : Nat), v3 = (.slice x17 x17N x17C) ∧
 LdStr (w1_7.cell? t) fun x19_0 =>
 LdB (w1_7.cell? (t.add 1)) fun x19_1 =>
 LdSl (w1_7.cell? (t.add 2)) fun x19_2 x19_2N x19_2C =>
 Calls Try.prog 7 #[(.agg #[(.string x19_0), (.bool x19_1), (.slice x19_2 x19_2N x19_2C)])] w1_7 (post R fun v4 w1_8 =>
 ∃ (x20_0 : ByteArray) (x20_1 : Bool) (x20_2 : Option Addr) (x20_2N : Nat) (x20_2C : Nat), v4 = (.agg #[(.string x20_0), (.bool x20_1), (.slice x20_2 x20_2N x20_2C)]) ∧
 Calls Try.prog 8 #[(.slice x17 x17N x17C)] w1_8 (post R fun v5 w1_9 =>
 ∃ (x22 : Option Addr) (x22N : Nat) (x22C : Nat), v5 = (.slice x22 x22N x22C) ∧
 Calls Try.prog 13 #[(.agg #[(.string x20_0), (.bool x20_1), (.slice x20_2 x20_2N x20_2C)]), (.slice x22 x22N x22C), (.int .i64 2000)] w1_9 (post R fun v6 w1_10 =>
 ∃ (x23_0 : Option Addr) (x23_0N : Nat) (x23_0C : Nat) (x23_1 : Int), v6 = (.tuple #[(.slice x23_0 x23_0N x23_0C), (.int .i64 x23_1)]) ∧
 LdStr (w1_10.cell? t) fun x27_0 =>
 LdB (w1_10.cell? (t.add 1)) fun x27_1 =>
 LdSl (w1_10.cell? (t.add 2)) fun x27_2 x27_2N x27_2C =>
 Calls Try.prog 7 #[(.agg #[(.string x27_0), (.bool x27_1), (.slice x27_2 x27_2N x27_2C)])] w1_10 (post R fun v7 w1_11 =>
 ∃ (x28_0 : ByteArray) (x28_1 : Bool) (x28_2 : Option Addr) (x28_2N : Nat) (x28_2C : Nat), v7 = (.agg #[(.string x28_0), (.bool x28_1), (.slice x28_2 x28_2N x28_2C)]) ∧
 Calls Try.prog 8 #[(.slice x17 x17N x17C)] w1_11 (post R fun v8 w1_12 =>
 ∃ (x30 : Option Addr) (x30N : Nat) (x30C : Nat), v8 = (.slice x30 x30N x30C) ∧
 Calls Try.prog 23 #[(.agg #[(.string x28_0), (.bool x28_1), (.slice x28_2 x28_2N x28_2C)]), (.slice x30 x30N x30C)] w1_12 (post R fun v9 w1_13 =>
 ∃ (x31_0 : Int) (x31_1 : Int), v9 = (.tuple #[(.int .u64 x31_0), (.int .i64 x31_1)]) ∧
 Br (x31_1 != (0 : Int))
 (R (.returned (.bool (x23_1 == x31_1))) w1_13)
 (LdStr (w1_13.cell? t) fun x39_0 =>
 LdB (w1_13.cell? (t.add 1)) fun x39_1 =>
 LdSl (w1_13.cell? (t.add 2)) fun x39_2 x39_2N x39_2C =>
 Calls Try.prog 25 #[(.agg #[(.string x39_0), (.bool x39_1), (.slice x39_2 x39_2N x39_2C)])] w1_13 (post R fun v10 w1_14 =>
 ∃ (x40 : Option Addr) (x40N : Nat) (x40C : Nat), v10 = (.slice x40 x40N x40C) ∧
 Calls Try.prog 24 #[(.slice x40 x40N x40C), (.slice x17 x17N x17C), (.slice none 0 0), (.slice none 0 0)] w1_14 (post R fun v11 w1_15 =>
 ∃ (x42 : Option Addr) (x42N : Nat) (x42C : Nat), v11 = (.slice x42 x42N x42C) ∧
 Br (decide (((x42N : Nat) : Int) > (2000 : Int)))
 (Br (x23_1 == (2 : Int))
 (R (.returned (.bool (decide (x31_0 > (2000 : Int))))) w1_15)
 (R (.returned (.bool false)) w1_15))
 (Br (x23_1 == (0 : Int))
 (InR .u64 (((x42N : Nat) : Int)) ∧ Br (x31_0 == (((x42N : Nat) : Int)))
 (Calls Try.prog 17 #[(.slice x23_0 x23_0N x23_0C), (.slice x42 x42N x42C)] w1_15 (post R fun v12 w1_16 =>
 ∃ (x64 : Bool), v12 = (.bool x64) ∧
 R (.returned (.bool x64)) w1_16))
 (R (.returned (.bool false)) w1_15))
 (R (.returned (.bool false)) w1_15)))))))))))))))

def pl4 : Plan := ⟨66, ⟨[]⟩, [], []⟩

theorem eq4 (t_0 : ByteArray) (t_1 : Bool) (t_2 : Option Addr) (t_2N : Nat) (t_2C : Nat) (lists : Option Addr) (listsN : Nat) (listsC : Nat) (w : World) (R : Ending → World → Prop) : F4 t_0 t_1 t_2 t_2N t_2C lists listsN listsC w R = vc Try.prog Try.f4 pl4 R 100000 [.code (bodyOf Try.f4)] (argEnv 0 #[(.agg #[(.string t_0), (.bool t_1), (.slice t_2 t_2N t_2C)]), (.slice lists listsN listsC)].toList) w := by kernel_rfl

theorem ok4 (t_0 : ByteArray) (t_1 : Bool) (t_2 : Option Addr) (t_2N : Nat) (t_2C : Nat) (lists : Option Addr) (listsN : Nat) (listsC : Nat) {w : World} {R : Ending → World → Prop} (h : F4 t_0 t_1 t_2 t_2N t_2C lists listsN listsC w R) : Calls Try.prog 4 #[(.agg #[(.string t_0), (.bool t_1), (.slice t_2 t_2N t_2C)]), (.slice lists listsN listsC)] w R :=
  vc_calls (pl := pl4) Try.func4 (by kernel_rfl) (by kernel_rfl) (by kernel_rfl) (Eq.mp (eq4 t_0 t_1 t_2 t_2N t_2C lists listsN listsC w R) h)

-- espalierlaw12.cut
def F28_j4 (L3 : Option Addr → Nat → Nat → Int → World → Prop) (i : Int) (out2 : Option Addr) (outN2 : Nat) (outC2 : Nat) (w_3 : World) (R : Ending → World → Prop) : Prop :=
 InR .i64 (i + (1 : Int)) ∧ L3 out2 outN2 outC2 (i + (1 : Int)) w_3

def F28_j8 (L7 : Bool → Int → World → Prop) (k : Int) (in_2 : Bool) (w_4 : World) (R : Ending → World → Prop) : Prop :=
 InR .i64 (k + (1 : Int)) ∧ L7 in_2 (k + (1 : Int)) w_4

def F28_l7 (l : Option Addr) (lN : Nat) (told : Option Addr) (toldN : Nat) (out : Option Addr) (outN : Nat) (outC : Nat) (i : Int) (J4 : Option Addr → Nat → Nat → World → Prop) (L7 : Bool → Int → World → Prop) (in_ : Bool) (k : Int) (w_3 : World) (R : Ending → World → Prop) : Prop :=
 Br (decide (k < ((toldN : Nat) : Int)))
 (∃ J8 : Bool → World → Prop, (∀ (in_2 : Bool) (w1 : World), J8 in_2 w1 → F28_j8 L7 k in_2 w1 R) ∧
 (Dr w_3 fun w1 =>
 Br in_
 (J8 true w1)
 (IdxA told toldN k 1 fun q25 =>
 LdI .u64 (w1.cell? q25) fun x26 =>
 IdxA l lN i 4 fun q29 =>
 LdI .u64 (w1.cell? q29) fun x31 =>
 J8 (x26 == x31) w1)))
 (Br in_
 (IdxA l lN i 4 fun q38 =>
 LdI .u64 (w_3.cell? q38) fun x39_0 =>
 LdI .u64 (w_3.cell? (q38.add 1)) fun x39_1 =>
 LdI .u64 (w_3.cell? (q38.add 2)) fun x39_2 =>
 LdI .i64 (w_3.cell? (q38.add 3)) fun x39_3 =>
 Al w_3 #[(.int .u64 x39_0), (.int .u64 x39_1), (.int .u64 x39_2), (.int .i64 x39_3)] 79 fun g40 w1 =>
 Raw Try.prog (Builtin.append_ #[51, 51] 51 #[(.slice out outN outC), (.slice (some g40) 1 1)]) w1 fun v w1_2 =>
 ∃ (x41 : Option Addr) (x41N : Nat) (x41C : Nat), v = (.slice x41 x41N x41C) ∧
 J4 x41 x41N x41C w1_2)
 (J4 out outN outC w_3))

def F28_l3 (l : Option Addr) (lN : Nat) (told : Option Addr) (toldN : Nat) (L3 : Option Addr → Nat → Nat → Int → World → Prop) (out : Option Addr) (outN : Nat) (outC : Nat) (i : Int) (w_2 : World) (R : Ending → World → Prop) : Prop :=
 Br (decide (i < ((lN : Nat) : Int)))
 (∃ J4 : Option Addr → Nat → Nat → World → Prop, (∀ (out2 : Option Addr) (outN2 : Nat) (outC2 : Nat) (w1 : World), J4 out2 outN2 outC2 w1 → F28_j4 L3 i out2 outN2 outC2 w1 R) ∧
 (∃ (I : Bool → Int → World → Prop) (m : Bool → Int → World → Nat), I false (0 : Int) w_2 ∧
 ∀ (in_ : Bool) (k : Int) (w1 : World), I in_ k w1 → F28_l7 l lN told toldN out outN outC i J4 (fun in_' k' w2 => I in_' k' w2 ∧ m in_' k' w2 < m in_ k w1) in_ k w1 R))
 (R (.returned (.slice out outN outC)) w_2)

def F28 (l : Option Addr) (lN : Nat) (lC : Nat) (told : Option Addr) (toldN : Nat) (toldC : Nat) (w_ : World) (R : Ending → World → Prop) : Prop :=
 ∃ (I : Option Addr → Nat → Nat → Int → World → Prop) (m : Option Addr → Nat → Nat → Int → World → Nat), I none 0 0 (0 : Int) w_ ∧
 ∀ (out : Option Addr) (outN : Nat) (outC : Nat) (i : Int) (w1 : World), I out outN outC i w1 → F28_l3 l lN told toldN (fun out' outN' outC' i' w2 => I out' outN' outC' i' w2 ∧ m out' outN' outC' i' w2 < m out outN outC i w1) out outN outC i w1 R

def pl28 : Plan := ⟨43, ⟨[]⟩, [(8, ⟨[(7, (.s .bool))], [(7, 8), (21, 34)]⟩), (4, ⟨[(5, (.s .slice))], [(5, 6), (7, 42)]⟩)], [(7, ⟨[(7, (.s .bool)), (8, (.s (.int .i64)))], [(7, 34)]⟩), (3, ⟨[(5, (.s .slice)), (6, (.s (.int .i64)))], [(5, 42)]⟩)]⟩

theorem eq28 (l : Option Addr) (lN : Nat) (lC : Nat) (told : Option Addr) (toldN : Nat) (toldC : Nat) (w : World) (R : Ending → World → Prop) : F28 l lN lC told toldN toldC w R = vc Try.prog Try.f28 pl28 R 100000 [.code (bodyOf Try.f28)] (argEnv 0 #[(.slice l lN lC), (.slice told toldN toldC)].toList) w := by kernel_rfl

theorem ok28 (l : Option Addr) (lN : Nat) (lC : Nat) (told : Option Addr) (toldN : Nat) (toldC : Nat) {w : World} {R : Ending → World → Prop} (h : F28 l lN lC told toldN toldC w R) : Calls Try.prog 28 #[(.slice l lN lC), (.slice told toldN toldC)] w R :=
  vc_calls (pl := pl28) Try.func28 (by kernel_rfl) (by kernel_rfl) (by kernel_rfl) (Eq.mp (eq28 l lN lC told toldN toldC w R) h)

-- espalierlaw12.apart
def F27_l5 (l : Option Addr) (lN : Nat) (L2 : Int → World → Prop) (i : Int) (L5 : Int → World → Prop) (k : Int) (w_3 : World) (R : Ending → World → Prop) : Prop :=
 Br (decide (k < i))
 (Dr w_3 fun w1 =>
 IdxA l lN k 4 fun q18 =>
 LdI .u64 (w1.cell? q18) fun x20 =>
 IdxA l lN i 4 fun q23 =>
 LdI .u64 (w1.cell? q23) fun x25 =>
 Br (x20 == x25)
 (R (.returned (.bool false)) w1)
 (InR .i64 (k + (1 : Int)) ∧ L5 (k + (1 : Int)) w1))
 (InR .i64 (i + (1 : Int)) ∧ L2 (i + (1 : Int)) w_3)

def F27_l2 (l : Option Addr) (lN : Nat) (L2 : Int → World → Prop) (i : Int) (w_2 : World) (R : Ending → World → Prop) : Prop :=
 Br (decide (i < ((lN : Nat) : Int)))
 (∃ (I : Int → World → Prop) (m : Int → World → Nat), I (0 : Int) w_2 ∧
 ∀ (k : Int) (w1 : World), I k w1 → F27_l5 l lN L2 i (fun k' w2 => I k' w2 ∧ m k' w2 < m k w1) k w1 R)
 (R (.returned (.bool true)) w_2)

def F27 (l : Option Addr) (lN : Nat) (lC : Nat) (w_ : World) (R : Ending → World → Prop) : Prop :=
 ∃ (I : Int → World → Prop) (m : Int → World → Nat), I (0 : Int) w_ ∧
 ∀ (i : Int) (w1 : World), I i w1 → F27_l2 l lN (fun i' w2 => I i' w2 ∧ m i' w2 < m i w1) i w1 R

def pl27 : Plan := ⟨27, ⟨[]⟩, [], [(5, ⟨[(4, (.s (.int .i64)))], [(2, 3), (4, 27)]⟩), (2, ⟨[(3, (.s (.int .i64)))], [(2, 27)]⟩)]⟩

theorem eq27 (l : Option Addr) (lN : Nat) (lC : Nat) (w : World) (R : Ending → World → Prop) : F27 l lN lC w R = vc Try.prog Try.f27 pl27 R 100000 [.code (bodyOf Try.f27)] (argEnv 0 #[(.slice l lN lC)].toList) w := by kernel_rfl

theorem ok27 (l : Option Addr) (lN : Nat) (lC : Nat) {w : World} {R : Ending → World → Prop} (h : F27 l lN lC w R) : Calls Try.prog 27 #[(.slice l lN lC)] w R :=
  vc_calls (pl := pl27) Try.func27 (by kernel_rfl) (by kernel_rfl) (by kernel_rfl) (Eq.mp (eq27 l lN lC w R) h)

-- espalierlaw12.TwigUsed
def F5_j15 (x25 : Option Addr) (x25N : Nat) (x39_0 : Option Addr) (x39_0N : Nat) (L11 : Option Addr → Nat → Nat → Int → Int → World → Prop) (less : Option Addr) (lessN : Nat) (lessC : Nat) (total : Int) (i : Int) (w_4 : World) (R : Ending → World → Prop) : Prop :=
 ∃ S : World → Prop, S w_4.drew ∧ IdxA x25 x25N i 1 fun q88 =>
 ∃ (x89 : Option Addr) (x89N : Nat) (x89C : Nat), Held S q88 (.slice x89 x89N x89C) ∧ IdxA x39_0 x39_0N i 1 fun q92 =>
 ∃ (x93 : Option Addr) (x93N : Nat) (x93C : Nat), Held S q92 (.slice x93 x93N x93C) ∧ Calls Try.prog 28 #[(.slice x89 x89N x89C), (.slice x93 x93N x93C)] w_4.drew (post R fun v9 w1_11 =>
 ∃ (x94 : Option Addr) (x94N : Nat) (x94C : Nat), v9 = (.slice x94 x94N x94C) ∧
 Al w1_11 #[(.slice x94 x94N x94C)] 51 fun g95 w1_12 =>
 Raw Try.prog (Builtin.append_ #[25, 25] 25 #[(.slice less lessN lessC), (.slice (some g95) 1 1)]) w1_12 fun v10 w1_13 =>
 ∃ (x96 : Option Addr) (x96N : Nat) (x96C : Nat), v10 = (.slice x96 x96N x96C) ∧
 Dr w1_13 fun w1_14 =>
 IdxA x96 x96N i 1 fun q99 =>
 LdSl (w1_14.cell? q99) fun x100 x100N x100C =>
 IdxA x39_0 x39_0N i 1 fun q104 =>
 LdSl (w1_14.cell? q104) fun x105 x105N x105C =>
 Br (((x100N : Nat) : Int) != ((x105N : Nat) : Int))
 (R (.returned (.bool false)) w1_14)
 (IdxA x39_0 x39_0N i 1 fun q111 =>
 LdSl (w1_14.cell? q111) fun x112 x112N x112C =>
 InR .i64 (total + ((x112N : Nat) : Int)) ∧ InR .i64 (i + (1 : Int)) ∧ L11 x96 x96N x96C (total + ((x112N : Nat) : Int)) (i + (1 : Int)) w1_14))

def F5_j31 (t : Addr) (x31_0 : Int) (less : Option Addr) (lessN : Nat) (lessC : Nat) (w_5 : World) (R : Ending → World → Prop) : Prop :=
 LdStr (w_5.cell? t) fun x183_0 =>
 LdB (w_5.cell? (t.add 1)) fun x183_1 =>
 LdSl (w_5.cell? (t.add 2)) fun x183_2 x183_2N x183_2C =>
 Calls Try.prog 7 #[(.agg #[(.string x183_0), (.bool x183_1), (.slice x183_2 x183_2N x183_2C)])] w_5 (post R fun v12 w1_13 =>
 ∃ (x184_0 : ByteArray) (x184_1 : Bool) (x184_2 : Option Addr) (x184_2N : Nat) (x184_2C : Nat), v12 = (.agg #[(.string x184_0), (.bool x184_1), (.slice x184_2 x184_2N x184_2C)]) ∧
 Calls Try.prog 8 #[(.slice less lessN lessC)] w1_13 (post R fun v13 w1_14 =>
 ∃ (x186 : Option Addr) (x186N : Nat) (x186C : Nat), v13 = (.slice x186 x186N x186C) ∧
 Calls Try.prog 23 #[(.agg #[(.string x184_0), (.bool x184_1), (.slice x184_2 x184_2N x184_2C)]), (.slice x186 x186N x186C)] w1_14 (post R fun v14 w1_15 =>
 ∃ (x187_0 : Int) (x187_1 : Int), v14 = (.tuple #[(.int .u64 x187_0), (.int .i64 x187_1)]) ∧
 Br (x187_1 == (0 : Int))
 (R (.returned (.bool (decide (x187_0 < x31_0)))) w1_15)
 (R (.returned (.bool false)) w1_15))))

def F5_l26 (less : Option Addr) (lessN : Nat) (J31 : World → Prop) (L26 : Int → Int → World → Prop) (at_ : Int) (i2 : Int) (w_5 : World) (R : Ending → World → Prop) : Prop :=
 Br (decide (i2 < ((lessN : Nat) : Int)))
 (IdxA less lessN i2 1 fun q152 =>
 LdSl (w_5.cell? q152) fun x153 x153N x153C =>
 Br (decide (at_ < ((x153N : Nat) : Int)))
 (∃ S : World → Prop, S w_5.drew ∧ IdxA less lessN i2 1 fun q161 =>
 ∃ (x162 : Option Addr) (x162N : Nat) (x162C : Nat), Held S q161 (.slice x162 x162N x162C) ∧ SlB 0 at_ ((x162C : Nat) : Int)
 (IdxA less lessN i2 1 fun q168 =>
 ∃ (x169 : Option Addr) (x169N : Nat) (x169C : Nat), Held S q168 (.slice x169 x169N x169C) ∧ InR .i64 (at_ + (1 : Int)) ∧ SlB (at_ + (1 : Int)) ((x169N : Nat) : Int) ((x169C : Nat) : Int)
 (Al w_5.drew #[] 79 fun g158 w1_14 =>
 S w1_14 ∧ Raw Try.prog (Builtin.append_ #[51, 51] 51 #[(.slice (some g158) 0 0), (.slice x162 (at_).toNat x162C)]) w1_14 fun v12 w1_15 =>
 ∃ (x165 : Option Addr) (x165N : Nat) (x165C : Nat), v12 = (.slice x165 x165N x165C) ∧
 S w1_15 ∧ Raw Try.prog (Builtin.append_ #[51, 51] 51 #[(.slice x165 x165N x165C), (.slice (SlA x169 x169C ((at_ + (1 : Int))).toNat 4) ((((x169N : Nat) : Int)).toNat - ((at_ + (1 : Int))).toNat) (x169C - ((at_ + (1 : Int))).toNat))]) w1_15 fun v13 w1_16 =>
 ∃ (x173 : Option Addr) (x173N : Nat) (x173C : Nat), v13 = (.slice x173 x173N x173C) ∧
 IdxA less lessN i2 1 fun q174 =>
 St w1_16 q174 (.slice x173 x173N x173C) fun w1_17 =>
 J31 w1_17)))
 (IdxA less lessN i2 1 fun q178 =>
 LdSl (w_5.cell? q178) fun x179 x179N x179C =>
 InR .i64 (at_ - ((x179N : Nat) : Int)) ∧ InR .i64 (i2 + (1 : Int)) ∧ L26 (at_ - ((x179N : Nat) : Int)) (i2 + (1 : Int)) w_5))
 (J31 w_5)

def F5_j22 (which : Int) (t : Addr) (x31_0 : Int) (less : Option Addr) (lessN : Nat) (lessC : Nat) (total : Int) (w_4 : World) (R : Ending → World → Prop) : Prop :=
 Br (total == (0 : Int))
 (R (.returned (.bool true)) w_4)
 (InR .i64 (which) ∧ total ≠ 0 ∧ ∃ J31 : World → Prop, (∀  (w1_13 : World), J31 w1_13 → F5_j31 t x31_0 less lessN lessC w1_13 R) ∧
 (∃ (I : Int → Int → World → Prop) (m : Int → Int → World → Nat), I ((which).tmod total) (0 : Int) w_4 ∧
 ∀ (at_ : Int) (i2 : Int) (w1_13 : World), I at_ i2 w1_13 → F5_l26 less lessN J31 (fun at_' i2' w2 => I at_' i2' w2 ∧ m at_' i2' w2 < m at_ i2 w1_13) at_ i2 w1_13 R))

def F5_l11 (which : Int) (t : Addr) (x25 : Option Addr) (x25N : Nat) (x31_0 : Int) (x39_0 : Option Addr) (x39_0N : Nat) (L11 : Option Addr → Nat → Nat → Int → Int → World → Prop) (less : Option Addr) (lessN : Nat) (lessC : Nat) (total : Int) (i : Int) (w_3 : World) (R : Ending → World → Prop) : Prop :=
 Br (decide (i < ((x25N : Nat) : Int)))
 (∃ J15 : World → Prop, (∀  (w1_10 : World), J15 w1_10 → F5_j15 x25 x25N x39_0 x39_0N L11 less lessN lessC total i w1_10 R) ∧
 (Br (decide (i ≥ ((x39_0N : Nat) : Int)))
 (R (.returned (.bool (decide (i < ((x39_0N : Nat) : Int))))) w_3)
 (IdxA x25 x25N i 1 fun q76 =>
 LdSl (w_3.cell? q76) fun x77 x77N x77C =>
 Calls Try.prog 27 #[(.slice x77 x77N x77C)] w_3 (post R fun v9 w1_10 =>
 ∃ (x78 : Bool), v9 = (.bool x78) ∧
 Br (!x78)
 (R (.returned (.bool (decide (i < ((x39_0N : Nat) : Int))))) w1_10)
 (J15 w1_10)))))
 (LdStr (w_3.cell? t) fun x116_0 =>
 LdB (w_3.cell? (t.add 1)) fun x116_1 =>
 LdSl (w_3.cell? (t.add 2)) fun x116_2 x116_2N x116_2C =>
 Calls Try.prog 7 #[(.agg #[(.string x116_0), (.bool x116_1), (.slice x116_2 x116_2N x116_2C)])] w_3 (post R fun v9 w1_10 =>
 ∃ (x117_0 : ByteArray) (x117_1 : Bool) (x117_2 : Option Addr) (x117_2N : Nat) (x117_2C : Nat), v9 = (.agg #[(.string x117_0), (.bool x117_1), (.slice x117_2 x117_2N x117_2C)]) ∧
 Calls Try.prog 8 #[(.slice less lessN lessC)] w1_10 (post R fun v10 w1_11 =>
 ∃ (x119 : Option Addr) (x119N : Nat) (x119C : Nat), v10 = (.slice x119 x119N x119C) ∧
 Calls Try.prog 23 #[(.agg #[(.string x117_0), (.bool x117_1), (.slice x117_2 x117_2N x117_2C)]), (.slice x119 x119N x119C)] w1_11 (post R fun v11 w1_12 =>
 ∃ (x120_0 : Int) (x120_1 : Int), v11 = (.tuple #[(.int .u64 x120_0), (.int .i64 x120_1)]) ∧
 ∃ J22 : World → Prop, (∀  (w1_13 : World), J22 w1_13 → F5_j22 which t x31_0 less lessN lessC total w1_13 R) ∧
 (Br (x120_1 != (0 : Int))
 (R (.returned (.bool false)) w1_12)
 (Br (x120_0 != x31_0)
 (R (.returned (.bool false)) w1_12)
 (Br (!((total == (0 : Int)) == (x31_0 == (0 : Int))))
 (R (.returned (.bool false)) w1_12)
 (J22 w1_12))))))))

def F5_j8 (which : Int) (t : Addr) (x25 : Option Addr) (x25N : Nat) (x31_0 : Int) (x39_0 : Option Addr) (x39_0N : Nat) (w_2 : World) (R : Ending → World → Prop) : Prop :=
 ∃ (I : Option Addr → Nat → Nat → Int → Int → World → Prop) (m : Option Addr → Nat → Nat → Int → Int → World → Nat), I none 0 0 (0 : Int) (0 : Int) w_2 ∧
 ∀ (less : Option Addr) (lessN : Nat) (lessC : Nat) (total : Int) (i : Int) (w1_10 : World), I less lessN lessC total i w1_10 → F5_l11 which t x25 x25N x31_0 x39_0 x39_0N (fun less' lessN' lessC' total' i' w2 => I less' lessN' lessC' total' i' w2 ∧ m less' lessN' lessC' total' i' w2 < m less lessN lessC total i w1_10) less lessN lessC total i w1_10 R

def F5 (t_0 : ByteArray) (t_1 : Bool) (t_2 : Option Addr) (t_2N : Nat) (t_2C : Nat) (lists : Option Addr) (listsN : Nat) (listsC : Nat) (which : Int) (w_ : World) (R : Ending → World → Prop) : Prop :=
 Al w_ #[(.string t_0), (.bool t_1), (.slice t_2 t_2N t_2C)] 24 fun t w1 =>
 Calls Try.prog 20 #[] w1 (post R fun v w1_2 =>
 ∃ (x21 : Bool), v = (.bool x21) ∧
 Br (!x21)
 (R (.returned (.bool false)) w1_2)
 (LdStr (w1_2.cell? t) fun x23_0 =>
 LdB (w1_2.cell? (t.add 1)) fun x23_1 =>
 LdSl (w1_2.cell? (t.add 2)) fun x23_2 x23_2N x23_2C =>
 Calls Try.prog 22 #[(.agg #[(.string x23_0), (.bool x23_1), (.slice x23_2 x23_2N x23_2C)]), (.slice lists listsN listsC), (.int .i64 40)] w1_2 (post R fun v2 w1_3 =>
 ∃ (x25 : Option Addr) (x25N : Nat) (x25C : Nat), v2 = (.slice x25 x25N x25C) ∧
 LdStr (w1_3.cell? t) fun x27_0 =>
 LdB (w1_3.cell? (t.add 1)) fun x27_1 =>
 LdSl (w1_3.cell? (t.add 2)) fun x27_2 x27_2N x27_2C =>
 Calls Try.prog 7 #[(.agg #[(.string x27_0), (.bool x27_1), (.slice x27_2 x27_2N x27_2C)])] w1_3 (post R fun v3 w1_4 =>
 ∃ (x28_0 : ByteArray) (x28_1 : Bool) (x28_2 : Option Addr) (x28_2N : Nat) (x28_2C : Nat), v3 = (.agg #[(.string x28_0), (.bool x28_1), (.slice x28_2 x28_2N x28_2C)]) ∧
 Calls Try.prog 8 #[(.slice x25 x25N x25C)] w1_4 (post R fun v4 w1_5 =>
 ∃ (x30 : Option Addr) (x30N : Nat) (x30C : Nat), v4 = (.slice x30 x30N x30C) ∧
 Calls Try.prog 23 #[(.agg #[(.string x28_0), (.bool x28_1), (.slice x28_2 x28_2N x28_2C)]), (.slice x30 x30N x30C)] w1_5 (post R fun v5 w1_6 =>
 ∃ (x31_0 : Int) (x31_1 : Int), v5 = (.tuple #[(.int .u64 x31_0), (.int .i64 x31_1)]) ∧
 LdStr (w1_6.cell? t) fun x35_0 =>
 LdB (w1_6.cell? (t.add 1)) fun x35_1 =>
 LdSl (w1_6.cell? (t.add 2)) fun x35_2 x35_2N x35_2C =>
 Calls Try.prog 7 #[(.agg #[(.string x35_0), (.bool x35_1), (.slice x35_2 x35_2N x35_2C)])] w1_6 (post R fun v6 w1_7 =>
 ∃ (x36_0 : ByteArray) (x36_1 : Bool) (x36_2 : Option Addr) (x36_2N : Nat) (x36_2C : Nat), v6 = (.agg #[(.string x36_0), (.bool x36_1), (.slice x36_2 x36_2N x36_2C)]) ∧
 Calls Try.prog 8 #[(.slice x25 x25N x25C)] w1_7 (post R fun v7 w1_8 =>
 ∃ (x38 : Option Addr) (x38N : Nat) (x38C : Nat), v7 = (.slice x38 x38N x38C) ∧
 Calls Try.prog 26 #[(.agg #[(.string x36_0), (.bool x36_1), (.slice x36_2 x36_2N x36_2C)]), (.slice x38 x38N x38C)] w1_8 (post R fun v8 w1_9 =>
 ∃ (x39_0 : Option Addr) (x39_0N : Nat) (x39_0C : Nat) (x39_1 : Int), v8 = (.tuple #[(.slice x39_0 x39_0N x39_0C), (.int .i64 x39_1)]) ∧
 ∃ J8 : World → Prop, (∀  (w1_10 : World), J8 w1_10 → F5_j8 which t x25 x25N x31_0 x39_0 x39_0N w1_10 R) ∧
 (Br (x31_1 != (0 : Int))
 (Br (x31_1 == (0 : Int))
 (Br (x39_1 == (0 : Int))
 (R (.returned (.bool true)) w1_9)
 (R (.returned (.bool (((x39_0N : Nat) : Int) == (0 : Int)))) w1_9))
 (Br (x31_0 == (0 : Int))
 (Br (x39_1 == (0 : Int))
 (R (.returned (.bool true)) w1_9)
 (R (.returned (.bool (((x39_0N : Nat) : Int) == (0 : Int)))) w1_9))
 (R (.returned (.bool false)) w1_9)))
 (Br (x39_1 != (0 : Int))
 (Br (x31_1 == (0 : Int))
 (Br (x39_1 == (0 : Int))
 (R (.returned (.bool true)) w1_9)
 (R (.returned (.bool (((x39_0N : Nat) : Int) == (0 : Int)))) w1_9))
 (Br (x31_0 == (0 : Int))
 (Br (x39_1 == (0 : Int))
 (R (.returned (.bool true)) w1_9)
 (R (.returned (.bool (((x39_0N : Nat) : Int) == (0 : Int)))) w1_9))
 (R (.returned (.bool false)) w1_9)))
 (J8 w1_9))))))))))))

def pl5 : Plan := ⟨197, ⟨[]⟩, [(15, ⟨[], [(6, 7), (69, 85)]⟩), (31, ⟨[], [(17, 182)]⟩), (22, ⟨[], [(6, 7), (123, 137)]⟩), (8, ⟨[], [(6, 7), (42, 63)]⟩)], [(11, ⟨[(12, (.s .slice)), (13, (.s (.int .i64))), (14, (.s (.int .i64)))], [(6, 7), (12, 115)]⟩), (26, ⟨[(17, (.s (.int .i64))), (18, (.s (.int .i64)))], [(17, 182)]⟩)]⟩

theorem eq5 (t_0 : ByteArray) (t_1 : Bool) (t_2 : Option Addr) (t_2N : Nat) (t_2C : Nat) (lists : Option Addr) (listsN : Nat) (listsC : Nat) (which : Int) (w : World) (R : Ending → World → Prop) : F5 t_0 t_1 t_2 t_2N t_2C lists listsN listsC which w R = vc Try.prog Try.f5 pl5 R 100000 [.code (bodyOf Try.f5)] (argEnv 0 #[(.agg #[(.string t_0), (.bool t_1), (.slice t_2 t_2N t_2C)]), (.slice lists listsN listsC), (.int .u16 which)].toList) w := by kernel_rfl

theorem ok5 (t_0 : ByteArray) (t_1 : Bool) (t_2 : Option Addr) (t_2N : Nat) (t_2C : Nat) (lists : Option Addr) (listsN : Nat) (listsC : Nat) (which : Int) {w : World} {R : Ending → World → Prop} (h : F5 t_0 t_1 t_2 t_2N t_2C lists listsN listsC which w R) : Calls Try.prog 5 #[(.agg #[(.string t_0), (.bool t_1), (.slice t_2 t_2N t_2C)]), (.slice lists listsN listsC), (.int .u16 which)] w R :=
  vc_calls (pl := pl5) Try.func5 (by kernel_rfl) (by kernel_rfl) (by kernel_rfl) (Eq.mp (eq5 t_0 t_1 t_2 t_2N t_2C lists listsN listsC which w R) h)

-- espalierlaw12.TwigTurned
def F6_l19 (t : Addr) (x31_0 : Int) (x39_0 : Option Addr) (x39_0N : Nat) (x39_0C : Nat) (turned : Addr) (parts : Option Addr) (partsN : Nat) (L19 : Option Addr → Nat → Nat → Int → World → Prop) (other : Option Addr) (otherN : Nat) (otherC : Nat) (i2 : Int) (w_4 : World) (R : Ending → World → Prop) : Prop :=
 Br (decide (i2 ≥ (0 : Int)))
 (∃ S : World → Prop, S w_4.drew ∧ ∃ (x98 : Option Addr) (x98N : Nat) (x98C : Nat), Held S (turned.add 2) (.slice x98 x98N x98C) ∧ ∃ (x100 : Option Addr) (x100N : Nat) (x100C : Nat), Held S (t.add 2) (.slice x100 x100N x100C) ∧ IdxA x100 x100N i2 3 fun q102 =>
 ∃ (x103_0 : ByteArray), Held S q102 (.string x103_0) ∧ ∃ (x103_1 : Bool), Held S (q102.add 1) (.bool x103_1) ∧ ∃ (x103_2 : Option Addr) (x103_2N : Nat) (x103_2C : Nat), Held S (q102.add 2) (.slice x103_2 x103_2N x103_2C) ∧ Al w_4.drew #[(.string x103_0), (.bool x103_1), (.slice x103_2 x103_2N x103_2C)] 24 fun g104 w1_16 =>
 S w1_16 ∧ Raw Try.prog (Builtin.append_ #[22, 22] 22 #[(.slice x98 x98N x98C), (.slice (some g104) 1 1)]) w1_16 fun v9 w1_17 =>
 ∃ (x105 : Option Addr) (x105N : Nat) (x105C : Nat), v9 = (.slice x105 x105N x105C) ∧
 St w1_17 (turned.add 2) (.slice x105 x105N x105C) fun w1_18 =>
 IdxA parts partsN i2 1 fun q110 =>
 LdSl (w1_18.cell? q110) fun x111 x111N x111C =>
 Raw Try.prog (Builtin.append_ #[25, 25] 25 #[(.slice other otherN otherC), (.slice x111 x111N x111C)]) w1_18 fun v10 w1_19 =>
 ∃ (x112 : Option Addr) (x112N : Nat) (x112C : Nat), v10 = (.slice x112 x112N x112C) ∧
 InR .i64 (i2 - (1 : Int)) ∧ L19 x112 x112N x112C (i2 - (1 : Int)) w1_19)
 (LdStr (w_4.cell? turned) fun x114_0 =>
 LdB (w_4.cell? (turned.add 1)) fun x114_1 =>
 LdSl (w_4.cell? (turned.add 2)) fun x114_2 x114_2N x114_2C =>
 Calls Try.prog 7 #[(.agg #[(.string x114_0), (.bool x114_1), (.slice x114_2 x114_2N x114_2C)])] w_4 (post R fun v9 w1_15 =>
 ∃ (x115_0 : ByteArray) (x115_1 : Bool) (x115_2 : Option Addr) (x115_2N : Nat) (x115_2C : Nat), v9 = (.agg #[(.string x115_0), (.bool x115_1), (.slice x115_2 x115_2N x115_2C)]) ∧
 Calls Try.prog 8 #[(.slice other otherN otherC)] w1_15 (post R fun v10 w1_16 =>
 ∃ (x117 : Option Addr) (x117N : Nat) (x117C : Nat), v10 = (.slice x117 x117N x117C) ∧
 Calls Try.prog 23 #[(.agg #[(.string x115_0), (.bool x115_1), (.slice x115_2 x115_2N x115_2C)]), (.slice x117 x117N x117C)] w1_16 (post R fun v11 w1_17 =>
 ∃ (x118_0 : Int) (x118_1 : Int), v11 = (.tuple #[(.int .u64 x118_0), (.int .i64 x118_1)]) ∧
 LdStr (w1_17.cell? turned) fun x122_0 =>
 LdB (w1_17.cell? (turned.add 1)) fun x122_1 =>
 LdSl (w1_17.cell? (turned.add 2)) fun x122_2 x122_2N x122_2C =>
 Calls Try.prog 7 #[(.agg #[(.string x122_0), (.bool x122_1), (.slice x122_2 x122_2N x122_2C)])] w1_17 (post R fun v12 w1_18 =>
 ∃ (x123_0 : ByteArray) (x123_1 : Bool) (x123_2 : Option Addr) (x123_2N : Nat) (x123_2C : Nat), v12 = (.agg #[(.string x123_0), (.bool x123_1), (.slice x123_2 x123_2N x123_2C)]) ∧
 Calls Try.prog 8 #[(.slice other otherN otherC)] w1_18 (post R fun v13 w1_19 =>
 ∃ (x125 : Option Addr) (x125N : Nat) (x125C : Nat), v13 = (.slice x125 x125N x125C) ∧
 Calls Try.prog 29 #[(.agg #[(.string x123_0), (.bool x123_1), (.slice x123_2 x123_2N x123_2C)]), (.slice x125 x125N x125C)] w1_19 (post R fun v14 w1_20 =>
 ∃ (x126_0 : Option Addr) (x126_0N : Nat) (x126_0C : Nat) (x126_1 : Int), v14 = (.tuple #[(.slice x126_0 x126_0N x126_0C), (.int .i64 x126_1)]) ∧
 Br (x118_1 == (0 : Int))
 (Br (x126_1 == (0 : Int))
 (Br (x118_0 == x31_0)
 (Calls Try.prog 30 #[(.slice x126_0 x126_0N x126_0C), (.slice x39_0 x39_0N x39_0C)] w1_20 (post R fun v15 w1_21 =>
 ∃ (x143 : Bool), v15 = (.bool x143) ∧
 R (.returned (.bool x143)) w1_21))
 (R (.returned (.bool false)) w1_20))
 (R (.returned (.bool false)) w1_20))
 (R (.returned (.bool false)) w1_20))))))))

def F6_l12 (t : Addr) (x25 : Option Addr) (x25N : Nat) (x25C : Nat) (x31_0 : Int) (x39_0 : Option Addr) (x39_0N : Nat) (x39_0C : Nat) (turned : Addr) (L12 : Option Addr → Nat → Nat → Int → Int → World → Prop) (parts : Option Addr) (partsN : Nat) (partsC : Nat) (at_ : Int) (i : Int) (w_3 : World) (R : Ending → World → Prop) : Prop :=
 LdSl (w_3.cell? (t.add 2)) fun x62 x62N x62C =>
 Br (decide (i < ((x62N : Nat) : Int)))
 (LdSl (w_3.cell? (t.add 2)) fun x68 x68N x68C =>
 IdxA x68 x68N i 3 fun q70 =>
 LdStr (w_3.cell? q70) fun x71_0 =>
 LdB (w_3.cell? (q70.add 1)) fun x71_1 =>
 LdSl (w_3.cell? (q70.add 2)) fun x71_2 x71_2N x71_2C =>
 Calls Try.prog 12 #[(.agg #[(.string x71_0), (.bool x71_1), (.slice x71_2 x71_2N x71_2C)])] w_3 (post R fun v9 w1_14 =>
 ∃ (x72 : Int), v9 = (.int .i64 x72) ∧
 InR .i64 (at_ + x72) ∧ SlB at_ (at_ + x72) ((x25C : Nat) : Int)
 (Al w1_14 #[(.slice (SlA x25 x25C (at_).toNat 1) (((at_ + x72)).toNat - (at_).toNat) (x25C - (at_).toNat))] 25 fun g80 w1_15 =>
 Raw Try.prog (Builtin.append_ #[57, 57] 57 #[(.slice parts partsN partsC), (.slice (some g80) 1 1)]) w1_15 fun v10 w1_16 =>
 ∃ (x81 : Option Addr) (x81N : Nat) (x81C : Nat), v10 = (.slice x81 x81N x81C) ∧
 InR .i64 (at_ + x72) ∧ InR .i64 (i + (1 : Int)) ∧ L12 x81 x81N x81C (at_ + x72) (i + (1 : Int)) w1_16)))
 (IdxA x25 x25N (0 : Int) 1 fun q86 =>
 LdSl (w_3.cell? q86) fun x87 x87N x87C =>
 Al w_3 #[(.slice x87 x87N x87C)] 51 fun g88 w1_14 =>
 LdSl (w1_14.cell? (t.add 2)) fun x90 x90N x90C =>
 InR .i64 (((x90N : Nat) : Int) - (1 : Int)) ∧ ∃ (I : Option Addr → Nat → Nat → Int → World → Prop) (m : Option Addr → Nat → Nat → Int → World → Nat), I (some g88) 1 1 (((x90N : Nat) : Int) - (1 : Int)) w1_14 ∧
 ∀ (other : Option Addr) (otherN : Nat) (otherC : Nat) (i2 : Int) (w1_15 : World), I other otherN otherC i2 w1_15 → F6_l19 t x31_0 x39_0 x39_0N x39_0C turned parts partsN (fun other' otherN' otherC' i2' w2 => I other' otherN' otherC' i2' w2 ∧ m other' otherN' otherC' i2' w2 < m other otherN otherC i2 w1_15) other otherN otherC i2 w1_15 R)

def F6_j8 (t : Addr) (x25 : Option Addr) (x25N : Nat) (x25C : Nat) (x31_0 : Int) (x39_0 : Option Addr) (x39_0N : Nat) (x39_0C : Nat) (w_2 : World) (R : Ending → World → Prop) : Prop :=
 LdStr (w_2.cell? t) fun x58 =>
 Al w_2 #[(.string (ByteArray.mk #[])), (.bool false), (.slice none 0 0)] 24 fun turned w1_10 =>
 St w1_10 turned (.string x58) fun w1_11 =>
 St w1_11 (turned.add 1) (.bool false) fun w1_12 =>
 St w1_12 (turned.add 2) (.slice none 0 0) fun w1_13 =>
 ∃ (I : Option Addr → Nat → Nat → Int → Int → World → Prop) (m : Option Addr → Nat → Nat → Int → Int → World → Nat), I none 0 0 (1 : Int) (0 : Int) w1_13 ∧
 ∀ (parts : Option Addr) (partsN : Nat) (partsC : Nat) (at_ : Int) (i : Int) (w1_14 : World), I parts partsN partsC at_ i w1_14 → F6_l12 t x25 x25N x25C x31_0 x39_0 x39_0N x39_0C turned (fun parts' partsN' partsC' at_' i' w2 => I parts' partsN' partsC' at_' i' w2 ∧ m parts' partsN' partsC' at_' i' w2 < m parts partsN partsC at_ i w1_14) parts partsN partsC at_ i w1_14 R

def F6 (t_0 : ByteArray) (t_1 : Bool) (t_2 : Option Addr) (t_2N : Nat) (t_2C : Nat) (lists : Option Addr) (listsN : Nat) (listsC : Nat) (w_ : World) (R : Ending → World → Prop) : Prop :=
 Al w_ #[(.string t_0), (.bool t_1), (.slice t_2 t_2N t_2C)] 24 fun t w1 =>
 Calls Try.prog 20 #[] w1 (post R fun v w1_2 =>
 ∃ (x21 : Bool), v = (.bool x21) ∧
 Br (!x21)
 (R (.returned (.bool false)) w1_2)
 (LdStr (w1_2.cell? t) fun x23_0 =>
 LdB (w1_2.cell? (t.add 1)) fun x23_1 =>
 LdSl (w1_2.cell? (t.add 2)) fun x23_2 x23_2N x23_2C =>
 Calls Try.prog 22 #[(.agg #[(.string x23_0), (.bool x23_1), (.slice x23_2 x23_2N x23_2C)]), (.slice lists listsN listsC), (.int .i64 40)] w1_2 (post R fun v2 w1_3 =>
 ∃ (x25 : Option Addr) (x25N : Nat) (x25C : Nat), v2 = (.slice x25 x25N x25C) ∧
 LdStr (w1_3.cell? t) fun x27_0 =>
 LdB (w1_3.cell? (t.add 1)) fun x27_1 =>
 LdSl (w1_3.cell? (t.add 2)) fun x27_2 x27_2N x27_2C =>
 Calls Try.prog 7 #[(.agg #[(.string x27_0), (.bool x27_1), (.slice x27_2 x27_2N x27_2C)])] w1_3 (post R fun v3 w1_4 =>
 ∃ (x28_0 : ByteArray) (x28_1 : Bool) (x28_2 : Option Addr) (x28_2N : Nat) (x28_2C : Nat), v3 = (.agg #[(.string x28_0), (.bool x28_1), (.slice x28_2 x28_2N x28_2C)]) ∧
 Calls Try.prog 8 #[(.slice x25 x25N x25C)] w1_4 (post R fun v4 w1_5 =>
 ∃ (x30 : Option Addr) (x30N : Nat) (x30C : Nat), v4 = (.slice x30 x30N x30C) ∧
 Calls Try.prog 23 #[(.agg #[(.string x28_0), (.bool x28_1), (.slice x28_2 x28_2N x28_2C)]), (.slice x30 x30N x30C)] w1_5 (post R fun v5 w1_6 =>
 ∃ (x31_0 : Int) (x31_1 : Int), v5 = (.tuple #[(.int .u64 x31_0), (.int .i64 x31_1)]) ∧
 LdStr (w1_6.cell? t) fun x35_0 =>
 LdB (w1_6.cell? (t.add 1)) fun x35_1 =>
 LdSl (w1_6.cell? (t.add 2)) fun x35_2 x35_2N x35_2C =>
 Calls Try.prog 7 #[(.agg #[(.string x35_0), (.bool x35_1), (.slice x35_2 x35_2N x35_2C)])] w1_6 (post R fun v6 w1_7 =>
 ∃ (x36_0 : ByteArray) (x36_1 : Bool) (x36_2 : Option Addr) (x36_2N : Nat) (x36_2C : Nat), v6 = (.agg #[(.string x36_0), (.bool x36_1), (.slice x36_2 x36_2N x36_2C)]) ∧
 Calls Try.prog 8 #[(.slice x25 x25N x25C)] w1_7 (post R fun v7 w1_8 =>
 ∃ (x38 : Option Addr) (x38N : Nat) (x38C : Nat), v7 = (.slice x38 x38N x38C) ∧
 Calls Try.prog 29 #[(.agg #[(.string x36_0), (.bool x36_1), (.slice x36_2 x36_2N x36_2C)]), (.slice x38 x38N x38C)] w1_8 (post R fun v8 w1_9 =>
 ∃ (x39_0 : Option Addr) (x39_0N : Nat) (x39_0C : Nat) (x39_1 : Int), v8 = (.tuple #[(.slice x39_0 x39_0N x39_0C), (.int .i64 x39_1)]) ∧
 ∃ J8 : World → Prop, (∀  (w1_10 : World), J8 w1_10 → F6_j8 t x25 x25N x25C x31_0 x39_0 x39_0N x39_0C w1_10 R) ∧
 (Br (x31_1 != (0 : Int))
 (R (.returned (.bool (x31_0 == (0 : Int)))) w1_9)
 (Br (x39_1 != (0 : Int))
 (R (.returned (.bool (x31_0 == (0 : Int)))) w1_9)
 (LdStr (w1_9.cell? t) fun x51_0 =>
 LdB (w1_9.cell? (t.add 1)) fun x51_1 =>
 LdSl (w1_9.cell? (t.add 2)) fun x51_2 x51_2N x51_2C =>
 Calls Try.prog 12 #[(.agg #[(.string x51_0), (.bool x51_1), (.slice x51_2 x51_2N x51_2C)])] w1_9 (post R fun v9 w1_10 =>
 ∃ (x52 : Int), v9 = (.int .i64 x52) ∧
 Br (((x25N : Nat) : Int) != x52)
 (R (.returned (.bool (x31_0 == (0 : Int)))) w1_10)
 (J8 w1_10))))))))))))))

def pl6 : Plan := ⟨145, ⟨[]⟩, [(8, ⟨[], [(4, 5), (42, 57)]⟩)], [(12, ⟨[(11, (.s .slice)), (12, (.s (.int .i64))), (13, (.s (.int .i64)))], [(11, 85)]⟩), (19, ⟨[(15, (.s .slice)), (16, (.s (.int .i64)))], [(15, 113)]⟩)]⟩

theorem eq6 (t_0 : ByteArray) (t_1 : Bool) (t_2 : Option Addr) (t_2N : Nat) (t_2C : Nat) (lists : Option Addr) (listsN : Nat) (listsC : Nat) (w : World) (R : Ending → World → Prop) : F6 t_0 t_1 t_2 t_2N t_2C lists listsN listsC w R = vc Try.prog Try.f6 pl6 R 100000 [.code (bodyOf Try.f6)] (argEnv 0 #[(.agg #[(.string t_0), (.bool t_1), (.slice t_2 t_2N t_2C)]), (.slice lists listsN listsC)].toList) w := by kernel_rfl

theorem ok6 (t_0 : ByteArray) (t_1 : Bool) (t_2 : Option Addr) (t_2N : Nat) (t_2C : Nat) (lists : Option Addr) (listsN : Nat) (listsC : Nat) {w : World} {R : Ending → World → Prop} (h : F6 t_0 t_1 t_2 t_2N t_2C lists listsN listsC w R) : Calls Try.prog 6 #[(.agg #[(.string t_0), (.bool t_1), (.slice t_2 t_2N t_2C)]), (.slice lists listsN listsC)] w R :=
  vc_calls (pl := pl6) Try.func6 (by kernel_rfl) (by kernel_rfl) (by kernel_rfl) (Eq.mp (eq6 t_0 t_1 t_2 t_2N t_2C lists listsN listsC w R) h)

end Go.Proofs.Ytbocfedmdjkccaa
/- Twigs: a pattern, in memory; its copy. -/
namespace Go.Proofs.Ytbocfedmdjkccaa
open Go.RowKit Go.Vc
set_option linter.unusedVariables false
set_option linter.unusedSimpArgs false
inductive Tw where
  | mk (nm : ByteArray) (d : Bool) (kids : List Tw)
theorem Tw.ind {P : Tw → Prop} (h : ∀ nm d ks, (∀ k ∈ ks, P k) → P (.mk nm d ks)) : ∀ t, P t := by
  intro t
  refine Tw.rec (motive_1 := P) (motive_2 := fun ks => ∀ k ∈ ks, P k) (fun nm d ks ih => h nm d ks ih) (fun k hk => by simp at hk) (fun a l h1 h2 k hk => ?_) t
  rcases List.mem_cons.1 hk with rfl | hk
  · exact h1
  · exact h2 k hk
/-- A pattern's cells. -/
structure E3 where
  nm : ByteArray
  d : Bool
  sl : Sv
def E3.cells (e : E3) : List Value := [.string e.nm, .bool e.d, .slice e.sl.1 e.sl.2.1 e.sl.2.2]
def LE3 : Lay E3 := ⟨3, E3.cells, fun _ => rfl, fun _ => by simp [E3.cells, Value.oneCell'], by decide⟩
mutual
def RTw (w : World) : Tw → E3 → Prop
  | .mk nm d ks, e => e.nm = nm ∧ e.d = d ∧ ks.length ≤ 1048576 ∧ ∃ es, e.sl.2.1 = es.length ∧ Rd LE3 w e.sl.1 e.sl.2.2 es ∧ RTl w ks es
def RTl (w : World) : List Tw → List E3 → Prop
  | [], es => es = []
  | t :: ts, es => ∃ e es', es = e :: es' ∧ RTw w t e ∧ RTl w ts es'
end
mutual
theorem RTw.sub {w w1 : World} (h : Sub w w1) : ∀ (t : Tw) (e : E3), RTw w t e → RTw w1 t e
  | .mk nm d ks, e, hp => by
    simp only [RTw] at hp ⊢
    obtain ⟨h1, h2, h0, es, h3, h4, h5⟩ := hp
    exact ⟨h1, h2, h0, es, h3, h.rd h4, RTl.sub h ks es h5⟩
theorem RTl.sub {w w1 : World} (h : Sub w w1) : ∀ (ts : List Tw) (es : List E3), RTl w ts es → RTl w1 ts es
  | [], es, hp => by simp only [RTl] at hp ⊢; exact hp
  | t :: ts, es, hp => by
    simp only [RTl] at hp ⊢
    obtain ⟨e, es', h1, h2, h3⟩ := hp
    exact ⟨e, es', h1, RTw.sub h t e h2, RTl.sub h ts es' h3⟩
end
theorem sub_below {w w1 : World} (hb : Below w.heap.size w w1) : Sub w w1 := fun b c t fr h => by
  rw [hb.block b (Array.getElem?_eq_some_iff.1 h).1]; exact h
theorem RTw.keep {w w1 : World} {t : Tw} {e : E3} (h : RTw w t e) (hb : Below w.heap.size w w1) : RTw w1 t e := RTw.sub (sub_below hb) t e h
theorem RTl.keep {w w1 : World} {t : List Tw} {e : List E3} (h : RTl w t e) (hb : Below w.heap.size w w1) : RTl w1 t e := RTl.sub (sub_below hb) t e h
theorem RTl.len {w : World} : ∀ {ts : List Tw} {es : List E3}, RTl w ts es → es.length = ts.length
  | [], es, hp => by simp only [RTl] at hp; subst hp; rfl
  | t :: ts, es, hp => by
    simp only [RTl] at hp
    obtain ⟨e, es', rfl, _, h3⟩ := hp
    simp [h3.len]
theorem RTl.snoc {w : World} {q : Tw} {f : E3} (hq : RTw w q f) : ∀ {ts : List Tw} {es : List E3}, RTl w ts es → RTl w (ts ++ [q]) (es ++ [f])
  | [], es, hp => by simp only [RTl] at hp; subst hp; simp only [List.nil_append, RTl]; exact ⟨f, [], rfl, hq, rfl⟩
  | t :: ts, es, hp => by
    simp only [RTl] at hp
    obtain ⟨e, es', rfl, h2, h3⟩ := hp
    simp only [List.cons_append, RTl]
    exact ⟨e, _, rfl, h2, RTl.snoc hq h3⟩
theorem RTl.get {w : World} : ∀ {ts : List Tw} {es : List E3}, RTl w ts es → ∀ (i : Nat) (h : i < ts.length) (h' : i < es.length), RTw w ts[i] es[i]
  | [], es, _, i, h, _ => by simp at h
  | t :: ts, es, hp, i, h, h' => by
    simp only [RTl] at hp
    obtain ⟨e, es', rfl, h2, h3⟩ := hp
    cases i with
    | zero => exact h2
    | succ i => exact RTl.get h3 i (by simpa using h) (by simpa using h')
theorem Rd.e3 {w : World} {A : Option Addr} {c : Nat} {xs : List E3} (h : Rd LE3 w A c xs) {n : Nat} (hn : n = xs.length) {i : Int} {k : Nat} (hi : i = k) (hk : k < xs.length) {K : Addr → Prop}
    (hK : ∀ b o, w.cell? ⟨b, o, none⟩ = some (.string xs[k].nm) → w.cell? ⟨b, o + 1, none⟩ = some (.bool xs[k].d) → w.cell? ⟨b, o + 2, none⟩ = some (.slice xs[k].sl.1 xs[k].sl.2.1 xs[k].sl.2.2) → K ⟨b, o, none⟩) : IdxA A n i 3 K := by
  subst hi
  refine h.idx hn (by omega) (by omega) rfl fun b o hc => ?_
  simp only [Int.toNat_natCast] at hc
  exact hK b o (hc 0 _ rfl) (hc 1 _ rfl) (hc 2 _ rfl)
end Go.Proofs.Ytbocfedmdjkccaa
/- Twigs: a list under construction, whose elements read further blocks (as in MdBld). -/
namespace Go.Proofs.Ytbocfedmdjkccaa
open Go.RowKit Go.Vc
set_option linter.unusedVariables false
set_option linter.unusedSimpArgs false
/-- Elements of a kind: how they lie, what they read. -/
structure Knd (α β : Type) where
  L : Lay β
  RX : World → List α → List β → Prop
  RY : World → α → β → Prop
  sub : ∀ {w w1 : World}, Sub w w1 → ∀ (p : List α) (e : List β), RX w p e → RX w1 p e
  subY : ∀ {w w1 : World}, Sub w w1 → ∀ (p : α) (e : β), RY w p e → RY w1 p e
  nil : ∀ w, RX w [] []
  snoc : ∀ {w : World} {p : List α} {e : List β} {q : α} {f : β}, RX w p e → RY w q f → RX w (p ++ [q]) (e ++ [f])
  len : ∀ {w : World} {p : List α} {e : List β}, RX w p e → e.length = p.length
def hidB (k : Nat) (r : Option Nat) (b : Nat) : Bool := Nat.ble k b && decide (r ≠ some b)
theorem hidB_iff {k : Nat} {r : Option Nat} {b : Nat} : hidB k r b = true ↔ k ≤ b ∧ r ≠ some b := by
  unfold hidB
  rw [Bool.and_eq_true, decide_eq_true_eq]
  exact ⟨fun h => ⟨Nat.le_of_ble_eq_true h.1, h.2⟩, fun h => ⟨Nat.ble_eq_true_of_le h.1, h.2⟩⟩
/-- What lies from k on, but for a row. -/
def hid (k : Nat) (r : Option Nat) (w : World) : World := wOnly (hidB k r) w
section
variable {α β : Type} {N : Knd α β} {w w1 w2 : World} {k : Nat} {e : TypeId} {v : Value} {ps : List α} {M : Nat → Prop}
def Bld (N : Knd α β) (k : Nat) (e : TypeId) (w : World) (v : Value) (ps : List α) : Prop := ∃ es, Own N.L w k e v es ∧ N.RX (hid k (rowOf v) w) ps es
theorem own_above {γ : Type} {L : Lay γ} {xs : List γ} {j : Nat} (h : Own L w k e v xs) (hj : j ≤ k) : Own L (above j w) k e v xs := by
  rcases h with h | h | ⟨g, c, cur, rfl, hb, hh, hn, hm, hs, ht⟩
  · exact .inl h
  · exact .inr (.inl h)
  · exact .inr (.inr ⟨g, c, cur, rfl, hb, cells_only (Nat.ble_eq_true_of_le (Nat.le_trans hj hb)) hh, hn, hm, hs, ht⟩)
theorem own_fm {γ : Type} {L : Lay γ} {xs : List γ} (h : Own L w k e v xs) (hf : Fm M w w1) (hm : ∀ b, rowOf v = some b → ¬ M b) : Own L w1 k e v xs := by
  rcases h with h | h | ⟨g, c, cur, rfl, hb, hh, hn, hmx, hs, ht⟩
  · exact .inl h
  · exact .inr (.inl h)
  · refine .inr (.inr ⟨g, c, cur, rfl, hb, ?_, hn, hmx, hs, ht⟩)
    rw [hf.block g (Array.getElem?_eq_some_iff.1 hh).1 (hm g rfl)]; exact hh
theorem Bld.keep (h : Bld N k e w v ps) (hf : Fm M w w1) (hm : ∀ b, k ≤ b → ¬ M b) : Bld N k e w1 v ps := by
  obtain ⟨es, h1, h2⟩ := h
  refine ⟨es, own_fm h1 hf fun b hb => hm b (h1.lt b hb).1, N.sub (sub_only (fun b _ h => h) fun b hb h => hf.block b hb (hm b (hidB_iff.1 h).1)) _ _ h2⟩
theorem Bld.len (h : Bld N k e w v ps) : ∃ A c, v = .slice A ps.length c := by
  obtain ⟨es, h1, h2⟩ := h
  obtain ⟨A, c, rfl, _⟩ := h1.form
  exact ⟨A, c, by rw [N.len h2]⟩
theorem Bld.lt (h : Bld N k e w v ps) : ∀ b, rowOf v = some b → k ≤ b ∧ b < w.heap.size := by
  obtain ⟨es, h1, h2⟩ := h
  exact h1.lt
theorem Bld.nil (N : Knd α β) (k : Nat) (e : TypeId) (w : World) : Bld N k e w (.slice none 0 0) [] := ⟨[], Own.nil _ _ _ _, N.nil _⟩
/-- What it reads, all in all. -/
theorem Bld.read (h : Bld N k e w v ps) {j : Nat} (hj : j ≤ k) : ∃ A c es, v = .slice A es.length c ∧ Rd N.L (above j w) A c es ∧ N.RX (above j w) ps es := by
  obtain ⟨es, h1, h2⟩ := h
  obtain ⟨A, c, rfl, h3⟩ := (own_above h1 hj).form
  exact ⟨A, c, es, rfl, h3, N.sub (sub_only (fun b _ h => Nat.ble_eq_true_of_le (Nat.le_trans hj (hidB_iff.1 h).1)) fun _ _ _ => rfl) _ _ h2⟩
/-- A literal of one. -/
theorem Bld.one {g : Nat} {cur : Array Value} {x : α} {y : β} (hg : Blk w2 g cur e) (hc : cur.toList = N.L.cells y) (hb : Below w1.heap.size w1 w2) (hge : w1.heap.size ≤ g) (hk : k ≤ w1.heap.size) (hy : N.RY (above k w1) x y) :
    Bld N k e w2 (.slice (some ⟨g, 0, none⟩) 1 1) [x] := by
  refine ⟨[y], Own.lit' (L := N.L) (xs := [y]) hg (Nat.le_trans hk hge) (by rw [hc, N.L.all_one]) (by simp [maxLen]), ?_⟩
  refine N.snoc (p := []) (e := []) (N.nil _) (N.subY (sub_only (fun b hb2 h => ?_) fun b hb2 h => hb.block b hb2) _ _ hy)
  rw [hidB_iff]
  have h3 := Nat.le_of_ble_eq_true h
  exact ⟨h3, by show (some g : Option Nat) ≠ some b; intro e; cases e; omega⟩
/-- One more, that was made since. -/
theorem Bld.app {P : Program} {y : β} {x : α} {cs : Array Value} {t ty : TypeId} (z : Value) (bytes : Nat) (h : Bld N k e w v ps) (hf : Fm M w w1) (hm : ∀ b, k ≤ b → ¬ M b) (hk : k ≤ w.heap.size) (hy : N.RY (above w.heap.size w1) x y) (hcs : cs.toList = N.L.cells y)
    (ht : P.underlying t = some (.slice e)) (hinfo : (P.info? e).map (fun i => (i.zero, i.size, i.bytes)) = some (some z, N.L.n, bytes)) (hz : z.cells.size = N.L.n)
    (hl : (ps.length + 1) * bytes ≤ 140737488355328) (hml : ps.length + 1 ≤ maxLen) {K : Value → World → Prop}
    (hK : ∀ A' c' w2, Bld N k e w2 (.slice A' (ps.length + 1) c') (ps ++ [x]) → Fm (fun b => k ≤ b) w1 w2 → K (.slice A' (ps.length + 1) c') w2) :
    Al w1 cs e fun g w2 => Raw P (Builtin.append_ #[t, t] ty #[v, .slice (some g) 1 1]) w2 K := by
  have hlt := h.lt
  obtain ⟨es, h1, h2⟩ := h.keep hf hm
  have hlen := N.len h2
  rw [← hlen] at hl hml hK
  refine ap1 (L := N.L) (x := y) z bytes hcs ht hinfo hz h1 (Nat.le_trans hk hf.size) hl hml fun A' c' w2 ho hg => hK A' c' w2 ⟨es ++ [y], by simpa using ho, ?_⟩ ⟨hg.below.os, hg.below.tape, hg.below.output, hg.lt, fun b hb hm => hg.below.block b (by omega)⟩
  have hrow : ∀ b, b < w1.heap.size → rowOf v ≠ some b → rowOf (.slice A' (es.length + 1) c') ≠ some b := by
    intro b hb hne
    rcases hg.row with h3 | h3 | ⟨g, h3, h4⟩
    · rw [h3]; exact hne
    · rw [h3]; simp
    · rw [h3]; intro e; cases e; omega
  refine N.snoc (N.sub (sub_only (fun b hb h3 => ?_) fun b hb h3 => ?_) _ _ h2) (N.subY (sub_only (fun b hb h3 => ?_) fun b hb h3 => ?_) _ _ hy)
  · rw [hidB_iff] at h3 ⊢
    exact ⟨h3.1, hrow b hb h3.2⟩
  · rw [hidB_iff] at h3
    exact hg.grown.block b hb (Ne.symm h3.2)
  · have h4 := Nat.le_of_ble_eq_true h3
    rw [hidB_iff]
    exact ⟨Nat.le_trans hk h4, hrow b hb fun e => by have := (hlt b e).2; omega⟩
  · have h4 := Nat.le_of_ble_eq_true h3
    exact hg.grown.block b hb fun e => by have := (hlt b e.symm).2; omega
end
def KT : Knd Tw E3 := ⟨LE3, RTl, RTw, fun h p e => RTl.sub h p e, fun h p e => RTw.sub h p e, fun _ => by simp only [RTl], fun h k => RTl.snoc k h, RTl.len⟩
theorem Bld.made {α β : Type} (N : Knd α β) {w : World} {k g n : Nat} {e : TypeId} {cur : Array Value} (h : Blk w g cur e) (hb : k ≤ g) (hn : cur.size = n * N.L.n) (hm : n ≤ maxLen) : Bld N k e w (.slice (some ⟨g, 0, none⟩) 0 n) [] :=
  ⟨[], Own.made h hb hn hm, N.nil _⟩
end Go.Proofs.Ytbocfedmdjkccaa
set_option linter.unusedVariables false
set_option maxRecDepth 100000
namespace Go.Proofs.Ytbocfedmdjkccaa
open Go.Vc
-- axis.Ancestor
def F66 (a_0 : Int) (a_1 : Int) (a_2 : Int) (b_0 : Int) (b_1 : Int) (b_2 : Int) (w_ : World) (R : Ending → World → Prop) : Prop :=
 Al w_ #[(.int .u64 a_0), (.int .u64 a_1), (.int .i64 a_2)] 77 fun a w1 =>
 Al w1 #[(.int .u64 b_0), (.int .u64 b_1), (.int .i64 b_2)] 77 fun b w1_2 =>
 LdI .u64 (w1_2.cell? a) fun x6 =>
 LdI .u64 (w1_2.cell? b) fun x8 =>
 Br (decide (x6 < x8))
 (LdI .u64 (w1_2.cell? (b.add 1)) fun x12 =>
 LdI .u64 (w1_2.cell? (a.add 1)) fun x14 =>
 R (.returned (.bool (decide (x12 < x14)))) w1_2)
 (R (.returned (.bool false)) w1_2)

def pl66 : Plan := ⟨17, ⟨[]⟩, [], []⟩

theorem eq66 (a_0 : Int) (a_1 : Int) (a_2 : Int) (b_0 : Int) (b_1 : Int) (b_2 : Int) (w : World) (R : Ending → World → Prop) : F66 a_0 a_1 a_2 b_0 b_1 b_2 w R = vc Try.prog Try.f66 pl66 R 100000 [.code (bodyOf Try.f66)] (argEnv 0 #[(.agg #[(.int .u64 a_0), (.int .u64 a_1), (.int .i64 a_2)]), (.agg #[(.int .u64 b_0), (.int .u64 b_1), (.int .i64 b_2)])].toList) w := by kernel_rfl

theorem ok66 (a_0 : Int) (a_1 : Int) (a_2 : Int) (b_0 : Int) (b_1 : Int) (b_2 : Int) {w : World} {R : Ending → World → Prop} (h : F66 a_0 a_1 a_2 b_0 b_1 b_2 w R) : Calls Try.prog 66 #[(.agg #[(.int .u64 a_0), (.int .u64 a_1), (.int .i64 a_2)]), (.agg #[(.int .u64 b_0), (.int .u64 b_1), (.int .i64 b_2)])] w R :=
  vc_calls (pl := pl66) Try.func66 (by kernel_rfl) (by kernel_rfl) (by kernel_rfl) (Eq.mp (eq66 a_0 a_1 a_2 b_0 b_1 b_2 w R) h)

-- axis.Descendant
def F45 (a_0 : Int) (a_1 : Int) (a_2 : Int) (b_0 : Int) (b_1 : Int) (b_2 : Int) (w_ : World) (R : Ending → World → Prop) : Prop :=
 Al w_ #[(.int .u64 a_0), (.int .u64 a_1), (.int .i64 a_2)] 77 fun a w1 =>
 Al w1 #[(.int .u64 b_0), (.int .u64 b_1), (.int .i64 b_2)] 77 fun b w1_2 =>
 LdI .u64 (w1_2.cell? b) fun x5_0 =>
 LdI .u64 (w1_2.cell? (b.add 1)) fun x5_1 =>
 LdI .i64 (w1_2.cell? (b.add 2)) fun x5_2 =>
 LdI .u64 (w1_2.cell? a) fun x6_0 =>
 LdI .u64 (w1_2.cell? (a.add 1)) fun x6_1 =>
 LdI .i64 (w1_2.cell? (a.add 2)) fun x6_2 =>
 Calls Try.prog 66 #[(.agg #[(.int .u64 x5_0), (.int .u64 x5_1), (.int .i64 x5_2)]), (.agg #[(.int .u64 x6_0), (.int .u64 x6_1), (.int .i64 x6_2)])] w1_2 (post R fun v w1_3 =>
 ∃ (x7 : Bool), v = (.bool x7) ∧
 R (.returned (.bool x7)) w1_3)

def pl45 : Plan := ⟨8, ⟨[]⟩, [], []⟩

theorem eq45 (a_0 : Int) (a_1 : Int) (a_2 : Int) (b_0 : Int) (b_1 : Int) (b_2 : Int) (w : World) (R : Ending → World → Prop) : F45 a_0 a_1 a_2 b_0 b_1 b_2 w R = vc Try.prog Try.f45 pl45 R 100000 [.code (bodyOf Try.f45)] (argEnv 0 #[(.agg #[(.int .u64 a_0), (.int .u64 a_1), (.int .i64 a_2)]), (.agg #[(.int .u64 b_0), (.int .u64 b_1), (.int .i64 b_2)])].toList) w := by kernel_rfl

theorem ok45 (a_0 : Int) (a_1 : Int) (a_2 : Int) (b_0 : Int) (b_1 : Int) (b_2 : Int) {w : World} {R : Ending → World → Prop} (h : F45 a_0 a_1 a_2 b_0 b_1 b_2 w R) : Calls Try.prog 45 #[(.agg #[(.int .u64 a_0), (.int .u64 a_1), (.int .i64 a_2)]), (.agg #[(.int .u64 b_0), (.int .u64 b_1), (.int .i64 b_2)])] w R :=
  vc_calls (pl := pl45) Try.func45 (by kernel_rfl) (by kernel_rfl) (by kernel_rfl) (Eq.mp (eq45 a_0 a_1 a_2 b_0 b_1 b_2 w R) h)

-- axis.Parent
def F65 (a_0 : Int) (a_1 : Int) (a_2 : Int) (b_0 : Int) (b_1 : Int) (b_2 : Int) (w_ : World) (R : Ending → World → Prop) : Prop :=
 Al w_ #[(.int .u64 a_0), (.int .u64 a_1), (.int .i64 a_2)] 77 fun a w1 =>
 Al w1 #[(.int .u64 b_0), (.int .u64 b_1), (.int .i64 b_2)] 77 fun b w1_2 =>
 LdI .u64 (w1_2.cell? a) fun x5_0 =>
 LdI .u64 (w1_2.cell? (a.add 1)) fun x5_1 =>
 LdI .i64 (w1_2.cell? (a.add 2)) fun x5_2 =>
 LdI .u64 (w1_2.cell? b) fun x6_0 =>
 LdI .u64 (w1_2.cell? (b.add 1)) fun x6_1 =>
 LdI .i64 (w1_2.cell? (b.add 2)) fun x6_2 =>
 Calls Try.prog 66 #[(.agg #[(.int .u64 x5_0), (.int .u64 x5_1), (.int .i64 x5_2)]), (.agg #[(.int .u64 x6_0), (.int .u64 x6_1), (.int .i64 x6_2)])] w1_2 (post R fun v w1_3 =>
 ∃ (x7 : Bool), v = (.bool x7) ∧
 Br x7
 (LdI .i64 (w1_3.cell? (a.add 2)) fun x10 =>
 LdI .i64 (w1_3.cell? (b.add 2)) fun x12 =>
 Br (decide (x10 < x12))
 (LdI .i64 (w1_3.cell? (a.add 2)) fun x17 =>
 InR .i64 (x17 + (1 : Int)) ∧ LdI .i64 (w1_3.cell? (b.add 2)) fun x20 =>
 R (.returned (.bool ((x17 + (1 : Int)) == x20))) w1_3)
 (R (.returned (.bool false)) w1_3))
 (R (.returned (.bool false)) w1_3))

def pl65 : Plan := ⟨23, ⟨[]⟩, [], []⟩

theorem eq65 (a_0 : Int) (a_1 : Int) (a_2 : Int) (b_0 : Int) (b_1 : Int) (b_2 : Int) (w : World) (R : Ending → World → Prop) : F65 a_0 a_1 a_2 b_0 b_1 b_2 w R = vc Try.prog Try.f65 pl65 R 100000 [.code (bodyOf Try.f65)] (argEnv 0 #[(.agg #[(.int .u64 a_0), (.int .u64 a_1), (.int .i64 a_2)]), (.agg #[(.int .u64 b_0), (.int .u64 b_1), (.int .i64 b_2)])].toList) w := by kernel_rfl

theorem ok65 (a_0 : Int) (a_1 : Int) (a_2 : Int) (b_0 : Int) (b_1 : Int) (b_2 : Int) {w : World} {R : Ending → World → Prop} (h : F65 a_0 a_1 a_2 b_0 b_1 b_2 w R) : Calls Try.prog 65 #[(.agg #[(.int .u64 a_0), (.int .u64 a_1), (.int .i64 a_2)]), (.agg #[(.int .u64 b_0), (.int .u64 b_1), (.int .i64 b_2)])] w R :=
  vc_calls (pl := pl65) Try.func65 (by kernel_rfl) (by kernel_rfl) (by kernel_rfl) (Eq.mp (eq65 a_0 a_1 a_2 b_0 b_1 b_2 w R) h)

-- axis.Child
def F44 (a_0 : Int) (a_1 : Int) (a_2 : Int) (b_0 : Int) (b_1 : Int) (b_2 : Int) (w_ : World) (R : Ending → World → Prop) : Prop :=
 Al w_ #[(.int .u64 a_0), (.int .u64 a_1), (.int .i64 a_2)] 77 fun a w1 =>
 Al w1 #[(.int .u64 b_0), (.int .u64 b_1), (.int .i64 b_2)] 77 fun b w1_2 =>
 LdI .u64 (w1_2.cell? b) fun x5_0 =>
 LdI .u64 (w1_2.cell? (b.add 1)) fun x5_1 =>
 LdI .i64 (w1_2.cell? (b.add 2)) fun x5_2 =>
 LdI .u64 (w1_2.cell? a) fun x6_0 =>
 LdI .u64 (w1_2.cell? (a.add 1)) fun x6_1 =>
 LdI .i64 (w1_2.cell? (a.add 2)) fun x6_2 =>
 Calls Try.prog 65 #[(.agg #[(.int .u64 x5_0), (.int .u64 x5_1), (.int .i64 x5_2)]), (.agg #[(.int .u64 x6_0), (.int .u64 x6_1), (.int .i64 x6_2)])] w1_2 (post R fun v w1_3 =>
 ∃ (x7 : Bool), v = (.bool x7) ∧
 R (.returned (.bool x7)) w1_3)

def pl44 : Plan := ⟨8, ⟨[]⟩, [], []⟩

theorem eq44 (a_0 : Int) (a_1 : Int) (a_2 : Int) (b_0 : Int) (b_1 : Int) (b_2 : Int) (w : World) (R : Ending → World → Prop) : F44 a_0 a_1 a_2 b_0 b_1 b_2 w R = vc Try.prog Try.f44 pl44 R 100000 [.code (bodyOf Try.f44)] (argEnv 0 #[(.agg #[(.int .u64 a_0), (.int .u64 a_1), (.int .i64 a_2)]), (.agg #[(.int .u64 b_0), (.int .u64 b_1), (.int .i64 b_2)])].toList) w := by kernel_rfl

theorem ok44 (a_0 : Int) (a_1 : Int) (a_2 : Int) (b_0 : Int) (b_1 : Int) (b_2 : Int) {w : World} {R : Ending → World → Prop} (h : F44 a_0 a_1 a_2 b_0 b_1 b_2 w R) : Calls Try.prog 44 #[(.agg #[(.int .u64 a_0), (.int .u64 a_1), (.int .i64 a_2)]), (.agg #[(.int .u64 b_0), (.int .u64 b_1), (.int .i64 b_2)])] w R :=
  vc_calls (pl := pl44) Try.func44 (by kernel_rfl) (by kernel_rfl) (by kernel_rfl) (Eq.mp (eq44 a_0 a_1 a_2 b_0 b_1 b_2 w R) h)

-- espalierref09.Valid
def F72 (a_0 : Int) (a_1 : Int) (a_2 : Int) (w_ : World) (R : Ending → World → Prop) : Prop :=
 Al w_ #[(.int .u64 a_0), (.int .u64 a_1), (.int .i64 a_2)] 77 fun a w1 =>
 LdI .u64 (w1.cell? a) fun x4 =>
 Br (decide (x4 ≥ (1 : Int)))
 (LdI .u64 (w1.cell? a) fun x8 =>
 LdI .u64 (w1.cell? (a.add 1)) fun x10 =>
 Br (decide (x8 < x10))
 (LdI .u64 (w1.cell? (a.add 1)) fun x15 =>
 Br (decide (x15 < (4611686018427387904 : Int)))
 (LdI .i64 (w1.cell? (a.add 2)) fun x20 =>
 Br (decide (x20 ≥ (0 : Int)))
 (LdI .i64 (w1.cell? (a.add 2)) fun x25 =>
 R (.returned (.bool (decide (x25 < (64 : Int))))) w1)
 (R (.returned (.bool false)) w1))
 (R (.returned (.bool false)) w1))
 (R (.returned (.bool false)) w1))
 (R (.returned (.bool false)) w1)

def pl72 : Plan := ⟨28, ⟨[]⟩, [], []⟩

theorem eq72 (a_0 : Int) (a_1 : Int) (a_2 : Int) (w : World) (R : Ending → World → Prop) : F72 a_0 a_1 a_2 w R = vc Try.prog Try.f72 pl72 R 100000 [.code (bodyOf Try.f72)] (argEnv 0 #[(.agg #[(.int .u64 a_0), (.int .u64 a_1), (.int .i64 a_2)])].toList) w := by kernel_rfl

theorem ok72 (a_0 : Int) (a_1 : Int) (a_2 : Int) {w : World} {R : Ending → World → Prop} (h : F72 a_0 a_1 a_2 w R) : Calls Try.prog 72 #[(.agg #[(.int .u64 a_0), (.int .u64 a_1), (.int .i64 a_2)])] w R :=
  vc_calls (pl := pl72) Try.func72 (by kernel_rfl) (by kernel_rfl) (by kernel_rfl) (Eq.mp (eq72 a_0 a_1 a_2 w R) h)

-- espalierref09.Around
def F75 (a_0 : Int) (a_1 : Int) (a_2 : Int) (b_0 : Int) (b_1 : Int) (b_2 : Int) (w_ : World) (R : Ending → World → Prop) : Prop :=
 Al w_ #[(.int .u64 a_0), (.int .u64 a_1), (.int .i64 a_2)] 77 fun a w1 =>
 Al w1 #[(.int .u64 b_0), (.int .u64 b_1), (.int .i64 b_2)] 77 fun b w1_2 =>
 LdI .u64 (w1_2.cell? a) fun x6 =>
 LdI .u64 (w1_2.cell? b) fun x8 =>
 Br (decide (x6 < x8))
 (LdI .u64 (w1_2.cell? (b.add 1)) fun x12 =>
 LdI .u64 (w1_2.cell? (a.add 1)) fun x14 =>
 R (.returned (.bool (decide (x12 < x14)))) w1_2)
 (R (.returned (.bool false)) w1_2)

def pl75 : Plan := ⟨17, ⟨[]⟩, [], []⟩

theorem eq75 (a_0 : Int) (a_1 : Int) (a_2 : Int) (b_0 : Int) (b_1 : Int) (b_2 : Int) (w : World) (R : Ending → World → Prop) : F75 a_0 a_1 a_2 b_0 b_1 b_2 w R = vc Try.prog Try.f75 pl75 R 100000 [.code (bodyOf Try.f75)] (argEnv 0 #[(.agg #[(.int .u64 a_0), (.int .u64 a_1), (.int .i64 a_2)]), (.agg #[(.int .u64 b_0), (.int .u64 b_1), (.int .i64 b_2)])].toList) w := by kernel_rfl

theorem ok75 (a_0 : Int) (a_1 : Int) (a_2 : Int) (b_0 : Int) (b_1 : Int) (b_2 : Int) {w : World} {R : Ending → World → Prop} (h : F75 a_0 a_1 a_2 b_0 b_1 b_2 w R) : Calls Try.prog 75 #[(.agg #[(.int .u64 a_0), (.int .u64 a_1), (.int .i64 a_2)]), (.agg #[(.int .u64 b_0), (.int .u64 b_1), (.int .i64 b_2)])] w R :=
  vc_calls (pl := pl75) Try.func75 (by kernel_rfl) (by kernel_rfl) (by kernel_rfl) (Eq.mp (eq75 a_0 a_1 a_2 b_0 b_1 b_2 w R) h)

-- espalierref09.Parent
def F76 (a_0 : Int) (a_1 : Int) (a_2 : Int) (b_0 : Int) (b_1 : Int) (b_2 : Int) (w_ : World) (R : Ending → World → Prop) : Prop :=
 Al w_ #[(.int .u64 a_0), (.int .u64 a_1), (.int .i64 a_2)] 77 fun a w1 =>
 Al w1 #[(.int .u64 b_0), (.int .u64 b_1), (.int .i64 b_2)] 77 fun b w1_2 =>
 LdI .u64 (w1_2.cell? a) fun x5_0 =>
 LdI .u64 (w1_2.cell? (a.add 1)) fun x5_1 =>
 LdI .i64 (w1_2.cell? (a.add 2)) fun x5_2 =>
 LdI .u64 (w1_2.cell? b) fun x6_0 =>
 LdI .u64 (w1_2.cell? (b.add 1)) fun x6_1 =>
 LdI .i64 (w1_2.cell? (b.add 2)) fun x6_2 =>
 Calls Try.prog 75 #[(.agg #[(.int .u64 x5_0), (.int .u64 x5_1), (.int .i64 x5_2)]), (.agg #[(.int .u64 x6_0), (.int .u64 x6_1), (.int .i64 x6_2)])] w1_2 (post R fun v w1_3 =>
 ∃ (x7 : Bool), v = (.bool x7) ∧
 Br x7
 (LdI .i64 (w1_3.cell? (a.add 2)) fun x10 =>
 LdI .i64 (w1_3.cell? (b.add 2)) fun x12 =>
 Br (decide (x10 < x12))
 (LdI .i64 (w1_3.cell? (a.add 2)) fun x17 =>
 InR .i64 (x17 + (1 : Int)) ∧ LdI .i64 (w1_3.cell? (b.add 2)) fun x20 =>
 R (.returned (.bool ((x17 + (1 : Int)) == x20))) w1_3)
 (R (.returned (.bool false)) w1_3))
 (R (.returned (.bool false)) w1_3))

def pl76 : Plan := ⟨23, ⟨[]⟩, [], []⟩

theorem eq76 (a_0 : Int) (a_1 : Int) (a_2 : Int) (b_0 : Int) (b_1 : Int) (b_2 : Int) (w : World) (R : Ending → World → Prop) : F76 a_0 a_1 a_2 b_0 b_1 b_2 w R = vc Try.prog Try.f76 pl76 R 100000 [.code (bodyOf Try.f76)] (argEnv 0 #[(.agg #[(.int .u64 a_0), (.int .u64 a_1), (.int .i64 a_2)]), (.agg #[(.int .u64 b_0), (.int .u64 b_1), (.int .i64 b_2)])].toList) w := by kernel_rfl

theorem ok76 (a_0 : Int) (a_1 : Int) (a_2 : Int) (b_0 : Int) (b_1 : Int) (b_2 : Int) {w : World} {R : Ending → World → Prop} (h : F76 a_0 a_1 a_2 b_0 b_1 b_2 w R) : Calls Try.prog 76 #[(.agg #[(.int .u64 a_0), (.int .u64 a_1), (.int .i64 a_2)]), (.agg #[(.int .u64 b_0), (.int .u64 b_1), (.int .i64 b_2)])] w R :=
  vc_calls (pl := pl76) Try.func76 (by kernel_rfl) (by kernel_rfl) (by kernel_rfl) (Eq.mp (eq76 a_0 a_1 a_2 b_0 b_1 b_2 w R) h)

end Go.Proofs.Ytbocfedmdjkccaa
/- Twigs: the tests of two spans: what they answer. -/
namespace Go.Proofs.Ytbocfedmdjkccaa
open Go.RowKit Go.Vc
set_option linter.unusedVariables false
set_option linter.unusedSimpArgs false
/-- It makes a bool of these, and nothing that was there turns. -/
abbrev B1 (f : Nat) (args : Array Value) (b : Bool) : Prop := ∀ {w : World} {R : Ending → World → Prop}, (∀ w', Below w.heap.size w w' → R (.returned (.bool b)) w') → Calls Try.prog f args w R
theorem canB_l {a : Sp} (h : canB a = true) : 0 ≤ a.l ∧ a.l < 64 := by simp [canB] at h; omega
section
variable {w w' : World}
/-- A variable with a span. -/
def BSp (w : World) (g : Nat) (s : Sp) (t : TypeId) : Prop := Blk w g #[.int .u64 s.b, .int .u64 s.e, .int .i64 s.l] t
theorem valid_calls (a : Sp) : B1 72 #[spv a] (canB a) := fun h => by
  refine ok72 a.b a.e a.l ?_
  unfold F72
  refine al fun g w1 hb hg _ => ?_
  simpa [Addr.add_mk, hg.cell, LdI_some, brR, cond_f, canB] using h w1 hb
theorem anc_calls (a b : Sp) : B1 66 #[spv a, spv b] (ancB a b) := fun h => by
  refine ok66 a.b a.e a.l b.b b.e b.l ?_
  unfold F66
  refine al fun g w1 hb hg _ => al fun g' w2 hb' hg' _ => ?_
  have hg1 := hg.keep hb'
  have H := h w2 (btr hb hb.size hb')
  simpa [Addr.add_mk, hg1.cell, hg'.cell, LdI_some, brR, cond_f, ancB] using H
theorem ancR_calls (a b : Sp) : B1 75 #[spv a, spv b] (ancB a b) := fun h => by
  refine ok75 a.b a.e a.l b.b b.e b.l ?_
  unfold F75
  refine al fun g w1 hb hg _ => al fun g' w2 hb' hg' _ => ?_
  have hg1 := hg.keep hb'
  have H := h w2 (btr hb hb.size hb')
  simpa [Addr.add_mk, hg1.cell, hg'.cell, LdI_some, brR, cond_f, ancB] using H
theorem par_calls (a b : Sp) (h0 : -9223372036854775808 ≤ a.l) (h1 : b.l ≤ 9223372036854775807) : B1 65 #[spv a, spv b] (parB a b) := fun h => by
  refine ok65 a.b a.e a.l b.b b.e b.l ?_
  unfold F65
  refine al fun g w1 hb hg _ => al fun g' w2 hb' hg' _ => ?_
  have hg1 := hg.keep hb'
  simp only [Addr.add_mk, hg1.cell, hg'.cell, List.getElem?_toArray, List.getElem?_cons_zero, List.getElem?_cons_succ, LdI_some, Nat.zero_add]
  refine anc_calls a b fun w3 hb3 => ⟨_, rfl, ?_⟩
  have H := h w3 (btr (btr hb hb.size hb') (Nat.le_trans hb.size hb'.size) hb3)
  unfold parB at H
  have hg2 := hg1.keep hb3
  have hg3 := hg'.keep hb3
  simp only [Addr.add_mk, hg2.cell, hg3.cell, List.getElem?_toArray, List.getElem?_cons_zero, List.getElem?_cons_succ, LdI_some, Nat.zero_add]
  refine br (fun ha => ?_) (fun ha => by simpa [ha] using H)
  refine brd (fun hl => ⟨inR_i64 (by omega) (by omega), ?_⟩) (fun hl => by simpa [ha, hl] using H)
  simpa [ha, hl] using H
theorem parR_calls (a b : Sp) (h0 : -9223372036854775808 ≤ a.l) (h1 : b.l ≤ 9223372036854775807) : B1 76 #[spv a, spv b] (parB a b) := fun h => by
  refine ok76 a.b a.e a.l b.b b.e b.l ?_
  unfold F76
  refine al fun g w1 hb hg _ => al fun g' w2 hb' hg' _ => ?_
  have hg1 := hg.keep hb'
  simp only [Addr.add_mk, hg1.cell, hg'.cell, List.getElem?_toArray, List.getElem?_cons_zero, List.getElem?_cons_succ, LdI_some, Nat.zero_add]
  refine ancR_calls a b fun w3 hb3 => ⟨_, rfl, ?_⟩
  have H := h w3 (btr (btr hb hb.size hb') (Nat.le_trans hb.size hb'.size) hb3)
  unfold parB at H
  have hg2 := hg1.keep hb3
  have hg3 := hg'.keep hb3
  simp only [Addr.add_mk, hg2.cell, hg3.cell, List.getElem?_toArray, List.getElem?_cons_zero, List.getElem?_cons_succ, LdI_some, Nat.zero_add]
  refine br (fun ha => ?_) (fun ha => by simpa [ha] using H)
  refine brd (fun hl => ⟨inR_i64 (by omega) (by omega), ?_⟩) (fun hl => by simpa [ha, hl] using H)
  simpa [ha, hl] using H
theorem desc_calls (a b : Sp)  : B1 45 #[spv a, spv b] (ancB b a) := fun h => by
  refine ok45 a.b a.e a.l b.b b.e b.l ?_
  unfold F45
  refine al fun g w1 hb hg _ => al fun g' w2 hb' hg' _ => ?_
  have hg1 := hg.keep hb'
  simp only [Addr.add_mk, hg1.cell, hg'.cell, List.getElem?_toArray, List.getElem?_cons_zero, List.getElem?_cons_succ, LdI_some, Nat.zero_add]
  refine anc_calls b a fun w3 hb3 => ⟨_, rfl, h w3 (btr (btr hb hb.size hb') (Nat.le_trans hb.size hb'.size) hb3)⟩
theorem child_calls (a b : Sp) (h0 : -9223372036854775808 ≤ b.l) (h1 : a.l ≤ 9223372036854775807) : B1 44 #[spv a, spv b] (parB b a) := fun h => by
  refine ok44 a.b a.e a.l b.b b.e b.l ?_
  unfold F44
  refine al fun g w1 hb hg _ => al fun g' w2 hb' hg' _ => ?_
  have hg1 := hg.keep hb'
  simp only [Addr.add_mk, hg1.cell, hg'.cell, List.getElem?_toArray, List.getElem?_cons_zero, List.getElem?_cons_succ, LdI_some, Nat.zero_add]
  refine par_calls b a h0 h1 fun w3 hb3 => ⟨_, rfl, h w3 (btr (btr hb hb.size hb') (Nat.le_trans hb.size hb'.size) hb3)⟩
end
end Go.Proofs.Ytbocfedmdjkccaa
/- Twigs: the copy of a pattern. -/
namespace Go.Proofs.Ytbocfedmdjkccaa
open Go.RowKit Go.Vc
set_option linter.unusedVariables false
set_option maxRecDepth 100000
set_option linter.unusedSimpArgs false
theorem maxLen_ge : 4611686018427387903 ≤ maxLen := by simp [maxLen]
theorem copied_calls : ∀ (t : Tw) (e : E3) {w : World} {R : Ending → World → Prop}, RTw w t e →
    (∀ e' w', Below w.heap.size w w' → RTw (above w.heap.size w') t e' → R (.returned (.agg #[.string e'.nm, .bool e'.d, .slice e'.sl.1 e'.sl.2.1 e'.sl.2.2])) w') →
    Calls Try.prog 7 #[.agg #[.string e.nm, .bool e.d, .slice e.sl.1 e.sl.2.1 e.sl.2.2]] w R := by
  refine Tw.ind fun nm d ks ih e w R ht h => ?_
  simp only [RTw] at ht
  obtain ⟨hnm, hd, hlen, es, hn, hr, hks⟩ := ht
  have hel := hks.len
  refine ok7 e.nm e.d e.sl.1 e.sl.2.1 e.sl.2.2 ?_
  unfold F7
  refine al fun gt w1 hb1 bt hge1 => al fun g2 w2 hb2 b2 hge2 => ?_
  have B2 := btr hb1 hb1.size hb2
  have bt2 := bt.keep hb2
  have hs1 := hb1.size
  simp only [Addr.add_mk, bt2.cell, List.getElem?_toArray, List.getElem?_cons_zero, List.getElem?_cons_succ, Addr.add_mk, List.getElem?_toArray, List.getElem?_cons_zero, List.getElem?_cons_succ, LdI_some, LdB_some, LdStr_some, LdP_some, LdSl_some, LdM_some, Nat.zero_add, Br_t, Br_f]
  refine ⟨inR_i64 (by omega) (by omega), by omega, by omega, by omega, ?_⟩
  refine al fun g9 w3 hb3 b9 hge9 => ?_
  have B3 := btr B2 B2.size hb3
  have hgt : gt < w2.heap.size := bt2.lt
  have hg2 : g2 < w2.heap.size := b2.lt
  refine ⟨fun l lN lC i w4 => ∃ k : Nat, i = k ∧ k ≤ ks.length ∧ Bld KT w2.heap.size 24 w4 (.slice l lN lC) (ks.take k) ∧ Below w2.heap.size w2 w4, fun _ _ _ i _ => ks.length - i.toNat,
    ⟨0, rfl, by omega, by simpa using Bld.made KT b9 hge9 (by simp [zrow, KT, LE3]) (by simp [maxLen]; omega), hb3⟩, ?_⟩
  rintro l lN lC i w4 ⟨k, rfl, hk, hbl, hb4⟩
  unfold F7_l3
  have bt4 := bt2.keep hb4
  have B4 := btr B2 B2.size hb4
  simp only [Addr.add_mk, bt4.cell, List.getElem?_toArray, List.getElem?_cons_zero, List.getElem?_cons_succ, Addr.add_mk, List.getElem?_toArray, List.getElem?_cons_zero, List.getElem?_cons_succ, LdI_some, LdB_some, LdStr_some, LdP_some, LdSl_some, LdM_some, Nat.zero_add, Br_t, Br_f]
  refine brd (fun hlt => ?_) (fun hge => ?_)
  · have hk2 : k < ks.length := by omega
    have hk3 : k < es.length := by omega
    have hr4 := hr.keep B4
    refine hr4.e3 hn rfl hk3 fun b o c0 c1 c2 => ?_
    simp only [Addr.add_mk, c0, c1, c2, Addr.add_mk, List.getElem?_toArray, List.getElem?_cons_zero, List.getElem?_cons_succ, LdI_some, LdB_some, LdStr_some, LdP_some, LdSl_some, LdM_some, Nat.zero_add, Br_t, Br_f]
    refine ih ks[k] (List.getElem_mem _) es[k] ((hks.keep B4).get k hk2 hk3) fun e' w5 hb5 ht5 => ⟨_, _, _, _, _, rfl, ?_⟩
    obtain ⟨A, c, hv⟩ := hbl.len
    cases hv
    refine Bld.app (N := KT) (y := e') (x := ks[k]) (M := fun _ => False) (.agg #[.string ⟨#[]⟩, .bool false, .slice none 0 0]) 48 hbl (.below hb5) (fun _ _ h => h) hb4.size ht5 rfl rfl rfl rfl (by simp; omega) (by simp [maxLen]; omega) fun A' c' w6 hbl6 hf6 => ⟨A', _, c', rfl, ?_⟩
    have hlk : (ks.take k).length = k := by simp; omega
    rw [hlk] at hbl6 ⊢
    refine ⟨inR_i64 (by omega) (by omega), ⟨k + 1, by simp, by omega, ?_, ?_⟩, by omega⟩
    · rw [List.take_succ_eq_append_getElem hk2]; exact hbl6
    · exact btr hb4 hb4.size hb5 |>.trans (hf6.toBelow (Nat.le_trans hb4.size hb5.size) fun b hb h => by omega)
  · have hk2 : k = ks.length := by omega
    subst hk2
    rw [List.take_length] at hbl
    refine st_blk bt4 (by simp) fun w5 bt5 hf5 => ?_
    simp only [List.setIfInBounds_toArray, List.set_cons_zero, List.set_cons_succ] at bt5
    simp only [Addr.add_mk, bt5.cell, List.getElem?_toArray, List.getElem?_cons_zero, List.getElem?_cons_succ, Addr.add_mk, List.getElem?_toArray, List.getElem?_cons_zero, List.getElem?_cons_succ, LdI_some, LdB_some, LdStr_some, LdP_some, LdSl_some, LdM_some, Nat.zero_add, Br_t, Br_f]
    have hne : g2 ≠ gt := by have := bt.lt; omega
    have b25 := hf5.blk (b2.keep hb4) (fun h => hne h)
    refine st_blk b25 (by simp) fun w6 b26 hf6 => st_blk b26 (by simp) fun w7 b27 hf7 => st_blk b27 (by simp) fun w8 b28 hf8 => ?_
    simp only [List.setIfInBounds_toArray, List.set_cons_zero, List.set_cons_succ] at b28
    simp only [Addr.add_mk, b28.cell, List.getElem?_toArray, List.getElem?_cons_zero, List.getElem?_cons_succ, Addr.add_mk, List.getElem?_toArray, List.getElem?_cons_zero, List.getElem?_cons_succ, LdI_some, LdB_some, LdStr_some, LdP_some, LdSl_some, LdM_some, Nat.zero_add, Br_t, Br_f]
    have hF : Fm (fun b => b = gt ∨ b = g2) w4 w8 := (((hf5.mono fun b _ h => Or.inl h).trans (hf6.mono fun b _ h => Or.inr h)).trans (hf7.mono fun b _ h => Or.inr h)).trans (hf8.mono fun b _ h => Or.inr h)
    have hbl8 := hbl.keep hF (by rintro b hb (rfl | rfl) <;> omega)
    obtain ⟨A, c, es', hv, hrd, hrl⟩ := hbl8.read (j := w.heap.size) B2.size
    cases hv
    refine h ⟨e.nm, e.d, (l, es'.length, lC)⟩ w8 (B4.trans (hF.toBelow B4.size (by rintro b hb (rfl | rfl) <;> omega))) ?_
    simp only [RTw]
    exact ⟨hnm, hd, hlen, es', rfl, hrd, hrl⟩
end Go.Proofs.Ytbocfedmdjkccaa
/- Twigs: the same pattern twice. -/
namespace Go.Proofs.Ytbocfedmdjkccaa
open Go.RowKit Go.Vc
set_option linter.unusedVariables false
set_option linter.unusedSimpArgs false
set_option maxRecDepth 100000
theorem Rd.e3H {w : World} {A : Option Addr} {c : Nat} {xs : List E3} {S : World → Prop} (h : Rd LE3 w A c xs) (hS : ∀ w1, S w1 → Below w.heap.size w w1) {n : Nat} (hn : n = xs.length) {i : Int} {k : Nat} (hi : i = k) (hk : k < xs.length) {K : Addr → Prop}
    (hK : ∀ b o, Held S ⟨b, o, none⟩ (.string xs[k].nm) → Held S ⟨b, o + 1, none⟩ (.bool xs[k].d) → Held S ⟨b, o + 2, none⟩ (.slice xs[k].sl.1 xs[k].sl.2.1 xs[k].sl.2.2) → K ⟨b, o, none⟩) : IdxA A n i 3 K := by
  subst hi
  refine h.held hS hn (by omega) (by omega) rfl fun b o hc => ?_
  simp only [Int.toNat_natCast] at hc
  exact hK b o (hc 0 _ rfl) (hc 1 _ rfl) (hc 2 _ rfl)
theorem blk_held {w : World} {S : World → Prop} {b : Nat} {c : Array Value} {t : TypeId} (h : Blk w b c t) (hS : ∀ w1, S w1 → Below w.heap.size w w1) {i : Nat} {v : Value} (hv : c[i]? = some v) : Held S ⟨b, i, none⟩ v := fun w1 h1 => by
  rw [(h.keep (hS w1 h1)).cell]; exact hv
theorem equal_calls : ∀ (t : Tw) (e f : E3) {w : World} {R : Ending → World → Prop}, RTw w t e → RTw w t f →
    (∀ w', Below w.heap.size w w' → R (.returned (.bool true)) w') →
    Calls Try.prog 18 #[.agg #[.string e.nm, .bool e.d, .slice e.sl.1 e.sl.2.1 e.sl.2.2], .agg #[.string f.nm, .bool f.d, .slice f.sl.1 f.sl.2.1 f.sl.2.2]] w R := by
  refine Tw.ind fun nm d ks ih e f w R he hf h => ?_
  simp only [RTw] at he hf
  obtain ⟨e1, e2, hlen, es, en, er, eks⟩ := he
  obtain ⟨f1, f2, -, fs, fn, fr, fks⟩ := hf
  have el := eks.len
  have fl := fks.len
  refine ok18 e.nm e.d e.sl.1 e.sl.2.1 e.sl.2.2 f.nm f.d f.sl.1 f.sl.2.1 f.sl.2.2 ?_
  unfold F18
  refine al fun ga w1 hb1 ba hge1 => al fun gb w2 hb2 bb hge2 => ?_
  have B2 := btr hb1 hb1.size hb2
  have ba2 := ba.keep hb2
  refine ⟨fun w' => w2 = w', ?_, ?_⟩
  · rintro _ rfl
    unfold F18_j3
    refine ⟨fun i w4 => ∃ k : Nat, i = k ∧ k ≤ ks.length ∧ Below w2.heap.size w2 w4, fun i _ => ks.length - i.toNat, ⟨0, rfl, by omega, Below.refl _ _⟩, ?_⟩
    rintro i w4 ⟨k, rfl, hk, hb4⟩
    unfold F18_l4
    have ba4 := ba2.keep hb4
    have bb4 := bb.keep hb4
    have B4 := btr B2 B2.size hb4
    simp only [Addr.add_mk, ba4.cell, List.getElem?_toArray, List.getElem?_cons_zero, List.getElem?_cons_succ, Addr.add_mk, List.getElem?_toArray, List.getElem?_cons_zero, List.getElem?_cons_succ, LdI_some, LdB_some, LdStr_some, LdP_some, LdSl_some, LdM_some, Nat.zero_add, Br_t, Br_f]
    refine brd (fun hlt => ?_) (fun hge => h w4 B4)
    have hk2 : k < ks.length := by omega
    refine ⟨fun w' => Below w4.heap.size w4 w', (Below.refl _ _).drew, e.sl.1, e.sl.2.1, e.sl.2.2, blk_held ba4 (fun _ h => h) rfl, ?_⟩
    refine (er.keep B4).e3H (fun _ h => h) en rfl (k := k) (by omega) fun b o c0 c1 c2 => ?_
    simp only [Addr.add_mk]
    refine ⟨_, c0, _, c1, _, _, _, c2, f.sl.1, f.sl.2.1, f.sl.2.2, blk_held bb4 (fun _ h => h) rfl, ?_⟩
    refine (fr.keep B4).e3H (fun _ h => h) fn rfl (k := k) (by omega) fun b o c0 c1 c2 => ?_
    simp only [Addr.add_mk]
    refine ⟨_, c0, _, c1, _, _, _, c2, ?_⟩
    have hd : Below w4.heap.size w4 w4.drew := (Below.refl _ _).drew
    refine ih ks[k] (List.getElem_mem _) es[k] fs[k] (((eks.keep B4).keep hd).get k hk2 (by omega)) (((fks.keep B4).keep hd).get k hk2 (by omega)) fun w5 hb5 => ⟨_, rfl, ?_⟩
    simp only [Bool.not_true, Br_f]
    exact ⟨inR_i64 (by omega) (by omega), ⟨k + 1, by simp, by omega, btr hb4 hb4.size (hd.trans hb5)⟩, by omega⟩
  · simp only [Addr.add_mk, ba2.cell, bb.cell, List.getElem?_toArray, List.getElem?_cons_zero, List.getElem?_cons_succ, Addr.add_mk, List.getElem?_toArray, List.getElem?_cons_zero, List.getElem?_cons_succ, LdI_some, LdB_some, LdStr_some, LdP_some, LdSl_some, LdM_some, Nat.zero_add, Br_t, Br_f, e1, e2, f1, f2, beq_self_eq_true, Bool.not_true, Br_f]
    exact brn (fun hne => absurd (show ((e.sl.2.1 : Nat) : Int) = (f.sl.2.1 : Nat) by rw [en, fn, el, fl]) hne) fun _ => trivial
end Go.Proofs.Ytbocfedmdjkccaa
/- Twigs: lists of lists, in memory; their copy. -/
namespace Go.Proofs.Ytbocfedmdjkccaa
open Go.RowKit Go.Vc
set_option linter.unusedVariables false
set_option linter.unusedSimpArgs false
set_option maxRecDepth 100000
/-- A list of placed nodes. -/
def RLv (w : World) (l : List Pl) (v : Sv) : Prop := l.length ≤ 1048576 ∧ v.2.1 = l.length ∧ Rd LPl w v.1 v.2.2 l
def RLl (w : World) : List (List Pl) → List Sv → Prop
  | [], vs => vs = []
  | l :: ls, vs => ∃ v vs', vs = v :: vs' ∧ RLv w l v ∧ RLl w ls vs'
/-- Lists. -/
def RLs (w : World) (ls : List (List Pl)) (v : Sv) : Prop := ls.length ≤ 1048576 ∧ ∃ vs, v.2.1 = vs.length ∧ Rd LSv w v.1 v.2.2 vs ∧ RLl w ls vs
section
variable {w w1 : World}
theorem RLv.sub (h : Sub w w1) {l : List Pl} {v : Sv} (k : RLv w l v) : RLv w1 l v := ⟨k.1, k.2.1, h.rd k.2.2⟩
theorem RLl.sub (h : Sub w w1) : ∀ (ls : List (List Pl)) (vs : List Sv), RLl w ls vs → RLl w1 ls vs
  | [], vs, k => by simp only [RLl] at k ⊢; exact k
  | l :: ls, vs, k => by
    simp only [RLl] at k ⊢
    obtain ⟨v, vs', h1, h2, h3⟩ := k
    exact ⟨v, vs', h1, h2.sub h, RLl.sub h ls vs' h3⟩
theorem RLs.sub (h : Sub w w1) {ls : List (List Pl)} {v : Sv} (k : RLs w ls v) : RLs w1 ls v := by
  obtain ⟨h0, vs, h1, h2, h3⟩ := k
  exact ⟨h0, vs, h1, h.rd h2, RLl.sub h ls vs h3⟩
theorem RLv.keep {l : List Pl} {v : Sv} (k : RLv w l v) (hb : Below w.heap.size w w1) : RLv w1 l v := k.sub (sub_below hb)
theorem RLl.keep {ls : List (List Pl)} {vs : List Sv} (k : RLl w ls vs) (hb : Below w.heap.size w w1) : RLl w1 ls vs := RLl.sub (sub_below hb) ls vs k
theorem RLs.keep {ls : List (List Pl)} {v : Sv} (k : RLs w ls v) (hb : Below w.heap.size w w1) : RLs w1 ls v := k.sub (sub_below hb)
theorem RLl.len : ∀ {ls : List (List Pl)} {vs : List Sv}, RLl w ls vs → vs.length = ls.length
  | [], vs, k => by simp only [RLl] at k; subst k; rfl
  | l :: ls, vs, k => by
    simp only [RLl] at k
    obtain ⟨v, vs', rfl, _, h3⟩ := k
    simp [h3.len]
theorem RLl.snoc {q : List Pl} {f : Sv} (hq : RLv w q f) : ∀ {ls : List (List Pl)} {vs : List Sv}, RLl w ls vs → RLl w (ls ++ [q]) (vs ++ [f])
  | [], vs, k => by simp only [RLl] at k; subst k; simp only [List.nil_append, RLl]; exact ⟨f, [], rfl, hq, rfl⟩
  | l :: ls, vs, k => by
    simp only [RLl] at k
    obtain ⟨v, vs', rfl, h2, h3⟩ := k
    simp only [List.cons_append, RLl]
    exact ⟨v, _, rfl, h2, RLl.snoc hq h3⟩
theorem RLl.get : ∀ {ls : List (List Pl)} {vs : List Sv}, RLl w ls vs → ∀ (i : Nat) (h : i < ls.length) (h' : i < vs.length), RLv w ls[i] vs[i]
  | [], vs, _, i, h, _ => by simp at h
  | l :: ls, vs, k, i, h, h' => by
    simp only [RLl] at k
    obtain ⟨v, vs', rfl, h2, h3⟩ := k
    cases i with
    | zero => exact h2
    | succ i => exact RLl.get h3 i (by simpa using h) (by simpa using h')
end
def KL : Knd (List Pl) Sv := ⟨LSv, RLl, RLv, fun h p e => RLl.sub h p e, fun h p e k => k.sub h, fun _ => by simp only [RLl], fun h k => RLl.snoc k h, RLl.len⟩
section
variable {w : World} {A : Option Addr} {c : Nat}
theorem Rd.sv {xs : List Sv} (h : Rd LSv w A c xs) {n : Nat} (hn : n = xs.length) {i : Int} {k : Nat} (hi : i = k) (hk : k < xs.length) {K : Addr → Prop}
    (hK : ∀ b o, w.cell? ⟨b, o, none⟩ = some (.slice xs[k].1 xs[k].2.1 xs[k].2.2) → K ⟨b, o, none⟩) : IdxA A n i 1 K := by
  subst hi
  refine h.idx hn (by omega) (by omega) rfl fun b o hc => ?_
  simp only [Int.toNat_natCast] at hc
  exact hK b o (hc 0 _ rfl)
theorem Rd.svH {xs : List Sv} {S : World → Prop} (h : Rd LSv w A c xs) (hS : ∀ w1, S w1 → Below w.heap.size w w1) {n : Nat} (hn : n = xs.length) {i : Int} {k : Nat} (hi : i = k) (hk : k < xs.length) {K : Addr → Prop}
    (hK : ∀ b o, Held S ⟨b, o, none⟩ (.slice xs[k].1 xs[k].2.1 xs[k].2.2) → K ⟨b, o, none⟩) : IdxA A n i 1 K := by
  subst hi
  refine h.held hS hn (by omega) (by omega) rfl fun b o hc => ?_
  simp only [Int.toNat_natCast] at hc
  exact hK b o (hc 0 _ rfl)
end
theorem own_calls (ls : List (List Pl)) (v : Sv) {w : World} {R : Ending → World → Prop} (hl : RLs w ls v)
    (h : ∀ v' w', Below w.heap.size w w' → RLs (above w.heap.size w') ls v' → R (.returned (.slice v'.1 v'.2.1 v'.2.2)) w') :
    Calls Try.prog 8 #[.slice v.1 v.2.1 v.2.2] w R := by
  obtain ⟨hlen, vs, hn, hr, hks⟩ := hl
  have hel := hks.len
  refine ok8 v.1 v.2.1 v.2.2 ?_
  unfold F8
  refine ⟨inR_i64 (by omega) (by omega), by omega, by omega, by omega, ?_⟩
  refine al fun g9 w3 hb3 b9 hge9 => ?_
  refine ⟨fun l lN lC i w4 => ∃ k : Nat, i = k ∧ k ≤ ls.length ∧ Bld KL w.heap.size 51 w4 (.slice l lN lC) (ls.take k) ∧ Below w.heap.size w w4, fun _ _ _ i _ => ls.length - i.toNat,
    ⟨0, rfl, by omega, by simpa using Bld.made KL b9 hge9 (by simp [zrow, KL, LSv]) (by simp [maxLen]; omega), hb3⟩, ?_⟩
  rintro l lN lC i w4 ⟨k, rfl, hk, hbl, hb4⟩
  unfold F8_l3
  refine brd (fun hlt => ?_) (fun hge => ?_)
  · have hk2 : k < ls.length := by omega
    have hk3 : k < vs.length := by omega
    have hr4 := hr.keep hb4
    obtain ⟨z, hz1, hz2⟩ := (hks.keep hb4).get k hk2 hk3
    have hd : Below w4.heap.size w4 w4.drew := (Below.refl _ _).drew
    refine ⟨fun w' => Below w4.heap.size w4 w', hd, ?_⟩
    refine hr4.svH (fun _ h => h) hn rfl (k := k) hk3 fun b o c0 => ⟨_, _, _, c0, inR_i64 (by omega) (by omega), ?_⟩
    refine hr4.svH (fun _ h => h) hn rfl (k := k) hk3 fun b o c0 => ⟨_, _, _, c0, by omega, by omega, by omega, ?_⟩
    refine al fun g5 w5 hb5 b5 hge5 => ⟨hd.trans hb5, ?_⟩
    have B5 := hd.trans hb5
    refine ap (L := LPl) (xs := []) (ys := ls[k]) (base := w4.heap.size) (.agg #[.int .u64 0, .int .u64 0, .int .u64 0, .int .i64 0]) 32 hz1 rfl rfl rfl (Own.made b5 hge5 (by simp [zrow, LPl]) (by simp [maxLen]; omega)) (hz2.keep B5) B5.size (by simp; omega) (by simp [maxLen]; omega) fun A' c' w6 ho hgr => ⟨A', _, c', rfl, ?_⟩
    have B6 := B5.trans hgr.below
    have hy : RLv (above w4.heap.size w6) ls[k] (A', (0 + ls[k].length, c')) := by
      obtain ⟨h1, h2⟩ := (own_above ho (Nat.le_refl _)).rd
      exact ⟨z, by simp, by simpa using h2⟩
    obtain ⟨A, c, hv⟩ := hbl.len
    cases hv
    refine Bld.app (N := KL) (y := (A', (0 + ls[k].length, c'))) (x := ls[k]) (M := fun _ => False) (.slice none 0 0) 24 hbl (.below B6) (fun _ _ h => h) hb4.size hy rfl rfl rfl rfl (by simp; omega) (by simp [maxLen]; omega) fun A2 c2 w7 hbl7 hf7 => ⟨A2, _, c2, rfl, ?_⟩
    have hlk : (ls.take k).length = k := by simp; omega
    rw [hlk] at hbl7 ⊢
    refine ⟨inR_i64 (by omega) (by omega), ⟨k + 1, by simp, by omega, ?_, ?_⟩, by dsimp only; omega⟩
    · rw [List.take_succ_eq_append_getElem hk2]; exact hbl7
    · exact btr hb4 hb4.size B6 |>.trans (hf7.toBelow (Nat.le_trans hb4.size B6.size) fun b hb h => by omega)
  · have hk2 : k = ls.length := by omega
    subst hk2
    rw [List.take_length] at hbl
    obtain ⟨A, c, es', hv, hrd, hrl⟩ := hbl.read (j := w.heap.size) (Nat.le_refl _)
    cases hv
    exact h (l, es'.length, lC) w4 hb4 ⟨hlen, es', rfl, hrd, hrl⟩
end Go.Proofs.Ytbocfedmdjkccaa
/- Twigs: a pattern, and lists, as arguments. -/
namespace Go.Proofs.Ytbocfedmdjkccaa
open Go.RowKit Go.Deep Go.WideShapes Go.ChangeShapes Go.Vc
set_option linter.unusedSimpArgs false
set_option maxRecDepth 100000
theorem upto_one {H : Type} (d : DataW H) : 1 ≤ Rows.uptoBulk d := by
  cases d with
  | lit l => cases l <;> simp only [Rows.uptoBulk] <;> omega
  | _ => simp only [Rows.uptoBulk]; omega
theorem upto_len {H : Type} : ∀ (l : List (DataW H)), l.length ≤ Rows.uptoBulkAll l
  | [] => by simp
  | d :: l => by
    have := upto_len l
    have := upto_one d
    simp only [Rows.uptoBulkAll, List.length_cons]; omega
theorem upto_part {H : Type} {d : DataW H} : ∀ {l : List (DataW H)}, d ∈ l → Rows.uptoBulk d ≤ Rows.uptoBulkAll l
  | e :: l, h => by
    simp only [Rows.uptoBulkAll]
    rcases List.mem_cons.1 h with rfl | h
    · omega
    · have := upto_part h; omega
theorem upto_small {H : Type} {d : DataW H} {l : List (DataW H)} (hk : Rows.uptoSmall H l = true) (h : d ∈ l) : Rows.uptoBulk d ≤ 1048576 :=
  Nat.le_trans (upto_part h) (of_decide_eq_true hk)
section
variable {H : Type} {enc : TypeId × Value → H} {P : Program} {W : World} {α : Type}
/-- A slice in a reading: the list that it reads, its elements, by the bulk of what is read. -/
theorem open_bk [Inhabited α] (L : Lay α) (Q : α → Prop) {t e : TypeId} {fuel : Nat} {cs : List Value} {x : DataW H × List MemPlace} (h : DataW.trod enc P W 0 (fun _ => true) true fuel t cs = some x) (ht : P.underlying t = some (.slice e)) (hC : P.cellsOf e = L.n)
    (hel : ∀ (n : Nat) (cs : List Value) (y : DataW H × List MemPlace), DataW.trod enc P W 0 (fun _ => true) true n e cs = some y → Rows.uptoBulk y.1 < Rows.uptoBulk x.1 → ∃ z : α, cs = L.cells z ∧ Q z) :
    ∃ A c xs, cs = [.slice A xs.length c] ∧ Rd L W A c xs ∧ (∀ y ∈ xs, Q y) ∧ xs.length ≤ Rows.uptoBulk x.1 := by
  rcases open_slice ht h with ⟨hcs, _⟩ | ⟨a, len, cap, m, n, D, Pl, hcs, _, hl, hm, hmm, hx, hi⟩
  · exact ⟨none, 0, [], hcs, Rd.nil _ _, by simp, by simp⟩
  · have hlm : len ≤ m := by rw [hmm]; simp; exact hl
    have hx1 := (Prod.mk.inj hx).1
    rw [hx1] at hel ⊢
    have hbulk : ∀ i, i < len → Rows.uptoBulk (D i) < Rows.uptoBulk (.slice ((List.range len).map D) ((List.range (m - len)).map fun j => D (len + j))) := fun i hi => by
      have := upto_part (List.mem_map.2 ⟨i, List.mem_range.2 hi, rfl⟩ : D i ∈ (List.range len).map D)
      simp only [Rows.uptoBulk]; omega
    obtain ⟨f, hfx⟩ := choose_lt (α := α) (n := len) (p := fun i y => (∀ j u, (L.cells y)[j]? = some u → W.cell? ((a.add (i * L.n)).add j) = some u) ∧ Q y) (fun i hil => by
      obtain ⟨cs', h1, h2⟩ := hi i (by omega)
      obtain ⟨y, rfl, hq⟩ := hel _ _ _ h2 (hbulk i hil)
      obtain ⟨_, hlen, hat⟩ := World.cells?_some h1
      refine ⟨y, fun j u hj => ?_, hq⟩
      rw [hC] at hat hlen
      rw [hat j (by rw [← L.len y]; exact (List.getElem?_eq_some_iff.1 hj).1)]
      exact hj)
    refine ⟨some a, cap, (List.range len).map f, by simpa using hcs, ⟨by simpa using hl, hm, (fun h => by cases h), fun h0 => ?_⟩, fun y hy => ?_, ?_⟩
    · simp at h0
      have hspot : a.spot = Option.none := by
        have hy := (hfx 0 h0).1
        have hn : 0 < (L.cells (f 0)).length := by rw [L.len]; exact L.pos
        have := hy 0 _ (List.getElem?_eq_getElem hn)
        simp only [Nat.zero_mul, Addr.add, if_true] at this
        unfold World.cell? at this
        cases hs : a.spot with
        | none => rfl
        | some q =>
          split at this
          · rw [hs] at this; simp at this
          · cases this
      obtain ⟨b, o, s⟩ := a
      simp only at hspot
      subst hspot
      refine ⟨b, o, rfl, cells_of_rows _ (fun i hi j u hj => ?_)⟩
      simp at hi hj
      have := (hfx i hi).1 j u hj
      rw [Addr.add_lit, Addr.add_lit] at this
      exact this
    · obtain ⟨i, hi, rfl⟩ := List.mem_map.1 hy
      exact (hfx i (List.mem_range.1 hi)).2
    · have := upto_len ((List.range len).map D)
      simp only [Rows.uptoBulk, List.length_map, List.length_range] at this ⊢
      omega
end
instance : Inhabited E3 := ⟨⟨ByteArray.empty, false, (none, 0, 0)⟩⟩
theorem rtl_of {w : World} : ∀ (es : List E3), (∀ e ∈ es, ∃ t, RTw w t e) → ∃ ts, RTl w ts es
  | [], _ => ⟨[], by simp only [RTl]⟩
  | e :: es, h => by
    obtain ⟨t, ht⟩ := h e (by simp)
    obtain ⟨ts, hts⟩ := rtl_of es fun x hx => h x (by simp [hx])
    exact ⟨t :: ts, by simp only [RTl]; exact ⟨e, es, rfl, ht, hts⟩⟩
theorem tw_cells {H : Type} {enc : TypeId × Value → H} {W : World} : ∀ (B : Nat), B ≤ 1048576 → ∀ (n : Nat) (cs : List Value) (x : DataW H × List MemPlace), DataW.trod enc Try.prog W 0 (fun _ => true) true n 24 cs = some x → Rows.uptoBulk x.1 ≤ B →
    ∃ (e : E3), cs = e.cells ∧ ∃ t, RTw W t e := by
  intro B
  induction B using Nat.strongRecOn with
  | _ B ih =>
    intro hB n cs x h hx
    obtain ⟨y0, y1, y2, m, hxe, hlen, h0, h1, h2⟩ := trod_struct3 Try.underlying24 h
    have hl : cs.length = 3 := hlen.trans (by kernel_rfl)
    match cs, hl with
    | [a, b, c], _ =>
      have k0 : (Try.prog).cellsOf 9 = 1 := by kernel_rfl
      have k1 : (Try.prog).cellsOf 4 = 1 := by kernel_rfl
      have k2 : (Try.prog).cellsOf 22 = 1 := by kernel_rfl
      simp only [k0, k1, k2, List.drop_zero, List.drop_succ_cons, List.take_succ_cons, List.take_zero] at h0 h1 h2
      obtain ⟨s, e0, -, -⟩ := DataW.trod_string Try.underlying9 h0
      obtain ⟨d, e1, -⟩ := DataW.trod_bool Try.underlying4 h1
      have hb2 : Rows.uptoBulk y2.1 < B := by
        rw [hxe] at hx
        simp only [Rows.uptoBulk, Rows.uptoBulkAll] at hx
        have := upto_one y0.1; have := upto_one y1.1
        omega
      obtain ⟨A, c', es, e2, hr, hq, hlen2⟩ := open_bk LE3 (fun e => ∃ t, RTw W t e) h2 Try.underlying22 (by kernel_rfl) fun n cs y hy hby => ih (Rows.uptoBulk y.1) (by omega) (by omega) n cs y hy (Nat.le_refl _)
      simp only [List.cons.injEq, and_true] at e0 e1 e2
      subst e0 e1 e2
      obtain ⟨ts, hts⟩ := rtl_of es hq
      refine ⟨⟨s, d, (A, es.length, c')⟩, rfl, .mk s d ts, ?_⟩
      simp only [RTw]
      exact ⟨by trivial, by trivial, by rw [← hts.len]; omega, es, rfl, hr, hts⟩
theorem pl_cells {H : Type} {enc : TypeId × Value → H} {W : World} (n : Nat) (cs : List Value) (x : DataW H × List MemPlace)
    (h : DataW.trod enc Try.prog W 0 (fun _ => true) true n 79 cs = some x) : ∃ y : Pl, cs = LPl.cells y := by
  obtain ⟨ya, yb, m1, -, hlen1, g0, g1⟩ := trod_struct2 Try.underlying79 h
  have hl : cs.length = 4 := hlen1.trans (by kernel_rfl)
  match cs, hl with
  | [a, b, c, d], _ =>
    have k0 : (Try.prog).cellsOf 41 = 1 := by kernel_rfl
    have k1 : (Try.prog).cellsOf 3 = 1 := by kernel_rfl
    have k2 : (Try.prog).cellsOf 77 = 3 := by kernel_rfl
    have k3 : (Try.prog).cellsOf 75 = 1 := by kernel_rfl
    simp only [k0, k1, k2, k3, List.drop_zero, List.drop_succ_cons, List.take_succ_cons, List.take_zero] at g0 g1
    obtain ⟨n3, e3, -, -⟩ := DataW.trod_int Try.underlying75 g0
    obtain ⟨y0, y1, y2, m, -, hlen, h0, h1, h2⟩ := trod_struct3 Try.underlying77 g1
    simp only [k0, k1, List.drop_zero, List.drop_succ_cons, List.take_succ_cons, List.take_zero] at h0 h1 h2
    obtain ⟨n0, e0, -, -⟩ := DataW.trod_int Try.underlying41 h0
    obtain ⟨n1, e1, -, -⟩ := DataW.trod_int Try.underlying41 h1
    obtain ⟨n2, e2, -, -⟩ := DataW.trod_int Try.underlying3 h2
    simp only [List.cons.injEq, and_true] at e0 e1 e2 e3
    subst e0 e1 e2 e3
    exact ⟨⟨n3, ⟨n0, n1, n2⟩⟩, rfl⟩
theorem rll_of {w : World} : ∀ (vs : List Sv), (∀ v ∈ vs, ∃ l, RLv w l v) → ∃ ls, RLl w ls vs
  | [], _ => ⟨[], by simp only [RLl]⟩
  | v :: vs, h => by
    obtain ⟨l, hl⟩ := h v (by simp)
    obtain ⟨ls, hls⟩ := rll_of vs fun x hx => h x (by simp [hx])
    exact ⟨l :: ls, by simp only [RLl]; exact ⟨v, vs, rfl, hl, hls⟩⟩
theorem lists_open {H : Type} {enc : TypeId × Value → H} {W : World} {n : Nat} {cs : List Value} {x : DataW H × List MemPlace} (h : DataW.trod enc Try.prog W 0 (fun _ => true) true n 25 cs = some x) (hx : Rows.uptoBulk x.1 ≤ 1048576) :
    ∃ (v : Sv) (ls : List (List Pl)), cs = [.slice v.1 v.2.1 v.2.2] ∧ RLs W ls v := by
  obtain ⟨A, c, vs, e, hr, hq, hlen⟩ := open_bk LSv (fun v => ∃ l, RLv W l v) h Try.underlying25 (by kernel_rfl) fun n cs y hy hby => by
    obtain ⟨A, c, l, e, hr, -, hlen⟩ := open_bk LPl (fun _ => True) hy Try.underlying51 (by kernel_rfl) fun n cs z hz _ => by
      obtain ⟨p, rfl⟩ := pl_cells n cs z hz
      exact ⟨p, rfl, trivial⟩
    exact ⟨(A, l.length, c), e, l, by omega, rfl, hr⟩
  obtain ⟨ls, hls⟩ := rll_of vs hq
  exact ⟨(A, vs.length, c), ls, e, by rw [← hls.len]; omega, vs, rfl, hr, hls⟩
end Go.Proofs.Ytbocfedmdjkccaa
/- Twigs: the same lists twice; handles that are the same, and are written over. -/
namespace Go.Proofs.Ytbocfedmdjkccaa
open Go.RowKit Go.Vc
set_option linter.unusedVariables false
set_option linter.unusedSimpArgs false
set_option maxRecDepth 100000
theorem kept_calls (ls : List (List Pl)) (a b : Sv) {w : World} {R : Ending → World → Prop} (ha : RLs w ls a) (hb : RLs w ls b)
    (h : ∀ w', Below w.heap.size w w' → R (.returned (.bool true)) w') :
    Calls Try.prog 19 #[.slice a.1 a.2.1 a.2.2, .slice b.1 b.2.1 b.2.2] w R := by
  obtain ⟨hlen, vs, an, ar, aks⟩ := ha
  obtain ⟨-, us, bn, br, bks⟩ := hb
  have al := aks.len
  have bl := bks.len
  refine ok19 a.1 a.2.1 a.2.2 b.1 b.2.1 b.2.2 ?_
  unfold F19
  refine brn (fun hne => absurd (show ((a.2.1 : Nat) : Int) = (b.2.1 : Nat) by rw [an, bn, al, bl]) hne) fun _ => ?_
  refine ⟨fun i w1 => ∃ k : Nat, i = k ∧ k ≤ ls.length ∧ Below w.heap.size w w1, fun i _ => ls.length - i.toNat, ⟨0, rfl, by omega, Below.refl _ _⟩, ?_⟩
  rintro i w1 ⟨k, rfl, hk, hb1⟩
  unfold F19_l4
  refine brd (fun hlt => ?_) (fun hge => h w1 hb1)
  have hk2 : k < ls.length := by omega
  refine dr fun w2 hb2 _ => ?_
  have B2 := btr hb1 hb1.size hb2
  have sa : ∀ {w' : World}, Below w.heap.size w w' → Rd LSv w' a.1 a.2.2 vs ∧ RLv w' ls[k] (vs[k]'(by omega)) := fun hw => ⟨ar.keep hw, (aks.keep hw).get k hk2 (by omega)⟩
  have sb : ∀ {w' : World}, Below w.heap.size w w' → Rd LSv w' b.1 b.2.2 us ∧ RLv w' ls[k] (us[k]'(by omega)) := fun hw => ⟨br.keep hw, (bks.keep hw).get k hk2 (by omega)⟩
  refine (sa B2).1.sv an rfl (k := k) (by omega) fun b1 o1 c1 => ?_
  simp only [c1, Addr.add_mk, List.getElem?_toArray, List.getElem?_cons_zero, List.getElem?_cons_succ, LdI_some, LdB_some, LdStr_some, LdP_some, LdSl_some, LdM_some, Nat.zero_add, Br_t, Br_f]
  refine (sb B2).1.sv bn rfl (k := k) (by omega) fun b1 o1 c1 => ?_
  simp only [c1, Addr.add_mk, List.getElem?_toArray, List.getElem?_cons_zero, List.getElem?_cons_succ, LdI_some, LdB_some, LdStr_some, LdP_some, LdSl_some, LdM_some, Nat.zero_add, Br_t, Br_f]
  obtain ⟨z, z1, -⟩ := (sa B2).2
  obtain ⟨-, z2, -⟩ := (sb B2).2
  refine brn (fun hne => absurd (show (((vs[k]'(by omega)).2.1 : Nat) : Int) = ((us[k]'(by omega)).2.1 : Nat) by rw [z1, z2]) hne) fun _ => ?_
  refine ⟨fun j w3 => ∃ m : Nat, j = m ∧ m ≤ ls[k].length ∧ Below w.heap.size w w3, fun j _ => ls[k].length - j.toNat, ⟨0, rfl, by omega, B2⟩, ?_⟩
  rintro j w3 ⟨m, rfl, hm, hb3⟩
  unfold F19_l9
  refine (sa hb3).1.sv an rfl (k := k) (by omega) fun b1 o1 c1 => ?_
  simp only [c1, Addr.add_mk, List.getElem?_toArray, List.getElem?_cons_zero, List.getElem?_cons_succ, LdI_some, LdB_some, LdStr_some, LdP_some, LdSl_some, LdM_some, Nat.zero_add, Br_t, Br_f, z1]
  refine brd (fun hlt => ?_) (fun hge => ⟨inR_i64 (by omega) (by omega), ⟨k + 1, by simp, by omega, hb3⟩, by omega⟩)
  have hm2 : m < ls[k].length := by omega
  refine dr fun w4 hb4 _ => ?_
  have B4 := btr hb3 hb3.size hb4
  refine (sa B4).1.sv an rfl (k := k) (by omega) fun b1 o1 c1 => ?_
  simp only [c1, Addr.add_mk, List.getElem?_toArray, List.getElem?_cons_zero, List.getElem?_cons_succ, LdI_some, LdB_some, LdStr_some, LdP_some, LdSl_some, LdM_some, Nat.zero_add, Br_t, Br_f]
  refine (sa B4).2.2.2.pl z1 rfl hm2 fun b2 o2 p0 p1 p2 p3 => ?_
  simp only [Addr.add_mk, p0, p1, p2, p3, Addr.add_mk, List.getElem?_toArray, List.getElem?_cons_zero, List.getElem?_cons_succ, LdI_some, LdB_some, LdStr_some, LdP_some, LdSl_some, LdM_some, Nat.zero_add, Br_t, Br_f]
  refine (sb B4).1.sv bn rfl (k := k) (by omega) fun b1 o1 c1 => ?_
  simp only [c1, Addr.add_mk, List.getElem?_toArray, List.getElem?_cons_zero, List.getElem?_cons_succ, LdI_some, LdB_some, LdStr_some, LdP_some, LdSl_some, LdM_some, Nat.zero_add, Br_t, Br_f]
  refine (sb B4).2.2.2.pl z2 rfl hm2 fun b2 o2 p0 p1 p2 p3 => ?_
  simp only [Addr.add_mk, p0, p1, p2, p3, Addr.add_mk, List.getElem?_toArray, List.getElem?_cons_zero, List.getElem?_cons_succ, LdI_some, LdB_some, LdStr_some, LdP_some, LdSl_some, LdM_some, Nat.zero_add, Br_t, Br_f, beq_self_eq_true, Bool.and_self, Bool.not_true, Br_f]
  exact ⟨inR_i64 (by omega) (by omega), ⟨m + 1, by simp, by omega, B4⟩, by omega⟩
end Go.Proofs.Ytbocfedmdjkccaa
/- Twigs: handles that are the same, and are written over. -/
namespace Go.Proofs.Ytbocfedmdjkccaa
open Go.RowKit Go.Vc
set_option linter.unusedVariables false
set_option linter.unusedSimpArgs false
set_option maxRecDepth 100000
def LH : Lay Int := ⟨1, fun n => [.int .u64 n], fun _ => rfl, fun _ => by simp [Value.oneCell'], by decide⟩
theorem Rd.han {w : World} {A : Option Addr} {c : Nat} {xs : List Int} (h : Rd LH w A c xs) {n : Nat} (hn : n = xs.length) {i : Int} {k : Nat} (hi : i = k) (hk : k < xs.length) {K : Addr → Prop}
    (hK : ∀ b o, w.cell? ⟨b, o, none⟩ = some (.int .u64 xs[k]) → K ⟨b, o, none⟩) : IdxA A n i 1 K := by
  subst hi
  refine h.idx hn (by omega) (by omega) rfl fun b o hc => ?_
  simp only [Int.toNat_natCast] at hc
  exact hK b o (hc 0 _ rfl)
/-- A store into a row of one's own, of elements of one cell. -/
theorem Own.stE {α : Type} {L : Lay α} {w : World} {base : Nat} {e : TypeId} {A : Option Addr} {n c : Nat} {xs : List α} (h1 : L.n = 1) (h : Own L w base e (.slice A n c) xs) {i : Int} {k : Nat} (hi : i = k) (hk : k < xs.length) (x : α) {v : Value} (hv : L.cells x = [v]) {K : World → Prop}
    (hK : ∀ w1, Own L w1 base e (.slice A n c) (xs.set k x) → Fm (fun b => rowOf (.slice A n c) = some b) w w1 → K w1) : IdxA A n i 1 fun q => St w q v K := by
  subst hi
  rcases h with ⟨_, rfl⟩ | ⟨_, rfl⟩ | ⟨g, c', cur, hsl, hb, hh, hn, hm, hs, ht⟩
  · simp at hk
  · simp at hk
  · simp only [Value.slice.injEq] at hsl
    obtain ⟨rfl, rfl, rfl⟩ := hsl
    rw [IdxA_some (by omega) (by omega)]
    simp only [Addr.add_mk, Int.toNat_natCast, Nat.mul_one, Nat.zero_add]
    have hbk : Blk w g cur e := hh
    have hsz : k < cur.size := by rw [hs, h1]; omega
    refine st_blk hbk hsz fun w1 b1 hf => hK w1 ?_ (hf.mono fun b _ hb => by subst hb; rfl)
    refine .inr (.inr ⟨g, c', _, by simp, hb, b1, by simpa using hn, hm, by simpa using hs, ?_⟩)
    rw [List.length_set, Array.toList_setIfInBounds, List.take_set, ht, Lay.all_set _ _ _ _ hk, h1, hv, List.set_eq_take_append_cons_drop, if_pos (by rw [L.all_length, h1]; omega)]
    simp
theorem handles_calls (xs : List Int) {base : Nat} {A : Option Addr} {n c : Nat} {B : Option Addr} {m c' : Nat} {w : World} {R : Ending → World → Prop} (hlen : xs.length ≤ 1048576) (hw : base ≤ w.heap.size)
    (ha : Own LH w base 75 (.slice A n c) xs) (hm : m = xs.length) (hb : Rd LH w B c' xs)
    (h : ∀ w', Fm (fun b => rowOf (.slice A n c) = some b) w w' → R (.returned (.bool true)) w') :
    Calls Try.prog 30 #[.slice A n c, .slice B m c'] w R := by
  obtain ⟨hn, hra⟩ := ha.rd
  subst hn hm
  refine ok30 A xs.length c B xs.length c' ?_
  unfold F30
  refine brn (fun hne => absurd rfl hne) fun _ => ?_
  refine ⟨fun i w1 => ∃ k : Nat, i = k ∧ k ≤ xs.length ∧ Below w.heap.size w w1, fun i _ => xs.length - i.toNat, ⟨0, rfl, by omega, Below.refl _ _⟩, ?_⟩
  rintro i w1 ⟨k, rfl, hk, hb1⟩
  unfold F30_l4
  refine brd (fun hlt => ?_) (fun hge => ?_)
  · have hk2 : k < xs.length := by omega
    refine dr fun w2 hb2 _ => ?_
    have B2 := btr hb1 hb1.size hb2
    refine (hra.keep B2).han rfl rfl hk2 fun b o c0 => ?_
    simp only [c0, Addr.add_mk, List.getElem?_toArray, List.getElem?_cons_zero, List.getElem?_cons_succ, LdI_some, LdB_some, LdStr_some, LdP_some, LdSl_some, LdM_some, Nat.zero_add, Br_t, Br_f]
    refine (hb.keep B2).han rfl rfl hk2 fun b o c0 => ?_
    simp only [c0, Addr.add_mk, List.getElem?_toArray, List.getElem?_cons_zero, List.getElem?_cons_succ, LdI_some, LdB_some, LdStr_some, LdP_some, LdSl_some, LdM_some, Nat.zero_add, Br_t, Br_f]
    exact brn (fun hne => absurd rfl hne) fun _ => ⟨inR_i64 (by omega) (by omega), ⟨k + 1, by simp, by omega, B2⟩, by omega⟩
  · refine ⟨fun i w1 => ∃ (k : Nat) (ys : List Int), i = k ∧ k ≤ xs.length ∧ ys.length = xs.length ∧ Own LH w1 base 75 (.slice A xs.length c) ys ∧ Fm (fun b => rowOf (.slice A xs.length c) = some b) w w1, fun i _ => xs.length - i.toNat,
      ⟨0, xs, rfl, by omega, rfl, ha.keep hb1, .below hb1⟩, ?_⟩
    rintro i w2 ⟨j, ys, rfl, hj, hyl, ho, hf⟩
    unfold F30_l9
    refine brd (fun hlt => ?_) (fun hge => ?_)
    · refine ho.stE rfl rfl (k := j) (by omega) 4711 rfl fun w3 ho3 hf3 => ?_
      exact ⟨inR_i64 (by omega) (by omega), ⟨j + 1, _, by simp, by omega, by simpa using hyl, ho3, hf.trans hf3⟩, by dsimp only; omega⟩
    · refine ap1 (L := LH) (x := 4712) (.int .u64 0) 8 rfl rfl rfl rfl ho (Nat.le_trans hw hf.size) (by omega) (by simp [maxLen]; omega) fun A' c2 w3 ho3 hg => ⟨A', _, c2, rfl, ?_⟩
      exact h w3 (hf.trans (.grown hg.grown fun b hb => hb))
end Go.Proofs.Ytbocfedmdjkccaa
/- Twigs: lists of matches that are the same, and are written over. -/
namespace Go.Proofs.Ytbocfedmdjkccaa
open Go.RowKit Go.Vc
set_option linter.unusedVariables false
set_option linter.unusedSimpArgs false
set_option maxRecDepth 100000
abbrev slv (v : Sv) : Value := .slice v.1 v.2.1 v.2.2
/-- Matches, read. -/
def RMv (w : World) (l : List Int) (v : Sv) : Prop := l.length ≤ 1048576 ∧ v.2.1 = l.length ∧ Rd LH w v.1 v.2.2 l
def RMl (w : World) : List (List Int) → List Sv → Prop
  | [], vs => vs = []
  | l :: ls, vs => ∃ v vs', vs = v :: vs' ∧ RMv w l v ∧ RMl w ls vs'
def RMs (w : World) (ls : List (List Int)) (v : Sv) : Prop := ∃ vs, v.2.1 = vs.length ∧ Rd LSv w v.1 v.2.2 vs ∧ RMl w ls vs
section
variable {w w1 : World}
theorem RMv.sub (h : Sub w w1) {l : List Int} {v : Sv} (k : RMv w l v) : RMv w1 l v := ⟨k.1, k.2.1, h.rd k.2.2⟩
theorem RMl.sub (h : Sub w w1) : ∀ (ls : List (List Int)) (vs : List Sv), RMl w ls vs → RMl w1 ls vs
  | [], vs, k => by simp only [RMl] at k ⊢; exact k
  | l :: ls, vs, k => by
    simp only [RMl] at k ⊢
    obtain ⟨v, vs', h1, h2, h3⟩ := k
    exact ⟨v, vs', h1, h2.sub h, RMl.sub h ls vs' h3⟩
theorem RMs.sub (h : Sub w w1) {ls : List (List Int)} {v : Sv} (k : RMs w ls v) : RMs w1 ls v := by
  obtain ⟨vs, h1, h2, h3⟩ := k
  exact ⟨vs, h1, h.rd h2, RMl.sub h ls vs h3⟩
theorem RMl.len : ∀ {ls : List (List Int)} {vs : List Sv}, RMl w ls vs → vs.length = ls.length
  | [], vs, k => by simp only [RMl] at k; subst k; rfl
  | l :: ls, vs, k => by
    simp only [RMl] at k
    obtain ⟨v, vs', rfl, _, h3⟩ := k
    simp [h3.len]
theorem RMl.get : ∀ {ls : List (List Int)} {vs : List Sv}, RMl w ls vs → ∀ (i : Nat) (h : i < ls.length) (h' : i < vs.length), RMv w ls[i] vs[i]
  | [], vs, _, i, h, _ => by simp at h
  | l :: ls, vs, k, i, h, h' => by
    simp only [RMl] at k
    obtain ⟨v, vs', rfl, h2, h3⟩ := k
    cases i with
    | zero => exact h2
    | succ i => exact RMl.get h3 i (by simpa using h) (by simpa using h')
end
/-- Matches of one's own, each in a row of its own, with numbers from lo to hi. -/
structure OMs (w : World) (lo hi : Nat) (ls : List (List Int)) (v : Sv) (vs : List Sv) : Prop where
  own : Own LSv w lo 53 (slv v) vs
  len : vs.length = ls.length
  small : ∀ l ∈ ls, l.length ≤ 1048576
  row : ∀ b, rowOf (slv v) = some b → b < hi
  each : ∀ (i : Nat) (h : i < ls.length) (h' : i < vs.length), Own LH w lo 75 (slv vs[i]) ls[i]
  rows : ∀ u ∈ vs, ∀ b, rowOf (slv u) = some b → b < hi
  pw : ∀ (i j : Nat) (hi : i < vs.length) (hj : j < vs.length), i < j → Apart (slv vs[j]) (slv vs[i])
  out : ∀ u ∈ vs, Apart (slv u) (slv v)
theorem matches_calls (ls : List (List Int)) (a b : Sv) {lo hi : Nat} {vs : List Sv} {w : World} {R : Ending → World → Prop} (hlen : ls.length ≤ 1048576) (hlo : lo ≤ w.heap.size)
    (ha : OMs w lo hi ls a vs) (hb : RMs (above hi w) ls b)
    (h : ∀ w', Fm (fun b => lo ≤ b ∧ b < hi) w w' → R (.returned (.bool true)) w') :
    Calls Try.prog 17 #[slv a, slv b] w R := by
  obtain ⟨us, bn, br, bks⟩ := hb
  have al := ha.len
  have bl := bks.len
  obtain ⟨an, -⟩ := ha.own.rd
  refine ok17 a.1 a.2.1 a.2.2 b.1 b.2.1 b.2.2 ?_
  unfold F17
  refine brn (fun hne => absurd (show ((a.2.1 : Nat) : Int) = (b.2.1 : Nat) by rw [an, bn, al, bl]) hne) fun _ => ?_
  refine ⟨fun i w1 => ∃ (k : Nat) (ws : List Sv), i = k ∧ k ≤ ls.length ∧ Fm (fun b => lo ≤ b ∧ b < hi) w w1 ∧ ws.length = vs.length ∧ Own LSv w1 lo 53 (slv a) ws ∧
      ∀ (j : Nat) (h : j < ls.length) (h' : j < vs.length) (h2 : j < ws.length), k ≤ j → ws[j] = vs[j] ∧ Own LH w1 lo 75 (slv vs[j]) ls[j], fun i _ => ls.length - i.toNat,
    ⟨0, vs, rfl, by omega, Fm.refl _ _, rfl, ha.own, fun j h h' h2 _ => ⟨rfl, ha.each j h h'⟩⟩, ?_⟩
  rintro i w1 ⟨k, ws, rfl, hk, hf, hwl, ho, hall⟩
  unfold F17_l4
  refine brd (fun hlt => ?_) (fun hge => h w1 hf)
  have hk2 : k < ls.length := by omega
  have hkv : k < vs.length := by omega
  have hkw : k < ws.length := by omega
  obtain ⟨e1, ok⟩ := hall k hk2 hkv hkw (Nat.le_refl _)
  have hd : Below w1.heap.size w1 w1.drew := (Below.refl _ _).drew
  have hsub : Sub (above hi w) w1 := (above_fm hf (Nat.le_refl _) fun b hb h => by omega).trans sub_of_only
  refine ⟨fun w' => Below w1.heap.size w1 w', hd, ?_⟩
  obtain ⟨-, hr⟩ := ho.rd
  refine hr.svH (fun _ h => h) (by omega) rfl (k := k) hkw fun q o c0 => ⟨_, _, _, c0, ?_⟩
  refine (hsub.rd br).svH (fun _ h => h) bn rfl (k := k) (by omega) fun q o c0 => ⟨_, _, _, c0, ?_⟩
  obtain ⟨z, z1, z2⟩ := (bks.get k hk2 (by omega)).sub (hsub.trans (sub_below hd))
  rw [e1]
  have hmem : vs[k] ∈ vs := List.getElem_mem _
  refine handles_calls ls[k] z (base := lo) (by have := hf.size; have := hd.size; omega) (ok.keep hd) z1 z2 fun w2 hf2 => ⟨_, rfl, ?_⟩
  simp only [Bool.not_true, Br_f]
  have hf2' : Fm (fun b => rowOf (slv vs[k]) = some b) w1 w2 := (Fm.below hd).trans hf2
  have hrow : ∀ b, rowOf (slv vs[k]) = some b → lo ≤ b ∧ b < hi := fun b hb => ⟨(ok.lt b hb).1, ha.rows _ hmem b hb⟩
  have ho2 : Own LSv w2 lo 53 (slv a) ws := own_fm ho hf2' fun b hb hb2 => by
    rcases ha.out _ hmem with h1 | h1
    · rw [hb2] at h1; cases h1
    · exact h1 (hb2.trans hb.symm)
  refine ho2.stE rfl rfl (k := k) hkw (none, 0, 0) rfl fun w3 ho3 hf3 => ?_
  refine ⟨inR_i64 (by omega) (by omega), ⟨k + 1, _, by simp, by omega, (hf.trans (hf2'.mono fun b _ hb => hrow b hb)).trans (hf3.mono fun b _ hb => ⟨(ho2.lt b hb).1, ha.row b hb⟩), by simpa using hwl, ho3, fun j hj hj' h2 hkj => ?_⟩, by omega⟩
  have hj2 : j < ws.length := by omega
  obtain ⟨e2, ok2⟩ := hall j hj hj' hj2 (by omega)
  refine ⟨by rw [List.getElem_set_ne (by omega)]; exact e2, ?_⟩
  have ok3 := own_fm ok2 hf2' fun b hb hb2 => by
    rcases ha.pw k j hkv hj' (by omega) with h1 | h1
    · rw [hb] at h1; cases h1
    · exact h1 (hb.trans hb2.symm)
  exact own_fm ok3 hf3 fun b hb hb2 => by
    rcases ha.out _ (List.getElem_mem hj') with h1 | h1
    · rw [hb] at h1; cases h1
    · exact h1 (hb.trans hb2.symm)
end Go.Proofs.Ytbocfedmdjkccaa
set_option linter.unusedVariables false
set_option maxRecDepth 100000
namespace Go.Proofs.Ytbocfedmdjkccaa
open Go.Vc
-- chars.letter
def F67 (c : Int) (w_ : World) (R : Ending → World → Prop) : Prop :=
 Br (decide (c ≥ (97 : Int)))
 (Br (decide (c ≤ (122 : Int)))
 (R (.returned (.bool true)) w_)
 (Br (decide (c ≥ (65 : Int)))
 (Br (decide (c ≤ (90 : Int)))
 (R (.returned (.bool true)) w_)
 (R (.returned (.bool (c == (95 : Int)))) w_))
 (R (.returned (.bool (c == (95 : Int)))) w_)))
 (Br (decide (c ≥ (65 : Int)))
 (Br (decide (c ≤ (90 : Int)))
 (R (.returned (.bool true)) w_)
 (R (.returned (.bool (c == (95 : Int)))) w_))
 (R (.returned (.bool (c == (95 : Int)))) w_))

def pl67 : Plan := ⟨21, ⟨[]⟩, [], []⟩

theorem eq67 (c : Int) (w : World) (R : Ending → World → Prop) : F67 c w R = vc Try.prog Try.f67 pl67 R 100000 [.code (bodyOf Try.f67)] (argEnv 0 #[(.int .u8 c)].toList) w := by kernel_rfl

theorem ok67 (c : Int) {w : World} {R : Ending → World → Prop} (h : F67 c w R) : Calls Try.prog 67 #[(.int .u8 c)] w R :=
  vc_calls (pl := pl67) Try.func67 (by kernel_rfl) (by kernel_rfl) (by kernel_rfl) (Eq.mp (eq67 c w R) h)

-- chars.Name
def F50_j9 (L4 : Int → World → Prop) (x20 : Int) (w_4 : World) (R : Ending → World → Prop) : Prop :=
 InR .i64 (x20 + (1 : Int)) ∧ L4 (x20 + (1 : Int)) w_4

def F50_l4 (s : ByteArray) (L4 : Int → World → Prop) (x20 : Int) (w_3 : World) (R : Ending → World → Prop) : Prop :=
 Br (decide (x20 < ((s.size : Nat) : Int)))
 (∃ J9 : World → Prop, (∀  (w1 : World), J9 w1 → F50_j9 L4 x20 w1 R) ∧
 (IdxS s x20 fun c25 =>
 Calls Try.prog 67 #[(.int .u8 c25)] w_3 (post R fun v w1 =>
 ∃ (x27 : Bool), v = (.bool x27) ∧
 Br (!x27)
 (Br (decide (c25 < (48 : Int)))
 (Br (c25 != (45 : Int))
 (Br (c25 != (46 : Int))
 (R (.returned (.bool false)) w1)
 (J9 w1))
 (J9 w1))
 (Br (decide (c25 > (57 : Int)))
 (Br (c25 != (45 : Int))
 (Br (c25 != (46 : Int))
 (R (.returned (.bool false)) w1)
 (J9 w1))
 (J9 w1))
 (J9 w1)))
 (J9 w1))))
 (R (.returned (.bool true)) w_3)

def F50_j3 (s : ByteArray) (w_2 : World) (R : Ending → World → Prop) : Prop :=
 ∃ (I : Int → World → Prop) (m : Int → World → Nat), I (0 : Int) w_2 ∧
 ∀ (x20 : Int) (w1 : World), I x20 w1 → F50_l4 s (fun x20' w2 => I x20' w2 ∧ m x20' w2 < m x20 w1) x20 w1 R

def F50 (s : ByteArray) (w_ : World) (R : Ending → World → Prop) : Prop :=
 ∃ J3 : World → Prop, (∀  (w1 : World), J3 w1 → F50_j3 s w1 R) ∧
 (Br (s.toList == (ByteArray.mk #[]).toList)
 (R (.returned (.bool false)) w_)
 (Br (decide (((s.size : Nat) : Int) > (32 : Int)))
 (R (.returned (.bool false)) w_)
 (IdxS s (0 : Int) fun c14 =>
 Calls Try.prog 67 #[(.int .u8 c14)] w_ (post R fun v w1 =>
 ∃ (x15 : Bool), v = (.bool x15) ∧
 Br (!x15)
 (R (.returned (.bool false)) w1)
 (J3 w1)))))

def pl50 : Plan := ⟨46, ⟨[]⟩, [(9, ⟨[], [(2, 5), (22, 45)]⟩), (3, ⟨[], [(2, 18)]⟩)], [(4, ⟨[(20, (.s (.int .i64)))], [(2, 5), (20, 46)]⟩)]⟩

theorem eq50 (s : ByteArray) (w : World) (R : Ending → World → Prop) : F50 s w R = vc Try.prog Try.f50 pl50 R 100000 [.code (bodyOf Try.f50)] (argEnv 0 #[(.string s)].toList) w := by kernel_rfl

theorem ok50 (s : ByteArray) {w : World} {R : Ending → World → Prop} (h : F50 s w R) : Calls Try.prog 50 #[(.string s)] w R :=
  vc_calls (pl := pl50) Try.func50 (by kernel_rfl) (by kernel_rfl) (by kernel_rfl) (Eq.mp (eq50 s w R) h)

-- espalierref02.Begins
def F68 (c : Int) (w_ : World) (R : Ending → World → Prop) : Prop :=
 Br (decide (c ≥ (97 : Int)))
 (Br (decide (c ≤ (122 : Int)))
 (R (.returned (.bool true)) w_)
 (Br (decide (c ≥ (65 : Int)))
 (Br (decide (c ≤ (90 : Int)))
 (R (.returned (.bool true)) w_)
 (R (.returned (.bool (c == (95 : Int)))) w_))
 (R (.returned (.bool (c == (95 : Int)))) w_)))
 (Br (decide (c ≥ (65 : Int)))
 (Br (decide (c ≤ (90 : Int)))
 (R (.returned (.bool true)) w_)
 (R (.returned (.bool (c == (95 : Int)))) w_))
 (R (.returned (.bool (c == (95 : Int)))) w_))

def pl68 : Plan := ⟨21, ⟨[]⟩, [], []⟩

theorem eq68 (c : Int) (w : World) (R : Ending → World → Prop) : F68 c w R = vc Try.prog Try.f68 pl68 R 100000 [.code (bodyOf Try.f68)] (argEnv 0 #[(.int .u8 c)].toList) w := by kernel_rfl

theorem ok68 (c : Int) {w : World} {R : Ending → World → Prop} (h : F68 c w R) : Calls Try.prog 68 #[(.int .u8 c)] w R :=
  vc_calls (pl := pl68) Try.func68 (by kernel_rfl) (by kernel_rfl) (by kernel_rfl) (Eq.mp (eq68 c w R) h)

-- espalierref02.In
def F69 (c : Int) (w_ : World) (R : Ending → World → Prop) : Prop :=
 Calls Try.prog 68 #[(.int .u8 c)] w_ (post R fun v w1 =>
 ∃ (x4 : Bool), v = (.bool x4) ∧
 Br x4
 (R (.returned (.bool true)) w1)
 (Br (decide (c ≥ (48 : Int)))
 (Br (decide (c ≤ (57 : Int)))
 (R (.returned (.bool true)) w1)
 (Br (c == (45 : Int))
 (R (.returned (.bool true)) w1)
 (R (.returned (.bool (c == (46 : Int)))) w1)))
 (Br (c == (45 : Int))
 (R (.returned (.bool true)) w1)
 (R (.returned (.bool (c == (46 : Int)))) w1))))

def pl69 : Plan := ⟨21, ⟨[]⟩, [], []⟩

theorem eq69 (c : Int) (w : World) (R : Ending → World → Prop) : F69 c w R = vc Try.prog Try.f69 pl69 R 100000 [.code (bodyOf Try.f69)] (argEnv 0 #[(.int .u8 c)].toList) w := by kernel_rfl

theorem ok69 (c : Int) {w : World} {R : Ending → World → Prop} (h : F69 c w R) : Calls Try.prog 69 #[(.int .u8 c)] w R :=
  vc_calls (pl := pl69) Try.func69 (by kernel_rfl) (by kernel_rfl) (by kernel_rfl) (Eq.mp (eq69 c w R) h)

-- espalierref02.Name
def F51_l4 (s : ByteArray) (L4 : Int → World → Prop) (i : Int) (w_3 : World) (R : Ending → World → Prop) : Prop :=
 Br (decide (i < ((s.size : Nat) : Int)))
 (IdxS s i fun c26 =>
 Calls Try.prog 69 #[(.int .u8 c26)] w_3 (post R fun v w1 =>
 ∃ (x27 : Bool), v = (.bool x27) ∧
 Br (!x27)
 (R (.returned (.bool false)) w1)
 (InR .i64 (i + (1 : Int)) ∧ L4 (i + (1 : Int)) w1)))
 (R (.returned (.bool true)) w_3)

def F51_j3 (s : ByteArray) (w_2 : World) (R : Ending → World → Prop) : Prop :=
 ∃ (I : Int → World → Prop) (m : Int → World → Nat), I (0 : Int) w_2 ∧
 ∀ (i : Int) (w1 : World), I i w1 → F51_l4 s (fun i' w2 => I i' w2 ∧ m i' w2 < m i w1) i w1 R

def F51 (s : ByteArray) (w_ : World) (R : Ending → World → Prop) : Prop :=
 ∃ J3 : World → Prop, (∀  (w1 : World), J3 w1 → F51_j3 s w1 R) ∧
 (Br (decide (((s.size : Nat) : Int) < (1 : Int)))
 (R (.returned (.bool false)) w_)
 (Br (decide (((s.size : Nat) : Int) > (32 : Int)))
 (R (.returned (.bool false)) w_)
 (IdxS s (0 : Int) fun c14 =>
 Calls Try.prog 68 #[(.int .u8 c14)] w_ (post R fun v w1 =>
 ∃ (x15 : Bool), v = (.bool x15) ∧
 Br (!x15)
 (R (.returned (.bool false)) w1)
 (J3 w1)))))

def pl51 : Plan := ⟨29, ⟨[]⟩, [(3, ⟨[], [(2, 18)]⟩)], [(4, ⟨[(3, (.s (.int .i64)))], [(2, 29)]⟩)]⟩

theorem eq51 (s : ByteArray) (w : World) (R : Ending → World → Prop) : F51 s w R = vc Try.prog Try.f51 pl51 R 100000 [.code (bodyOf Try.f51)] (argEnv 0 #[(.string s)].toList) w := by kernel_rfl

theorem ok51 (s : ByteArray) {w : World} {R : Ending → World → Prop} (h : F51 s w R) : Calls Try.prog 51 #[(.string s)] w R :=
  vc_calls (pl := pl51) Try.func51 (by kernel_rfl) (by kernel_rfl) (by kernel_rfl) (Eq.mp (eq51 s w R) h)

end Go.Proofs.Ytbocfedmdjkccaa
/- Twigs: names. -/
namespace Go.Proofs.Ytbocfedmdjkccaa
open Go.RowKit Go.Vc
set_option linter.unusedVariables false
set_option linter.unusedSimpArgs false
set_option maxRecDepth 100000
def begins (c : UInt8) : Bool := (97 ≤ c && c ≤ 122) || (65 ≤ c && c ≤ 90) || c == 95
def inn (c : UInt8) : Bool := begins c || (48 ≤ c && c ≤ 57) || c == 45 || c == 46
def maxName : Nat := 32
theorem begins_inn {c : UInt8} (h : begins c = true) : inn c = true := by simp [inn, h]
theorem bytes_eq (a b : ByteArray) : (a.toList == b.toList) = decide (a = b) := by
  rw [ByteArray.toList_eq, ByteArray.toList_eq]
  by_cases h : a = b
  · subst h; simp
  · rw [decide_eq_false h]
    obtain ⟨⟨a⟩⟩ := a
    obtain ⟨⟨b⟩⟩ := b
    simp only [beq_eq_false_iff_ne, ne_eq]
    intro e
    apply h
    rw [show a = b from e]
theorem begins_eq (c : UInt8) : begins c = decide ((97 ≤ c.toNat ∧ c.toNat ≤ 122) ∨ (65 ≤ c.toNat ∧ c.toNat ≤ 90) ∨ c.toNat = 95) := by
  rw [Bool.eq_iff_iff]
  simp only [begins, Bool.or_eq_true, Bool.and_eq_true, decide_eq_true_eq, beq_iff_eq, UInt8.le_iff_toNat_le, ← UInt8.toNat_inj, UInt8.reduceToNat, or_assoc]
theorem inn_eq (c : UInt8) : inn c = (begins c || decide ((48 ≤ c.toNat ∧ c.toNat ≤ 57) ∨ c.toNat = 45 ∨ c.toNat = 46)) := by
  rw [Bool.eq_iff_iff]
  simp only [inn, Bool.or_eq_true, Bool.and_eq_true, decide_eq_true_eq, beq_iff_eq, UInt8.le_iff_toNat_le, ← UInt8.toNat_inj, UInt8.reduceToNat, or_assoc]
section
variable {w : World}
theorem lS {a : Addr} {x : ByteArray} {K : ByteArray → Prop} (h : w.cell? a = some (.string x)) (hk : K x) : LdStr (w.cell? a) K := by rw [h, LdStr_some]; exact hk
theorem lSl {a : Addr} {p : Option Addr} {n c : Nat} {K : Option Addr → Nat → Nat → Prop} (h : w.cell? a = some (.slice p n c)) (hk : K p n c) : LdSl (w.cell? a) K := by rw [h, LdSl_some]; exact hk
theorem lI {a : Addr} {k : IntKind} {x : Int} {K : Int → Prop} (h : w.cell? a = some (.int k x)) (hk : K x) : LdI k (w.cell? a) K := by rw [h, LdI_some]; exact hk
theorem lB {a : Addr} {x : Bool} {K : Bool → Prop} (h : w.cell? a = some (.bool x)) (hk : K x) : LdB (w.cell? a) K := by rw [h, LdB_some]; exact hk
end
section
variable {w : World} {R : Ending → World → Prop}
theorem letter_F {c : UInt8} {w : World} {R : Ending → World → Prop} (h : R (.returned (.bool (begins c))) w) : F67 c.toNat w R := by
  unfold F67
  rw [begins_eq] at h
  have t : ((97 ≤ c.toNat ∧ c.toNat ≤ 122) ∨ (65 ≤ c.toNat ∧ c.toNat ≤ 90) ∨ c.toNat = 95) → R (.returned (.bool true)) w := fun k => by rw [decide_eq_true k] at h; exact h
  have f : ¬ ((97 ≤ c.toNat ∧ c.toNat ≤ 122) ∨ (65 ≤ c.toNat ∧ c.toNat ≤ 90)) → R (.returned (.bool ((c.toNat : Int) == 95))) w := fun k => by
    have e : ((c.toNat : Int) == 95) = decide ((97 ≤ c.toNat ∧ c.toNat ≤ 122) ∨ (65 ≤ c.toNat ∧ c.toNat ≤ 90) ∨ c.toNat = 95) := by
      rw [Bool.eq_iff_iff]; simp; omega
    rw [e]; exact h
  repeat' refine brd (fun _ => ?_) (fun _ => ?_)
  all_goals first | exact t (by omega) | exact f (by omega)
theorem letter_calls {c : UInt8} (h : R (.returned (.bool (begins c))) w) : Calls Try.prog 67 #[.int .u8 (c.toNat : Int)] w R := ok67 _ (letter_F h)
/-- Can this be a name? -/
def isName (a : ByteArray) : Bool := match a.data.toList with
  | [] => false
  | c :: r => decide ((c :: r).length ≤ maxName) && begins c && r.all inn
theorem ba_get {s : ByteArray} {i : Nat} (h : i < s.size) : s[i]? = some s[i] := by
  exact getElem?_pos s i h
theorem ba_list {s : ByteArray} {i : Nat} (h : i < s.size) : s.data.toList[i]? = some s[i] := by
  rw [List.getElem?_eq_getElem (by simpa using h)]
  exact congrArg some (by simp; rfl)
theorem name_calls {s : ByteArray} (h : R (.returned (.bool (isName s))) w) : Calls Try.prog 50 #[.string s] w R := by
  refine ok50 _ ?_
  unfold F50
  have hz : s.data.toList.length = s.size := by simp
  cases hs : s.data.toList with
  | nil =>
    have e : isName s = false := by simp [isName, hs]
    rw [e] at h
    have hsz : s = ByteArray.mk #[] := by
      obtain ⟨⟨l⟩⟩ := s
      have : l = [] := hs
      subst this; rfl
    refine ⟨fun _ => False, fun _ hf => hf.elim, ?_⟩
    rw [bytes_eq, decide_eq_true hsz]
    exact h
  | cons c r =>
    rw [hs] at hz
    have hne : s ≠ ByteArray.mk #[] := by rintro rfl; simp at hs
    have h0 : 0 < s.size := by rw [← hz]; simp
    have hc : s[0] = c := by
      have := ba_list h0
      rw [hs] at this
      simpa using this.symm
    refine ⟨fun w1 => w1 = w ∧ s.size ≤ 32 ∧ begins c = true, ?_, ?_⟩
    · rintro w1 ⟨rfl, h32, hb⟩
      unfold F50_j3
      refine ⟨fun i w1' => ∃ k : Nat, i = k ∧ k ≤ s.size ∧ w1' = w1 ∧ ∀ x ∈ s.data.toList.take k, inn x = true, fun i _ => s.size - i.toNat, ⟨0, rfl, by omega, rfl, by simp⟩, ?_⟩
      rintro i w2 ⟨k, rfl, hk, rfl, hall⟩
      unfold F50_l4
      refine brd (fun hlt => ?_) (fun hge => ?_)
      · have hlt' : k < s.size := by omega
        have next : inn s[k] = true → ∀ x ∈ s.data.toList.take (k + 1), inn x = true := fun hi x hx => by
          rw [List.take_add_one, ba_list hlt'] at hx
          rcases List.mem_append.1 hx with hx | hx
          · exact hall x hx
          · simp at hx; subst hx; exact hi
        refine ⟨fun w3 => w3 = w2 ∧ inn s[k] = true, ?_, ?_⟩
        · rintro w3 ⟨rfl, hi⟩
          unfold F50_j9
          exact ⟨inR_i64 (by omega) (by omega), ⟨k + 1, by simp, by omega, rfl, next hi⟩, by dsimp only; omega⟩
        · refine ⟨by omega, s[k], by simp [ba_get hlt'], ?_⟩
          refine letter_calls ⟨_, rfl, ?_⟩
          have hR : inn s[k] = false → R (.returned (.bool false)) w2 := fun hi => by
            have e : isName s = false := by
              simp only [isName, hs]
              rw [Bool.and_eq_false_iff]
              have hk0 : k ≠ 0 := by rintro rfl; rw [hc, begins_inn hb] at hi; cases hi
              right
              rw [List.all_eq_false]
              refine ⟨s[k], ?_, by simp [hi]⟩
              have h1 := ba_list hlt'
              rw [hs] at h1
              obtain ⟨k', rfl⟩ : ∃ k', k = k' + 1 := ⟨k - 1, by omega⟩
              rw [List.getElem?_cons_succ] at h1
              exact List.mem_of_getElem? h1
            rw [e] at h; exact h
          have hin := inn_eq s[k]
          cases hbk : begins s[k] with
          | true => exact ⟨rfl, begins_inn hbk⟩
          | false =>
            rw [hbk, Bool.false_or] at hin
            rw [Bool.not_false, Br_t]
            have yes : ((48 ≤ s[k].toNat ∧ s[k].toNat ≤ 57) ∨ s[k].toNat = 45 ∨ s[k].toNat = 46) → w2 = w2 ∧ inn s[k] = true := fun hh => ⟨rfl, by rw [hin, decide_eq_true hh]⟩
            have no : ¬ ((48 ≤ s[k].toNat ∧ s[k].toNat ≤ 57) ∨ s[k].toNat = 45 ∨ s[k].toNat = 46) → R (.returned (.bool false)) w2 := fun hh => hR (by rw [hin, decide_eq_false hh])
            repeat' (first | refine brd (fun _ => ?_) (fun _ => ?_) | refine brn (fun _ => ?_) (fun _ => ?_))
            all_goals first | exact yes (by omega) | exact no (by omega)
      · obtain rfl : k = s.size := by omega
        have e : isName s = true := by
          simp only [isName, hs]
          rw [List.take_of_length_le (by rw [hs]; omega), hs] at hall
          simp only [Bool.and_eq_true, decide_eq_true_eq, List.all_eq_true]
          exact ⟨⟨by unfold maxName; omega, hb⟩, fun x hx => hall x (by simp [hx])⟩
        rw [e] at h; exact h
    · rw [bytes_eq, decide_eq_false hne, Br_f]
      refine brd (fun hgt => ?_) (fun hle => ?_)
      · have e : isName s = false := by
          simp only [isName, hs]
          rw [decide_eq_false (by unfold maxName; omega)]; rfl
        rw [e] at h; exact h
      · refine ⟨by omega, s[0], by simp [ba_get h0], ?_⟩
        refine letter_calls ⟨_, rfl, ?_⟩
        rw [hc]
        cases hb : begins c with
        | false =>
          have e : isName s = false := by simp only [isName, hs, hb]; simp
          rw [e] at h; exact h
        | true => exact ⟨rfl, by omega, rfl⟩
theorem begins2_calls {c : UInt8} (h : R (.returned (.bool (begins c))) w) : Calls Try.prog 68 #[.int .u8 (c.toNat : Int)] w R := ok68 _ (letter_F h)
theorem in2_calls {c : UInt8} (h : R (.returned (.bool (inn c))) w) : Calls Try.prog 69 #[.int .u8 (c.toNat : Int)] w R := by
  refine ok69 _ ?_
  unfold F69
  refine begins2_calls ⟨_, rfl, ?_⟩
  (
  rw [inn_eq] at h
  cases hb : begins c with
  | true => rw [hb] at h; exact h
  | false =>
    rw [hb, Bool.false_or] at h
    rw [Br_f]
    have t : ((48 ≤ c.toNat ∧ c.toNat ≤ 57) ∨ c.toNat = 45 ∨ c.toNat = 46) → R (.returned (.bool true)) w := fun k => (by rw [decide_eq_true k] at h; exact h)
    have f : ¬ ((48 ≤ c.toNat ∧ c.toNat ≤ 57) ∨ c.toNat = 45) → R (.returned (.bool ((c.toNat : Int) == 46))) w := fun k => (by
      have e : ((c.toNat : Int) == 46) = decide ((48 ≤ c.toNat ∧ c.toNat ≤ 57) ∨ c.toNat = 45 ∨ c.toNat = 46) := (by
        rw [Bool.eq_iff_iff]; simp; omega)
      rw [e]; exact h)
    repeat' (first | refine brd (fun _ => ?_) (fun _ => ?_) | refine bre (fun _ => ?_) (fun _ => ?_))
    all_goals first | exact t (by omega) | exact f (by omega))
theorem name2_calls {s : ByteArray} (h : R (.returned (.bool (isName s))) w) : Calls Try.prog 51 #[.string s] w R := by
  refine ok51 _ ?_
  unfold F51
  have hz : s.data.toList.length = s.size := by simp
  cases hs : s.data.toList with
  | nil =>
    have e : isName s = false := by simp [isName, hs]
    rw [e] at h
    have hsz : s.size = 0 := by rw [← hz, hs]; rfl
    refine ⟨fun _ => False, fun _ hf => hf.elim, ?_⟩
    refine brd (fun _ => h) (fun hge => by omega)
  | cons c r =>
    rw [hs] at hz
    have h0 : 0 < s.size := by rw [← hz]; simp
    have hc : s[0] = c := by
      have := ba_list h0
      rw [hs] at this
      simpa using this.symm
    refine ⟨fun w1 => w1 = w ∧ s.size ≤ 32 ∧ begins c = true, ?_, ?_⟩
    · rintro w1 ⟨rfl, h32, hb⟩
      unfold F51_j3
      refine ⟨fun i w1' => ∃ k : Nat, i = k ∧ k ≤ s.size ∧ w1' = w1 ∧ ∀ x ∈ s.data.toList.take k, inn x = true, fun i _ => s.size - i.toNat, ⟨0, rfl, by omega, rfl, by simp⟩, ?_⟩
      rintro i w2 ⟨k, rfl, hk, rfl, hall⟩
      unfold F51_l4
      refine brd (fun hlt => ?_) (fun hge => ?_)
      · have hlt' : k < s.size := by omega
        have next : inn s[k] = true → ∀ x ∈ s.data.toList.take (k + 1), inn x = true := fun hi x hx => by
          rw [List.take_add_one, ba_list hlt'] at hx
          rcases List.mem_append.1 hx with hx | hx
          · exact hall x hx
          · simp at hx; subst hx; exact hi
        refine ⟨by omega, s[k], by simp [ba_get hlt'], ?_⟩
        refine in2_calls ⟨_, rfl, ?_⟩
        cases hin : inn s[k] with
        | true => 
          rw [Bool.not_true, Br_f]
          exact ⟨inR_i64 (by omega) (by omega), ⟨k + 1, by simp, by omega, rfl, next hin⟩, by dsimp only; omega⟩
        | false =>
          rw [Bool.not_false, Br_t]
          have e : isName s = false := by
            simp only [isName, hs]
            rw [Bool.and_eq_false_iff]
            have hk0 : k ≠ 0 := by rintro rfl; rw [hc, begins_inn hb] at hin; cases hin
            right
            rw [List.all_eq_false]
            refine ⟨s[k], ?_, by simp [hin]⟩
            have h1 := ba_list hlt'
            rw [hs] at h1
            obtain ⟨k', rfl⟩ : ∃ k', k = k' + 1 := ⟨k - 1, by omega⟩
            rw [List.getElem?_cons_succ] at h1
            exact List.mem_of_getElem? h1
          rw [e] at h; exact h
      · obtain rfl : k = s.size := by omega
        have e : isName s = true := by
          simp only [isName, hs]
          rw [List.take_of_length_le (by rw [hs]; omega), hs] at hall
          simp only [Bool.and_eq_true, decide_eq_true_eq, List.all_eq_true]
          exact ⟨⟨by unfold maxName; omega, hb⟩, fun x hx => hall x (by simp [hx])⟩
        rw [e] at h; exact h
    · refine brd (fun hlt => by omega) (fun _ => ?_)
      refine brd (fun hgt => ?_) (fun hle => ?_)
      · have e : isName s = false := by
          simp only [isName, hs]
          rw [decide_eq_false (by unfold maxName; omega)]; rfl
        rw [e] at h; exact h
      · refine ⟨by omega, s[0], by simp [ba_get h0], ?_⟩
        refine begins2_calls ⟨_, rfl, ?_⟩
        rw [hc]
        cases hb : begins c with
        | false =>
          have e : isName s = false := by simp only [isName, hs, hb]; simp
          rw [e] at h; exact h
        | true => exact ⟨rfl, by omega, rfl⟩
end
end Go.Proofs.Ytbocfedmdjkccaa
