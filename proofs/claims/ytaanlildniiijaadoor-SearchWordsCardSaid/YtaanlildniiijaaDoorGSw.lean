import Derived.Test.YtaanlildniiijaaDoorVcSnd9
import Derived.Test.YtaanlildniiijaaDoorProg
set_option linter.unusedVariables false
set_option maxRecDepth 100000
namespace Go.Proofs.YtaanlildniiijaaDoor
open Go.Vc
-- espalierlaw26.SearchWords
def F3_j7 (L6 : Int → World → Prop) (i : Int) (w_4 : World) (R : Ending → World → Prop) : Prop :=
 InR .i64 (i + (1 : Int)) ∧ L6 (i + (1 : Int)) w_4

def F3_l6 (x12_0 : Option Addr) (x12_0N : Nat) (x12_1 : Option Addr) (x12_1N : Nat) (x18_0 : Option Addr) (x18_0N : Nat) (x18_1 : Option Addr) (x18_1N : Nat) (L6 : Int → World → Prop) (i : Int) (w_3 : World) (R : Ending → World → Prop) : Prop :=
 Br (decide (i < ((x12_0N : Nat) : Int)))
 (∃ J7 : World → Prop, (∀  (w1_3 : World), J7 w1_3 → F3_j7 L6 i w1_3 R) ∧
 (Dr w_3 fun w1_3 =>
 IdxA x12_0 x12_0N i 1 fun q47 =>
 LdStr (w1_3.cell? q47) fun x48 =>
 IdxA x18_0 x18_0N i 1 fun q51 =>
 LdStr (w1_3.cell? q51) fun x52 =>
 Br (!(x48.toList == x52.toList))
 (R (.returned (.bool false)) w1_3)
 (IdxA x12_1 x12_1N i 1 fun q57 =>
 LdI .i64 (w1_3.cell? q57) fun x58 =>
 IdxA x18_1 x18_1N i 1 fun q61 =>
 LdI .i64 (w1_3.cell? q61) fun x62 =>
 Br (x58 != x62)
 (R (.returned (.bool false)) w1_3)
 (J7 w1_3))))
 (R (.returned (.bool true)) w_3)

def F3_j5 (x12_0 : Option Addr) (x12_0N : Nat) (x12_1 : Option Addr) (x12_1N : Nat) (x18_0 : Option Addr) (x18_0N : Nat) (x18_1 : Option Addr) (x18_1N : Nat) (w_2 : World) (R : Ending → World → Prop) : Prop :=
 ∃ (I : Int → World → Prop) (m : Int → World → Nat), I (0 : Int) w_2 ∧
 ∀ (i : Int) (w1_3 : World), I i w1_3 → F3_l6 x12_0 x12_0N x12_1 x12_1N x18_0 x18_0N x18_1 x18_1N (fun i' w2 => I i' w2 ∧ m i' w2 < m i w1_3) i w1_3 R

def F3 (s : ByteArray) (w_ : World) (R : Ending → World → Prop) : Prop :=
 Calls Tryd.prog 4 #[(.string s)] w_ (post R fun v w1 =>
 ∃ (x12_0 : Option Addr) (x12_0N : Nat) (x12_0C : Nat) (x12_1 : Option Addr) (x12_1N : Nat) (x12_1C : Nat) (x12_2 : Int), v = (.tuple #[(.slice x12_0 x12_0N x12_0C), (.slice x12_1 x12_1N x12_1C), (.int .i64 x12_2)]) ∧
 Calls Tryd.prog 5 #[(.string s)] w1 (post R fun v2 w1_2 =>
 ∃ (x18_0 : Option Addr) (x18_0N : Nat) (x18_0C : Nat) (x18_1 : Option Addr) (x18_1N : Nat) (x18_1C : Nat) (x18_2 : Int), v2 = (.tuple #[(.slice x18_0 x18_0N x18_0C), (.slice x18_1 x18_1N x18_1C), (.int .i64 x18_2)]) ∧
 ∃ J5 : World → Prop, (∀  (w1_3 : World), J5 w1_3 → F3_j5 x12_0 x12_0N x12_1 x12_1N x18_0 x18_0N x18_1 x18_1N w1_3 R) ∧
 (Br (x12_2 != x18_2)
 (R (.returned (.bool false)) w1_2)
 (Br (((x12_0N : Nat) : Int) != ((x18_0N : Nat) : Int))
 (R (.returned (.bool false)) w1_2)
 (Br (((x12_1N : Nat) : Int) != ((x18_1N : Nat) : Int))
 (R (.returned (.bool false)) w1_2)
 (J5 w1_2))))))

def pl3 : Plan := ⟨65, ⟨[]⟩, [(7, ⟨[], [(2, 3), (45, 65)]⟩), (5, ⟨[], [(2, 3), (22, 39)]⟩)], [(6, ⟨[(9, (.s (.int .i64)))], [(2, 3), (9, 65)]⟩)]⟩

theorem eq3 (s : ByteArray) (w : World) (R : Ending → World → Prop) : F3 s w R = vc Tryd.prog Tryd.f3 pl3 R 100000 [.code (bodyOf Tryd.f3)] (argEnv 0 #[(.string s)].toList) w := by kernel_rfl

theorem ok3 (s : ByteArray) {w : World} {R : Ending → World → Prop} (h : F3 s w R) : Calls Tryd.prog 3 #[(.string s)] w R :=
  vc_calls (pl := pl3) Tryd.func3 (by kernel_rfl) (by kernel_rfl) (by kernel_rfl) (Eq.mp (eq3 s w R) h)

-- search.Words
def F4 (s : ByteArray) (w_ : World) (R : Ending → World → Prop) : Prop :=
 Calls Tryd.prog 6 #[(.string s)] w_ (post R fun v w1 =>
 ∃ (x11_0 : Int) (x11_1 : Int), v = (.tuple #[(.int .i64 x11_0), (.int .i64 x11_1)]) ∧
 Br (x11_1 != (0 : Int))
 (R (.returned (.tuple #[(.slice none 0 0), (.slice none 0 0), (.int .i64 x11_1)])) w1)
 (Calls Tryd.prog 7 #[(.string s)] w1 (post R fun v2 w1_2 =>
 ∃ (x19_0 : Option Addr) (x19_0N : Nat) (x19_0C : Nat) (x19_1 : Option Addr) (x19_1N : Nat) (x19_1C : Nat), v2 = (.tuple #[(.slice x19_0 x19_0N x19_0C), (.slice x19_1 x19_1N x19_1C)]) ∧
 R (.returned (.tuple #[(.slice x19_0 x19_0N x19_0C), (.slice x19_1 x19_1N x19_1C), (.int .i64 0)])) w1_2)))

def pl4 : Plan := ⟨24, ⟨[]⟩, [], []⟩

theorem eq4 (s : ByteArray) (w : World) (R : Ending → World → Prop) : F4 s w R = vc Tryd.prog Tryd.f4 pl4 R 100000 [.code (bodyOf Tryd.f4)] (argEnv 0 #[(.string s)].toList) w := by kernel_rfl

theorem ok4 (s : ByteArray) {w : World} {R : Ending → World → Prop} (h : F4 s w R) : Calls Tryd.prog 4 #[(.string s)] w R :=
  vc_calls (pl := pl4) Tryd.func4 (by kernel_rfl) (by kernel_rfl) (by kernel_rfl) (Eq.mp (eq4 s w R) h)

-- espalierref26.Words
def F5 (s : ByteArray) (w_ : World) (R : Ending → World → Prop) : Prop :=
 Calls Tryd.prog 8 #[(.string s)] w_ (post R fun v w1 =>
 ∃ (x11_0 : Int) (x11_1 : Int), v = (.tuple #[(.int .i64 x11_0), (.int .i64 x11_1)]) ∧
 Br (x11_1 != (0 : Int))
 (R (.returned (.tuple #[(.slice none 0 0), (.slice none 0 0), (.int .i64 x11_1)])) w1)
 (Calls Tryd.prog 9 #[(.string s)] w1 (post R fun v2 w1_2 =>
 ∃ (x19_0 : Option Addr) (x19_0N : Nat) (x19_0C : Nat) (x19_1 : Option Addr) (x19_1N : Nat) (x19_1C : Nat), v2 = (.tuple #[(.slice x19_0 x19_0N x19_0C), (.slice x19_1 x19_1N x19_1C)]) ∧
 R (.returned (.tuple #[(.slice x19_0 x19_0N x19_0C), (.slice x19_1 x19_1N x19_1C), (.int .i64 0)])) w1_2)))

def pl5 : Plan := ⟨24, ⟨[]⟩, [], []⟩

theorem eq5 (s : ByteArray) (w : World) (R : Ending → World → Prop) : F5 s w R = vc Tryd.prog Tryd.f5 pl5 R 100000 [.code (bodyOf Tryd.f5)] (argEnv 0 #[(.string s)].toList) w := by kernel_rfl

theorem ok5 (s : ByteArray) {w : World} {R : Ending → World → Prop} (h : F5 s w R) : Calls Tryd.prog 5 #[(.string s)] w R :=
  vc_calls (pl := pl5) Tryd.func5 (by kernel_rfl) (by kernel_rfl) (by kernel_rfl) (Eq.mp (eq5 s w R) h)

-- chars.Text
def F6 (s : ByteArray) (w_ : World) (R : Ending → World → Prop) : Prop :=
 Calls Tryd.prog 10 #[(.string s)] w_ (post R fun v w1 =>
 ∃ (x5_0 : Int) (x5_1 : Int), v = (.tuple #[(.int .i64 x5_0), (.int .i64 x5_1)]) ∧
 R (.returned (.tuple #[(.int .i64 x5_0), (.int .i64 x5_1)])) w1)

def pl6 : Plan := ⟨8, ⟨[]⟩, [], []⟩

theorem eq6 (s : ByteArray) (w : World) (R : Ending → World → Prop) : F6 s w R = vc Tryd.prog Tryd.f6 pl6 R 100000 [.code (bodyOf Tryd.f6)] (argEnv 0 #[(.string s)].toList) w := by kernel_rfl

theorem ok6 (s : ByteArray) {w : World} {R : Ending → World → Prop} (h : F6 s w R) : Calls Tryd.prog 6 #[(.string s)] w R :=
  vc_calls (pl := pl6) Tryd.func6 (by kernel_rfl) (by kernel_rfl) (by kernel_rfl) (Eq.mp (eq6 s w R) h)

-- search.words
def F7_j8 (s : ByteArray) (L4 : Option Addr → Nat → Nat → Option Addr → Nat → Nat → Int → World → Prop) (l : Option Addr) (lN : Nat) (lC : Nat) (at_ : Option Addr) (atN : Nat) (atC : Nat) (i : Int) (i2 : Int) (w_3 : World) (R : Ending → World → Prop) : Prop :=
 Br (decide (i2 > i))
 (SlB i i2 ((s.size : Nat) : Int)
 (Calls Tryd.prog 12 #[(.string (s.extract (i).toNat (i2).toNat))] w_3 (post R fun v w1 =>
 ∃ (x33 : ByteArray), v = (.string x33) ∧
 Al w1 #[(.string x33)] 9 fun g34 w1_2 =>
 Raw Tryd.prog (Builtin.append_ #[22, 22] 22 #[(.slice l lN lC), (.slice (some g34) 1 1)]) w1_2 fun v2 w1_3 =>
 ∃ (x35 : Option Addr) (x35N : Nat) (x35C : Nat), v2 = (.slice x35 x35N x35C) ∧
 Al w1_3 #[(.int .i64 i)] 3 fun g38 w1_4 =>
 Raw Tryd.prog (Builtin.append_ #[23, 23] 23 #[(.slice at_ atN atC), (.slice (some g38) 1 1)]) w1_4 fun v3 w1_5 =>
 ∃ (x39 : Option Addr) (x39N : Nat) (x39C : Nat), v3 = (.slice x39 x39N x39C) ∧
 L4 x35 x35N x35C x39 x39N x39C i2 w1_5)))
 (InR .i64 (i2 + (1 : Int)) ∧ L4 l lN lC at_ atN atC (i2 + (1 : Int)) w_3)

def F7_j7 (L6 : Int → World → Prop) (i2 : Int) (w_4 : World) (R : Ending → World → Prop) : Prop :=
 InR .i64 (i2 + (1 : Int)) ∧ L6 (i2 + (1 : Int)) w_4

def F7_l6 (s : ByteArray) (J8 : Int → World → Prop) (L6 : Int → World → Prop) (i2 : Int) (w_3 : World) (R : Ending → World → Prop) : Prop :=
 ∃ J7 : World → Prop, (∀  (w1 : World), J7 w1 → F7_j7 L6 i2 w1 R) ∧
 (Br (decide (i2 < ((s.size : Nat) : Int)))
 (IdxS s i2 fun c20 =>
 Calls Tryd.prog 11 #[(.int .u8 c20)] w_3 (post R fun v w1 =>
 ∃ (x21 : Bool), v = (.bool x21) ∧
 Br x21
 (J7 w1)
 (J8 i2 w1)))
 (J8 i2 w_3))

def F7_l4 (s : ByteArray) (L4 : Option Addr → Nat → Nat → Option Addr → Nat → Nat → Int → World → Prop) (l : Option Addr) (lN : Nat) (lC : Nat) (at_ : Option Addr) (atN : Nat) (atC : Nat) (i : Int) (w_2 : World) (R : Ending → World → Prop) : Prop :=
 Br (decide (i < ((s.size : Nat) : Int)))
 (∃ J8 : Int → World → Prop, (∀ (i2 : Int) (w1 : World), J8 i2 w1 → F7_j8 s L4 l lN lC at_ atN atC i i2 w1 R) ∧
 (∃ (I : Int → World → Prop) (m : Int → World → Nat), I i w_2 ∧
 ∀ (i2 : Int) (w1 : World), I i2 w1 → F7_l6 s J8 (fun i2' w2 => I i2' w2 ∧ m i2' w2 < m i2 w1) i2 w1 R))
 (R (.returned (.tuple #[(.slice l lN lC), (.slice at_ atN atC)])) w_2)

def F7 (s : ByteArray) (w_ : World) (R : Ending → World → Prop) : Prop :=
 ∃ (I : Option Addr → Nat → Nat → Option Addr → Nat → Nat → Int → World → Prop) (m : Option Addr → Nat → Nat → Option Addr → Nat → Nat → Int → World → Nat), I none 0 0 none 0 0 (0 : Int) w_ ∧
 ∀ (l : Option Addr) (lN : Nat) (lC : Nat) (at_ : Option Addr) (atN : Nat) (atC : Nat) (i : Int) (w1 : World), I l lN lC at_ atN atC i w1 → F7_l4 s (fun l' lN' lC' at_' atN' atC' i' w2 => I l' lN' lC' at_' atN' atC' i' w2 ∧ m l' lN' lC' at_' atN' atC' i' w2 < m l lN lC at_ atN atC i w1) l lN lC at_ atN atC i w1 R

def pl7 : Plan := ⟨44, ⟨[]⟩, [(7, ⟨[], [(13, 23)]⟩), (8, ⟨[(6, (.s (.int .i64)))], [(6, 7), (13, 25)]⟩)], [(6, ⟨[(6, (.s (.int .i64)))], [(6, 7), (13, 25)]⟩), (4, ⟨[(4, (.s .slice)), (5, (.s .slice)), (6, (.s (.int .i64)))], [(4, 42)]⟩)]⟩

theorem eq7 (s : ByteArray) (w : World) (R : Ending → World → Prop) : F7 s w R = vc Tryd.prog Tryd.f7 pl7 R 100000 [.code (bodyOf Tryd.f7)] (argEnv 0 #[(.string s)].toList) w := by kernel_rfl

theorem ok7 (s : ByteArray) {w : World} {R : Ending → World → Prop} (h : F7 s w R) : Calls Tryd.prog 7 #[(.string s)] w R :=
  vc_calls (pl := pl7) Tryd.func7 (by kernel_rfl) (by kernel_rfl) (by kernel_rfl) (Eq.mp (eq7 s w R) h)

-- espalierref26.Split
def F9_j5 (L4 : Option Addr → Nat → Nat → Option Addr → Nat → Nat → Int → World → Prop) (words2 : Option Addr) (wordsN2 : Nat) (wordsC2 : Nat) (at_2 : Option Addr) (atN2 : Nat) (atC2 : Nat) (i2 : Int) (w_3 : World) (R : Ending → World → Prop) : Prop :=
 InR .i64 (i2 + (1 : Int)) ∧ L4 words2 wordsN2 wordsC2 at_2 atN2 atC2 (i2 + (1 : Int)) w_3

def F9_j12 (words : Option Addr) (wordsN : Nat) (wordsC : Nat) (at_ : Option Addr) (atN : Nat) (atC : Nat) (i : Int) (J5 : Option Addr → Nat → Nat → Option Addr → Nat → Nat → Int → World → Prop) (i2 : Int) (b : Option Addr) (bN : Nat) (bC : Nat) (w_3 : World) (R : Ending → World → Prop) : Prop :=
 Raw Tryd.prog (convert 34 9 (.slice b bN bC)) w_3 fun v2 w1_2 =>
 ∃ (x42 : ByteArray), v2 = (.string x42) ∧
 Al w1_2 #[(.string x42)] 9 fun g43 w1_3 =>
 Raw Tryd.prog (Builtin.append_ #[22, 22] 22 #[(.slice words wordsN wordsC), (.slice (some g43) 1 1)]) w1_3 fun v3 w1_4 =>
 ∃ (x44 : Option Addr) (x44N : Nat) (x44C : Nat), v3 = (.slice x44 x44N x44C) ∧
 Al w1_4 #[(.int .i64 i)] 3 fun g47 w1_5 =>
 Raw Tryd.prog (Builtin.append_ #[23, 23] 23 #[(.slice at_ atN atC), (.slice (some g47) 1 1)]) w1_5 fun v4 w1_6 =>
 ∃ (x48 : Option Addr) (x48N : Nat) (x48C : Nat), v4 = (.slice x48 x48N x48C) ∧
 J5 x44 x44N x44C x48 x48N x48C i2 w1_6

def F9_j10 (s : ByteArray) (L9 : Int → Option Addr → Nat → Nat → World → Prop) (i2 : Int) (b : Option Addr) (bN : Nat) (bC : Nat) (w_4 : World) (R : Ending → World → Prop) : Prop :=
 IdxS s i2 fun c34 =>
 Calls Tryd.prog 15 #[(.int .u8 c34)] w_4 (post R fun v2 w1_2 =>
 ∃ (x35 : Int), v2 = (.int .u8 x35) ∧
 Al w1_2 #[(.int .u8 x35)] 5 fun g36 w1_3 =>
 Raw Tryd.prog (Builtin.append_ #[34, 34] 34 #[(.slice b bN bC), (.slice (some g36) 1 1)]) w1_3 fun v3 w1_4 =>
 ∃ (x37 : Option Addr) (x37N : Nat) (x37C : Nat), v3 = (.slice x37 x37N x37C) ∧
 InR .i64 (i2 + (1 : Int)) ∧ L9 (i2 + (1 : Int)) x37 x37N x37C w1_4)

def F9_l9 (s : ByteArray) (J12 : Int → Option Addr → Nat → Nat → World → Prop) (L9 : Int → Option Addr → Nat → Nat → World → Prop) (i2 : Int) (b : Option Addr) (bN : Nat) (bC : Nat) (w_3 : World) (R : Ending → World → Prop) : Prop :=
 ∃ J10 : World → Prop, (∀  (w1_2 : World), J10 w1_2 → F9_j10 s L9 i2 b bN bC w1_2 R) ∧
 (Br (decide (i2 < ((s.size : Nat) : Int)))
 (IdxS s i2 fun c28 =>
 Calls Tryd.prog 14 #[(.int .u8 c28)] w_3 (post R fun v2 w1_2 =>
 ∃ (x29 : Bool), v2 = (.bool x29) ∧
 Br x29
 (J10 w1_2)
 (J12 i2 b bN bC w1_2)))
 (J12 i2 b bN bC w_3))

def F9_l4 (s : ByteArray) (L4 : Option Addr → Nat → Nat → Option Addr → Nat → Nat → Int → World → Prop) (words : Option Addr) (wordsN : Nat) (wordsC : Nat) (at_ : Option Addr) (atN : Nat) (atC : Nat) (i : Int) (w_2 : World) (R : Ending → World → Prop) : Prop :=
 Br (decide (i < ((s.size : Nat) : Int)))
 (∃ J5 : Option Addr → Nat → Nat → Option Addr → Nat → Nat → Int → World → Prop, (∀ (words2 : Option Addr) (wordsN2 : Nat) (wordsC2 : Nat) (at_2 : Option Addr) (atN2 : Nat) (atC2 : Nat) (i2 : Int) (w1 : World), J5 words2 wordsN2 wordsC2 at_2 atN2 atC2 i2 w1 → F9_j5 L4 words2 wordsN2 wordsC2 at_2 atN2 atC2 i2 w1 R) ∧
 (IdxS s i fun c17 =>
 Calls Tryd.prog 14 #[(.int .u8 c17)] w_2 (post R fun v w1 =>
 ∃ (x18 : Bool), v = (.bool x18) ∧
 Br (!x18)
 (J5 words wordsN wordsC at_ atN atC i w1)
 (∃ J12 : Int → Option Addr → Nat → Nat → World → Prop, (∀ (i2 : Int) (b : Option Addr) (bN : Nat) (bC : Nat) (w1_2 : World), J12 i2 b bN bC w1_2 → F9_j12 words wordsN wordsC at_ atN atC i J5 i2 b bN bC w1_2 R) ∧
 (∃ (I : Int → Option Addr → Nat → Nat → World → Prop) (m : Int → Option Addr → Nat → Nat → World → Nat), I i none 0 0 w1 ∧
 ∀ (i2 : Int) (b : Option Addr) (bN : Nat) (bC : Nat) (w1_2 : World), I i2 b bN bC w1_2 → F9_l9 s J12 (fun i2' b' bN' bC' w2 => I i2' b' bN' bC' w2 ∧ m i2' b' bN' bC' w2 < m i2 b bN bC w1_2) i2 b bN bC w1_2 R)))))
 (R (.returned (.tuple #[(.slice words wordsN wordsC), (.slice at_ atN atC)])) w_2)

def F9 (s : ByteArray) (w_ : World) (R : Ending → World → Prop) : Prop :=
 ∃ (I : Option Addr → Nat → Nat → Option Addr → Nat → Nat → Int → World → Prop) (m : Option Addr → Nat → Nat → Option Addr → Nat → Nat → Int → World → Nat), I none 0 0 none 0 0 (0 : Int) w_ ∧
 ∀ (words : Option Addr) (wordsN : Nat) (wordsC : Nat) (at_ : Option Addr) (atN : Nat) (atC : Nat) (i : Int) (w1 : World), I words wordsN wordsC at_ atN atC i w1 → F9_l4 s (fun words' wordsN' wordsC' at_' atN' atC' i' w2 => I words' wordsN' wordsC' at_' atN' atC' i' w2 ∧ m words' wordsN' wordsC' at_' atN' atC' i' w2 < m words wordsN wordsC at_ atN atC i w1) words wordsN wordsC at_ atN atC i w1 R

def pl9 : Plan := ⟨51, ⟨[]⟩, [(10, ⟨[], [(21, 31)]⟩), (12, ⟨[(6, (.s (.int .i64))), (8, (.s .slice))], [(6, 7), (8, 40)]⟩), (5, ⟨[(4, (.s .slice)), (5, (.s .slice)), (6, (.s (.int .i64)))], [(4, 49)]⟩)], [(9, ⟨[(6, (.s (.int .i64))), (8, (.s .slice))], [(6, 7), (8, 40)]⟩), (4, ⟨[(4, (.s .slice)), (5, (.s .slice)), (6, (.s (.int .i64)))], [(4, 49)]⟩)]⟩

theorem eq9 (s : ByteArray) (w : World) (R : Ending → World → Prop) : F9 s w R = vc Tryd.prog Tryd.f9 pl9 R 100000 [.code (bodyOf Tryd.f9)] (argEnv 0 #[(.string s)].toList) w := by kernel_rfl

theorem ok9 (s : ByteArray) {w : World} {R : Ending → World → Prop} (h : F9 s w R) : Calls Tryd.prog 9 #[(.string s)] w R :=
  vc_calls (pl := pl9) Tryd.func9 (by kernel_rfl) (by kernel_rfl) (by kernel_rfl) (Eq.mp (eq9 s w R) h)

-- search.lower
def F12_j7 (L3 : Int → World → Prop) (x10 : Int) (w_3 : World) (R : Ending → World → Prop) : Prop :=
 InR .i64 (x10 + (1 : Int)) ∧ L3 (x10 + (1 : Int)) w_3

def F12_l3 (x7 : Option Addr) (x7N : Nat) (x7C : Nat) (L3 : Int → World → Prop) (x10 : Int) (w_2 : World) (R : Ending → World → Prop) : Prop :=
 Br (decide (x10 < ((x7N : Nat) : Int)))
 (∃ J7 : World → Prop, (∀  (w1_2 : World), J7 w1_2 → F12_j7 L3 x10 w1_2 R) ∧
 (IdxA x7 x7N x10 1 fun q13 =>
 LdI .u8 (w_2.cell? q13) fun x14 =>
 Br (decide (x14 ≥ (65 : Int)))
 (Br (decide (x14 ≤ (90 : Int)))
 (InR .u8 (x14 + (97 : Int)) ∧ InR .u8 ((x14 + (97 : Int)) - (65 : Int)) ∧ IdxA x7 x7N x10 1 fun q26 =>
 St w_2 q26 (.int .u8 ((x14 + (97 : Int)) - (65 : Int))) fun w1_2 =>
 J7 w1_2)
 (J7 w_2))
 (J7 w_2)))
 (Raw Tryd.prog (convert 34 9 (.slice x7 x7N x7C)) w_2 fun v2 w1_2 =>
 ∃ (x29 : ByteArray), v2 = (.string x29) ∧
 R (.returned (.string x29)) w1_2)

def F12 (s : ByteArray) (w_ : World) (R : Ending → World → Prop) : Prop :=
 Raw Tryd.prog (convert 9 34 (.string s)) w_ fun v w1 =>
 ∃ (x7 : Option Addr) (x7N : Nat) (x7C : Nat), v = (.slice x7 x7N x7C) ∧
 ∃ (I : Int → World → Prop) (m : Int → World → Nat), I (0 : Int) w1 ∧
 ∀ (x10 : Int) (w1_2 : World), I x10 w1_2 → F12_l3 x7 x7N x7C (fun x10' w2 => I x10' w2 ∧ m x10' w2 < m x10 w1_2) x10 w1_2 R

def pl12 : Plan := ⟨30, ⟨[]⟩, [(7, ⟨[], [(4, 6), (12, 27)]⟩)], [(3, ⟨[(10, (.s (.int .i64)))], [(4, 6), (10, 28)]⟩)]⟩

theorem eq12 (s : ByteArray) (w : World) (R : Ending → World → Prop) : F12 s w R = vc Tryd.prog Tryd.f12 pl12 R 100000 [.code (bodyOf Tryd.f12)] (argEnv 0 #[(.string s)].toList) w := by kernel_rfl

theorem ok12 (s : ByteArray) {w : World} {R : Ending → World → Prop} (h : F12 s w R) : Calls Tryd.prog 12 #[(.string s)] w R :=
  vc_calls (pl := pl12) Tryd.func12 (by kernel_rfl) (by kernel_rfl) (by kernel_rfl) (Eq.mp (eq12 s w R) h)

-- search.part
def F11 (c : Int) (w_ : World) (R : Ending → World → Prop) : Prop :=
 Br (decide (c ≥ (97 : Int)))
 (Br (decide (c ≤ (122 : Int)))
 (R (.returned (.bool true)) w_)
 (Br (decide (c ≥ (65 : Int)))
 (Br (decide (c ≤ (90 : Int)))
 (R (.returned (.bool true)) w_)
 (Br (decide (c ≥ (48 : Int)))
 (Br (decide (c ≤ (57 : Int)))
 (R (.returned (.bool true)) w_)
 (R (.returned (.bool (decide (c ≥ (128 : Int))))) w_))
 (R (.returned (.bool (decide (c ≥ (128 : Int))))) w_)))
 (Br (decide (c ≥ (48 : Int)))
 (Br (decide (c ≤ (57 : Int)))
 (R (.returned (.bool true)) w_)
 (R (.returned (.bool (decide (c ≥ (128 : Int))))) w_))
 (R (.returned (.bool (decide (c ≥ (128 : Int))))) w_))))
 (Br (decide (c ≥ (65 : Int)))
 (Br (decide (c ≤ (90 : Int)))
 (R (.returned (.bool true)) w_)
 (Br (decide (c ≥ (48 : Int)))
 (Br (decide (c ≤ (57 : Int)))
 (R (.returned (.bool true)) w_)
 (R (.returned (.bool (decide (c ≥ (128 : Int))))) w_))
 (R (.returned (.bool (decide (c ≥ (128 : Int))))) w_)))
 (Br (decide (c ≥ (48 : Int)))
 (Br (decide (c ≤ (57 : Int)))
 (R (.returned (.bool true)) w_)
 (R (.returned (.bool (decide (c ≥ (128 : Int))))) w_))
 (R (.returned (.bool (decide (c ≥ (128 : Int))))) w_)))

def pl11 : Plan := ⟨29, ⟨[]⟩, [], []⟩

theorem eq11 (c : Int) (w : World) (R : Ending → World → Prop) : F11 c w R = vc Tryd.prog Tryd.f11 pl11 R 100000 [.code (bodyOf Tryd.f11)] (argEnv 0 #[(.int .u8 c)].toList) w := by kernel_rfl

theorem ok11 (c : Int) {w : World} {R : Ending → World → Prop} (h : F11 c w R) : Calls Tryd.prog 11 #[(.int .u8 c)] w R :=
  vc_calls (pl := pl11) Tryd.func11 (by kernel_rfl) (by kernel_rfl) (by kernel_rfl) (Eq.mp (eq11 c w R) h)

-- espalierref26.in
def F14 (c : Int) (w_ : World) (R : Ending → World → Prop) : Prop :=
 Br (decide (c ≥ (97 : Int)))
 (Br (decide (c ≤ (122 : Int)))
 (R (.returned (.bool true)) w_)
 (Br (decide (c ≥ (65 : Int)))
 (Br (decide (c ≤ (90 : Int)))
 (R (.returned (.bool true)) w_)
 (Br (decide (c ≥ (48 : Int)))
 (Br (decide (c ≤ (57 : Int)))
 (R (.returned (.bool true)) w_)
 (R (.returned (.bool (decide (c ≥ (128 : Int))))) w_))
 (R (.returned (.bool (decide (c ≥ (128 : Int))))) w_)))
 (Br (decide (c ≥ (48 : Int)))
 (Br (decide (c ≤ (57 : Int)))
 (R (.returned (.bool true)) w_)
 (R (.returned (.bool (decide (c ≥ (128 : Int))))) w_))
 (R (.returned (.bool (decide (c ≥ (128 : Int))))) w_))))
 (Br (decide (c ≥ (65 : Int)))
 (Br (decide (c ≤ (90 : Int)))
 (R (.returned (.bool true)) w_)
 (Br (decide (c ≥ (48 : Int)))
 (Br (decide (c ≤ (57 : Int)))
 (R (.returned (.bool true)) w_)
 (R (.returned (.bool (decide (c ≥ (128 : Int))))) w_))
 (R (.returned (.bool (decide (c ≥ (128 : Int))))) w_)))
 (Br (decide (c ≥ (48 : Int)))
 (Br (decide (c ≤ (57 : Int)))
 (R (.returned (.bool true)) w_)
 (R (.returned (.bool (decide (c ≥ (128 : Int))))) w_))
 (R (.returned (.bool (decide (c ≥ (128 : Int))))) w_)))

def pl14 : Plan := ⟨29, ⟨[]⟩, [], []⟩

theorem eq14 (c : Int) (w : World) (R : Ending → World → Prop) : F14 c w R = vc Tryd.prog Tryd.f14 pl14 R 100000 [.code (bodyOf Tryd.f14)] (argEnv 0 #[(.int .u8 c)].toList) w := by kernel_rfl

theorem ok14 (c : Int) {w : World} {R : Ending → World → Prop} (h : F14 c w R) : Calls Tryd.prog 14 #[(.int .u8 c)] w R :=
  vc_calls (pl := pl14) Tryd.func14 (by kernel_rfl) (by kernel_rfl) (by kernel_rfl) (Eq.mp (eq14 c w R) h)

-- espalierref26.low
def F15_j3 (c : Int) (w_2 : World) (R : Ending → World → Prop) : Prop :=
 R (.returned (.int .u8 c)) w_2

def F15 (c : Int) (w_ : World) (R : Ending → World → Prop) : Prop :=
 ∃ J3 : World → Prop, (∀  (w1 : World), J3 w1 → F15_j3 c w1 R) ∧
 (Br (decide (c ≥ (65 : Int)))
 (Br (decide (c ≤ (90 : Int)))
 (InR .u8 (c - (65 : Int)) ∧ InR .u8 ((c - (65 : Int)) + (97 : Int)) ∧ R (.returned (.int .u8 ((c - (65 : Int)) + (97 : Int)))) w_)
 (J3 w_))
 (J3 w_))

def pl15 : Plan := ⟨13, ⟨[]⟩, [(3, ⟨[], [(2, 12)]⟩)], []⟩

theorem eq15 (c : Int) (w : World) (R : Ending → World → Prop) : F15 c w R = vc Tryd.prog Tryd.f15 pl15 R 100000 [.code (bodyOf Tryd.f15)] (argEnv 0 #[(.int .u8 c)].toList) w := by kernel_rfl

theorem ok15 (c : Int) {w : World} {R : Ending → World → Prop} (h : F15 c w R) : Calls Tryd.prog 15 #[(.int .u8 c)] w R :=
  vc_calls (pl := pl15) Tryd.func15 (by kernel_rfl) (by kernel_rfl) (by kernel_rfl) (Eq.mp (eq15 c w R) h)

end Go.Proofs.YtaanlildniiijaaDoor
