import Derived.Test.YtaanlildniiijaaVcSnd9
import Derived.Test.YtaanlildniiijaaProg
set_option linter.unusedVariables false
set_option maxRecDepth 100000
namespace Go.Proofs.Ytaanlildniiijaa
open Go.Vc
-- espalierlaw11.copied
def F32 (l : Option Addr) (lN : Nat) (lC : Nat) (w_ : World) (R : Ending → World → Prop) : Prop :=
 Al w_ #[] 51 fun g3 w1 =>
 Raw Try.prog (Builtin.append_ #[37, 37] 37 #[(.slice (some g3) 0 0), (.slice l lN lC)]) w1 fun v w1_2 =>
 ∃ (x5 : Option Addr) (x5N : Nat) (x5C : Nat), v = (.slice x5 x5N x5C) ∧
 R (.returned (.slice x5 x5N x5C)) w1_2

def pl32 : Plan := ⟨6, ⟨[]⟩, [], []⟩

theorem eq32 (l : Option Addr) (lN : Nat) (lC : Nat) (w : World) (R : Ending → World → Prop) : F32 l lN lC w R = vc Try.prog Try.f32 pl32 R 100000 [.code (bodyOf Try.f32)] (argEnv 0 #[(.slice l lN lC)].toList) w := by kernel_rfl

theorem ok32 (l : Option Addr) (lN : Nat) (lC : Nat) {w : World} {R : Ending → World → Prop} (h : F32 l lN lC w R) : Calls Try.prog 32 #[(.slice l lN lC)] w R :=
  vc_calls (pl := pl32) Try.func32 (by kernel_rfl) (by kernel_rfl) (by kernel_rfl) (Eq.mp (eq32 l lN lC w R) h)

-- espalierlaw11.placed
def F44_l4 (a : Option Addr) (aN : Nat) (b : Option Addr) (bN : Nat) (L4 : Int → World → Prop) (i : Int) (w_2 : World) (R : Ending → World → Prop) : Prop :=
 Br (decide (i < ((aN : Nat) : Int)))
 (Dr w_2 fun w1 =>
 IdxA a aN i 4 fun q19 =>
 LdI .u64 (w1.cell? q19) fun x20_0 =>
 LdI .u64 (w1.cell? (q19.add 1)) fun x20_1 =>
 LdI .u64 (w1.cell? (q19.add 2)) fun x20_2 =>
 LdI .i64 (w1.cell? (q19.add 3)) fun x20_3 =>
 IdxA b bN i 4 fun q23 =>
 LdI .u64 (w1.cell? q23) fun x24_0 =>
 LdI .u64 (w1.cell? (q23.add 1)) fun x24_1 =>
 LdI .u64 (w1.cell? (q23.add 2)) fun x24_2 =>
 LdI .i64 (w1.cell? (q23.add 3)) fun x24_3 =>
 Br (!((x20_0 == x24_0) && ((x20_1 == x24_1) && ((x20_2 == x24_2) && ((x20_3 == x24_3) && true)))))
 (R (.returned (.bool false)) w1)
 (InR .i64 (i + (1 : Int)) ∧ L4 (i + (1 : Int)) w1))
 (R (.returned (.bool true)) w_2)

def F44 (a : Option Addr) (aN : Nat) (aC : Nat) (b : Option Addr) (bN : Nat) (bC : Nat) (w_ : World) (R : Ending → World → Prop) : Prop :=
 Br (((aN : Nat) : Int) != ((bN : Nat) : Int))
 (R (.returned (.bool false)) w_)
 (∃ (I : Int → World → Prop) (m : Int → World → Nat), I (0 : Int) w_ ∧
 ∀ (i : Int) (w1 : World), I i w1 → F44_l4 a aN b bN (fun i' w2 => I i' w2 ∧ m i' w2 < m i w1) i w1 R)

def pl44 : Plan := ⟨26, ⟨[]⟩, [], [(4, ⟨[(5, (.s (.int .i64)))], [(4, 26)]⟩)]⟩

theorem eq44 (a : Option Addr) (aN : Nat) (aC : Nat) (b : Option Addr) (bN : Nat) (bC : Nat) (w : World) (R : Ending → World → Prop) : F44 a aN aC b bN bC w R = vc Try.prog Try.f44 pl44 R 100000 [.code (bodyOf Try.f44)] (argEnv 0 #[(.slice a aN aC), (.slice b bN bC)].toList) w := by kernel_rfl

theorem ok44 (a : Option Addr) (aN : Nat) (aC : Nat) (b : Option Addr) (bN : Nat) (bC : Nat) {w : World} {R : Ending → World → Prop} (h : F44 a aN aC b bN bC w R) : Calls Try.prog 44 #[(.slice a aN aC), (.slice b bN bC)] w R :=
  vc_calls (pl := pl44) Try.func44 (by kernel_rfl) (by kernel_rfl) (by kernel_rfl) (Eq.mp (eq44 a aN aC b bN bC w R) h)

-- espalierlaw11.pairs
def F39_l4 (a : Option Addr) (aN : Nat) (b : Option Addr) (bN : Nat) (L4 : Int → World → Prop) (i : Int) (w_2 : World) (R : Ending → World → Prop) : Prop :=
 Br (decide (i < ((aN : Nat) : Int)))
 (Dr w_2 fun w1 =>
 IdxA a aN i 2 fun q19 =>
 LdI .u64 (w1.cell? q19) fun x20_0 =>
 LdI .u64 (w1.cell? (q19.add 1)) fun x20_1 =>
 IdxA b bN i 2 fun q23 =>
 LdI .u64 (w1.cell? q23) fun x24_0 =>
 LdI .u64 (w1.cell? (q23.add 1)) fun x24_1 =>
 Br (!((x20_0 == x24_0) && ((x20_1 == x24_1) && true)))
 (R (.returned (.bool false)) w1)
 (InR .i64 (i + (1 : Int)) ∧ L4 (i + (1 : Int)) w1))
 (R (.returned (.bool true)) w_2)

def F39 (a : Option Addr) (aN : Nat) (aC : Nat) (b : Option Addr) (bN : Nat) (bC : Nat) (w_ : World) (R : Ending → World → Prop) : Prop :=
 Br (((aN : Nat) : Int) != ((bN : Nat) : Int))
 (R (.returned (.bool false)) w_)
 (∃ (I : Int → World → Prop) (m : Int → World → Nat), I (0 : Int) w_ ∧
 ∀ (i : Int) (w1 : World), I i w1 → F39_l4 a aN b bN (fun i' w2 => I i' w2 ∧ m i' w2 < m i w1) i w1 R)

def pl39 : Plan := ⟨26, ⟨[]⟩, [], [(4, ⟨[(5, (.s (.int .i64)))], [(4, 26)]⟩)]⟩

theorem eq39 (a : Option Addr) (aN : Nat) (aC : Nat) (b : Option Addr) (bN : Nat) (bC : Nat) (w : World) (R : Ending → World → Prop) : F39 a aN aC b bN bC w R = vc Try.prog Try.f39 pl39 R 100000 [.code (bodyOf Try.f39)] (argEnv 0 #[(.slice a aN aC), (.slice b bN bC)].toList) w := by kernel_rfl

theorem ok39 (a : Option Addr) (aN : Nat) (aC : Nat) (b : Option Addr) (bN : Nat) (bC : Nat) {w : World} {R : Ending → World → Prop} (h : F39 a aN aC b bN bC w R) : Calls Try.prog 39 #[(.slice a aN aC), (.slice b bN bC)] w R :=
  vc_calls (pl := pl39) Try.func39 (by kernel_rfl) (by kernel_rfl) (by kernel_rfl) (Eq.mp (eq39 a aN aC b bN bC w R) h)

-- espalierlaw11.lives
def F37  (w_ : World) (R : Ending → World → Prop) : Prop :=
 Al w_ #[(.int .u64 1), (.int .u64 1), (.int .u64 4), (.int .i64 0)] 51 fun g7 w1 =>
 Al w1 #[(.int .u64 2), (.int .u64 2), (.int .u64 3), (.int .i64 1)] 51 fun g10 w1_2 =>
 Calls Try.prog 31 #[(.slice (some g7) 1 1), (.slice (some g10) 1 1), (.bool true)] w1_2 (post R fun v w1_3 =>
 ∃ (x14_0 : Option Addr) (x14_0N : Nat) (x14_0C : Nat) (x14_1 : Int), v = (.tuple #[(.slice x14_0 x14_0N x14_0C), (.int .i64 x14_1)]) ∧
 Br (x14_1 == (0 : Int))
 (Br (((x14_0N : Nat) : Int) == (1 : Int))
 (IdxA x14_0 x14_0N (0 : Int) 2 fun q26 =>
 LdI .u64 (w1_3.cell? q26) fun x27_0 =>
 LdI .u64 (w1_3.cell? (q26.add 1)) fun x27_1 =>
 R (.returned (.bool ((x27_0 == (1 : Int)) && ((x27_1 == (2 : Int)) && true)))) w1_3)
 (R (.returned (.bool false)) w1_3))
 (R (.returned (.bool false)) w1_3))

def pl37 : Plan := ⟨31, ⟨[]⟩, [], []⟩

theorem eq37  (w : World) (R : Ending → World → Prop) : F37  w R = vc Try.prog Try.f37 pl37 R 100000 [.code (bodyOf Try.f37)] (argEnv 0 #[].toList) w := by kernel_rfl

theorem ok37  {w : World} {R : Ending → World → Prop} (h : F37  w R) : Calls Try.prog 37 #[] w R :=
  vc_calls (pl := pl37) Try.func37 (by kernel_rfl) (by kernel_rfl) (by kernel_rfl) (Eq.mp (eq37  w R) h)

-- espalierlaw11.JoinAll
def F7_l30 (a : Option Addr) (aN : Nat) (aC : Nat) (d : Option Addr) (dN : Nat) (dC : Nat) (x31 : Option Addr) (x31N : Nat) (x31C : Nat) (x33 : Option Addr) (x33N : Nat) (x33C : Nat) (x89_0 : Option Addr) (x89_0N : Nat) (L30 : Int → World → Prop) (k3 : Int) (w_7 : World) (R : Ending → World → Prop) : Prop :=
 Br (decide (k3 < ((x89_0N : Nat) : Int)))
 (IdxA x89_0 x89_0N k3 4 fun q211 =>
 St w_7 q211 (.int .u64 0) fun w1_15 =>
 St w1_15 (q211.add 1) (.int .u64 0) fun w1_16 =>
 St w1_16 (q211.add 2) (.int .u64 0) fun w1_17 =>
 St w1_17 (q211.add 3) (.int .i64 0) fun w1_18 =>
 InR .i64 (k3 + (1 : Int)) ∧ L30 (k3 + (1 : Int)) w1_18)
 (Calls Try.prog 44 #[(.slice x31 x31N x31C), (.slice a aN aC)] w_7 (post R fun v15 w1_15 =>
 ∃ (x214 : Bool), v15 = (.bool x214) ∧
 Br x214
 (Calls Try.prog 44 #[(.slice x33 x33N x33C), (.slice d dN dC)] w1_15 (post R fun v16 w1_16 =>
 ∃ (x218 : Bool), v16 = (.bool x218) ∧
 Br x218
 (Calls Try.prog 37 #[] w1_16 (post R fun v17 w1_17 =>
 ∃ (x221 : Bool), v17 = (.bool x221) ∧
 R (.returned (.bool x221)) w1_17))
 (R (.returned (.bool false)) w1_16)))
 (R (.returned (.bool false)) w1_15)))

def F7_l26 (a : Option Addr) (aN : Nat) (aC : Nat) (d : Option Addr) (dN : Nat) (dC : Nat) (x31 : Option Addr) (x31N : Nat) (x31C : Nat) (x33 : Option Addr) (x33N : Nat) (x33C : Nat) (x61_0 : Option Addr) (x61_0N : Nat) (x89_0 : Option Addr) (x89_0N : Nat) (L26 : Int → World → Prop) (k2 : Int) (w_6 : World) (R : Ending → World → Prop) : Prop :=
 Br (decide (k2 < ((x61_0N : Nat) : Int)))
 (IdxA x61_0 x61_0N k2 4 fun q201 =>
 St w_6 q201 (.int .u64 0) fun w1_15 =>
 St w1_15 (q201.add 1) (.int .u64 0) fun w1_16 =>
 St w1_16 (q201.add 2) (.int .u64 0) fun w1_17 =>
 St w1_17 (q201.add 3) (.int .i64 0) fun w1_18 =>
 InR .i64 (k2 + (1 : Int)) ∧ L26 (k2 + (1 : Int)) w1_18)
 (∃ (I : Int → World → Prop) (m : Int → World → Nat), I (0 : Int) w_6 ∧
 ∀ (k3 : Int) (w1_15 : World), I k3 w1_15 → F7_l30 a aN aC d dN dC x31 x31N x31C x33 x33N x33C x89_0 x89_0N (fun k3' w2 => I k3' w2 ∧ m k3' w2 < m k3 w1_15) k3 w1_15 R)

def F7_l21 (a : Option Addr) (aN : Nat) (aC : Nat) (d : Option Addr) (dN : Nat) (dC : Nat) (x31 : Option Addr) (x31N : Nat) (x31C : Nat) (x33 : Option Addr) (x33N : Nat) (x33C : Nat) (x61_0 : Option Addr) (x61_0N : Nat) (x89_0 : Option Addr) (x89_0N : Nat) (x134_0 : Option Addr) (x134_0N : Nat) (x141_0 : Option Addr) (x141_0N : Nat) (L21 : Int → World → Prop) (k : Int) (w_5 : World) (R : Ending → World → Prop) : Prop :=
 Br (decide (k < ((x134_0N : Nat) : Int)))
 (Dr w_5 fun w1_15 =>
 IdxA x134_0 x134_0N k 1 fun q185 =>
 LdI .i64 (w1_15.cell? q185) fun x186 =>
 IdxA x141_0 x141_0N k 1 fun q189 =>
 LdI .i64 (w1_15.cell? q189) fun x190 =>
 Br (x186 != x190)
 (R (.returned (.bool false)) w1_15)
 (InR .i64 (k + (1 : Int)) ∧ L21 (k + (1 : Int)) w1_15))
 (∃ (I : Int → World → Prop) (m : Int → World → Nat), I (0 : Int) w_5 ∧
 ∀ (k2 : Int) (w1_15 : World), I k2 w1_15 → F7_l26 a aN aC d dN dC x31 x31N x31C x33 x33N x33C x61_0 x61_0N x89_0 x89_0N (fun k2' w2 => I k2' w2 ∧ m k2' w2 < m k2 w1_15) k2 w1_15 R)

def F7_j20 (a : Option Addr) (aN : Nat) (aC : Nat) (d : Option Addr) (dN : Nat) (dC : Nat) (x31 : Option Addr) (x31N : Nat) (x31C : Nat) (x33 : Option Addr) (x33N : Nat) (x33C : Nat) (x61_0 : Option Addr) (x61_0N : Nat) (x89_0 : Option Addr) (x89_0N : Nat) (x134_0 : Option Addr) (x134_0N : Nat) (x141_0 : Option Addr) (x141_0N : Nat) (w_4 : World) (R : Ending → World → Prop) : Prop :=
 ∃ (I : Int → World → Prop) (m : Int → World → Nat), I (0 : Int) w_4 ∧
 ∀ (k : Int) (w1_15 : World), I k w1_15 → F7_l21 a aN aC d dN dC x31 x31N x31C x33 x33N x33C x61_0 x61_0N x89_0 x89_0N x134_0 x134_0N x141_0 x141_0N (fun k' w2 => I k' w2 ∧ m k' w2 < m k w1_15) k w1_15 R

def F7_j14 (a : Option Addr) (aN : Nat) (aC : Nat) (d : Option Addr) (dN : Nat) (dC : Nat) (direct : Bool) (x31 : Option Addr) (x31N : Nat) (x31C : Nat) (x33 : Option Addr) (x33N : Nat) (x33C : Nat) (x61_0 : Option Addr) (x61_0N : Nat) (x89_0 : Option Addr) (x89_0N : Nat) (w_3 : World) (R : Ending → World → Prop) : Prop :=
 Calls Try.prog 35 #[(.slice x31 x31N x31C), (.slice x33 x33N x33C), (.bool direct)] w_3 (post R fun v11 w1_11 =>
 ∃ (x134_0 : Option Addr) (x134_0N : Nat) (x134_0C : Nat) (x134_1 : Int), v11 = (.tuple #[(.slice x134_0 x134_0N x134_0C), (.int .i64 x134_1)]) ∧
 Calls Try.prog 45 #[(.slice a aN aC), (.slice d dN dC), (.bool direct)] w1_11 (post R fun v12 w1_12 =>
 ∃ (x141_0 : Option Addr) (x141_0N : Nat) (x141_0C : Nat) (x141_1 : Int), v12 = (.tuple #[(.slice x141_0 x141_0N x141_0C), (.int .i64 x141_1)]) ∧
 Calls Try.prog 46 #[(.slice x31 x31N x31C), (.slice x33 x33N x33C)] w1_12 (post R fun v13 w1_13 =>
 ∃ (x147_0 : Option Addr) (x147_0N : Nat) (x147_0C : Nat) (x147_1 : Int), v13 = (.tuple #[(.slice x147_0 x147_0N x147_0C), (.int .i64 x147_1)]) ∧
 Calls Try.prog 47 #[(.slice a aN aC), (.slice d dN dC)] w1_13 (post R fun v14 w1_14 =>
 ∃ (x153_0 : Option Addr) (x153_0N : Nat) (x153_0C : Nat) (x153_1 : Int), v14 = (.tuple #[(.slice x153_0 x153_0N x153_0C), (.int .i64 x153_1)]) ∧
 ∃ J20 : World → Prop, (∀  (w1_15 : World), J20 w1_15 → F7_j20 a aN aC d dN dC x31 x31N x31C x33 x33N x33C x61_0 x61_0N x89_0 x89_0N x134_0 x134_0N x141_0 x141_0N w1_15 R) ∧
 (Br (x134_1 != x141_1)
 (R (.returned (.bool false)) w1_14)
 (Br (x147_1 != x153_1)
 (R (.returned (.bool false)) w1_14)
 (Br (((x134_0N : Nat) : Int) != ((x141_0N : Nat) : Int))
 (R (.returned (.bool false)) w1_14)
 (Calls Try.prog 39 #[(.slice x147_0 x147_0N x147_0C), (.slice x153_0 x153_0N x153_0C)] w1_14 (post R fun v15 w1_15 =>
 ∃ (x174 : Bool), v15 = (.bool x174) ∧
 Br (!x174)
 (R (.returned (.bool false)) w1_15)
 (J20 w1_15))))))))))

def F7_j6 (a : Option Addr) (aN : Nat) (aC : Nat) (d : Option Addr) (dN : Nat) (dC : Nat) (direct : Bool) (x31 : Option Addr) (x31N : Nat) (x31C : Nat) (x33 : Option Addr) (x33N : Nat) (x33C : Nat) (w_2 : World) (R : Ending → World → Prop) : Prop :=
 Calls Try.prog 40 #[(.slice x31 x31N x31C), (.slice x33 x33N x33C), (.bool direct)] w_2 (post R fun v5 w1_5 =>
 ∃ (x61_0 : Option Addr) (x61_0N : Nat) (x61_0C : Nat) (x61_1 : Int), v5 = (.tuple #[(.slice x61_0 x61_0N x61_0C), (.int .i64 x61_1)]) ∧
 Calls Try.prog 41 #[(.slice a aN aC), (.slice d dN dC), (.bool direct)] w1_5 (post R fun v6 w1_6 =>
 ∃ (x68_0 : Option Addr) (x68_0N : Nat) (x68_0C : Nat) (x68_1 : Int), v6 = (.tuple #[(.slice x68_0 x68_0N x68_0C), (.int .i64 x68_1)]) ∧
 Calls Try.prog 33 #[(.slice x31 x31N x31C), (.slice x33 x33N x33C), (.bool direct)] w1_6 (post R fun v7 w1_7 =>
 ∃ (x75_0 : Option Addr) (x75_0N : Nat) (x75_0C : Nat) (x75_1 : Int), v7 = (.tuple #[(.slice x75_0 x75_0N x75_0C), (.int .i64 x75_1)]) ∧
 Calls Try.prog 42 #[(.slice a aN aC), (.slice d dN dC), (.bool direct)] w1_7 (post R fun v8 w1_8 =>
 ∃ (x82_0 : Option Addr) (x82_0N : Nat) (x82_0C : Nat) (x82_1 : Int), v8 = (.tuple #[(.slice x82_0 x82_0N x82_0C), (.int .i64 x82_1)]) ∧
 Calls Try.prog 34 #[(.slice x31 x31N x31C), (.slice x33 x33N x33C), (.bool direct)] w1_8 (post R fun v9 w1_9 =>
 ∃ (x89_0 : Option Addr) (x89_0N : Nat) (x89_0C : Nat) (x89_1 : Int), v9 = (.tuple #[(.slice x89_0 x89_0N x89_0C), (.int .i64 x89_1)]) ∧
 Calls Try.prog 43 #[(.slice a aN aC), (.slice d dN dC), (.bool direct)] w1_9 (post R fun v10 w1_10 =>
 ∃ (x96_0 : Option Addr) (x96_0N : Nat) (x96_0C : Nat) (x96_1 : Int), v10 = (.tuple #[(.slice x96_0 x96_0N x96_0C), (.int .i64 x96_1)]) ∧
 ∃ J14 : World → Prop, (∀  (w1_11 : World), J14 w1_11 → F7_j14 a aN aC d dN dC direct x31 x31N x31C x33 x33N x33C x61_0 x61_0N x89_0 x89_0N w1_11 R) ∧
 (Br (x61_1 != x68_1)
 (R (.returned (.bool false)) w1_10)
 (Br (x75_1 != x82_1)
 (R (.returned (.bool false)) w1_10)
 (Br (x89_1 != x96_1)
 (R (.returned (.bool false)) w1_10)
 (Calls Try.prog 44 #[(.slice x61_0 x61_0N x61_0C), (.slice x68_0 x68_0N x68_0C)] w1_10 (post R fun v11 w1_11 =>
 ∃ (x115 : Bool), v11 = (.bool x115) ∧
 Br (!x115)
 (R (.returned (.bool false)) w1_11)
 (Calls Try.prog 44 #[(.slice x75_0 x75_0N x75_0C), (.slice x82_0 x82_0N x82_0C)] w1_11 (post R fun v12 w1_12 =>
 ∃ (x121 : Bool), v12 = (.bool x121) ∧
 Br (!x121)
 (R (.returned (.bool false)) w1_12)
 (Calls Try.prog 44 #[(.slice x89_0 x89_0N x89_0C), (.slice x96_0 x96_0N x96_0C)] w1_12 (post R fun v13 w1_13 =>
 ∃ (x127 : Bool), v13 = (.bool x127) ∧
 Br (!x127)
 (R (.returned (.bool false)) w1_13)
 (J14 w1_13))))))))))))))))

def F7 (a : Option Addr) (aN : Nat) (aC : Nat) (d : Option Addr) (dN : Nat) (dC : Nat) (direct : Bool) (w_ : World) (R : Ending → World → Prop) : Prop :=
 Calls Try.prog 32 #[(.slice a aN aC)] w_ (post R fun v w1 =>
 ∃ (x31 : Option Addr) (x31N : Nat) (x31C : Nat), v = (.slice x31 x31N x31C) ∧
 Calls Try.prog 32 #[(.slice d dN dC)] w1 (post R fun v2 w1_2 =>
 ∃ (x33 : Option Addr) (x33N : Nat) (x33C : Nat), v2 = (.slice x33 x33N x33C) ∧
 Calls Try.prog 31 #[(.slice x31 x31N x31C), (.slice x33 x33N x33C), (.bool direct)] w1_2 (post R fun v3 w1_3 =>
 ∃ (x38_0 : Option Addr) (x38_0N : Nat) (x38_0C : Nat) (x38_1 : Int), v3 = (.tuple #[(.slice x38_0 x38_0N x38_0C), (.int .i64 x38_1)]) ∧
 Calls Try.prog 38 #[(.slice a aN aC), (.slice d dN dC), (.bool direct)] w1_3 (post R fun v4 w1_4 =>
 ∃ (x45_0 : Option Addr) (x45_0N : Nat) (x45_0C : Nat) (x45_1 : Int), v4 = (.tuple #[(.slice x45_0 x45_0N x45_0C), (.int .i64 x45_1)]) ∧
 ∃ J6 : World → Prop, (∀  (w1_5 : World), J6 w1_5 → F7_j6 a aN aC d dN dC direct x31 x31N x31C x33 x33N x33C w1_5 R) ∧
 (Br (x38_1 != x45_1)
 (R (.returned (.bool false)) w1_4)
 (Calls Try.prog 39 #[(.slice x38_0 x38_0N x38_0C), (.slice x45_0 x45_0N x45_0C)] w1_4 (post R fun v5 w1_5 =>
 ∃ (x54 : Bool), v5 = (.bool x54) ∧
 Br (!x54)
 (R (.returned (.bool false)) w1_5)
 (J6 w1_5))))))))

def pl7 : Plan := ⟨223, ⟨[]⟩, [(20, ⟨[], [(6, 7), (156, 177)]⟩), (14, ⟨[], [(6, 7), (99, 130)]⟩), (6, ⟨[], [(6, 7), (48, 57)]⟩)], [(21, ⟨[(27, (.s (.int .i64)))], [(6, 7), (27, 192)]⟩), (26, ⟨[(28, (.s (.int .i64)))], [(28, 202)]⟩), (30, ⟨[(29, (.s (.int .i64)))], [(29, 212)]⟩)]⟩

theorem eq7 (a : Option Addr) (aN : Nat) (aC : Nat) (d : Option Addr) (dN : Nat) (dC : Nat) (direct : Bool) (w : World) (R : Ending → World → Prop) : F7 a aN aC d dN dC direct w R = vc Try.prog Try.f7 pl7 R 100000 [.code (bodyOf Try.f7)] (argEnv 0 #[(.slice a aN aC), (.slice d dN dC), (.bool direct)].toList) w := by kernel_rfl

theorem ok7 (a : Option Addr) (aN : Nat) (aC : Nat) (d : Option Addr) (dN : Nat) (dC : Nat) (direct : Bool) {w : World} {R : Ending → World → Prop} (h : F7 a aN aC d dN dC direct w R) : Calls Try.prog 7 #[(.slice a aN aC), (.slice d dN dC), (.bool direct)] w R :=
  vc_calls (pl := pl7) Try.func7 (by kernel_rfl) (by kernel_rfl) (by kernel_rfl) (Eq.mp (eq7 a aN aC d dN dC direct w R) h)

-- espalierlaw11.JoinParts
def F6_j13 (L12 : Int → Int → World → Prop) (j : Int) (k2 : Int) (w_4 : World) (R : Ending → World → Prop) : Prop :=
 InR .i64 (j + (1 : Int)) ∧ L12 k2 (j + (1 : Int)) w_4

def F6_j30 (x25_0N : Nat) (L26 : Int → Int → World → Prop) (j3 : Int) (k3 : Int) (w_6 : World) (R : Ending → World → Prop) : Prop :=
 Br (k3 == ((x25_0N : Nat) : Int))
 (R (.returned (.bool false)) w_6)
 (InR .i64 (j3 + (1 : Int)) ∧ L26 k3 (j3 + (1 : Int)) w_6)

def F6_j29 (L28 : Int → World → Prop) (k3 : Int) (w_7 : World) (R : Ending → World → Prop) : Prop :=
 InR .i64 (k3 + (1 : Int)) ∧ L28 (k3 + (1 : Int)) w_7

def F6_l28 (x25_0 : Option Addr) (x25_0N : Nat) (x33_0 : Option Addr) (x33_0N : Nat) (j3 : Int) (J30 : Int → World → Prop) (L28 : Int → World → Prop) (k3 : Int) (w_6 : World) (R : Ending → World → Prop) : Prop :=
 ∃ J29 : World → Prop, (∀  (w1_17 : World), J29 w1_17 → F6_j29 L28 k3 w1_17 R) ∧
 (Dr w_6 fun w1_17 =>
 Br (decide (k3 < ((x25_0N : Nat) : Int)))
 (IdxA x25_0 x25_0N k3 2 fun q184 =>
 LdI .u64 (w1_17.cell? q184) fun x185_0 =>
 LdI .u64 (w1_17.cell? (q184.add 1)) fun x185_1 =>
 IdxA x33_0 x33_0N j3 2 fun q188 =>
 LdI .u64 (w1_17.cell? q188) fun x189_0 =>
 LdI .u64 (w1_17.cell? (q188.add 1)) fun x189_1 =>
 Br (!((x185_0 == x189_0) && ((x185_1 == x189_1) && true)))
 (J29 w1_17)
 (J30 k3 w1_17))
 (J30 k3 w1_17))

def F6_l26 (x25_0 : Option Addr) (x25_0N : Nat) (x33_0 : Option Addr) (x33_0N : Nat) (x33_1 : Int) (sum : Int) (L26 : Int → Int → World → Prop) (k2 : Int) (j3 : Int) (w_5 : World) (R : Ending → World → Prop) : Prop :=
 Br (decide (j3 < ((x33_0N : Nat) : Int)))
 (∃ J30 : Int → World → Prop, (∀ (k3 : Int) (w1_17 : World), J30 k3 w1_17 → F6_j30 x25_0N L26 j3 k3 w1_17 R) ∧
 (∃ (I : Int → World → Prop) (m : Int → World → Nat), I k2 w_5 ∧
 ∀ (k3 : Int) (w1_17 : World), I k3 w1_17 → F6_l28 x25_0 x25_0N x33_0 x33_0N j3 J30 (fun k3' w2 => I k3' w2 ∧ m k3' w2 < m k3 w1_17) k3 w1_17 R))
 (Br (x33_1 == (0 : Int))
 (Br (sum == ((x25_0N : Nat) : Int))
 (Calls Try.prog 37 #[] w_5 (post R fun v17 w1_17 =>
 ∃ (x207 : Bool), v17 = (.bool x207) ∧
 R (.returned (.bool x207)) w1_17))
 (R (.returned (.bool false)) w_5))
 (R (.returned (.bool false)) w_5))

def F6_l19 (x25_0 : Option Addr) (x25_0N : Nat) (x25_1 : Int) (x33_0 : Option Addr) (x33_0N : Nat) (x33_1 : Int) (x57_0 : Option Addr) (x57_0N : Nat) (L19 : Int → Int → World → Prop) (sum : Int) (j2 : Int) (w_4 : World) (R : Ending → World → Prop) : Prop :=
 Br (decide (j2 < ((x57_0N : Nat) : Int)))
 (IdxA x57_0 x57_0N j2 1 fun q160 =>
 LdI .i64 (w_4.cell? q160) fun x161 =>
 InR .i64 (sum + x161) ∧ InR .i64 (j2 + (1 : Int)) ∧ L19 (sum + x161) (j2 + (1 : Int)) w_4)
 (Br (x25_1 != (0 : Int))
 (Br (x25_1 == (2 : Int))
 (R (.returned (.bool (decide (sum > (16384 : Int))))) w_4)
 (R (.returned (.bool false)) w_4))
 (∃ (I : Int → Int → World → Prop) (m : Int → Int → World → Nat), I (0 : Int) (0 : Int) w_4 ∧
 ∀ (k2 : Int) (j3 : Int) (w1_17 : World), I k2 j3 w1_17 → F6_l26 x25_0 x25_0N x33_0 x33_0N x33_1 sum (fun k2' j3' w2 => I k2' j3' w2 ∧ m k2' j3' w2 < m k2 j3 w1_17) k2 j3 w1_17 R))

def F6_l12 (d : Option Addr) (dN : Nat) (x25_0 : Option Addr) (x25_0N : Nat) (x25_1 : Int) (x33_0 : Option Addr) (x33_0N : Nat) (x33_1 : Int) (x41_0 : Option Addr) (x41_0N : Nat) (x49_0 : Option Addr) (x49_0N : Nat) (x57_0 : Option Addr) (x57_0N : Nat) (L12 : Int → Int → World → Prop) (k : Int) (j : Int) (w_3 : World) (R : Ending → World → Prop) : Prop :=
 Br (decide (j < ((dN : Nat) : Int)))
 (∃ J13 : Int → World → Prop, (∀ (k2 : Int) (w1_17 : World), J13 k2 w1_17 → F6_j13 L12 j k2 w1_17 R) ∧
 (Dr w_3 fun w1_17 =>
 Br (decide (k < ((x41_0N : Nat) : Int)))
 (IdxA x41_0 x41_0N k 4 fun q122 =>
 LdI .u64 (w1_17.cell? q122) fun x123_0 =>
 LdI .u64 (w1_17.cell? (q122.add 1)) fun x123_1 =>
 LdI .u64 (w1_17.cell? (q122.add 2)) fun x123_2 =>
 LdI .i64 (w1_17.cell? (q122.add 3)) fun x123_3 =>
 IdxA d dN j 4 fun q126 =>
 LdI .u64 (w1_17.cell? q126) fun x127_0 =>
 LdI .u64 (w1_17.cell? (q126.add 1)) fun x127_1 =>
 LdI .u64 (w1_17.cell? (q126.add 2)) fun x127_2 =>
 LdI .i64 (w1_17.cell? (q126.add 3)) fun x127_3 =>
 Br ((x123_0 == x127_0) && ((x123_1 == x127_1) && ((x123_2 == x127_2) && ((x123_3 == x127_3) && true))))
 (InR .i64 (k + (1 : Int)) ∧ J13 (k + (1 : Int)) w1_17)
 (Dr w1_17 fun w1_18 =>
 InR .i64 (j - k) ∧ Br (decide ((j - k) ≥ ((x49_0N : Nat) : Int)))
 (R (.returned (.bool false)) w1_18)
 (InR .i64 (j - k) ∧ IdxA x49_0 x49_0N (j - k) 4 fun q143 =>
 LdI .u64 (w1_18.cell? q143) fun x144_0 =>
 LdI .u64 (w1_18.cell? (q143.add 1)) fun x144_1 =>
 LdI .u64 (w1_18.cell? (q143.add 2)) fun x144_2 =>
 LdI .i64 (w1_18.cell? (q143.add 3)) fun x144_3 =>
 IdxA d dN j 4 fun q147 =>
 LdI .u64 (w1_18.cell? q147) fun x148_0 =>
 LdI .u64 (w1_18.cell? (q147.add 1)) fun x148_1 =>
 LdI .u64 (w1_18.cell? (q147.add 2)) fun x148_2 =>
 LdI .i64 (w1_18.cell? (q147.add 3)) fun x148_3 =>
 Br (!((x144_0 == x148_0) && ((x144_1 == x148_1) && ((x144_2 == x148_2) && ((x144_3 == x148_3) && true)))))
 (R (.returned (.bool false)) w1_18)
 (J13 k w1_18))))
 (Dr w1_17 fun w1_18 =>
 InR .i64 (j - k) ∧ Br (decide ((j - k) ≥ ((x49_0N : Nat) : Int)))
 (R (.returned (.bool false)) w1_18)
 (InR .i64 (j - k) ∧ IdxA x49_0 x49_0N (j - k) 4 fun q143 =>
 LdI .u64 (w1_18.cell? q143) fun x144_0 =>
 LdI .u64 (w1_18.cell? (q143.add 1)) fun x144_1 =>
 LdI .u64 (w1_18.cell? (q143.add 2)) fun x144_2 =>
 LdI .i64 (w1_18.cell? (q143.add 3)) fun x144_3 =>
 IdxA d dN j 4 fun q147 =>
 LdI .u64 (w1_18.cell? q147) fun x148_0 =>
 LdI .u64 (w1_18.cell? (q147.add 1)) fun x148_1 =>
 LdI .u64 (w1_18.cell? (q147.add 2)) fun x148_2 =>
 LdI .i64 (w1_18.cell? (q147.add 3)) fun x148_3 =>
 Br (!((x144_0 == x148_0) && ((x144_1 == x148_1) && ((x144_2 == x148_2) && ((x144_3 == x148_3) && true)))))
 (R (.returned (.bool false)) w1_18)
 (J13 k w1_18)))))
 (∃ (I : Int → Int → World → Prop) (m : Int → Int → World → Nat), I (0 : Int) (0 : Int) w_3 ∧
 ∀ (sum : Int) (j2 : Int) (w1_17 : World), I sum j2 w1_17 → F6_l19 x25_0 x25_0N x25_1 x33_0 x33_0N x33_1 x57_0 x57_0N (fun sum' j2' w2 => I sum' j2' w2 ∧ m sum' j2' w2 < m sum j2 w1_17) sum j2 w1_17 R)

def F6_j10 (d : Option Addr) (dN : Nat) (x25_0 : Option Addr) (x25_0N : Nat) (x25_1 : Int) (x33_0 : Option Addr) (x33_0N : Nat) (x33_1 : Int) (x41_0 : Option Addr) (x41_0N : Nat) (x49_0 : Option Addr) (x49_0N : Nat) (x57_0 : Option Addr) (x57_0N : Nat) (w_2 : World) (R : Ending → World → Prop) : Prop :=
 ∃ (I : Int → Int → World → Prop) (m : Int → Int → World → Nat), I (0 : Int) (0 : Int) w_2 ∧
 ∀ (k : Int) (j : Int) (w1_17 : World), I k j w1_17 → F6_l12 d dN x25_0 x25_0N x25_1 x33_0 x33_0N x33_1 x41_0 x41_0N x49_0 x49_0N x57_0 x57_0N (fun k' j' w2 => I k' j' w2 ∧ m k' j' w2 < m k j w1_17) k j w1_17 R

def F6 (a : Option Addr) (aN : Nat) (aC : Nat) (d : Option Addr) (dN : Nat) (dC : Nat) (w_ : World) (R : Ending → World → Prop) : Prop :=
 Calls Try.prog 32 #[(.slice a aN aC)] w_ (post R fun v w1 =>
 ∃ (x22 : Option Addr) (x22N : Nat) (x22C : Nat), v = (.slice x22 x22N x22C) ∧
 Calls Try.prog 32 #[(.slice d dN dC)] w1 (post R fun v2 w1_2 =>
 ∃ (x24 : Option Addr) (x24N : Nat) (x24C : Nat), v2 = (.slice x24 x24N x24C) ∧
 Calls Try.prog 31 #[(.slice x22 x22N x22C), (.slice x24 x24N x24C), (.bool false)] w1_2 (post R fun v3 w1_3 =>
 ∃ (x25_0 : Option Addr) (x25_0N : Nat) (x25_0C : Nat) (x25_1 : Int), v3 = (.tuple #[(.slice x25_0 x25_0N x25_0C), (.int .i64 x25_1)]) ∧
 Calls Try.prog 32 #[(.slice a aN aC)] w1_3 (post R fun v4 w1_4 =>
 ∃ (x30 : Option Addr) (x30N : Nat) (x30C : Nat), v4 = (.slice x30 x30N x30C) ∧
 Calls Try.prog 32 #[(.slice d dN dC)] w1_4 (post R fun v5 w1_5 =>
 ∃ (x32 : Option Addr) (x32N : Nat) (x32C : Nat), v5 = (.slice x32 x32N x32C) ∧
 Calls Try.prog 31 #[(.slice x30 x30N x30C), (.slice x32 x32N x32C), (.bool true)] w1_5 (post R fun v6 w1_6 =>
 ∃ (x33_0 : Option Addr) (x33_0N : Nat) (x33_0C : Nat) (x33_1 : Int), v6 = (.tuple #[(.slice x33_0 x33_0N x33_0C), (.int .i64 x33_1)]) ∧
 Calls Try.prog 32 #[(.slice a aN aC)] w1_6 (post R fun v7 w1_7 =>
 ∃ (x38 : Option Addr) (x38N : Nat) (x38C : Nat), v7 = (.slice x38 x38N x38C) ∧
 Calls Try.prog 32 #[(.slice d dN dC)] w1_7 (post R fun v8 w1_8 =>
 ∃ (x40 : Option Addr) (x40N : Nat) (x40C : Nat), v8 = (.slice x40 x40N x40C) ∧
 Calls Try.prog 33 #[(.slice x38 x38N x38C), (.slice x40 x40N x40C), (.bool false)] w1_8 (post R fun v9 w1_9 =>
 ∃ (x41_0 : Option Addr) (x41_0N : Nat) (x41_0C : Nat) (x41_1 : Int), v9 = (.tuple #[(.slice x41_0 x41_0N x41_0C), (.int .i64 x41_1)]) ∧
 Calls Try.prog 32 #[(.slice a aN aC)] w1_9 (post R fun v10 w1_10 =>
 ∃ (x46 : Option Addr) (x46N : Nat) (x46C : Nat), v10 = (.slice x46 x46N x46C) ∧
 Calls Try.prog 32 #[(.slice d dN dC)] w1_10 (post R fun v11 w1_11 =>
 ∃ (x48 : Option Addr) (x48N : Nat) (x48C : Nat), v11 = (.slice x48 x48N x48C) ∧
 Calls Try.prog 34 #[(.slice x46 x46N x46C), (.slice x48 x48N x48C), (.bool false)] w1_11 (post R fun v12 w1_12 =>
 ∃ (x49_0 : Option Addr) (x49_0N : Nat) (x49_0C : Nat) (x49_1 : Int), v12 = (.tuple #[(.slice x49_0 x49_0N x49_0C), (.int .i64 x49_1)]) ∧
 Calls Try.prog 32 #[(.slice a aN aC)] w1_12 (post R fun v13 w1_13 =>
 ∃ (x54 : Option Addr) (x54N : Nat) (x54C : Nat), v13 = (.slice x54 x54N x54C) ∧
 Calls Try.prog 32 #[(.slice d dN dC)] w1_13 (post R fun v14 w1_14 =>
 ∃ (x56 : Option Addr) (x56N : Nat) (x56C : Nat), v14 = (.slice x56 x56N x56C) ∧
 Calls Try.prog 35 #[(.slice x54 x54N x54C), (.slice x56 x56N x56C), (.bool false)] w1_14 (post R fun v15 w1_15 =>
 ∃ (x57_0 : Option Addr) (x57_0N : Nat) (x57_0C : Nat) (x57_1 : Int), v15 = (.tuple #[(.slice x57_0 x57_0N x57_0C), (.int .i64 x57_1)]) ∧
 Calls Try.prog 36 #[(.slice a aN aC), (.slice d dN dC)] w1_15 (post R fun v16 w1_16 =>
 ∃ (x62 : Int), v16 = (.int .i64 x62) ∧
 Br (x62 != (0 : Int))
 (Br (x25_1 != (0 : Int))
 (Br (x33_1 == x25_1)
 (Br (x41_1 == x25_1)
 (Br (x49_1 == x25_1)
 (Br (x57_1 == x25_1)
 (Calls Try.prog 37 #[] w1_16 (post R fun v17 w1_17 =>
 ∃ (x87 : Bool), v17 = (.bool x87) ∧
 R (.returned (.bool x87)) w1_17))
 (R (.returned (.bool false)) w1_16))
 (R (.returned (.bool false)) w1_16))
 (R (.returned (.bool false)) w1_16))
 (R (.returned (.bool false)) w1_16))
 (R (.returned (.bool false)) w1_16))
 (∃ J10 : World → Prop, (∀  (w1_17 : World), J10 w1_17 → F6_j10 d dN x25_0 x25_0N x25_1 x33_0 x33_0N x33_1 x41_0 x41_0N x49_0 x49_0N x57_0 x57_0N w1_17 R) ∧
 (Br (x41_1 != (0 : Int))
 (R (.returned (.bool false)) w1_16)
 (Br (x49_1 != (0 : Int))
 (R (.returned (.bool false)) w1_16)
 (Br (x57_1 != (0 : Int))
 (R (.returned (.bool false)) w1_16)
 (InR .i64 (((x41_0N : Nat) : Int) + ((x49_0N : Nat) : Int)) ∧ Br ((((x41_0N : Nat) : Int) + ((x49_0N : Nat) : Int)) != ((dN : Nat) : Int))
 (R (.returned (.bool false)) w1_16)
 (J10 w1_16))))))))))))))))))))))

def pl6 : Plan := ⟨209, ⟨[]⟩, [(13, ⟨[(15, (.s (.int .i64)))], [(4, 5), (15, 16), (115, 151)]⟩), (29, ⟨[], [(177, 192)]⟩), (30, ⟨[(15, (.s (.int .i64)))], [(15, 16), (177, 194)]⟩), (10, ⟨[], [(4, 5), (89, 109)]⟩)], [(12, ⟨[(15, (.s (.int .i64))), (17, (.s (.int .i64)))], [(4, 5), (15, 16), (17, 151)]⟩), (19, ⟨[(16, (.s (.int .i64))), (18, (.s (.int .i64)))], [(16, 163)]⟩), (28, ⟨[(15, (.s (.int .i64)))], [(15, 16), (177, 194)]⟩), (26, ⟨[(15, (.s (.int .i64))), (19, (.s (.int .i64)))], [(4, 5), (15, 16), (19, 198)]⟩)]⟩

theorem eq6 (a : Option Addr) (aN : Nat) (aC : Nat) (d : Option Addr) (dN : Nat) (dC : Nat) (w : World) (R : Ending → World → Prop) : F6 a aN aC d dN dC w R = vc Try.prog Try.f6 pl6 R 100000 [.code (bodyOf Try.f6)] (argEnv 0 #[(.slice a aN aC), (.slice d dN dC)].toList) w := by kernel_rfl

theorem ok6 (a : Option Addr) (aN : Nat) (aC : Nat) (d : Option Addr) (dN : Nat) (dC : Nat) {w : World} {R : Ending → World → Prop} (h : F6 a aN aC d dN dC w R) : Calls Try.prog 6 #[(.slice a aN aC), (.slice d dN dC)] w R :=
  vc_calls (pl := pl6) Try.func6 (by kernel_rfl) (by kernel_rfl) (by kernel_rfl) (Eq.mp (eq6 a aN aC d dN dC w R) h)

end Go.Proofs.Ytaanlildniiijaa
