/- LocksBoth: the least mode that is both does not hang on the order or on brackets, and what fits with both fits with each. -/
import Derived.Test.YtfhkgnfphfmhiaaGreatDoorProg
import Derived.Laws.Closers25b
import Derived.Shelf.Unicode.DecodeAny
import Derived.Laws.IdiomStrings
import Derived.Lib.TrimUEq
import Derived.Lib.Strings
import Derived.Lib.Overlaps
import Derived.Laws.Externs
import Derived.Test.YtfhkgnfphfmhiaaGreatDoorBo1
set_option linter.unusedVariables false
set_option maxRecDepth 100000
namespace Go.Proofs.YtfhkgnfphfmhiaaGreatDoor
open Go.Vc
-- (*tree.Doc).All
def F23 (d : Option Addr) (h_ : Int) (w_ : World) (R : Ending → World → Prop) : Prop :=
 Br (h_ == (0 : Int))
 (NonNil d fun p10 =>
 LdSl (w_.cell? (p10.add 1)) fun x12 x12N x12C =>
 Calls Tryz.prog 52 #[(.slice x12 x12N x12C), (.slice none 0 0)] w_ (post R fun v w1 =>
 ∃ (x13 : Option Addr) (x13N : Nat) (x13C : Nat), v = (.slice x13 x13N x13C) ∧
 R (.returned (.tuple #[(.slice x13 x13N x13C), (.int .i64 0)])) w1))
 (Calls Tryz.prog 46 #[(.pointer d), (.int .u64 h_)] w_ (post R fun v w1 =>
 ∃ (x16 : Option Addr), v = (.pointer x16) ∧
 Br (x16).isNone
 (R (.returned (.tuple #[(.slice none 0 0), (.int .i64 8)])) w1)
 (Al w1 #[(.pointer x16)] 102 fun g20 w1_2 =>
 Calls Tryz.prog 52 #[(.slice (some g20) 1 1), (.slice none 0 0)] w1_2 (post R fun v2 w1_3 =>
 ∃ (x21 : Option Addr) (x21N : Nat) (x21C : Nat), v2 = (.slice x21 x21N x21C) ∧
 R (.returned (.tuple #[(.slice x21 x21N x21C), (.int .i64 0)])) w1_3))))

def pl23 : Plan := ⟨22, ⟨[]⟩, [], []⟩

theorem eq23 (d : Option Addr) (h_ : Int) (w : World) (R : Ending → World → Prop) : F23 d h_ w R = vc Tryz.prog Tryz.f23 pl23 R 100000 [.code (bodyOf Tryz.f23)] (argEnv 0 #[(.pointer d), (.int .u64 h_)].toList) w := by kernel_rfl

theorem ok23 (d : Option Addr) (h_ : Int) {w : World} {R : Ending → World → Prop} (h : F23 d h_ w R) : Calls Tryz.prog 23 #[(.pointer d), (.int .u64 h_)] w R :=
  vc_calls (pl := pl23) Tryz.func23 (by kernel_rfl) (by kernel_rfl) (by kernel_rfl) (Eq.mp (eq23 d h_ w R) h)

-- (*tree.Doc).Clone
def F81_j16 (L11 : Int → World → Prop) (x58 : Int) (w_5 : World) (R : Ending → World → Prop) : Prop :=
 InR .i64 (x58 + (1 : Int)) ∧ L11 (x58 + (1 : Int)) w_5

def F81_l11 (d : Option Addr) (c : Addr) (x56 : Option Addr) (x56N : Nat) (L11 : Int → World → Prop) (x58 : Int) (w_4 : World) (R : Ending → World → Prop) : Prop :=
 Br (decide (x58 < ((x56N : Nat) : Int)))
 (∃ J16 : World → Prop, (∀  (w1 : World), J16 w1 → F81_j16 L11 x58 w1 R) ∧
 (IdxA x56 x56N x58 1 fun q61 =>
 LdP (w_4.cell? q61) fun x62 =>
 ∃ S : World → Prop, S w_4.drew ∧ ∃ (x63 : Option Addr), Held S c (.pointer x63) ∧ NonNil x63 fun p64 =>
 ∃ (x66 : Option Addr) (x66N : Nat) (x66C : Nat), Held S p64 (.slice x66 x66N x66C) ∧ IdxA x66 x66N x58 1 fun q68 =>
 ∃ (x69 : Option Addr), Held S q68 (.pointer x69) ∧ NonNil x62 fun p72 =>
 ∃ (x74 : Option Addr) (x74N : Nat) (x74C : Nat), Held S (p72.add 8) (.slice x74 x74N x74C) ∧ CallV Tryz.prog (.func (.func 112) #[] #[(.pointer (some c))]) #[(.slice x74 x74N x74C)] w_4.drew R (fun v w1_2 =>
 ∃ (x75 : Option Addr) (x75N : Nat) (x75C : Nat), v = (.slice x75 x75N x75C) ∧
 S w1_2 ∧ NonNil x69 fun p76 =>
 St w1_2 (p76.add 8) (.slice x75 x75N x75C) fun w1_3 =>
 NonNil x62 fun p79 =>
 LdP (w1_3.cell? (p79.add 7)) fun x81 =>
 Br (!(x81).isNone)
 (∃ S2 : World → Prop, S2 w1_3.drew ∧ ∃ (x83 : Option Addr), Held S2 c (.pointer x83) ∧ NonNil x83 fun p84 =>
 ∃ (x86 : Option Addr) (x86N : Nat) (x86C : Nat), Held S2 p84 (.slice x86 x86N x86C) ∧ IdxA x86 x86N x58 1 fun q88 =>
 ∃ (x89 : Option Addr), Held S2 q88 (.pointer x89) ∧ ∃ (x90 : Option Addr), Held S2 c (.pointer x90) ∧ NonNil x90 fun p91 =>
 ∃ (x93 : Option Addr) (x93N : Nat) (x93C : Nat), Held S2 p91 (.slice x93 x93N x93C) ∧ NonNil x62 fun p95 =>
 ∃ (x97 : Option Addr), Held S2 (p95.add 7) (.pointer x97) ∧ NonNil x97 fun p98 =>
 ∃ (x100 : Int), Held S2 p98 (.int .u32 x100) ∧ InR .u32 (x100 - (1 : Int)) ∧ IdxA x93 x93N (x100 - (1 : Int)) 1 fun q102 =>
 ∃ (x103 : Option Addr), Held S2 q102 (.pointer x103) ∧ NonNil x89 fun p104 =>
 St w1_3.drew (p104.add 7) (.pointer x103) fun w1_5 =>
 J16 w1_5)
 (J16 w1_3))))
 (∃ S : World → Prop, S w_4.drew ∧ ∃ (x107 : Option Addr), Held S c (.pointer x107) ∧ NonNil d fun p110 =>
 ∃ (x112 : Option Addr) (x112N : Nat) (x112C : Nat), Held S (p110.add 1) (.slice x112 x112N x112C) ∧ CallV Tryz.prog (.func (.func 112) #[] #[(.pointer (some c))]) #[(.slice x112 x112N x112C)] w_4.drew R (fun v w1_2 =>
 ∃ (x113 : Option Addr) (x113N : Nat) (x113C : Nat), v = (.slice x113 x113N x113C) ∧
 S w1_2 ∧ NonNil x107 fun p114 =>
 St w1_2 (p114.add 1) (.slice x113 x113N x113C) fun w1_3 =>
 LdP (w1_3.cell? c) fun x116 =>
 R (.returned (.pointer x116)) w1_3))

def F81_l3 (d : Option Addr) (c : Addr) (x27 : Option Addr) (x27N : Nat) (L3 : Int → World → Prop) (x29 : Int) (w_3 : World) (R : Ending → World → Prop) : Prop :=
 Br (decide (x29 < ((x27N : Nat) : Int)))
 (IdxA x27 x27N x29 1 fun q31 =>
 LdP (w_3.cell? q31) fun x32 =>
 NonNil x32 fun p34 =>
 LdI .u32 (w_3.cell? p34) fun x35_0 =>
 LdI .u32 (w_3.cell? (p34.add 1)) fun x35_1 =>
 LdB (w_3.cell? (p34.add 2)) fun x35_2 =>
 LdI .i64 (w_3.cell? (p34.add 3)) fun x35_3 =>
 LdStr (w_3.cell? (p34.add 4)) fun x35_4 =>
 LdSl (w_3.cell? (p34.add 5)) fun x35_5 x35_5N x35_5C =>
 LdStr (w_3.cell? (p34.add 6)) fun x35_6 =>
 LdP (w_3.cell? (p34.add 7)) fun x35_7 =>
 LdSl (w_3.cell? (p34.add 8)) fun x35_8 x35_8N x35_8C =>
 Al w_3 #[(.int .u32 0), (.int .u32 0), (.bool false), (.int .i64 0), (.string (ByteArray.mk #[])), (.slice none 0 0), (.string (ByteArray.mk #[])), (.pointer none), (.slice none 0 0)] 152 fun m_ w1 =>
 St w1 m_ (.int .u32 x35_0) fun w1_2 =>
 St w1_2 (m_.add 1) (.int .u32 x35_1) fun w1_3 =>
 St w1_3 (m_.add 2) (.bool x35_2) fun w1_4 =>
 St w1_4 (m_.add 3) (.int .i64 x35_3) fun w1_5 =>
 St w1_5 (m_.add 4) (.string x35_4) fun w1_6 =>
 St w1_6 (m_.add 5) (.slice x35_5 x35_5N x35_5C) fun w1_7 =>
 St w1_7 (m_.add 6) (.string x35_6) fun w1_8 =>
 St w1_8 (m_.add 7) (.pointer x35_7) fun w1_9 =>
 St w1_9 (m_.add 8) (.slice x35_8 x35_8N x35_8C) fun w1_10 =>
 NonNil x32 fun p37 =>
 LdSl (w1_10.cell? (p37.add 5)) fun x39 x39N x39C =>
 Calls Tryz.prog 86 #[(.slice x39 x39N x39C)] w1_10 (post R fun v w1_11 =>
 ∃ (x40 : Option Addr) (x40N : Nat) (x40C : Nat), v = (.slice x40 x40N x40C) ∧
 St w1_11 (m_.add 5) (.slice x40 x40N x40C) fun w1_12 =>
 ∃ S : World → Prop, S w1_12.drew ∧ ∃ (x42 : Option Addr), Held S c (.pointer x42) ∧ ∃ (x43 : Option Addr), Held S c (.pointer x43) ∧ NonNil x43 fun p44 =>
 ∃ (x46 : Option Addr) (x46N : Nat) (x46C : Nat), Held S p44 (.slice x46 x46N x46C) ∧ Al w1_12.drew #[(.pointer (some m_))] 102 fun g47 w1_14 =>
 S w1_14 ∧ Raw Tryz.prog (Builtin.append_ #[65, 65] 65 #[(.slice x46 x46N x46C), (.slice (some g47) 1 1)]) w1_14 fun v2 w1_15 =>
 ∃ (x48 : Option Addr) (x48N : Nat) (x48C : Nat), v2 = (.slice x48 x48N x48C) ∧
 S w1_15 ∧ NonNil x42 fun p49 =>
 St w1_15 p49 (.slice x48 x48N x48C) fun w1_16 =>
 InR .i64 (x29 + (1 : Int)) ∧ L3 (x29 + (1 : Int)) w1_16))
 (NonNil d fun p54 =>
 LdSl (w_3.cell? p54) fun x56 x56N x56C =>
 ∃ (I : Int → World → Prop) (m : Int → World → Nat), I (0 : Int) w_3 ∧
 ∀ (x58 : Int) (w1 : World), I x58 w1 → F81_l11 d c x56 x56N (fun x58' w2 => I x58' w2 ∧ m x58' w2 < m x58 w1) x58 w1 R)

def F81_j2 (d : Option Addr) (c : Addr) (w_2 : World) (R : Ending → World → Prop) : Prop :=
 NonNil d fun p25 =>
 LdSl (w_2.cell? p25) fun x27 x27N x27C =>
 ∃ (I : Int → World → Prop) (m : Int → World → Nat), I (0 : Int) w_2 ∧
 ∀ (x29 : Int) (w1 : World), I x29 w1 → F81_l3 d c x27 x27N (fun x29' w2 => I x29' w2 ∧ m x29' w2 < m x29 w1) x29 w1 R

def F81 (d : Option Addr) (w_ : World) (R : Ending → World → Prop) : Prop :=
 ∃ J2 : Addr → World → Prop, (∀ (c : Addr) (w1 : World), J2 c w1 → F81_j2 d c w1 R) ∧
 (∃ S : World → Prop, S w_.drew ∧ NonNil d fun p11 =>
 ∃ (x13 : Int), Held S (p11.add 2) (.int .i64 x13) ∧ NonNil d fun p15 =>
 ∃ (x17 : Int), Held S (p15.add 3) (.int .i64 x17) ∧ NonNil d fun p19 =>
 ∃ (x21 : Int), Held S (p19.add 4) (.int .i64 x21) ∧ (Al w_.drew #[(.slice none 0 0), (.slice none 0 0), (.int .i64 x13), (.int .i64 x17), (.int .i64 x21)] 67 fun g23 w1_2 =>
 Al w1_2 #[(.pointer none)] 64 fun c w1_3 =>
 St w1_3 c (.pointer (some g23)) fun w1_4 =>
 J2 c w1_4)
 ∧ (Al w_.drew #[(.pointer none)] 64 fun c w1_2 =>
 S w1_2 ∧ Al w1_2 #[(.slice none 0 0), (.slice none 0 0), (.int .i64 x13), (.int .i64 x17), (.int .i64 x21)] 67 fun g23 w1_3 =>
 St w1_3 c (.pointer (some g23)) fun w1_4 =>
 J2 c w1_4))

def pl81 : Plan := ⟨117, ⟨[]⟩, [(16, ⟨[], [(8, 10), (60, 106)]⟩), (2, ⟨[(3, (.s .addr))], [(3, 24)]⟩)], [(3, ⟨[(29, (.s (.int .i64)))], [(5, 7), (29, 52)]⟩), (11, ⟨[(58, (.s (.int .i64)))], [(8, 10), (58, 107)]⟩)]⟩

theorem eq81 (d : Option Addr) (w : World) (R : Ending → World → Prop) : F81 d w R = vc Tryz.prog Tryz.f81 pl81 R 100000 [.code (bodyOf Tryz.f81)] (argEnv 0 #[(.pointer d)].toList) w := by kernel_rfl

theorem ok81 (d : Option Addr) {w : World} {R : Ending → World → Prop} (h : F81 d w R) : Calls Tryz.prog 81 #[(.pointer d)] w R :=
  vc_calls (pl := pl81) Tryz.func81 (by kernel_rfl) (by kernel_rfl) (by kernel_rfl) (Eq.mp (eq81 d w R) h)

-- (*tree.Doc).Clone$1
def F112_l3 (l : Option Addr) (lN : Nat) (cap0 : Addr) (L3 : Option Addr → Nat → Nat → Int → World → Prop) (out : Option Addr) (outN : Nat) (outC : Nat) (x9 : Int) (w_2 : World) (R : Ending → World → Prop) : Prop :=
 Br (decide (x9 < ((lN : Nat) : Int)))
 (IdxA l lN x9 1 fun q11 =>
 LdP (w_2.cell? q11) fun x12 =>
 ∃ S : World → Prop, S w_2.drew ∧ ∃ (x14 : Option Addr), Held S cap0 (.pointer x14) ∧ NonNil x14 fun p15 =>
 ∃ (x17 : Option Addr) (x17N : Nat) (x17C : Nat), Held S p15 (.slice x17 x17N x17C) ∧ NonNil x12 fun p19 =>
 ∃ (x21 : Int), Held S p19 (.int .u32 x21) ∧ InR .u32 (x21 - (1 : Int)) ∧ IdxA x17 x17N (x21 - (1 : Int)) 1 fun q23 =>
 ∃ (x24 : Option Addr), Held S q23 (.pointer x24) ∧ Al w_2.drew #[(.pointer x24)] 102 fun g25 w1_2 =>
 Raw Tryz.prog (Builtin.append_ #[65, 65] 65 #[(.slice out outN outC), (.slice (some g25) 1 1)]) w1_2 fun v w1_3 =>
 ∃ (x26 : Option Addr) (x26N : Nat) (x26C : Nat), v = (.slice x26 x26N x26C) ∧
 InR .i64 (x9 + (1 : Int)) ∧ L3 x26 x26N x26C (x9 + (1 : Int)) w1_3)
 (R (.returned (.slice out outN outC)) w_2)

def F112 (l : Option Addr) (lN : Nat) (lC : Nat) (cap0 : Addr) (w_ : World) (R : Ending → World → Prop) : Prop :=
 ∃ (I : Option Addr → Nat → Nat → Int → World → Prop) (m : Option Addr → Nat → Nat → Int → World → Nat), I none 0 0 (0 : Int) w_ ∧
 ∀ (out : Option Addr) (outN : Nat) (outC : Nat) (x9 : Int) (w1 : World), I out outN outC x9 w1 → F112_l3 l lN cap0 (fun out' outN' outC' x9' w2 => I out' outN' outC' x9' w2 ∧ m out' outN' outC' x9' w2 < m out outN outC x9 w1) out outN outC x9 w1 R

def pl112 : Plan := ⟨29, ⟨[]⟩, [], [(3, ⟨[(4, (.s .slice)), (9, (.s (.int .i64)))], [(4, 7), (9, 28)]⟩)]⟩

theorem eq112 (l : Option Addr) (lN : Nat) (lC : Nat) (cap0 : Addr) (w : World) (R : Ending → World → Prop) : F112 l lN lC cap0 w R = vc Tryz.prog Tryz.f112 pl112 R 100000 [.code (bodyOf Tryz.f112)] (argEnv 0 #[(.slice l lN lC), (.pointer (some cap0))].toList) w := by kernel_rfl

theorem ok112 (l : Option Addr) (lN : Nat) (lC : Nat) (cap0 : Addr) {w : World} {R : Ending → World → Prop} (h : F112 l lN lC cap0 w R) : Calls Tryz.prog 112 #[(.slice l lN lC), (.pointer (some cap0))] w R :=
  vc_calls (pl := pl112) Tryz.func112 (by kernel_rfl) (by kernel_rfl) (by kernel_rfl) (Eq.mp (eq112 l lN lC cap0 w R) h)

-- (*tree.Doc).Insert
def F22_j10 (d : Option Addr) (where_ : Int) (g7 : Addr) (l : Addr) (x27 : Option Addr) (w_2 : World) (R : Ending → World → Prop) : Prop :=
 Calls Tryz.prog 47 #[(.pointer d), (.int .i64 where_), (.pointer x27)] w_2 (post R fun v4 w1_6 =>
 ∃ (x38_0 : Option Addr) (x38_1 : Int), v4 = (.tuple #[(.pointer x38_0), (.int .i64 x38_1)]) ∧
 Br (x38_1 != (0 : Int))
 (R (.returned (.tuple #[(.int .u64 0), (.int .i64 x38_1)])) w1_6)
 (∃ S : World → Prop, S w1_6.drew ∧ ∃ (x50 : Int), Held S (l.add 1) (.int .i64 x50) ∧ Calls Tryz.prog 48 #[(.pointer x38_0)] w1_6.drew (post R fun v5 w1_8 =>
 ∃ (x47 : Int), v5 = (.int .i64 x47) ∧
 S w1_8 ∧ InR .i64 (x47 + (1 : Int)) ∧ InR .i64 ((x47 + (1 : Int)) + x50) ∧ Br (decide (((x47 + (1 : Int)) + x50) > (64 : Int)))
 (R (.returned (.tuple #[(.int .u64 0), (.int .i64 32)])) w1_8)
 (Dr w1_8 fun w1_9 =>
 NonNil d fun p55 =>
 LdI .i64 (w1_9.cell? (p55.add 2)) fun x57 =>
 NonNil d fun p59 =>
 LdI .i64 (w1_9.cell? (p59.add 3)) fun x61 =>
 InR .i64 (x57 + x61) ∧ LdI .i64 (w1_9.cell? l) fun x64 =>
 InR .i64 ((x57 + x61) + x64) ∧ Br (decide (((x57 + x61) + x64) > (4096 : Int)))
 (R (.returned (.tuple #[(.int .u64 0), (.int .i64 33)])) w1_9)
 (LdI .i64 (w1_9.cell? g7) fun x68_0 =>
 LdStr (w1_9.cell? (g7.add 1)) fun x68_1 =>
 LdSl (w1_9.cell? (g7.add 2)) fun x68_2 x68_2N x68_2C =>
 LdStr (w1_9.cell? (g7.add 3)) fun x68_3 =>
 LdSl (w1_9.cell? (g7.add 4)) fun x68_4 x68_4N x68_4C =>
 Calls Tryz.prog 49 #[(.pointer d), (.agg #[(.int .i64 x68_0), (.string x68_1), (.slice x68_2 x68_2N x68_2C), (.string x68_3), (.slice x68_4 x68_4N x68_4C)]), (.pointer x38_0)] w1_9 (post R fun v6 w1_10 =>
 ∃ (x70 : Option Addr), v6 = (.pointer x70) ∧
 Calls Tryz.prog 50 #[(.pointer d), (.pointer x70), (.pointer x38_0), (.int .i64 where_), (.pointer x27)] w1_10 (post R fun v7 w1_11 =>
 v7 = (.tuple #[]) ∧
 Calls Tryz.prog 51 #[(.pointer x70)] w1_11 (post R fun v8 w1_12 =>
 ∃ (x78 : Int), v8 = (.int .u64 x78) ∧
 R (.returned (.tuple #[(.int .u64 x78), (.int .i64 0)])) w1_12))))))))

def F22 (d : Option Addr) (where_ : Int) (at_ : Int) (x_0 : Int) (x_1 : ByteArray) (x_2 : Option Addr) (x_2N : Nat) (x_2C : Nat) (x_3 : ByteArray) (x_4 : Option Addr) (x_4N : Nat) (x_4C : Nat) (w_ : World) (R : Ending → World → Prop) : Prop :=
 Al w_ #[(.int .i64 x_0), (.string x_1), (.slice x_2 x_2N x_2C), (.string x_3), (.slice x_4 x_4N x_4C)] 73 fun g7 w1 =>
 Calls Tryz.prog 44 #[(.int .i64 where_), (.int .u64 at_)] w1 (post R fun v w1_2 =>
 ∃ (x18 : Bool), v = (.bool x18) ∧
 Br (!x18)
 (R (.returned (.tuple #[(.int .u64 0), (.int .i64 1)])) w1_2)
 (Al w1_2 #[(.int .i64 0), (.int .i64 0)] 100 fun l w1_3 =>
 LdI .i64 (w1_3.cell? g7) fun x20_0 =>
 LdStr (w1_3.cell? (g7.add 1)) fun x20_1 =>
 LdSl (w1_3.cell? (g7.add 2)) fun x20_2 x20_2N x20_2C =>
 LdStr (w1_3.cell? (g7.add 3)) fun x20_3 =>
 LdSl (w1_3.cell? (g7.add 4)) fun x20_4 x20_4N x20_4C =>
 Calls Tryz.prog 45 #[(.pointer (some l)), (.agg #[(.int .i64 x20_0), (.string x20_1), (.slice x20_2 x20_2N x20_2C), (.string x20_3), (.slice x20_4 x20_4N x20_4C)]), (.int .i64 1)] w1_3 (post R fun v2 w1_4 =>
 ∃ (x21 : Int), v2 = (.int .i64 x21) ∧
 Br (x21 != (0 : Int))
 (R (.returned (.tuple #[(.int .u64 0), (.int .i64 x21)])) w1_4)
 (Calls Tryz.prog 46 #[(.pointer d), (.int .u64 at_)] w1_4 (post R fun v3 w1_5 =>
 ∃ (x27 : Option Addr), v3 = (.pointer x27) ∧
 ∃ J10 : World → Prop, (∀  (w1_6 : World), J10 w1_6 → F22_j10 d where_ g7 l x27 w1_6 R) ∧
 (Br (at_ != (0 : Int))
 (Br (x27).isNone
 (R (.returned (.tuple #[(.int .u64 0), (.int .i64 8)])) w1_5)
 (J10 w1_5))
 (J10 w1_5)))))))

def pl22 : Plan := ⟨79, ⟨[]⟩, [(10, ⟨[], [(8, 10), (28, 34)]⟩)], []⟩

theorem eq22 (d : Option Addr) (where_ : Int) (at_ : Int) (x_0 : Int) (x_1 : ByteArray) (x_2 : Option Addr) (x_2N : Nat) (x_2C : Nat) (x_3 : ByteArray) (x_4 : Option Addr) (x_4N : Nat) (x_4C : Nat) (w : World) (R : Ending → World → Prop) : F22 d where_ at_ x_0 x_1 x_2 x_2N x_2C x_3 x_4 x_4N x_4C w R = vc Tryz.prog Tryz.f22 pl22 R 100000 [.code (bodyOf Tryz.f22)] (argEnv 0 #[(.pointer d), (.int .i64 where_), (.int .u64 at_), (.agg #[(.int .i64 x_0), (.string x_1), (.slice x_2 x_2N x_2C), (.string x_3), (.slice x_4 x_4N x_4C)])].toList) w := by kernel_rfl

theorem ok22 (d : Option Addr) (where_ : Int) (at_ : Int) (x_0 : Int) (x_1 : ByteArray) (x_2 : Option Addr) (x_2N : Nat) (x_2C : Nat) (x_3 : ByteArray) (x_4 : Option Addr) (x_4N : Nat) (x_4C : Nat) {w : World} {R : Ending → World → Prop} (h : F22 d where_ at_ x_0 x_1 x_2 x_2N x_2C x_3 x_4 x_4N x_4C w R) : Calls Tryz.prog 22 #[(.pointer d), (.int .i64 where_), (.int .u64 at_), (.agg #[(.int .i64 x_0), (.string x_1), (.slice x_2 x_2N x_2C), (.string x_3), (.slice x_4 x_4N x_4C)])] w R :=
  vc_calls (pl := pl22) Tryz.func22 (by kernel_rfl) (by kernel_rfl) (by kernel_rfl) (Eq.mp (eq22 d where_ at_ x_0 x_1 x_2 x_2N x_2C x_3 x_4 x_4N x_4C w R) h)

-- (*tree.Doc).Parent
def F53 (d : Option Addr) (h_ : Int) (w_ : World) (R : Ending → World → Prop) : Prop :=
 Calls Tryz.prog 46 #[(.pointer d), (.int .u64 h_)] w_ (post R fun v w1 =>
 ∃ (x9 : Option Addr), v = (.pointer x9) ∧
 Br (x9).isNone
 (R (.returned (.tuple #[(.int .u64 0), (.int .i64 8)])) w1)
 (NonNil x9 fun p13 =>
 LdP (w1.cell? (p13.add 7)) fun x15 =>
 Calls Tryz.prog 51 #[(.pointer x15)] w1 (post R fun v2 w1_2 =>
 ∃ (x16 : Int), v2 = (.int .u64 x16) ∧
 R (.returned (.tuple #[(.int .u64 x16), (.int .i64 0)])) w1_2)))

def pl53 : Plan := ⟨17, ⟨[]⟩, [], []⟩

theorem eq53 (d : Option Addr) (h_ : Int) (w : World) (R : Ending → World → Prop) : F53 d h_ w R = vc Tryz.prog Tryz.f53 pl53 R 100000 [.code (bodyOf Tryz.f53)] (argEnv 0 #[(.pointer d), (.int .u64 h_)].toList) w := by kernel_rfl

theorem ok53 (d : Option Addr) (h_ : Int) {w : World} {R : Ending → World → Prop} (h : F53 d h_ w R) : Calls Tryz.prog 53 #[(.pointer d), (.int .u64 h_)] w R :=
  vc_calls (pl := pl53) Tryz.func53 (by kernel_rfl) (by kernel_rfl) (by kernel_rfl) (Eq.mp (eq53 d h_ w R) h)

-- (*tree.Doc).at
def F46_j7 (x28 : Option Addr) (w_3 : World) (R : Ending → World → Prop) : Prop :=
 R (.returned (.pointer x28)) w_3

def F46_j4 (d : Option Addr) (h_ : Int) (w_2 : World) (R : Ending → World → Prop) : Prop :=
 NonNil d fun p22 =>
 LdSl (w_2.cell? p22) fun x24 x24N x24C =>
 InR .u64 ((bAnd .u64 h_ (4294967295 : Int)) - (1 : Int)) ∧ IdxA x24 x24N ((bAnd .u64 h_ (4294967295 : Int)) - (1 : Int)) 1 fun q27 =>
 LdP (w_2.cell? q27) fun x28 =>
 ∃ J7 : World → Prop, (∀  (w1 : World), J7 w1 → F46_j7 x28 w1 R) ∧
 (NonNil x28 fun p30 =>
 LdB (w_2.cell? (p30.add 2)) fun x32 =>
 Br (!x32)
 (R (.returned (.pointer none)) w_2)
 (Calls Tryz.prog 51 #[(.pointer x28)] w_2 (post R fun v w1 =>
 ∃ (x36 : Int), v = (.int .u64 x36) ∧
 Br (x36 != h_)
 (R (.returned (.pointer none)) w1)
 (J7 w1))))

def F46 (d : Option Addr) (h_ : Int) (w_ : World) (R : Ending → World → Prop) : Prop :=
 ∃ J4 : World → Prop, (∀  (w1 : World), J4 w1 → F46_j4 d h_ w1 R) ∧
 (Br ((bAnd .u64 h_ (4294967295 : Int)) == (0 : Int))
 (R (.returned (.pointer none)) w_)
 (NonNil d fun p14 =>
 LdSl (w_.cell? p14) fun x16 x16N x16C =>
 InR .u64 (((x16N : Nat) : Int)) ∧ Br (decide ((bAnd .u64 h_ (4294967295 : Int)) > (((x16N : Nat) : Int))))
 (R (.returned (.pointer none)) w_)
 (J4 w_)))

def pl46 : Plan := ⟨41, ⟨[]⟩, [(7, ⟨[], [(4, 5), (29, 40)]⟩), (4, ⟨[], [(4, 5), (9, 21)]⟩)], []⟩

theorem eq46 (d : Option Addr) (h_ : Int) (w : World) (R : Ending → World → Prop) : F46 d h_ w R = vc Tryz.prog Tryz.f46 pl46 R 100000 [.code (bodyOf Tryz.f46)] (argEnv 0 #[(.pointer d), (.int .u64 h_)].toList) w := by kernel_rfl

theorem ok46 (d : Option Addr) (h_ : Int) {w : World} {R : Ending → World → Prop} (h : F46 d h_ w R) : Calls Tryz.prog 46 #[(.pointer d), (.int .u64 h_)] w R :=
  vc_calls (pl := pl46) Tryz.func46 (by kernel_rfl) (by kernel_rfl) (by kernel_rfl) (Eq.mp (eq46 d h_ w R) h)

-- (*tree.Doc).fresh
def F85_j5 (d : Option Addr) (w_3 : World) (R : Ending → World → Prop) : Prop :=
 Dr w_3 fun w1 =>
 NonNil d fun p80 =>
 LdSl (w1.cell? p80) fun x82 x82N x82C =>
 NonNil d fun p84 =>
 LdI .i64 (w1.cell? (p84.add 4)) fun x86 =>
 IdxA x82 x82N x86 1 fun q87 =>
 LdP (w1.cell? q87) fun x88 =>
 NonNil x88 fun p90 =>
 LdI .u32 (w1.cell? (p90.add 1)) fun x92 =>
 InR .u32 (x92 + (1 : Int)) ∧ NonNil x88 fun p94 =>
 St w1 (p94.add 1) (.int .u32 (x92 + (1 : Int))) fun w1_2 =>
 NonNil x88 fun p97 =>
 St w1_2 (p97.add 2) (.bool true) fun w1_3 =>
 NonNil d fun p100 =>
 LdI .i64 (w1_3.cell? (p100.add 2)) fun x102 =>
 InR .i64 (x102 + (1 : Int)) ∧ NonNil d fun p104 =>
 St w1_3 (p104.add 2) (.int .i64 (x102 + (1 : Int))) fun w1_4 =>
 R (.returned (.pointer x88)) w1_4

def F85_j3 (d : Option Addr) (w_2 : World) (R : Ending → World → Prop) : Prop :=
 ∃ J5 : World → Prop, (∀  (w1 : World), J5 w1 → F85_j5 d w1 R) ∧
 (Dr w_2 fun w1 =>
 NonNil d fun p53 =>
 LdI .i64 (w1.cell? (p53.add 4)) fun x55 =>
 NonNil d fun p57 =>
 LdSl (w1.cell? p57) fun x59 x59N x59C =>
 Br (x55 == ((x59N : Nat) : Int))
 (∃ S : World → Prop, S w1.drew ∧ NonNil d fun p64 =>
 ∃ (x66 : Option Addr) (x66N : Nat) (x66C : Nat), Held S p64 (.slice x66 x66N x66C) ∧ NonNil d fun p68 =>
 ∃ (x70 : Int), Held S (p68.add 4) (.int .i64 x70) ∧ InR .i64 (x70 + (1 : Int)) ∧ InR .u32 ((x70 + (1 : Int))) ∧ Al w1.drew #[(.int .u32 ((x70 + (1 : Int)))), (.int .u32 0), (.bool false), (.int .i64 0), (.string (ByteArray.mk #[])), (.slice none 0 0), (.string (ByteArray.mk #[])), (.pointer none), (.slice none 0 0)] 152 fun g74 w1_3 =>
 S w1_3 ∧ Al w1_3 #[(.pointer (some g74))] 102 fun g75 w1_4 =>
 S w1_4 ∧ Raw Tryz.prog (Builtin.append_ #[65, 65] 65 #[(.slice x66 x66N x66C), (.slice (some g75) 1 1)]) w1_4 fun v w1_5 =>
 ∃ (x76 : Option Addr) (x76N : Nat) (x76C : Nat), v = (.slice x76 x76N x76C) ∧
 NonNil d fun p77 =>
 St w1_5 p77 (.slice x76 x76N x76C) fun w1_6 =>
 J5 w1_6)
 (J5 w1))

def F85_j2 (d : Option Addr) (L1 : World → Prop) (w_3 : World) (R : Ending → World → Prop) : Prop :=
 NonNil d fun p46 =>
 LdI .i64 (w_3.cell? (p46.add 4)) fun x48 =>
 InR .i64 (x48 + (1 : Int)) ∧ NonNil d fun p50 =>
 St w_3 (p50.add 4) (.int .i64 (x48 + (1 : Int))) fun w1 =>
 L1 w1

def F85_l1 (d : Option Addr) (J3 : World → Prop) (L1 : World → Prop) (w_2 : World) (R : Ending → World → Prop) : Prop :=
 ∃ J2 : World → Prop, (∀  (w1 : World), J2 w1 → F85_j2 d L1 w1 R) ∧
 (Dr w_2 fun w1 =>
 NonNil d fun p5 =>
 LdI .i64 (w1.cell? (p5.add 4)) fun x7 =>
 NonNil d fun p9 =>
 LdSl (w1.cell? p9) fun x11 x11N x11C =>
 Br (decide (x7 < ((x11N : Nat) : Int)))
 (NonNil d fun p16 =>
 LdSl (w1.cell? p16) fun x18 x18N x18C =>
 NonNil d fun p20 =>
 LdI .i64 (w1.cell? (p20.add 4)) fun x22 =>
 IdxA x18 x18N x22 1 fun q23 =>
 LdP (w1.cell? q23) fun x24 =>
 NonNil x24 fun p25 =>
 LdB (w1.cell? (p25.add 2)) fun x27 =>
 Br x27
 (J2 w1)
 (NonNil d fun p30 =>
 LdSl (w1.cell? p30) fun x32 x32N x32C =>
 NonNil d fun p34 =>
 LdI .i64 (w1.cell? (p34.add 4)) fun x36 =>
 IdxA x32 x32N x36 1 fun q37 =>
 LdP (w1.cell? q37) fun x38 =>
 NonNil x38 fun p39 =>
 LdI .u32 (w1.cell? (p39.add 1)) fun x41 =>
 Br (x41 == (4294967295 : Int))
 (J2 w1)
 (J3 w1)))
 (J3 w1))

def F85 (d : Option Addr) (w_ : World) (R : Ending → World → Prop) : Prop :=
 ∃ J3 : World → Prop, (∀  (w1 : World), J3 w1 → F85_j3 d w1 R) ∧
 (∃ (I : World → Prop) (m : World → Nat), I  w_ ∧
 ∀  (w1 : World), I  w1 → F85_l1 d J3 (fun  w2 => I  w2 ∧ m  w2 < m  w1)  w1 R)

def pl85 : Plan := ⟨107, ⟨[]⟩, [(2, ⟨[], [(4, 45)]⟩), (5, ⟨[], [(52, 79)]⟩), (3, ⟨[], [(4, 52)]⟩)], [(1, ⟨[], [(4, 52)]⟩)]⟩

theorem eq85 (d : Option Addr) (w : World) (R : Ending → World → Prop) : F85 d w R = vc Tryz.prog Tryz.f85 pl85 R 100000 [.code (bodyOf Tryz.f85)] (argEnv 0 #[(.pointer d)].toList) w := by kernel_rfl

theorem ok85 (d : Option Addr) {w : World} {R : Ending → World → Prop} (h : F85 d w R) : Calls Tryz.prog 85 #[(.pointer d)] w R :=
  vc_calls (pl := pl85) Tryz.func85 (by kernel_rfl) (by kernel_rfl) (by kernel_rfl) (Eq.mp (eq85 d w R) h)

-- (*tree.Doc).list
def F87 (d : Option Addr) (n : Option Addr) (w_ : World) (R : Ending → World → Prop) : Prop :=
 Br (n).isNone
 (NonNil d fun p8 =>
 R (.returned (.pointer (some (p8.add 1)))) w_)
 (NonNil n fun p11 =>
 R (.returned (.pointer (some (p11.add 8)))) w_)

def pl87 : Plan := ⟨13, ⟨[]⟩, [], []⟩

theorem eq87 (d : Option Addr) (n : Option Addr) (w : World) (R : Ending → World → Prop) : F87 d n w R = vc Tryz.prog Tryz.f87 pl87 R 100000 [.code (bodyOf Tryz.f87)] (argEnv 0 #[(.pointer d), (.pointer n)].toList) w := by kernel_rfl

theorem ok87 (d : Option Addr) (n : Option Addr) {w : World} {R : Ending → World → Prop} (h : F87 d n w R) : Calls Tryz.prog 87 #[(.pointer d), (.pointer n)] w R :=
  vc_calls (pl := pl87) Tryz.func87 (by kernel_rfl) (by kernel_rfl) (by kernel_rfl) (Eq.mp (eq87 d n w R) h)

-- (*tree.Doc).make
def F49_l8 (d : Option Addr) (x11 : Option Addr) (x42 : Option Addr) (x42N : Nat) (L8 : Int → World → Prop) (x44 : Int) (w_2 : World) (R : Ending → World → Prop) : Prop :=
 Br (decide (x44 < ((x42N : Nat) : Int)))
 (IdxA x42 x42N x44 5 fun q46 =>
 LdI .i64 (w_2.cell? q46) fun x47_0 =>
 LdStr (w_2.cell? (q46.add 1)) fun x47_1 =>
 LdSl (w_2.cell? (q46.add 2)) fun x47_2 x47_2N x47_2C =>
 LdStr (w_2.cell? (q46.add 3)) fun x47_3 =>
 LdSl (w_2.cell? (q46.add 4)) fun x47_4 x47_4N x47_4C =>
 Al w_2 #[(.int .i64 0), (.string (ByteArray.mk #[])), (.slice none 0 0), (.string (ByteArray.mk #[])), (.slice none 0 0)] 73 fun k w1_9 =>
 St w1_9 k (.int .i64 x47_0) fun w1_10 =>
 St w1_10 (k.add 1) (.string x47_1) fun w1_11 =>
 St w1_11 (k.add 2) (.slice x47_2 x47_2N x47_2C) fun w1_12 =>
 St w1_12 (k.add 3) (.string x47_3) fun w1_13 =>
 St w1_13 (k.add 4) (.slice x47_4 x47_4N x47_4C) fun w1_14 =>
 ∃ S2 : World → Prop, S2 w1_14.drew ∧ NonNil x11 fun p50 =>
 ∃ (x52 : Option Addr) (x52N : Nat) (x52C : Nat), Held S2 (p50.add 8) (.slice x52 x52N x52C) ∧ ∃ (x54_0 : Int), Held S2 k (.int .i64 x54_0) ∧ ∃ (x54_1 : ByteArray), Held S2 (k.add 1) (.string x54_1) ∧ ∃ (x54_2 : Option Addr) (x54_2N : Nat) (x54_2C : Nat), Held S2 (k.add 2) (.slice x54_2 x54_2N x54_2C) ∧ ∃ (x54_3 : ByteArray), Held S2 (k.add 3) (.string x54_3) ∧ ∃ (x54_4 : Option Addr) (x54_4N : Nat) (x54_4C : Nat), Held S2 (k.add 4) (.slice x54_4 x54_4N x54_4C) ∧ Calls Tryz.prog 49 #[(.pointer d), (.agg #[(.int .i64 x54_0), (.string x54_1), (.slice x54_2 x54_2N x54_2C), (.string x54_3), (.slice x54_4 x54_4N x54_4C)]), (.pointer x11)] w1_14.drew (post R fun v3 w1_16 =>
 ∃ (x56 : Option Addr), v3 = (.pointer x56) ∧
 S2 w1_16 ∧ Al w1_16 #[(.pointer x56)] 102 fun g57 w1_17 =>
 S2 w1_17 ∧ Raw Tryz.prog (Builtin.append_ #[65, 65] 65 #[(.slice x52 x52N x52C), (.slice (some g57) 1 1)]) w1_17 fun v4 w1_18 =>
 ∃ (x58 : Option Addr) (x58N : Nat) (x58C : Nat), v4 = (.slice x58 x58N x58C) ∧
 NonNil x11 fun p59 =>
 St w1_18 (p59.add 8) (.slice x58 x58N x58C) fun w1_19 =>
 InR .i64 (x44 + (1 : Int)) ∧ L8 (x44 + (1 : Int)) w1_19))
 (R (.returned (.pointer x11)) w_2)

def F49 (d : Option Addr) (x_0 : Int) (x_1 : ByteArray) (x_2 : Option Addr) (x_2N : Nat) (x_2C : Nat) (x_3 : ByteArray) (x_4 : Option Addr) (x_4N : Nat) (x_4C : Nat) (parent : Option Addr) (w_ : World) (R : Ending → World → Prop) : Prop :=
 Al w_ #[(.int .i64 x_0), (.string x_1), (.slice x_2 x_2N x_2C), (.string x_3), (.slice x_4 x_4N x_4C)] 73 fun g4 w1 =>
 Calls Tryz.prog 85 #[(.pointer d)] w1 (post R fun v w1_2 =>
 ∃ (x11 : Option Addr), v = (.pointer x11) ∧
 LdI .i64 (w1_2.cell? g4) fun x15 =>
 NonNil x11 fun p17 =>
 St w1_2 (p17.add 3) (.int .i64 x15) fun w1_3 =>
 NonNil x11 fun p19 =>
 St w1_3 (p19.add 7) (.pointer parent) fun w1_4 =>
 LdI .i64 (w1_4.cell? g4) fun x22 =>
 Br (x22 == (2 : Int))
 (LdStr (w1_4.cell? (g4.add 3)) fun x26 =>
 NonNil x11 fun p27 =>
 St w1_4 (p27.add 6) (.string x26) fun w1_5 =>
 R (.returned (.pointer x11)) w1_5)
 (∃ S : World → Prop, S w1_4.drew ∧ ∃ (x33 : ByteArray), Held S (g4.add 1) (.string x33) ∧ ∃ (x35 : Option Addr) (x35N : Nat) (x35C : Nat), Held S (g4.add 2) (.slice x35 x35N x35C) ∧ Calls Tryz.prog 86 #[(.slice x35 x35N x35C)] w1_4.drew (post R fun v2 w1_6 =>
 ∃ (x36 : Option Addr) (x36N : Nat) (x36C : Nat), v2 = (.slice x36 x36N x36C) ∧
 S w1_6 ∧ NonNil x11 fun p37 =>
 St w1_6 (p37.add 4) (.string x33) fun w1_7 =>
 NonNil x11 fun p39 =>
 St w1_7 (p39.add 5) (.slice x36 x36N x36C) fun w1_8 =>
 LdSl (w1_8.cell? (g4.add 4)) fun x42 x42N x42C =>
 ∃ (I : Int → World → Prop) (m : Int → World → Nat), I (0 : Int) w1_8 ∧
 ∀ (x44 : Int) (w1_9 : World), I x44 w1_9 → F49_l8 d x11 x42 x42N (fun x44' w2 => I x44' w2 ∧ m x44' w2 < m x44 w1_9) x44 w1_9 R)))

def pl49 : Plan := ⟨63, ⟨[]⟩, [], [(8, ⟨[(44, (.s (.int .i64)))], [(9, 10), (44, 62)]⟩)]⟩

theorem eq49 (d : Option Addr) (x_0 : Int) (x_1 : ByteArray) (x_2 : Option Addr) (x_2N : Nat) (x_2C : Nat) (x_3 : ByteArray) (x_4 : Option Addr) (x_4N : Nat) (x_4C : Nat) (parent : Option Addr) (w : World) (R : Ending → World → Prop) : F49 d x_0 x_1 x_2 x_2N x_2C x_3 x_4 x_4N x_4C parent w R = vc Tryz.prog Tryz.f49 pl49 R 100000 [.code (bodyOf Tryz.f49)] (argEnv 0 #[(.pointer d), (.agg #[(.int .i64 x_0), (.string x_1), (.slice x_2 x_2N x_2C), (.string x_3), (.slice x_4 x_4N x_4C)]), (.pointer parent)].toList) w := by kernel_rfl

theorem ok49 (d : Option Addr) (x_0 : Int) (x_1 : ByteArray) (x_2 : Option Addr) (x_2N : Nat) (x_2C : Nat) (x_3 : ByteArray) (x_4 : Option Addr) (x_4N : Nat) (x_4C : Nat) (parent : Option Addr) {w : World} {R : Ending → World → Prop} (h : F49 d x_0 x_1 x_2 x_2N x_2C x_3 x_4 x_4N x_4C parent w R) : Calls Tryz.prog 49 #[(.pointer d), (.agg #[(.int .i64 x_0), (.string x_1), (.slice x_2 x_2N x_2C), (.string x_3), (.slice x_4 x_4N x_4C)]), (.pointer parent)] w R :=
  vc_calls (pl := pl49) Tryz.func49 (by kernel_rfl) (by kernel_rfl) (by kernel_rfl) (Eq.mp (eq49 d x_0 x_1 x_2 x_2N x_2C x_3 x_4 x_4N x_4C parent w R) h)

-- (*tree.Doc).parent
def F47_j5 (at_ : Option Addr) (w_2 : World) (R : Ending → World → Prop) : Prop :=
 R (.returned (.tuple #[(.pointer at_), (.int .i64 0)])) w_2

def F47 (d : Option Addr) (where_ : Int) (at_ : Option Addr) (w_ : World) (R : Ending → World → Prop) : Prop :=
 ∃ J5 : World → Prop, (∀  (w1 : World), J5 w1 → F47_j5 at_ w1 R) ∧
 (Br (decide (where_ > (2 : Int)))
 (NonNil at_ fun p12 =>
 LdP (w_.cell? (p12.add 7)) fun x14 =>
 R (.returned (.tuple #[(.pointer x14), (.int .i64 0)])) w_)
 (Br (!(at_).isNone)
 (NonNil at_ fun p20 =>
 LdI .i64 (w_.cell? (p20.add 3)) fun x22 =>
 Br (x22 == (2 : Int))
 (R (.returned (.tuple #[(.pointer none), (.int .i64 31)])) w_)
 (J5 w_))
 (J5 w_)))

def pl47 : Plan := ⟨26, ⟨[]⟩, [(5, ⟨[], [(6, 25)]⟩)], []⟩

theorem eq47 (d : Option Addr) (where_ : Int) (at_ : Option Addr) (w : World) (R : Ending → World → Prop) : F47 d where_ at_ w R = vc Tryz.prog Tryz.f47 pl47 R 100000 [.code (bodyOf Tryz.f47)] (argEnv 0 #[(.pointer d), (.int .i64 where_), (.pointer at_)].toList) w := by kernel_rfl

theorem ok47 (d : Option Addr) (where_ : Int) (at_ : Option Addr) {w : World} {R : Ending → World → Prop} (h : F47 d where_ at_ w R) : Calls Tryz.prog 47 #[(.pointer d), (.int .i64 where_), (.pointer at_)] w R :=
  vc_calls (pl := pl47) Tryz.func47 (by kernel_rfl) (by kernel_rfl) (by kernel_rfl) (Eq.mp (eq47 d where_ at_ w R) h)

-- (*tree.Doc).put
def F50_j9 (n : Option Addr) (parent : Option Addr) (x14 : Option Addr) (i : Int) (w_2 : World) (R : Ending → World → Prop) : Prop :=
 NonNil x14 fun p39 =>
 LdSl (w_2.cell? p39) fun x40 x40N x40C =>
 Al w_2 #[(.pointer n)] 102 fun g43 w1_2 =>
 Calls Tryz.prog 89 #[(.slice x40 x40N x40C), (.int .i64 i), (.slice (some g43) 1 1)] w1_2 (post R fun v2 w1_3 =>
 ∃ (x44 : Option Addr) (x44N : Nat) (x44C : Nat), v2 = (.slice x44 x44N x44C) ∧
 NonNil x14 fun p45 =>
 St w1_3 p45 (.slice x44 x44N x44C) fun w1_4 =>
 NonNil n fun p48 =>
 St w1_4 (p48.add 7) (.pointer parent) fun w1_5 =>
 R (.returned (.tuple #[])) w1_5)

def F50 (d : Option Addr) (n : Option Addr) (parent : Option Addr) (where_ : Int) (at_ : Option Addr) (w_ : World) (R : Ending → World → Prop) : Prop :=
 Calls Tryz.prog 87 #[(.pointer d), (.pointer parent)] w_ (post R fun v w1 =>
 ∃ (x14 : Option Addr), v = (.pointer x14) ∧
 ∃ J9 : Int → World → Prop, (∀ (i : Int) (w1_2 : World), J9 i w1_2 → F50_j9 n parent x14 i w1_2 R) ∧
 (Br (where_ == (2 : Int))
 (NonNil x14 fun p19 =>
 LdSl (w1.cell? p19) fun x20 x20N x20C =>
 J9 ((x20N : Nat) : Int) w1)
 (Br (where_ == (3 : Int))
 (NonNil x14 fun p25 =>
 LdSl (w1.cell? p25) fun x26 x26N x26C =>
 Calls Tryz.prog 88 #[(.slice x26 x26N x26C), (.pointer at_)] w1 (post R fun v2 w1_2 =>
 ∃ (x28 : Int), v2 = (.int .i64 x28) ∧
 J9 x28 w1_2))
 (Br (where_ == (4 : Int))
 (NonNil x14 fun p32 =>
 LdSl (w1.cell? p32) fun x33 x33N x33C =>
 Calls Tryz.prog 88 #[(.slice x33 x33N x33C), (.pointer at_)] w1 (post R fun v2 w1_2 =>
 ∃ (x35 : Int), v2 = (.int .i64 x35) ∧
 InR .i64 (x35 + (1 : Int)) ∧ J9 (x35 + (1 : Int)) w1_2))
 (J9 (0 : Int) w1)))))

def pl50 : Plan := ⟨50, ⟨[]⟩, [(9, ⟨[(11, (.s (.int .i64)))], [(11, 37)]⟩)], []⟩

theorem eq50 (d : Option Addr) (n : Option Addr) (parent : Option Addr) (where_ : Int) (at_ : Option Addr) (w : World) (R : Ending → World → Prop) : F50 d n parent where_ at_ w R = vc Tryz.prog Tryz.f50 pl50 R 100000 [.code (bodyOf Tryz.f50)] (argEnv 0 #[(.pointer d), (.pointer n), (.pointer parent), (.int .i64 where_), (.pointer at_)].toList) w := by kernel_rfl

theorem ok50 (d : Option Addr) (n : Option Addr) (parent : Option Addr) (where_ : Int) (at_ : Option Addr) {w : World} {R : Ending → World → Prop} (h : F50 d n parent where_ at_ w R) : Calls Tryz.prog 50 #[(.pointer d), (.pointer n), (.pointer parent), (.int .i64 where_), (.pointer at_)] w R :=
  vc_calls (pl := pl50) Tryz.func50 (by kernel_rfl) (by kernel_rfl) (by kernel_rfl) (Eq.mp (eq50 d n parent where_ at_ w R) h)

-- (*tree.loader).hang
-- (*tree.looker).look
def F45_l11 (l : Option Addr) (deep : Int) (x45 : Option Addr) (x45N : Nat) (L11 : Int → World → Prop) (x47 : Int) (w_3 : World) (R : Ending → World → Prop) : Prop :=
 Br (decide (x47 < ((x45N : Nat) : Int)))
 (IdxA x45 x45N x47 5 fun q49 =>
 LdI .i64 (w_3.cell? q49) fun x50_0 =>
 LdStr (w_3.cell? (q49.add 1)) fun x50_1 =>
 LdSl (w_3.cell? (q49.add 2)) fun x50_2 x50_2N x50_2C =>
 LdStr (w_3.cell? (q49.add 3)) fun x50_3 =>
 LdSl (w_3.cell? (q49.add 4)) fun x50_4 x50_4N x50_4C =>
 Al w_3 #[(.int .i64 0), (.string (ByteArray.mk #[])), (.slice none 0 0), (.string (ByteArray.mk #[])), (.slice none 0 0)] 73 fun k w1_5 =>
 St w1_5 k (.int .i64 x50_0) fun w1_6 =>
 St w1_6 (k.add 1) (.string x50_1) fun w1_7 =>
 St w1_7 (k.add 2) (.slice x50_2 x50_2N x50_2C) fun w1_8 =>
 St w1_8 (k.add 3) (.string x50_3) fun w1_9 =>
 St w1_9 (k.add 4) (.slice x50_4 x50_4N x50_4C) fun w1_10 =>
 LdI .i64 (w1_10.cell? k) fun x52_0 =>
 LdStr (w1_10.cell? (k.add 1)) fun x52_1 =>
 LdSl (w1_10.cell? (k.add 2)) fun x52_2 x52_2N x52_2C =>
 LdStr (w1_10.cell? (k.add 3)) fun x52_3 =>
 LdSl (w1_10.cell? (k.add 4)) fun x52_4 x52_4N x52_4C =>
 InR .i64 (deep + (1 : Int)) ∧ Calls Tryz.prog 45 #[(.pointer l), (.agg #[(.int .i64 x52_0), (.string x52_1), (.slice x52_2 x52_2N x52_2C), (.string x52_3), (.slice x52_4 x52_4N x52_4C)]), (.int .i64 (deep + (1 : Int)))] w1_10 (post R fun v2 w1_11 =>
 ∃ (x55 : Int), v2 = (.int .i64 x55) ∧
 Br (x55 != (0 : Int))
 (R (.returned (.int .i64 x55)) w1_11)
 (InR .i64 (x47 + (1 : Int)) ∧ L11 (x47 + (1 : Int)) w1_11)))
 (R (.returned (.int .i64 0)) w_3)

def F45_j3 (l : Option Addr) (deep : Int) (g4 : Addr) (w_2 : World) (R : Ending → World → Prop) : Prop :=
 LdI .i64 (w_2.cell? g4) fun x20_0 =>
 LdStr (w_2.cell? (g4.add 1)) fun x20_1 =>
 LdSl (w_2.cell? (g4.add 2)) fun x20_2 x20_2N x20_2C =>
 LdStr (w_2.cell? (g4.add 3)) fun x20_3 =>
 LdSl (w_2.cell? (g4.add 4)) fun x20_4 x20_4N x20_4C =>
 Calls Tryz.prog 84 #[(.agg #[(.int .i64 x20_0), (.string x20_1), (.slice x20_2 x20_2N x20_2C), (.string x20_3), (.slice x20_4 x20_4N x20_4C)])] w_2 (post R fun v w1_2 =>
 ∃ (x21 : Int), v = (.int .i64 x21) ∧
 Br (x21 != (0 : Int))
 (R (.returned (.int .i64 x21)) w1_2)
 (NonNil l fun p26 =>
 LdI .i64 (w1_2.cell? p26) fun x28 =>
 InR .i64 (x28 + (1 : Int)) ∧ NonNil l fun p30 =>
 St w1_2 p30 (.int .i64 (x28 + (1 : Int))) fun w1_3 =>
 NonNil l fun p34 =>
 LdI .i64 (w1_3.cell? (p34.add 1)) fun x36 =>
 NonNil l fun p39 =>
 St w1_3 (p39.add 1) (.int .i64 (if deep > x36 then deep else x36)) fun w1_4 =>
 LdI .i64 (w1_4.cell? g4) fun x42 =>
 Br (x42 == (2 : Int))
 (R (.returned (.int .i64 0)) w1_4)
 (LdSl (w1_4.cell? (g4.add 4)) fun x45 x45N x45C =>
 ∃ (I : Int → World → Prop) (m : Int → World → Nat), I (0 : Int) w1_4 ∧
 ∀ (x47 : Int) (w1_5 : World), I x47 w1_5 → F45_l11 l deep x45 x45N (fun x47' w2 => I x47' w2 ∧ m x47' w2 < m x47 w1_5) x47 w1_5 R)))

def F45 (l : Option Addr) (x_0 : Int) (x_1 : ByteArray) (x_2 : Option Addr) (x_2N : Nat) (x_2C : Nat) (x_3 : ByteArray) (x_4 : Option Addr) (x_4N : Nat) (x_4C : Nat) (deep : Int) (w_ : World) (R : Ending → World → Prop) : Prop :=
 Al w_ #[(.int .i64 x_0), (.string x_1), (.slice x_2 x_2N x_2C), (.string x_3), (.slice x_4 x_4N x_4C)] 73 fun g4 w1 =>
 ∃ J3 : World → Prop, (∀  (w1_2 : World), J3 w1_2 → F45_j3 l deep g4 w1_2 R) ∧
 (Br (decide (deep > (64 : Int)))
 (R (.returned (.int .i64 2)) w1)
 (NonNil l fun p15 =>
 LdI .i64 (w1.cell? p15) fun x17 =>
 Br (decide (x17 ≥ (4096 : Int)))
 (R (.returned (.int .i64 2)) w1)
 (J3 w1)))

def pl45 : Plan := ⟨60, ⟨[]⟩, [(3, ⟨[], [(6, 20)]⟩)], [(11, ⟨[(47, (.s (.int .i64)))], [(6, 11), (47, 60)]⟩)]⟩

theorem eq45 (l : Option Addr) (x_0 : Int) (x_1 : ByteArray) (x_2 : Option Addr) (x_2N : Nat) (x_2C : Nat) (x_3 : ByteArray) (x_4 : Option Addr) (x_4N : Nat) (x_4C : Nat) (deep : Int) (w : World) (R : Ending → World → Prop) : F45 l x_0 x_1 x_2 x_2N x_2C x_3 x_4 x_4N x_4C deep w R = vc Tryz.prog Tryz.f45 pl45 R 100000 [.code (bodyOf Tryz.f45)] (argEnv 0 #[(.pointer l), (.agg #[(.int .i64 x_0), (.string x_1), (.slice x_2 x_2N x_2C), (.string x_3), (.slice x_4 x_4N x_4C)]), (.int .i64 deep)].toList) w := by kernel_rfl

theorem ok45 (l : Option Addr) (x_0 : Int) (x_1 : ByteArray) (x_2 : Option Addr) (x_2N : Nat) (x_2C : Nat) (x_3 : ByteArray) (x_4 : Option Addr) (x_4N : Nat) (x_4C : Nat) (deep : Int) {w : World} {R : Ending → World → Prop} (h : F45 l x_0 x_1 x_2 x_2N x_2C x_3 x_4 x_4N x_4C deep w R) : Calls Tryz.prog 45 #[(.pointer l), (.agg #[(.int .i64 x_0), (.string x_1), (.slice x_2 x_2N x_2C), (.string x_3), (.slice x_4 x_4N x_4C)]), (.int .i64 deep)] w R :=
  vc_calls (pl := pl45) Tryz.func45 (by kernel_rfl) (by kernel_rfl) (by kernel_rfl) (Eq.mp (eq45 l x_0 x_1 x_2 x_2N x_2C x_3 x_4 x_4N x_4C deep w R) h)

-- (*tree.node).handle
def F51 (n : Option Addr) (w_ : World) (R : Ending → World → Prop) : Prop :=
 Br (n).isNone
 (R (.returned (.int .u64 0)) w_)
 (Dr w_ fun w1 =>
 NonNil n fun p6 =>
 LdI .u32 (w1.cell? (p6.add 1)) fun x8 =>
 InR .u64 (x8) ∧ InR .u64 ((x8) * (2 ^ (min ((32 : Int)).toNat 64))) ∧ NonNil n fun p12 =>
 LdI .u32 (w1.cell? p12) fun x14 =>
 InR .u64 (x14) ∧ R (.returned (.int .u64 (bOr .u64 ((x8) * (2 ^ (min ((32 : Int)).toNat 64))) (x14)))) w1)

def pl51 : Plan := ⟨17, ⟨[]⟩, [], []⟩

theorem eq51 (n : Option Addr) (w : World) (R : Ending → World → Prop) : F51 n w R = vc Tryz.prog Tryz.f51 pl51 R 100000 [.code (bodyOf Tryz.f51)] (argEnv 0 #[(.pointer n)].toList) w := by kernel_rfl

theorem ok51 (n : Option Addr) {w : World} {R : Ending → World → Prop} (h : F51 n w R) : Calls Tryz.prog 51 #[(.pointer n)] w R :=
  vc_calls (pl := pl51) Tryz.func51 (by kernel_rfl) (by kernel_rfl) (by kernel_rfl) (Eq.mp (eq51 n w R) h)

-- (tree.slot).node
-- tree.Load
-- tree.all
def F52_l2 (l : Option Addr) (lN : Nat) (L2 : Option Addr → Nat → Nat → Int → World → Prop) (out2 : Option Addr) (outN2 : Nat) (outC2 : Nat) (x9 : Int) (w_2 : World) (R : Ending → World → Prop) : Prop :=
 Br (decide (x9 < ((lN : Nat) : Int)))
 (IdxA l lN x9 1 fun q11 =>
 LdP (w_2.cell? q11) fun x12 =>
 ∃ S : World → Prop, S w_2.drew ∧ NonNil x12 fun p14 =>
 ∃ (x16 : Option Addr) (x16N : Nat) (x16C : Nat), Held S (p14.add 8) (.slice x16 x16N x16C) ∧ Calls Tryz.prog 51 #[(.pointer x12)] w_2.drew (post R fun v w1_2 =>
 ∃ (x19 : Int), v = (.int .u64 x19) ∧
 S w1_2 ∧ Al w1_2 #[(.int .u64 x19)] 41 fun g20 w1_3 =>
 S w1_3 ∧ Raw Tryz.prog (Builtin.append_ #[27, 27] 27 #[(.slice out2 outN2 outC2), (.slice (some g20) 1 1)]) w1_3 fun v2 w1_4 =>
 ∃ (x21 : Option Addr) (x21N : Nat) (x21C : Nat), v2 = (.slice x21 x21N x21C) ∧
 S w1_4 ∧ Calls Tryz.prog 52 #[(.slice x16 x16N x16C), (.slice x21 x21N x21C)] w1_4 (post R fun v3 w1_5 =>
 ∃ (x22 : Option Addr) (x22N : Nat) (x22C : Nat), v3 = (.slice x22 x22N x22C) ∧
 InR .i64 (x9 + (1 : Int)) ∧ L2 x22 x22N x22C (x9 + (1 : Int)) w1_5)))
 (R (.returned (.slice out2 outN2 outC2)) w_2)

def F52 (l : Option Addr) (lN : Nat) (lC : Nat) (out : Option Addr) (outN : Nat) (outC : Nat) (w_ : World) (R : Ending → World → Prop) : Prop :=
 ∃ (I : Option Addr → Nat → Nat → Int → World → Prop) (m : Option Addr → Nat → Nat → Int → World → Nat), I out outN outC (0 : Int) w_ ∧
 ∀ (out2 : Option Addr) (outN2 : Nat) (outC2 : Nat) (x9 : Int) (w1 : World), I out2 outN2 outC2 x9 w1 → F52_l2 l lN (fun out2' outN2' outC2' x9' w2 => I out2' outN2' outC2' x9' w2 ∧ m out2' outN2' outC2' x9' w2 < m out2 outN2 outC2 x9 w1) out2 outN2 outC2 x9 w1 R

def pl52 : Plan := ⟨25, ⟨[]⟩, [], [(2, ⟨[(1, (.s .slice)), (9, (.s (.int .i64)))], [(1, 7), (9, 24)]⟩)]⟩

theorem eq52 (l : Option Addr) (lN : Nat) (lC : Nat) (out : Option Addr) (outN : Nat) (outC : Nat) (w : World) (R : Ending → World → Prop) : F52 l lN lC out outN outC w R = vc Tryz.prog Tryz.f52 pl52 R 100000 [.code (bodyOf Tryz.f52)] (argEnv 0 #[(.slice l lN lC), (.slice out outN outC)].toList) w := by kernel_rfl

theorem ok52 (l : Option Addr) (lN : Nat) (lC : Nat) (out : Option Addr) (outN : Nat) (outC : Nat) {w : World} {R : Ending → World → Prop} (h : F52 l lN lC out outN outC w R) : Calls Tryz.prog 52 #[(.slice l lN lC), (.slice out outN outC)] w R :=
  vc_calls (pl := pl52) Tryz.func52 (by kernel_rfl) (by kernel_rfl) (by kernel_rfl) (Eq.mp (eq52 l lN lC out outN outC w R) h)

-- tree.attrs
def F116_j8 (L4 : Int → World → Prop) (x12 : Int) (a : Addr) (w_3 : World) (R : Ending → World → Prop) : Prop :=
 LdStr (w_3.cell? (a.add 1)) fun x38 =>
 Calls Tryz.prog 117 #[(.string x38)] w_3 (post R fun v w1_4 =>
 ∃ (x39_0 : Int) (x39_1 : Int), v = (.tuple #[(.int .i64 x39_0), (.int .i64 x39_1)]) ∧
 Br (x39_1 != (0 : Int))
 (R (.returned (.int .i64 x39_1)) w1_4)
 (InR .i64 (x12 + (1 : Int)) ∧ L4 (x12 + (1 : Int)) w1_4))

def F116_l4 (l : Option Addr) (lN : Nat) (L4 : Int → World → Prop) (x12 : Int) (w_2 : World) (R : Ending → World → Prop) : Prop :=
 Br (decide (x12 < ((lN : Nat) : Int)))
 (IdxA l lN x12 2 fun q15 =>
 LdStr (w_2.cell? q15) fun x16_0 =>
 LdStr (w_2.cell? (q15.add 1)) fun x16_1 =>
 Al w_2 #[(.string (ByteArray.mk #[])), (.string (ByteArray.mk #[]))] 156 fun a w1 =>
 St w1 a (.string x16_0) fun w1_2 =>
 St w1_2 (a.add 1) (.string x16_1) fun w1_3 =>
 ∃ J8 : World → Prop, (∀  (w1_4 : World), J8 w1_4 → F116_j8 L4 x12 a w1_4 R) ∧
 (∃ S : World → Prop, S w1_3.drew ∧ ∃ (x18 : ByteArray), Held S a (.string x18) ∧ Calls Tryz.prog 115 #[(.string x18)] w1_3.drew (post R fun v w1_5 =>
 ∃ (x19 : Bool), v = (.bool x19) ∧
 S w1_5 ∧ Br (!x19)
 (R (.returned (.int .i64 6)) w1_5)
 (Br (decide (x12 > (0 : Int)))
 (∃ (x26 : ByteArray), Held S a (.string x26) ∧ InR .i64 (x12 - (1 : Int)) ∧ IdxA l lN (x12 - (1 : Int)) 2 fun q30 =>
 ∃ (x32 : ByteArray), Held S q30 (.string x32) ∧ Br ((Op.bytesLess x26.toList x32.toList) || (x26.toList == x32.toList))
 (R (.returned (.int .i64 6)) w1_5)
 (J8 w1_5))
 (J8 w1_5)))))
 (R (.returned (.int .i64 0)) w_2)

def F116 (l : Option Addr) (lN : Nat) (lC : Nat) (w_ : World) (R : Ending → World → Prop) : Prop :=
 Br (decide (((lN : Nat) : Int) > (32 : Int)))
 (R (.returned (.int .i64 2)) w_)
 (∃ (I : Int → World → Prop) (m : Int → World → Nat), I (0 : Int) w_ ∧
 ∀ (x12 : Int) (w1 : World), I x12 w1 → F116_l4 l lN (fun x12' w2 => I x12' w2 ∧ m x12' w2 < m x12 w1) x12 w1 R)

def pl116 : Plan := ⟨46, ⟨[]⟩, [(8, ⟨[], [(2, 3), (17, 36)]⟩)], [(4, ⟨[(12, (.s (.int .i64)))], [(2, 7), (12, 46)]⟩)]⟩

theorem eq116 (l : Option Addr) (lN : Nat) (lC : Nat) (w : World) (R : Ending → World → Prop) : F116 l lN lC w R = vc Tryz.prog Tryz.f116 pl116 R 100000 [.code (bodyOf Tryz.f116)] (argEnv 0 #[(.slice l lN lC)].toList) w := by kernel_rfl

theorem ok116 (l : Option Addr) (lN : Nat) (lC : Nat) {w : World} {R : Ending → World → Prop} (h : F116 l lN lC w R) : Calls Tryz.prog 116 #[(.slice l lN lC)] w R :=
  vc_calls (pl := pl116) Tryz.func116 (by kernel_rfl) (by kernel_rfl) (by kernel_rfl) (Eq.mp (eq116 l lN lC w R) h)

-- tree.level
def F48_l2 (L2 : Option Addr → Int → World → Prop) (n2 : Option Addr) (i : Int) (w_2 : World) (R : Ending → World → Prop) : Prop :=
 Br (!(n2).isNone)
 (InR .i64 (i + (1 : Int)) ∧ NonNil n2 fun p7 =>
 LdP (w_2.cell? (p7.add 7)) fun x9 =>
 L2 x9 (i + (1 : Int)) w_2)
 (R (.returned (.int .i64 i)) w_2)

def F48 (n : Option Addr) (w_ : World) (R : Ending → World → Prop) : Prop :=
 ∃ (I : Option Addr → Int → World → Prop) (m : Option Addr → Int → World → Nat), I n ((-1) : Int) w_ ∧
 ∀ (n2 : Option Addr) (i : Int) (w1 : World), I n2 i w1 → F48_l2 (fun n2' i' w2 => I n2' i' w2 ∧ m n2' i' w2 < m n2 i w1) n2 i w1 R

def pl48 : Plan := ⟨13, ⟨[]⟩, [], [(2, ⟨[(0, (.s .ptr)), (3, (.s (.int .i64)))], [(0, 12)]⟩)]⟩

theorem eq48 (n : Option Addr) (w : World) (R : Ending → World → Prop) : F48 n w R = vc Tryz.prog Tryz.f48 pl48 R 100000 [.code (bodyOf Tryz.f48)] (argEnv 0 #[(.pointer n)].toList) w := by kernel_rfl

theorem ok48 (n : Option Addr) {w : World} {R : Ending → World → Prop} (h : F48 n w R) : Calls Tryz.prog 48 #[(.pointer n)] w R :=
  vc_calls (pl := pl48) Tryz.func48 (by kernel_rfl) (by kernel_rfl) (by kernel_rfl) (Eq.mp (eq48 n w R) h)

-- tree.own
def F84 (x_0 : Int) (x_1 : ByteArray) (x_2 : Option Addr) (x_2N : Nat) (x_2C : Nat) (x_3 : ByteArray) (x_4 : Option Addr) (x_4N : Nat) (x_4C : Nat) (w_ : World) (R : Ending → World → Prop) : Prop :=
 Al w_ #[(.int .i64 x_0), (.string x_1), (.slice x_2 x_2N x_2C), (.string x_3), (.slice x_4 x_4N x_4C)] 73 fun g1 w1 =>
 LdI .i64 (w1.cell? g1) fun x6 =>
 Br (x6 == (1 : Int))
 (LdStr (w1.cell? (g1.add 1)) fun x10 =>
 Calls Tryz.prog 115 #[(.string x10)] w1 (post R fun v w1_2 =>
 ∃ (x11 : Bool), v = (.bool x11) ∧
 Br (!x11)
 (R (.returned (.int .i64 6)) w1_2)
 (LdSl (w1_2.cell? (g1.add 2)) fun x14 x14N x14C =>
 Calls Tryz.prog 116 #[(.slice x14 x14N x14C)] w1_2 (post R fun v2 w1_3 =>
 ∃ (x15 : Int), v2 = (.int .i64 x15) ∧
 R (.returned (.int .i64 x15)) w1_3))))
 (Br (x6 == (2 : Int))
 (LdStr (w1.cell? (g1.add 3)) fun x20 =>
 Calls Tryz.prog 117 #[(.string x20)] w1 (post R fun v w1_2 =>
 ∃ (x21_0 : Int) (x21_1 : Int), v = (.tuple #[(.int .i64 x21_0), (.int .i64 x21_1)]) ∧
 R (.returned (.int .i64 x21_1)) w1_2))
 (R (.returned (.int .i64 1)) w1))

def pl84 : Plan := ⟨25, ⟨[]⟩, [], []⟩

theorem eq84 (x_0 : Int) (x_1 : ByteArray) (x_2 : Option Addr) (x_2N : Nat) (x_2C : Nat) (x_3 : ByteArray) (x_4 : Option Addr) (x_4N : Nat) (x_4C : Nat) (w : World) (R : Ending → World → Prop) : F84 x_0 x_1 x_2 x_2N x_2C x_3 x_4 x_4N x_4C w R = vc Tryz.prog Tryz.f84 pl84 R 100000 [.code (bodyOf Tryz.f84)] (argEnv 0 #[(.agg #[(.int .i64 x_0), (.string x_1), (.slice x_2 x_2N x_2C), (.string x_3), (.slice x_4 x_4N x_4C)])].toList) w := by kernel_rfl

theorem ok84 (x_0 : Int) (x_1 : ByteArray) (x_2 : Option Addr) (x_2N : Nat) (x_2C : Nat) (x_3 : ByteArray) (x_4 : Option Addr) (x_4N : Nat) (x_4C : Nat) {w : World} {R : Ending → World → Prop} (h : F84 x_0 x_1 x_2 x_2N x_2C x_3 x_4 x_4N x_4C w R) : Calls Tryz.prog 84 #[(.agg #[(.int .i64 x_0), (.string x_1), (.slice x_2 x_2N x_2C), (.string x_3), (.slice x_4 x_4N x_4C)])] w R :=
  vc_calls (pl := pl84) Tryz.func84 (by kernel_rfl) (by kernel_rfl) (by kernel_rfl) (Eq.mp (eq84 x_0 x_1 x_2 x_2N x_2C x_3 x_4 x_4N x_4C w R) h)

-- tree.shaped
def F44 (where_ : Int) (at_ : Int) (w_ : World) (R : Ending → World → Prop) : Prop :=
 Br (decide (where_ ≥ (1 : Int)))
 (Br (decide (where_ ≤ (4 : Int)))
 (Br (at_ != (0 : Int))
 (R (.returned (.bool true)) w_)
 (R (.returned (.bool (decide (where_ ≤ (2 : Int))))) w_))
 (R (.returned (.bool false)) w_))
 (R (.returned (.bool false)) w_)

def pl44 : Plan := ⟨19, ⟨[]⟩, [], []⟩

theorem eq44 (where_ : Int) (at_ : Int) (w : World) (R : Ending → World → Prop) : F44 where_ at_ w R = vc Tryz.prog Tryz.f44 pl44 R 100000 [.code (bodyOf Tryz.f44)] (argEnv 0 #[(.int .i64 where_), (.int .u64 at_)].toList) w := by kernel_rfl

theorem ok44 (where_ : Int) (at_ : Int) {w : World} {R : Ending → World → Prop} (h : F44 where_ at_ w R) : Calls Tryz.prog 44 #[(.int .i64 where_), (.int .u64 at_)] w R :=
  vc_calls (pl := pl44) Tryz.func44 (by kernel_rfl) (by kernel_rfl) (by kernel_rfl) (Eq.mp (eq44 where_ at_ w R) h)

-- slices.Clone[[]api.Attr,api.Attr]
def F86 (s : Option Addr) (sN : Nat) (sC : Nat) (w_ : World) (R : Ending → World → Prop) : Prop :=
 Br (s).isNone
 (R (.returned (.slice none 0 0)) w_)
 (Al w_ #[] 156 fun g5 w1 =>
 Raw Tryz.prog (Builtin.append_ #[70, 70] 70 #[(.slice (some g5) 0 0), (.slice s sN sC)]) w1 fun v w1_2 =>
 ∃ (x7 : Option Addr) (x7N : Nat) (x7C : Nat), v = (.slice x7 x7N x7C) ∧
 R (.returned (.slice x7 x7N x7C)) w1_2)

def pl86 : Plan := ⟨8, ⟨[]⟩, [], []⟩

theorem eq86 (s : Option Addr) (sN : Nat) (sC : Nat) (w : World) (R : Ending → World → Prop) : F86 s sN sC w R = vc Tryz.prog Tryz.f86 pl86 R 100000 [.code (bodyOf Tryz.f86)] (argEnv 0 #[(.slice s sN sC)].toList) w := by kernel_rfl

theorem ok86 (s : Option Addr) (sN : Nat) (sC : Nat) {w : World} {R : Ending → World → Prop} (h : F86 s sN sC w R) : Calls Tryz.prog 86 #[(.slice s sN sC)] w R :=
  vc_calls (pl := pl86) Tryz.func86 (by kernel_rfl) (by kernel_rfl) (by kernel_rfl) (Eq.mp (eq86 s sN sC w R) h)

-- slices.Index[[]*tree.node,*tree.node]
def F88_l2 (s : Option Addr) (sN : Nat) (v : Option Addr) (L2 : Int → World → Prop) (x8 : Int) (w_2 : World) (R : Ending → World → Prop) : Prop :=
 Br (decide (x8 < ((sN : Nat) : Int)))
 (IdxA s sN x8 1 fun q14 =>
 LdP (w_2.cell? q14) fun x15 =>
 PtrOk w_2 v x15 ∧ Br (decide (v = x15))
 (R (.returned (.int .i64 x8)) w_2)
 (InR .i64 (x8 + (1 : Int)) ∧ L2 (x8 + (1 : Int)) w_2))
 (R (.returned (.int .i64 (-1))) w_2)

def F88 (s : Option Addr) (sN : Nat) (sC : Nat) (v : Option Addr) (w_ : World) (R : Ending → World → Prop) : Prop :=
 ∃ (I : Int → World → Prop) (m : Int → World → Nat), I (0 : Int) w_ ∧
 ∀ (x8 : Int) (w1 : World), I x8 w1 → F88_l2 s sN v (fun x8' w2 => I x8' w2 ∧ m x8' w2 < m x8 w1) x8 w1 R

def pl88 : Plan := ⟨19, ⟨[]⟩, [], [(2, ⟨[(8, (.s (.int .i64)))], [(4, 6), (8, 19)]⟩)]⟩

theorem eq88 (s : Option Addr) (sN : Nat) (sC : Nat) (v : Option Addr) (w : World) (R : Ending → World → Prop) : F88 s sN sC v w R = vc Tryz.prog Tryz.f88 pl88 R 100000 [.code (bodyOf Tryz.f88)] (argEnv 0 #[(.slice s sN sC), (.pointer v)].toList) w := by kernel_rfl

theorem ok88 (s : Option Addr) (sN : Nat) (sC : Nat) (v : Option Addr) {w : World} {R : Ending → World → Prop} (h : F88 s sN sC v w R) : Calls Tryz.prog 88 #[(.slice s sN sC), (.pointer v)] w R :=
  vc_calls (pl := pl88) Tryz.func88 (by kernel_rfl) (by kernel_rfl) (by kernel_rfl) (Eq.mp (eq88 s sN sC v w R) h)

-- slices.Insert[[]*tree.node,*tree.node]
def F89 (s : Option Addr) (sN : Nat) (sC : Nat) (i : Int) (v : Option Addr) (vN : Nat) (vC : Nat) (w_ : World) (R : Ending → World → Prop) : Prop :=
 SlB i ((sN : Nat) : Int) ((sC : Nat) : Int)
 (Br (((vN : Nat) : Int) == (0 : Int))
 (R (.returned (.slice s sN sC)) w_)
 (Br (i == ((sN : Nat) : Int))
 (Raw Tryz.prog (Builtin.append_ #[65, 65] 65 #[(.slice s sN sC), (.slice v vN vC)]) w_ fun v2 w1 =>
 ∃ (x25 : Option Addr) (x25N : Nat) (x25C : Nat), v2 = (.slice x25 x25N x25C) ∧
 R (.returned (.slice x25 x25N x25C)) w1)
 (InR .i64 (((sN : Nat) : Int) + ((vN : Nat) : Int)) ∧ Br (decide ((((sN : Nat) : Int) + ((vN : Nat) : Int)) > ((sC : Nat) : Int)))
 (SlB 0 i ((sC : Nat) : Int)
 (InR .i64 (((sN : Nat) : Int) + ((vN : Nat) : Int)) ∧ InR .i64 ((((sN : Nat) : Int) + ((vN : Nat) : Int)) - i) ∧ Raw Tryz.prog (Builtin.append_ #[65, 3] 65 #[(.slice s (i).toNat sC), (.int .i64 ((((sN : Nat) : Int) + ((vN : Nat) : Int)) - i))]) w_ fun v2 w1 =>
 ∃ (x40 : Option Addr) (x40N : Nat) (x40C : Nat), v2 = (.slice x40 x40N x40C) ∧
 SlB i ((x40N : Nat) : Int) ((x40C : Nat) : Int)
 (Raw Tryz.prog (Builtin.copy_ #[65, 65] 3 #[(.slice (SlA x40 x40C (i).toNat 1) ((((x40N : Nat) : Int)).toNat - (i).toNat) (x40C - (i).toNat)), (.slice v vN vC)]) w1 fun v3 w1_2 =>
 ∃ (x45 : Int), v3 = (.int .i64 x45) ∧
 ∃ S : World → Prop, S w1_2.drew ∧ InR .i64 (i + ((vN : Nat) : Int)) ∧ SlB (i + ((vN : Nat) : Int)) ((x40N : Nat) : Int) ((x40C : Nat) : Int)
 (SlB i ((sN : Nat) : Int) ((sC : Nat) : Int)
 (Raw Tryz.prog (Builtin.copy_ #[65, 65] 3 #[(.slice (SlA x40 x40C ((i + ((vN : Nat) : Int))).toNat 1) ((((x40N : Nat) : Int)).toNat - ((i + ((vN : Nat) : Int))).toNat) (x40C - ((i + ((vN : Nat) : Int))).toNat)), (.slice (SlA s sC (i).toNat 1) ((((sN : Nat) : Int)).toNat - (i).toNat) (sC - (i).toNat))]) w1_2.drew fun v4 w1_4 =>
 ∃ (x54 : Int), v4 = (.int .i64 x54) ∧
 R (.returned (.slice x40 x40N x40C)) w1_4)))))
 (InR .i64 (((sN : Nat) : Int) + ((vN : Nat) : Int)) ∧ SlB 0 (((sN : Nat) : Int) + ((vN : Nat) : Int)) ((sC : Nat) : Int)
 (InR .i64 (i + ((vN : Nat) : Int)) ∧ SlB (i + ((vN : Nat) : Int)) ((((((sN : Nat) : Int) + ((vN : Nat) : Int))).toNat : Nat) : Int) ((sC : Nat) : Int)
 (ByRow Tryz.prog 118 #[(.slice v vN vC), (.slice (SlA s sC ((i + ((vN : Nat) : Int))).toNat 1) ((((((((sN : Nat) : Int) + ((vN : Nat) : Int))).toNat : Nat) : Int)).toNat - ((i + ((vN : Nat) : Int))).toNat) (sC - ((i + ((vN : Nat) : Int))).toNat))] w_ (fun v2 w1 =>
 ∃ (x67 : Bool), v2 = (.bool x67) ∧
 Br (!x67)
 (∃ S : World → Prop, S w1.drew ∧ InR .i64 (i + ((vN : Nat) : Int)) ∧ SlB (i + ((vN : Nat) : Int)) ((((((sN : Nat) : Int) + ((vN : Nat) : Int))).toNat : Nat) : Int) ((sC : Nat) : Int)
 (SlB i ((((((sN : Nat) : Int) + ((vN : Nat) : Int))).toNat : Nat) : Int) ((sC : Nat) : Int)
 (Raw Tryz.prog (Builtin.copy_ #[65, 65] 3 #[(.slice (SlA s sC ((i + ((vN : Nat) : Int))).toNat 1) ((((((((sN : Nat) : Int) + ((vN : Nat) : Int))).toNat : Nat) : Int)).toNat - ((i + ((vN : Nat) : Int))).toNat) (sC - ((i + ((vN : Nat) : Int))).toNat)), (.slice (SlA s sC (i).toNat 1) ((((((((sN : Nat) : Int) + ((vN : Nat) : Int))).toNat : Nat) : Int)).toNat - (i).toNat) (sC - (i).toNat))]) w1.drew fun v3 w1_3 =>
 ∃ (x77 : Int), v3 = (.int .i64 x77) ∧
 SlB i ((((((sN : Nat) : Int) + ((vN : Nat) : Int))).toNat : Nat) : Int) ((sC : Nat) : Int)
 (Raw Tryz.prog (Builtin.copy_ #[65, 65] 3 #[(.slice (SlA s sC (i).toNat 1) ((((((((sN : Nat) : Int) + ((vN : Nat) : Int))).toNat : Nat) : Int)).toNat - (i).toNat) (sC - (i).toNat)), (.slice v vN vC)]) w1_3 fun v4 w1_4 =>
 ∃ (x82 : Int), v4 = (.int .i64 x82) ∧
 R (.returned (.slice s ((((sN : Nat) : Int) + ((vN : Nat) : Int))).toNat sC)) w1_4))))
 (SlB ((sN : Nat) : Int) ((((((sN : Nat) : Int) + ((vN : Nat) : Int))).toNat : Nat) : Int) ((sC : Nat) : Int)
 (Raw Tryz.prog (Builtin.copy_ #[65, 65] 3 #[(.slice (SlA s sC (((sN : Nat) : Int)).toNat 1) ((((((((sN : Nat) : Int) + ((vN : Nat) : Int))).toNat : Nat) : Int)).toNat - (((sN : Nat) : Int)).toNat) (sC - (((sN : Nat) : Int)).toNat)), (.slice v vN vC)]) w1 fun v3 w1_2 =>
 ∃ (x88 : Int), v3 = (.int .i64 x88) ∧
 SlB i ((((((sN : Nat) : Int) + ((vN : Nat) : Int))).toNat : Nat) : Int) ((sC : Nat) : Int)
 (Calls Tryz.prog 119 #[(.slice (SlA s sC (i).toNat 1) ((((((((sN : Nat) : Int) + ((vN : Nat) : Int))).toNat : Nat) : Int)).toNat - (i).toNat) (sC - (i).toNat)), (.int .i64 ((vN : Nat) : Int))] w1_2 (post R fun v4 w1_3 =>
 v4 = (.tuple #[]) ∧
 R (.returned (.slice s ((((sN : Nat) : Int) + ((vN : Nat) : Int))).toNat sC)) w1_3)))))))))))

def pl89 : Plan := ⟨95, ⟨[]⟩, [], []⟩

theorem eq89 (s : Option Addr) (sN : Nat) (sC : Nat) (i : Int) (v : Option Addr) (vN : Nat) (vC : Nat) (w : World) (R : Ending → World → Prop) : F89 s sN sC i v vN vC w R = vc Tryz.prog Tryz.f89 pl89 R 100000 [.code (bodyOf Tryz.f89)] (argEnv 0 #[(.slice s sN sC), (.int .i64 i), (.slice v vN vC)].toList) w := by kernel_rfl

theorem ok89 (s : Option Addr) (sN : Nat) (sC : Nat) (i : Int) (v : Option Addr) (vN : Nat) (vC : Nat) {w : World} {R : Ending → World → Prop} (h : F89 s sN sC i v vN vC w R) : Calls Tryz.prog 89 #[(.slice s sN sC), (.int .i64 i), (.slice v vN vC)] w R :=
  vc_calls (pl := pl89) Tryz.func89 (by kernel_rfl) (by kernel_rfl) (by kernel_rfl) (Eq.mp (eq89 s sN sC i v vN vC w R) h)

end Go.Proofs.YtfhkgnfphfmhiaaGreatDoor
/- Documents of the program: a node's cells; the copy of attributes; pointers in a row. -/
namespace Go.Proofs.YtfhkgnfphfmhiaaGreatDoor
open Go.RowKit Go.Vc
set_option linter.unusedSimpArgs false
/-- A node's cells. -/
def nodeC (i : Nat) (s : Sl) (a : Sv) (par : Option Addr) (kv : Sv) : Array Value := #[.int .u32 (i + 1 : Nat), .int .u32 (s.gen : Nat), .bool s.live, .int .i64 s.kind, .string s.nm, .slice a.1 a.2.1 a.2.2, .string s.text, .pointer par, .slice kv.1 kv.2.1 kv.2.2]
/-- Pointers to blocks in a row. -/
def LPt : Lay Nat := ⟨1, fun b => [.pointer (some ⟨b, 0, none⟩)], fun _ => rfl, fun _ => by simp [Value.oneCell'], by decide⟩
theorem Rd.pt {w : World} {A : Option Addr} {c : Nat} {xs : List Nat} (h : Rd LPt w A c xs) {n : Nat} (hn : n = xs.length) {i : Int} {k : Nat} (hi : i = k) (hk : k < xs.length) {K : Addr → Prop}
    (hK : ∀ b o, w.cell? ⟨b, o, none⟩ = some (.pointer (some ⟨xs[k], 0, none⟩)) → K ⟨b, o, none⟩) : IdxA A n i 1 K := by
  subst hi
  refine h.idx hn (by omega) (by omega) rfl fun b o hc => ?_
  simp only [Int.toNat_natCast] at hc
  exact hK b o (hc 0 _ rfl)
end Go.Proofs.YtfhkgnfphfmhiaaGreatDoor
namespace Go.Proofs.YtfhkgnfphfmhiaaGreatDoor
open Go.Vc
-- chars.Name
def F115_j9 (L4 : Int → World → Prop) (x20 : Int) (w_4 : World) (R : Ending → World → Prop) : Prop :=
 InR .i64 (x20 + (1 : Int)) ∧ L4 (x20 + (1 : Int)) w_4

def F115_l4 (s : ByteArray) (L4 : Int → World → Prop) (x20 : Int) (w_3 : World) (R : Ending → World → Prop) : Prop :=
 Br (decide (x20 < ((s.size : Nat) : Int)))
 (∃ J9 : World → Prop, (∀  (w1 : World), J9 w1 → F115_j9 L4 x20 w1 R) ∧
 (IdxS s x20 fun c25 =>
 Calls Tryz.prog 138 #[(.int .u8 c25)] w_3 (post R fun v w1 =>
 ∃ (x27 : Bool), v = (.bool x27) ∧
 Br (!x27)
 (Br (decide (c25 < (48 : Int)))
 (Br (c25 != (45 : Int))
 (Br (c25 != (46 : Int))
 (R (.returned (.bool false)) w1)
 (J9 w1))
 (J9 w1))
 (Br (decide (c25 > (57 : Int)))
 (Br (c25 != (45 : Int))
 (Br (c25 != (46 : Int))
 (R (.returned (.bool false)) w1)
 (J9 w1))
 (J9 w1))
 (J9 w1)))
 (J9 w1))))
 (R (.returned (.bool true)) w_3)

def F115_j3 (s : ByteArray) (w_2 : World) (R : Ending → World → Prop) : Prop :=
 ∃ (I : Int → World → Prop) (m : Int → World → Nat), I (0 : Int) w_2 ∧
 ∀ (x20 : Int) (w1 : World), I x20 w1 → F115_l4 s (fun x20' w2 => I x20' w2 ∧ m x20' w2 < m x20 w1) x20 w1 R

def F115 (s : ByteArray) (w_ : World) (R : Ending → World → Prop) : Prop :=
 ∃ J3 : World → Prop, (∀  (w1 : World), J3 w1 → F115_j3 s w1 R) ∧
 (Br (s.toList == (ByteArray.mk #[]).toList)
 (R (.returned (.bool false)) w_)
 (Br (decide (((s.size : Nat) : Int) > (32 : Int)))
 (R (.returned (.bool false)) w_)
 (IdxS s (0 : Int) fun c14 =>
 Calls Tryz.prog 138 #[(.int .u8 c14)] w_ (post R fun v w1 =>
 ∃ (x15 : Bool), v = (.bool x15) ∧
 Br (!x15)
 (R (.returned (.bool false)) w1)
 (J3 w1)))))

def pl115 : Plan := ⟨46, ⟨[]⟩, [(9, ⟨[], [(2, 5), (22, 45)]⟩), (3, ⟨[], [(2, 18)]⟩)], [(4, ⟨[(20, (.s (.int .i64)))], [(2, 5), (20, 46)]⟩)]⟩

theorem eq115 (s : ByteArray) (w : World) (R : Ending → World → Prop) : F115 s w R = vc Tryz.prog Tryz.f115 pl115 R 100000 [.code (bodyOf Tryz.f115)] (argEnv 0 #[(.string s)].toList) w := by kernel_rfl

theorem ok115 (s : ByteArray) {w : World} {R : Ending → World → Prop} (h : F115 s w R) : Calls Tryz.prog 115 #[(.string s)] w R :=
  vc_calls (pl := pl115) Tryz.func115 (by kernel_rfl) (by kernel_rfl) (by kernel_rfl) (Eq.mp (eq115 s w R) h)

-- chars.Text
def F117 (s : ByteArray) (w_ : World) (R : Ending → World → Prop) : Prop :=
 Calls Tryz.prog 139 #[(.string s)] w_ (post R fun v w1 =>
 ∃ (x5_0 : Int) (x5_1 : Int), v = (.tuple #[(.int .i64 x5_0), (.int .i64 x5_1)]) ∧
 R (.returned (.tuple #[(.int .i64 x5_0), (.int .i64 x5_1)])) w1)

def pl117 : Plan := ⟨8, ⟨[]⟩, [], []⟩

theorem eq117 (s : ByteArray) (w : World) (R : Ending → World → Prop) : F117 s w R = vc Tryz.prog Tryz.f117 pl117 R 100000 [.code (bodyOf Tryz.f117)] (argEnv 0 #[(.string s)].toList) w := by kernel_rfl

theorem ok117 (s : ByteArray) {w : World} {R : Ending → World → Prop} (h : F117 s w R) : Calls Tryz.prog 117 #[(.string s)] w R :=
  vc_calls (pl := pl117) Tryz.func117 (by kernel_rfl) (by kernel_rfl) (by kernel_rfl) (Eq.mp (eq117 s w R) h)

-- chars.letter
def F138 (c : Int) (w_ : World) (R : Ending → World → Prop) : Prop :=
 Br (decide (c ≥ (97 : Int)))
 (Br (decide (c ≤ (122 : Int)))
 (R (.returned (.bool true)) w_)
 (Br (decide (c ≥ (65 : Int)))
 (Br (decide (c ≤ (90 : Int)))
 (R (.returned (.bool true)) w_)
 (R (.returned (.bool (c == (95 : Int)))) w_))
 (R (.returned (.bool (c == (95 : Int)))) w_)))
 (Br (decide (c ≥ (65 : Int)))
 (Br (decide (c ≤ (90 : Int)))
 (R (.returned (.bool true)) w_)
 (R (.returned (.bool (c == (95 : Int)))) w_))
 (R (.returned (.bool (c == (95 : Int)))) w_))

def pl138 : Plan := ⟨21, ⟨[]⟩, [], []⟩

theorem eq138 (c : Int) (w : World) (R : Ending → World → Prop) : F138 c w R = vc Tryz.prog Tryz.f138 pl138 R 100000 [.code (bodyOf Tryz.f138)] (argEnv 0 #[(.int .u8 c)].toList) w := by kernel_rfl

theorem ok138 (c : Int) {w : World} {R : Ending → World → Prop} (h : F138 c w R) : Calls Tryz.prog 138 #[(.int .u8 c)] w R :=
  vc_calls (pl := pl138) Tryz.func138 (by kernel_rfl) (by kernel_rfl) (by kernel_rfl) (Eq.mp (eq138 c w R) h)

-- chars.text
-- espalierref02.Bad
-- espalierref02.Begins
-- espalierref02.In
-- espalierref02.Name
-- espalierref02.Text
end Go.Proofs.YtfhkgnfphfmhiaaGreatDoor
/- Documents: names (as in TwName). -/
namespace Go.Proofs.YtfhkgnfphfmhiaaGreatDoor
open Go.RowKit Go.Vc
set_option linter.unusedSimpArgs false
def begins (c : UInt8) : Bool := (97 ≤ c && c ≤ 122) || (65 ≤ c && c ≤ 90) || c == 95
def inn (c : UInt8) : Bool := begins c || (48 ≤ c && c ≤ 57) || c == 45 || c == 46
def maxName : Nat := 32
theorem begins_inn {c : UInt8} (h : begins c = true) : inn c = true := by simp [inn, h]
theorem bytes_eq (a b : ByteArray) : (a.toList == b.toList) = decide (a = b) := by
  rw [ByteArray.toList_eq, ByteArray.toList_eq]
  by_cases h : a = b
  · subst h; simp
  · rw [decide_eq_false h]
    obtain ⟨⟨a⟩⟩ := a
    obtain ⟨⟨b⟩⟩ := b
    simp only [beq_eq_false_iff_ne, ne_eq]
    intro e
    apply h
    rw [show a = b from e]
theorem begins_eq (c : UInt8) : begins c = decide ((97 ≤ c.toNat ∧ c.toNat ≤ 122) ∨ (65 ≤ c.toNat ∧ c.toNat ≤ 90) ∨ c.toNat = 95) := by
  rw [Bool.eq_iff_iff]
  simp only [begins, Bool.or_eq_true, Bool.and_eq_true, decide_eq_true_eq, beq_iff_eq, UInt8.le_iff_toNat_le, ← UInt8.toNat_inj, UInt8.reduceToNat, or_assoc]
theorem inn_eq (c : UInt8) : inn c = (begins c || decide ((48 ≤ c.toNat ∧ c.toNat ≤ 57) ∨ c.toNat = 45 ∨ c.toNat = 46)) := by
  rw [Bool.eq_iff_iff]
  simp only [inn, Bool.or_eq_true, Bool.and_eq_true, decide_eq_true_eq, beq_iff_eq, UInt8.le_iff_toNat_le, ← UInt8.toNat_inj, UInt8.reduceToNat, or_assoc]
section
variable {w : World}
end
section
variable {w : World} {R : Ending → World → Prop}
theorem letter_F {c : UInt8} {w : World} {R : Ending → World → Prop} (h : R (.returned (.bool (begins c))) w) : F138 c.toNat w R := by
  unfold F138
  rw [begins_eq] at h
  have t : ((97 ≤ c.toNat ∧ c.toNat ≤ 122) ∨ (65 ≤ c.toNat ∧ c.toNat ≤ 90) ∨ c.toNat = 95) → R (.returned (.bool true)) w := fun k => by rw [decide_eq_true k] at h; exact h
  have f : ¬ ((97 ≤ c.toNat ∧ c.toNat ≤ 122) ∨ (65 ≤ c.toNat ∧ c.toNat ≤ 90)) → R (.returned (.bool ((c.toNat : Int) == 95))) w := fun k => by
    have e : ((c.toNat : Int) == 95) = decide ((97 ≤ c.toNat ∧ c.toNat ≤ 122) ∨ (65 ≤ c.toNat ∧ c.toNat ≤ 90) ∨ c.toNat = 95) := by
      rw [Bool.eq_iff_iff]; simp; omega
    rw [e]; exact h
  repeat' refine brd (fun _ => ?_) (fun _ => ?_)
  all_goals first | exact t (by omega) | exact f (by omega)
theorem letter_calls {c : UInt8} (h : R (.returned (.bool (begins c))) w) : Calls Tryz.prog 138 #[.int .u8 (c.toNat : Int)] w R := ok138 _ (letter_F h)
/-- Can this be a name? -/
def isName (a : ByteArray) : Bool := match a.data.toList with
  | [] => false
  | c :: r => decide ((c :: r).length ≤ maxName) && begins c && r.all inn
theorem ba_get {s : ByteArray} {i : Nat} (h : i < s.size) : s[i]? = some s[i] := by
  exact getElem?_pos s i h
theorem ba_list {s : ByteArray} {i : Nat} (h : i < s.size) : s.data.toList[i]? = some s[i] := by
  rw [List.getElem?_eq_getElem (by simpa using h)]
  exact congrArg some (by simp; rfl)
theorem name_calls {s : ByteArray} (h : R (.returned (.bool (isName s))) w) : Calls Tryz.prog 115 #[.string s] w R := by
  refine ok115 _ ?_
  unfold F115
  have hz : s.data.toList.length = s.size := by simp
  cases hs : s.data.toList with
  | nil =>
    have e : isName s = false := by simp [isName, hs]
    rw [e] at h
    have hsz : s = ByteArray.mk #[] := by
      obtain ⟨⟨l⟩⟩ := s
      have : l = [] := hs
      subst this; rfl
    refine ⟨fun _ => False, fun _ hf => hf.elim, ?_⟩
    rw [bytes_eq, decide_eq_true hsz]
    exact h
  | cons c r =>
    rw [hs] at hz
    have hne : s ≠ ByteArray.mk #[] := by rintro rfl; simp at hs
    have h0 : 0 < s.size := by rw [← hz]; simp
    have hc : s[0] = c := by
      have := ba_list h0
      rw [hs] at this
      simpa using this.symm
    refine ⟨fun w1 => w1 = w ∧ s.size ≤ 32 ∧ begins c = true, ?_, ?_⟩
    · rintro w1 ⟨rfl, h32, hb⟩
      unfold F115_j3
      refine ⟨fun i w1' => ∃ k : Nat, i = k ∧ k ≤ s.size ∧ w1' = w1 ∧ ∀ x ∈ s.data.toList.take k, inn x = true, fun i _ => s.size - i.toNat, ⟨0, rfl, by omega, rfl, by simp⟩, ?_⟩
      rintro i w2 ⟨k, rfl, hk, rfl, hall⟩
      unfold F115_l4
      refine brd (fun hlt => ?_) (fun hge => ?_)
      · have hlt' : k < s.size := by omega
        have next : inn s[k] = true → ∀ x ∈ s.data.toList.take (k + 1), inn x = true := fun hi x hx => by
          rw [List.take_add_one, ba_list hlt'] at hx
          rcases List.mem_append.1 hx with hx | hx
          · exact hall x hx
          · simp at hx; subst hx; exact hi
        refine ⟨fun w3 => w3 = w2 ∧ inn s[k] = true, ?_, ?_⟩
        · rintro w3 ⟨rfl, hi⟩
          unfold F115_j9
          exact ⟨inR_i64 (by omega) (by omega), ⟨k + 1, by simp, by omega, rfl, next hi⟩, by dsimp only; omega⟩
        · refine ⟨by omega, s[k], by simp [ba_get hlt'], ?_⟩
          refine letter_calls ⟨_, rfl, ?_⟩
          have hR : inn s[k] = false → R (.returned (.bool false)) w2 := fun hi => by
            have e : isName s = false := by
              simp only [isName, hs]
              rw [Bool.and_eq_false_iff]
              have hk0 : k ≠ 0 := by rintro rfl; rw [hc, begins_inn hb] at hi; cases hi
              right
              rw [List.all_eq_false]
              refine ⟨s[k], ?_, by simp [hi]⟩
              have h1 := ba_list hlt'
              rw [hs] at h1
              obtain ⟨k', rfl⟩ : ∃ k', k = k' + 1 := ⟨k - 1, by omega⟩
              rw [List.getElem?_cons_succ] at h1
              exact List.mem_of_getElem? h1
            rw [e] at h; exact h
          have hin := inn_eq s[k]
          cases hbk : begins s[k] with
          | true => exact ⟨rfl, begins_inn hbk⟩
          | false =>
            rw [hbk, Bool.false_or] at hin
            rw [Bool.not_false, Br_t]
            have yes : ((48 ≤ s[k].toNat ∧ s[k].toNat ≤ 57) ∨ s[k].toNat = 45 ∨ s[k].toNat = 46) → w2 = w2 ∧ inn s[k] = true := fun hh => ⟨rfl, by rw [hin, decide_eq_true hh]⟩
            have no : ¬ ((48 ≤ s[k].toNat ∧ s[k].toNat ≤ 57) ∨ s[k].toNat = 45 ∨ s[k].toNat = 46) → R (.returned (.bool false)) w2 := fun hh => hR (by rw [hin, decide_eq_false hh])
            repeat' (first | refine brd (fun _ => ?_) (fun _ => ?_) | refine brn (fun _ => ?_) (fun _ => ?_))
            all_goals first | exact yes (by omega) | exact no (by omega)
      · obtain rfl : k = s.size := by omega
        have e : isName s = true := by
          simp only [isName, hs]
          rw [List.take_of_length_le (by rw [hs]; omega), hs] at hall
          simp only [Bool.and_eq_true, decide_eq_true_eq, List.all_eq_true]
          exact ⟨⟨by unfold maxName; omega, hb⟩, fun x hx => hall x (by simp [hx])⟩
        rw [e] at h; exact h
    · rw [bytes_eq, decide_eq_false hne, Br_f]
      refine brd (fun hgt => ?_) (fun hle => ?_)
      · have e : isName s = false := by
          simp only [isName, hs]
          rw [decide_eq_false (by unfold maxName; omega)]; rfl
        rw [e] at h; exact h
      · refine ⟨by omega, s[0], by simp [ba_get h0], ?_⟩
        refine letter_calls ⟨_, rfl, ?_⟩
        rw [hc]
        cases hb : begins c with
        | false =>
          have e : isName s = false := by simp only [isName, hs, hb]; simp
          rw [e] at h; exact h
        | true => exact ⟨rfl, by omega, rfl⟩
end
end Go.Proofs.YtfhkgnfphfmhiaaGreatDoor
/- The library's decoder of one character, at this program (the shelf's contract, its table of numbers written out). -/
namespace Go.Proofs.YtfhkgnfphfmhiaaGreatDoor
open Go.Shelf Go.RowKit
def decRen : Go.Shelf.Ren := ⟨fun | 197 => 170 | 260 => 174 | n => n, fun | 0 => 0 | 3 => 3 | 4 => 4 | 5 => 5 | 9 => 9 | 21 => 21 | 46 => 161 | 105 => 238 | 119 => 244 | 138 => 246 | 139 => 247 | n => n, fun | 3 => 0 | 4 => 1 | n => n⟩
set_option maxRecDepth 100000 in
theorem decLays : Lays.n197 Tryz.prog decRen where
  mixed := by kernel_rfl
  f197 := Tryz.func170.trans (congrArg some (by kernel_rfl))
  f260 := Tryz.func174.trans (congrArg some (by kernel_rfl))
  t0 := Tryz.underlying0
  a0 := Tryz.isAgg0
  z0 := Tryz.sizeOf0
  v0 := Tryz.zeroValue0
  t3 := Tryz.underlying3
  a3 := Tryz.isAgg3
  z3 := Tryz.sizeOf3
  v3 := Tryz.zeroValue3
  t4 := Tryz.underlying4
  a4 := Tryz.isAgg4
  z4 := Tryz.sizeOf4
  v4 := Tryz.zeroValue4
  t5 := Tryz.underlying5
  a5 := Tryz.isAgg5
  z5 := Tryz.sizeOf5
  v5 := Tryz.zeroValue5
  t9 := Tryz.underlying9
  a9 := Tryz.isAgg9
  z9 := Tryz.sizeOf9
  v9 := Tryz.zeroValue9
  t21 := Tryz.underlying21
  a21 := Tryz.isAgg21
  z21 := Tryz.sizeOf21
  v21 := Tryz.zeroValue21
  t46 := Tryz.underlying161
  a46 := Tryz.isAgg161
  z46 := Tryz.sizeOf161
  v46 := Tryz.zeroValue161
  t105 := Tryz.underlying238
  a105 := Tryz.isAgg238
  z105 := Tryz.sizeOf238
  v105 := Tryz.zeroValue238
  t119 := Tryz.underlying244
  a119 := Tryz.isAgg244
  z119 := Tryz.sizeOf244
  t138 := Tryz.underlying246
  a138 := Tryz.isAgg246
  z138 := Tryz.sizeOf246
  v138 := Tryz.zeroValue246
  t139 := Tryz.underlying247
  a139 := Tryz.isAgg247
  z139 := Tryz.sizeOf247
  v139 := Tryz.zeroValue247
  g3 := by kernel_rfl
  g4 := by kernel_rfl
/-- The tables of the decoder, as they are laid. -/
def Tabs (w : World) : Prop := Lib.Utf8Tabs 0 1 w
theorem decode_calls (s : ByteArray) (w : World) (hT : Tabs w) :
    Calls Tryz.prog 170 #[.string s] w fun e w' => e = .returned (.tuple #[.int .i32 (Lib.decodeGo s).1, .int .i64 (Lib.decodeGo s).2]) ∧ Below w.heap.size w w' :=
  Any.utf8_DecodeRuneInString decLays s w hT
end Go.Proofs.YtfhkgnfphfmhiaaGreatDoor
/- The small functions on bytes and characters, of the program and of the reference. -/
namespace Go.Proofs.YtfhkgnfphfmhiaaGreatDoor
open Go.RowKit
def canR (r : Nat) : Bool := decide (r = 9 ∨ r = 10 ∨ r = 13 ∨ (32 ≤ r ∧ r ≤ 55295) ∨ (57344 ≤ r ∧ r ≤ 65533) ∨ (65536 ≤ r ∧ r ≤ 1114111))
def sizeR (c : Nat) : Nat × Nat := if c < 128 then (1, c) else if 192 ≤ c ∧ c < 224 then (2, c - 192) else if 224 ≤ c ∧ c < 240 then (3, c - 224) else if 240 ≤ c ∧ c < 248 then (4, c - 240) else (0, 0)
theorem retB {x : Value} {b c : Bool} (h : b = c) (hx : x = .bool b) : Ending.returned x = Ending.returned (.bool c) := by rw [hx, h]
set_option maxHeartbeats 4000000
theorem can_calls (c : Nat) (w : World) : Calls Tryz.prog 171 #[.int .i64 c] w fun e w' => e = .returned (.bool (canR c)) ∧ w' = w := by
  go_enter Tryz.func171, Tryz.ntmps171
  go_wp2
  all_goals go_ret
  all_goals refine ⟨retB (?_ : _ = canR c) rfl, rfl⟩
  all_goals rw [Bool.eq_iff_iff]
  all_goals simp [canR]
  all_goals (first | omega | (simp only [beq_iff_eq, beq_eq_false_iff_ne, ne_eq] at *; omega))
end Go.Proofs.YtfhkgnfphfmhiaaGreatDoor
/- One character: the program's decoder and the reference's. -/
namespace Go.Proofs.YtfhkgnfphfmhiaaGreatDoor
open Go.RowKit
/-- How many bytes a character has. -/
def lenR (r : Nat) : Nat := if r < 128 then 1 else if r < 2048 then 2 else if r < 65536 then 3 else 4
set_option maxHeartbeats 4000000
/-- What the bytes behind the first one make of a character. -/
def contR (s : ByteArray) (i : Nat) : Nat → Nat → Nat → Option Nat
  | 0, _, r => some r
  | k + 1, j, r => if (s.get! (i + j)).toNat < 128 ∨ 192 ≤ (s.get! (i + j)).toNat then none else contR s i k (j + 1) (64 * r + (s.get! (i + j)).toNat - 128)
def atR (s : ByteArray) (i : Nat) : Nat × Nat :=
  if (sizeR (s.get! i).toNat).1 = 0 ∨ s.size < i + (sizeR (s.get! i).toNat).1 then (0, 0)
  else match contR s i ((sizeR (s.get! i).toNat).1 - 1) 1 (sizeR (s.get! i).toNat).2 with
    | none => (0, 0)
    | some r => if canR r = true ∧ lenR r = (sizeR (s.get! i).toNat).1 then (r, (sizeR (s.get! i).toNat).1) else (0, 0)
end Go.Proofs.YtfhkgnfphfmhiaaGreatDoor
/- The reference's character at a place. -/
namespace Go.Proofs.YtfhkgnfphfmhiaaGreatDoor
open Go.RowKit
theorem sizeR_lt (c : Nat) : (sizeR c).1 ≤ 4 ∧ (sizeR c).2 < 128 := by
  unfold sizeR
  repeat' split
  all_goals simp only
  all_goals omega
set_option maxHeartbeats 4000000
end Go.Proofs.YtfhkgnfphfmhiaaGreatDoor
/- Plain: the library's decoder and the reference's At say the same. -/
namespace Go.Proofs.YtfhkgnfphfmhiaaGreatDoor
open Go.RowKit
/-- What the program makes of a decoded character. -/
def firstR (x : Nat × Nat) : Nat × Nat := if (x.1 = 65533 ∧ x.2 = 1) ∨ canR x.1 = false then (0, 0) else x
set_option maxHeartbeats 4000000
theorem canR_iff (r : Nat) : canR r = true ↔ (r = 9 ∨ r = 10 ∨ r = 13 ∨ (32 ≤ r ∧ r ≤ 55295) ∨ (57344 ≤ r ∧ r ≤ 65533) ∨ (65536 ≤ r ∧ r ≤ 1114111)) := by simp [canR]
/-- The same, a number of bytes at a time. -/
theorem fin_eq (r n : Nat) (x : Nat × Nat) (h1 : lenR r = n → canR r = true → x = (r, n) ∧ ¬ (r = 65533 ∧ n = 1)) (h2 : ¬ (lenR r = n ∧ canR r = true) → (x.1 = 65533 ∧ x.2 = 1) ∨ canR x.1 = false) :
    firstR x = if canR r = true ∧ lenR r = n then (r, n) else (0, 0) := by
  unfold firstR
  by_cases h : canR r = true ∧ lenR r = n
  · obtain ⟨rfl, h3⟩ := h1 h.2 h.1
    rw [if_pos h, if_neg]
    rintro (h4 | h4)
    · exact h3 h4
    · simp only at h4; rw [h.1] at h4; cases h4
  · rw [if_neg h, if_pos (h2 fun k => h ⟨k.2, k.1⟩)]
theorem one_eq (n b0 b1 b2 b3 : Nat) (h : b0 < 128) : firstR (Lib.decodeN n b0 b1 b2 b3) = if canR b0 = true ∧ lenR b0 = 1 then (b0, 1) else (0, 0) := by
  have hd : Lib.decodeN n b0 b1 b2 b3 = (b0, 1) := by unfold Lib.decodeN; rw [if_pos h]
  have hl : lenR b0 = 1 := by unfold lenR; rw [if_pos h]
  rw [hd]
  refine fin_eq _ _ _ (fun _ _ => ⟨rfl, by omega⟩) (fun hk => ?_)
  right
  simpa [hl] using hk
theorem two_eq (n b0 b1 b2 b3 : Nat) (h : 192 ≤ b0 ∧ b0 < 224) (h1 : 128 ≤ b1 ∧ b1 < 192) (hn : 2 ≤ n) : firstR (Lib.decodeN n b0 b1 b2 b3) = if canR (64 * (b0 - 192) + b1 - 128) = true ∧ lenR (64 * (b0 - 192) + b1 - 128) = 2 then (64 * (b0 - 192) + b1 - 128, 2) else (0, 0) := by
  have he : b0 % 32 * 64 + b1 % 64 = 64 * (b0 - 192) + b1 - 128 := by omega
  have hd : Lib.decodeN n b0 b1 b2 b3 = if 64 * (b0 - 192) + b1 - 128 ≥ 128 then (64 * (b0 - 192) + b1 - 128, 2) else (65533, 1) := by
    unfold Lib.decodeN; rw [if_neg (by omega), if_pos (by omega), he]
  rw [hd]
  obtain ⟨r, hr⟩ : ∃ r, 64 * (b0 - 192) + b1 - 128 = r := ⟨_, rfl⟩
  have hlt : r < 2048 := by omega
  rw [hr]
  have hl : lenR r = 2 ↔ 128 ≤ r := by unfold lenR; repeat' split
                                       all_goals omega
  refine fin_eq _ _ _ (fun h2 _ => ?_) (fun hk => ?_)
  · have h3 := hl.1 h2
    exact ⟨by rw [if_pos h3], by omega⟩
  · by_cases h3 : r ≥ 128
    · rw [if_pos h3]; right
      have := hl.2 h3
      simpa [this] using hk
    · rw [if_neg h3]; left; exact ⟨rfl, rfl⟩
theorem three_eq (n b0 b1 b2 b3 : Nat) (h : 224 ≤ b0 ∧ b0 < 240) (h1 : 128 ≤ b1 ∧ b1 < 192) (h2 : 128 ≤ b2 ∧ b2 < 192) (hn : 3 ≤ n) : firstR (Lib.decodeN n b0 b1 b2 b3) = if canR (64 * (64 * (b0 - 224) + b1 - 128) + b2 - 128) = true ∧ lenR (64 * (64 * (b0 - 224) + b1 - 128) + b2 - 128) = 3 then (64 * (64 * (b0 - 224) + b1 - 128) + b2 - 128, 3) else (0, 0) := by
  obtain ⟨r, hr⟩ : ∃ r, 64 * (64 * (b0 - 224) + b1 - 128) + b2 - 128 = r := ⟨_, rfl⟩
  have he : b0 % 16 * 4096 + b1 % 64 * 64 + b2 % 64 = r := by omega
  have hlt : r < 65536 := by omega
  have hd : Lib.decodeN n b0 b1 b2 b3 = if r ≥ 2048 ∧ (r < 55296 ∨ (57344 ≤ r ∧ r ≤ 1114111)) then (r, 3) else (65533, 1) := by
    unfold Lib.decodeN; rw [if_neg (by omega), if_neg (by omega), if_pos (by omega), he]
  rw [hd, hr]
  have hl : lenR r = 3 ↔ 2048 ≤ r := by unfold lenR; repeat' split
                                        all_goals omega
  refine fin_eq _ _ _ (fun h3 hc => ?_) (fun hk => ?_)
  · have h4 := hl.1 h3
    have h5 := (canR_iff r).1 hc
    exact ⟨by rw [if_pos (by omega)], by omega⟩
  · by_cases h3 : r ≥ 2048 ∧ (r < 55296 ∨ (57344 ≤ r ∧ r ≤ 1114111))
    · rw [if_pos h3]; right
      have := hl.2 h3.1
      simpa [this] using hk
    · rw [if_neg h3]; left; exact ⟨rfl, rfl⟩
theorem four_eq (n b0 b1 b2 b3 : Nat) (h : 240 ≤ b0 ∧ b0 < 248) (h1 : 128 ≤ b1 ∧ b1 < 192) (h2 : 128 ≤ b2 ∧ b2 < 192) (h3 : 128 ≤ b3 ∧ b3 < 192) (hn : 4 ≤ n) : firstR (Lib.decodeN n b0 b1 b2 b3) = if canR (64 * (64 * (64 * (b0 - 240) + b1 - 128) + b2 - 128) + b3 - 128) = true ∧ lenR (64 * (64 * (64 * (b0 - 240) + b1 - 128) + b2 - 128) + b3 - 128) = 4 then (64 * (64 * (64 * (b0 - 240) + b1 - 128) + b2 - 128) + b3 - 128, 4) else (0, 0) := by
  obtain ⟨r, hr⟩ : ∃ r, 64 * (64 * (64 * (b0 - 240) + b1 - 128) + b2 - 128) + b3 - 128 = r := ⟨_, rfl⟩
  have he : b0 % 8 * 262144 + b1 % 64 * 4096 + b2 % 64 * 64 + b3 % 64 = r := by omega
  have hd : Lib.decodeN n b0 b1 b2 b3 = if r ≥ 65536 ∧ (r < 55296 ∨ (57344 ≤ r ∧ r ≤ 1114111)) then (r, 4) else (65533, 1) := by
    unfold Lib.decodeN; rw [if_neg (by omega), if_neg (by omega), if_neg (by omega), if_pos (by omega), he]
  rw [hd, hr]
  have hl : lenR r = 4 ↔ 65536 ≤ r := by unfold lenR; repeat' split
                                         all_goals omega
  refine fin_eq _ _ _ (fun h3 hc => ?_) (fun hk => ?_)
  · have h4 := hl.1 h3
    have h5 := (canR_iff r).1 hc
    exact ⟨by rw [if_pos (by omega)], by omega⟩
  · by_cases h3 : r ≥ 65536 ∧ (r < 55296 ∨ (57344 ≤ r ∧ r ≤ 1114111))
    · rw [if_pos h3]; right
      have := hl.2 h3.1
      simpa [this] using hk
    · rw [if_neg h3]; left; exact ⟨rfl, rfl⟩
theorem bad_first {n b0 b1 b2 b3 : Nat} (h : Lib.decodeN n b0 b1 b2 b3 = (65533, 1)) : firstR (Lib.decodeN n b0 b1 b2 b3) = (0, 0) := by
  rw [h]; unfold firstR; rw [if_pos (Or.inl ⟨rfl, rfl⟩)]
theorem dec_at (s : ByteArray) (i : Nat) (hi : i < s.size) : firstR (Utf8.decode s i) = atR s i := by
  rw [Lib.decode_at]
  obtain ⟨b0, h0⟩ : ∃ b, (s.get! i).toNat = b := ⟨_, rfl⟩
  obtain ⟨b1, h1⟩ : ∃ b, (s.get! (i + 1)).toNat = b := ⟨_, rfl⟩
  obtain ⟨b2, h2⟩ : ∃ b, (s.get! (i + 2)).toNat = b := ⟨_, rfl⟩
  obtain ⟨b3, h3⟩ : ∃ b, (s.get! (i + 3)).toNat = b := ⟨_, rfl⟩
  have l0 : b0 < 256 := by rw [← h0]; exact (s.get! i).toNat_lt
  obtain ⟨n, hn⟩ : ∃ n, s.size - i = n := ⟨_, rfl⟩
  unfold atR
  rw [h0, h1, h2, h3, hn]
  by_cases c1 : b0 < 128
  · have hs : sizeR b0 = (1, b0) := by unfold sizeR; rw [if_pos c1]
    rw [hs, one_eq _ _ _ _ _ c1]
    have hz : ¬ (1 = 0 ∨ s.size < i + 1) := by omega
    simp only [contR, Nat.sub_self, if_neg hz]
  · by_cases c2 : 192 ≤ b0 ∧ b0 < 224
    · have hs : sizeR b0 = (2, b0 - 192) := by unfold sizeR; rw [if_neg c1, if_pos c2]
      rw [hs]
      simp only [contR, h1, show 2 - 1 = 0 + 1 from rfl]
      by_cases k : 2 ≤ n ∧ (128 ≤ b1 ∧ b1 < 192)
      · rw [if_neg (by omega), if_neg (by omega), two_eq _ _ _ _ _ c2 k.2 k.1]
      · rw [bad_first (by unfold Lib.decodeN; rw [if_neg (by omega), if_neg (by omega), if_neg (by omega), if_neg (by omega)])]
        by_cases k2 : s.size < i + 2
        · rw [if_pos (Or.inr k2)]
        · rw [if_neg (by omega), if_pos (by omega)]
    · by_cases c3 : 224 ≤ b0 ∧ b0 < 240
      · have hs : sizeR b0 = (3, b0 - 224) := by unfold sizeR; rw [if_neg c1, if_neg c2, if_pos c3]
        rw [hs]
        simp only [contR, h1, h2, show 3 - 1 = 0 + 1 + 1 from rfl]
        by_cases k : 3 ≤ n ∧ (128 ≤ b1 ∧ b1 < 192) ∧ (128 ≤ b2 ∧ b2 < 192)
        · rw [if_neg (by omega), if_neg (by omega), if_neg (by omega), three_eq _ _ _ _ _ c3 k.2.1 k.2.2 k.1]
        · rw [bad_first (by unfold Lib.decodeN; rw [if_neg (by omega), if_neg (by omega), if_neg (by omega), if_neg (by omega)])]
          by_cases k2 : s.size < i + 3
          · rw [if_pos (Or.inr k2)]
          · rw [if_neg (by omega)]
            by_cases k3 : b1 < 128 ∨ 192 ≤ b1
            · rw [if_pos k3]
            · rw [if_neg k3, if_pos (by omega)]
      · by_cases c4 : 240 ≤ b0 ∧ b0 < 248
        · have hs : sizeR b0 = (4, b0 - 240) := by unfold sizeR; rw [if_neg c1, if_neg c2, if_neg c3, if_pos c4]
          rw [hs]
          simp only [contR, h1, h2, h3, show 4 - 1 = 0 + 1 + 1 + 1 from rfl]
          by_cases k : 4 ≤ n ∧ (128 ≤ b1 ∧ b1 < 192) ∧ (128 ≤ b2 ∧ b2 < 192) ∧ (128 ≤ b3 ∧ b3 < 192)
          · rw [if_neg (by omega), if_neg (by omega), if_neg (by omega), if_neg (by omega), four_eq _ _ _ _ _ c4 k.2.1 k.2.2.1 k.2.2.2 k.1]
          · rw [bad_first (by unfold Lib.decodeN; rw [if_neg (by omega), if_neg (by omega), if_neg (by omega), if_neg (by omega)])]
            by_cases k2 : s.size < i + 4
            · rw [if_pos (Or.inr k2)]
            · rw [if_neg (by omega)]
              by_cases k3 : b1 < 128 ∨ 192 ≤ b1
              · rw [if_pos k3]
              · rw [if_neg k3]
                by_cases k4 : b2 < 128 ∨ 192 ≤ b2
                · rw [if_pos k4]
                · rw [if_neg k4, if_pos (by omega)]
        · have hs : sizeR b0 = (0, 0) := by unfold sizeR; rw [if_neg c1, if_neg c2, if_neg c3, if_neg c4]
          rw [hs, if_pos (Or.inl rfl), bad_first (by unfold Lib.decodeN; rw [if_neg (by omega), if_neg (by omega), if_neg (by omega), if_neg (by omega)])]
end Go.Proofs.YtfhkgnfphfmhiaaGreatDoor
/- A text: the program's text and the reference's Text. -/
namespace Go.Proofs.YtfhkgnfphfmhiaaGreatDoor
open Go.RowKit
/-- The first place at which no character begins. -/
def badF (s : ByteArray) : Nat → Nat → Nat × Nat
  | 0, _ => (0, 0)
  | f + 1, i => if s.size ≤ i then (0, 0) else if (atR s i).2 = 0 then (i, 7) else badF s f (i + (atR s i).2)
def textS (s : ByteArray) : Nat × Nat := if 16384 < s.size then (0, 2) else badF s (s.size + 1) 0
theorem atR_le (s : ByteArray) (i : Nat) : (atR s i).2 ≤ 4 := by
  have := (sizeR_lt (s.get! i).toNat).1
  unfold atR
  repeat' split
  all_goals simp only
  all_goals omega
set_option maxHeartbeats 4000000
theorem first_calls (s : ByteArray) (hs : 0 < s.size) (w : World) (hT : Tabs w) : Calls Tryz.prog 160 #[.string s] w fun e w' => e = .returned (.tuple #[.int .i64 (atR s 0).1, .int .i64 (atR s 0).2, .int .i64 (if (atR s 0).2 = 0 then 7 else 0)]) ∧ Below w.heap.size w w' := by
  have cD := decode_calls s w hT
  have hA := dec_at s 0 hs
  have hd : Lib.decodeGo s = Utf8.decode s 0 := by unfold Lib.decodeGo; rw [if_neg (by omega)]
  obtain ⟨r, hr⟩ : ∃ r, (Utf8.decode s 0).1 = r := ⟨_, rfl⟩
  obtain ⟨n, hn⟩ : ∃ n, (Utf8.decode s 0).2 = n := ⟨_, rfl⟩
  rw [hd, hr, hn] at cD
  have hrn : Utf8.decode s 0 = (r, n) := by rw [← hr, ← hn]
  rw [hrn] at hA
  have hn1 : 1 ≤ n ∧ r < 2147483648 := by
    rw [← hr, ← hn, Lib.decode_at]
    unfold Lib.decodeN
    repeat' split
    all_goals simp only
    all_goals omega
  have hn0 : ((n : Int) == 0) = false := by simp; omega
  have hr32 : IntKind.i64.wrap (r : Int) = r := IntWalk.i64_in _ (by omega)
  obtain ⟨hn1, hr1⟩ := hn1
  have hn2 : ¬ (n : Int) = 0 := by omega
  clear hd hr hn hrn
  by_cases hb : (r = 65533 ∧ n = 1)
  · obtain ⟨rfl, rfl⟩ := hb
    have h2 : atR s 0 = (0, 0) := by rw [← hA]; unfold firstR; rw [if_pos (Or.inl ⟨rfl, rfl⟩)]
    rw [h2]
    clear hA h2
    go_enter Tryz.func160, Tryz.ntmps160
    go_wp2_with (first
      | (go_at_call 170; (with_reducible refine (cD).mono ?_); rintro e w1 ⟨rfl, hb⟩)
      | (go_at_call 171; (with_reducible refine (can_calls 65533 _).mono ?_); rintro e w2 ⟨rfl, rfl⟩))
    all_goals go_ret3
    all_goals exact ⟨rfl, hb⟩
  · by_cases hc : canR r = true
    · have h2 : atR s 0 = (r, n) := by rw [← hA]; unfold firstR; rw [if_neg (by simp [hc]; omega)]
      rw [h2, if_neg (by simp only; omega)]
      clear hA h2
      by_cases hq : r = 65533
      · subst hq
        have hb1 : ((n : Int) == 1) = false := by
          rw [Bool.eq_false_iff]; intro h; simp at h; omega
        have hb2 : ¬ (n : Int) = 1 := by omega
        have cC : ∀ w, Calls Tryz.prog 171 #[.int .i64 65533] w fun e w' => e = .returned (.bool true) ∧ w' = w := fun w => (can_calls 65533 w).mono fun e w' h => by rw [hc] at h; exact h
        go_enter Tryz.func160, Tryz.ntmps160
        go_wp2_with (first
          | (go_at_call 170; (with_reducible refine (cD).mono ?_); rintro e w1 ⟨rfl, hb⟩)
          | (go_at_call 171; (with_reducible refine (cC _).mono ?_); rintro e w2 ⟨rfl, rfl⟩))
        all_goals go_ret3
        all_goals exact ⟨rfl, hb⟩
      · have hb1 : ((r : Int) == 65533) = false := by
          rw [Bool.eq_false_iff]; intro h; simp at h; omega
        have hb2 : ¬ (r : Int) = 65533 := by omega
        go_enter Tryz.func160, Tryz.ntmps160
        go_wp2_with (first
          | (go_at_call 170; (with_reducible refine (cD).mono ?_); rintro e w1 ⟨rfl, hb⟩)
          | (go_at_call 171; (with_reducible refine (can_calls r _).mono ?_); rintro e w2 ⟨rfl, rfl⟩))
        all_goals go_ret3
        all_goals exact ⟨rfl, hb⟩
    · have hc1 : canR r = false := by simpa using hc
      have h2 : atR s 0 = (0, 0) := by rw [← hA]; unfold firstR; rw [if_pos (Or.inr hc1)]
      rw [h2]
      clear hA h2
      have hb2 : ¬ (r : Int) = 65533 := by
        intro h
        have : r = 65533 := by omega
        subst this
        exact hc (by decide)
      have hb1 : ((r : Int) == 65533) = false := by
        rw [Bool.eq_false_iff]; intro h; simp at h; exact hb2 h
      go_enter Tryz.func160, Tryz.ntmps160
      go_wp2_with (first
        | (go_at_call 170; (with_reducible refine (cD).mono ?_); rintro e w1 ⟨rfl, hb⟩)
        | (go_at_call 171; (with_reducible refine (can_calls r _).mono ?_); rintro e w2 ⟨rfl, rfl⟩))
      all_goals go_ret3
      all_goals exact ⟨rfl, hb⟩
end Go.Proofs.YtfhkgnfphfmhiaaGreatDoor
/- The program's text. -/
namespace Go.Proofs.YtfhkgnfphfmhiaaGreatDoor
open Go.RowKit
theorem decGo_extract (s : ByteArray) (pos : Nat) (h : pos < s.size) : Lib.decodeGo (s.extract pos s.size) = Utf8.decode s pos := by
  have hx : (s.extract pos s.size).data.toList = s.data.toList.drop pos := by
    rw [Lib.extract_data, List.take_of_length_le (by rw [List.length_drop, ← Lib.size_eq]; omega)]
  have hsz : (s.extract pos s.size).size ≠ 0 := by rw [Lib.size_eq, hx, List.length_drop, ← Lib.size_eq]; omega
  unfold Lib.decodeGo
  rw [if_neg hsz, ← Lib.decodeL_drop s pos, ← hx]
  rfl
theorem atR_extract (s : ByteArray) (i : Nat) (hi : i < s.size) : atR (s.extract i s.size) 0 = atR s i := by
  have h := decGo_extract s i hi
  have hz : 0 < (s.extract i s.size).size := by simp; omega
  rw [← dec_at _ 0 hz, ← dec_at s i hi, ← h]
  unfold Lib.decodeGo
  rw [if_neg (by omega)]
theorem Tabs.keep {w w1 : World} (h : Tabs w) (hb : Below w.heap.size w w1) : Tabs w1 := ⟨fun c hc => kcell hb (h.1 c hc), fun i hi => ⟨kcell hb (h.2 i hi).1, kcell hb (h.2 i hi).2⟩⟩
set_option maxHeartbeats 4000000
theorem text_calls (s : ByteArray) (w : World) (hT : Tabs w) : Calls Tryz.prog 139 #[.string s] w fun e w' => e = .returned (.tuple #[.int .i64 (textS s).1, .int .i64 (textS s).2]) ∧ Below w.heap.size w w' := by
  by_cases h : 16384 < s.size
  · have h0 : (16384 : Int) < s.size := by omega
    have hX : textS s = (0, 2) := by unfold textS; rw [if_pos h]
    go_enter Tryz.func139, Tryz.ntmps139
    go_wp2_with (go_at_call 160; fail)
    go_ret2
    exact ⟨by first | rfl | (rw [hX]; rfl), Below.refl _ _⟩
  have hX : textS s = badF s (s.size + 1) 0 := by unfold textS; rw [if_neg h]
  have h0 : ¬ (16384 : Int) < s.size := by omega
  have HX := Lib.hid hX
  have HT := Lib.hid hT
  clear hX hT
  go_enter Tryz.func139, Tryz.ntmps139
  go_wp2
  go_loopw [4] (fun v wr => ∃ (i f : Nat), s.size < i + f ∧ v = .int .i64 i ∧ i ≤ s.size + 4 ∧ Below w.heap.size w wr ∧ Hid (badF s (s.size + 1) 0 = badF s f i)) (fun v wr => s.size - (intOf v).toNat)
  case atStart => exact ⟨0, s.size + 1, by omega, rfl, by omega, Below.refl _ _, Lib.hid rfl⟩
  case round =>
    obtain ⟨i, f, hf, rfl, hi4, HB, HF⟩ := hrel
    by_cases hi : i < s.size
    · have hi0 : (i : Int) < s.size := by omega
      obtain ⟨f, rfl⟩ : ∃ g, f = g + 1 := ⟨f - 1, by omega⟩
      obtain ⟨n, hn⟩ : ∃ n, (atR s i).2 = n := ⟨_, rfl⟩
      obtain ⟨r, hr⟩ : ∃ r, (atR s i).1 = r := ⟨_, rfl⟩
      have hn4 := atR_le s i
      rw [hn] at hn4
      have hF : textS s = if n = 0 then (i, 7) else badF s f (i + n) := by rw [HX.out, HF.out, badF, if_neg (by omega), hn]
      have HF2 : Hid (n ≠ 0 → badF s (s.size + 1) 0 = badF s f (i + n)) := Lib.hid (fun h => by rw [HF.out, badF, if_neg (by omega), hn, if_neg h])
      have HF := Lib.hid hF
      have cA := fun (w : World) (hT : Tabs w) => first_calls (s.extract i s.size) (by simp; omega) w hT
      rw [atR_extract s i hi] at cA
      simp only [hn, hr] at cA
      have HI := Lib.hid (And.intro hf (And.intro hi4 (And.intro hi hn4)))
      clear hF hn hr hf hi4 hi hn4
      obtain ⟨wo, rfl⟩ : ∃ wo : World, wo = wr := ⟨_, rfl⟩
      by_cases hn0 : n = 0
      · subst hn0
        go_wp2_with (go_at_call 160; (with_reducible refine (cA _ (HT.out.keep HB)).mono ?_); rintro e w1 ⟨rfl, hb⟩; replace HB := bt1 HB hb; clear hb)
        go_ret2
        have hF0 : textS s = (i, 7) := by rw [HF.out]; simp
        exact ⟨by rw [hF0]; rfl, HB⟩
      · have hn1 : ¬ (n : Int) = 0 := by omega
        have hn2 : ((n : Int) == 0) = false := by simpa using hn1
        simp only [if_neg hn0] at cA
        go_wp2_with (go_at_call 160; (with_reducible refine (cA _ (HT.out.keep HB)).mono ?_); rintro e w1 ⟨rfl, hb⟩; replace HB := bt1 HB hb; clear hb)
        obtain ⟨hf, hi4, hi, hn4⟩ := HI.out
        refine ⟨⟨i + n, f, by omega, ?_, by omega, HB, Lib.hid (HF2.out hn0)⟩, ?_⟩
        · rw [IntWalk.wrap64_in _ (by omega)]; congr 1
        · rw [IntWalk.wrap64_in _ (by omega)]; simp only [intOf]; omega
    · have hi0 : ¬ (i : Int) < s.size := by omega
      have hF : textS s = (0, 0) := by
        rw [HX.out, HF.out]; cases f with
        | zero => rfl
        | succ f => rw [badF, if_pos (by omega)]
      have HF := Lib.hid hF
      clear hF
      go_wp2
      go_ret2
      exact ⟨by rw [HF.out]; rfl, HB⟩
end Go.Proofs.YtfhkgnfphfmhiaaGreatDoor
namespace Go.Proofs.YtfhkgnfphfmhiaaGreatDoor
open Go.Vc
-- (*espalierref03.Doc).All
-- (*espalierref03.Doc).Copy
-- (*espalierref03.Doc).Handle
-- (*espalierref03.Doc).Len
-- (*espalierref03.Doc).List
-- (*espalierref03.Doc).Live
-- (*espalierref03.Doc).Parent
-- (*espalierref03.Doc).all
-- (*espalierref03.Doc).at
-- (*espalierref03.Doc).hang
-- espalierref03.Load
-- espalierref03.attrs
-- espalierref03.own
-- espalierref03.slot
end Go.Proofs.YtfhkgnfphfmhiaaGreatDoor
/- Documents: what is wrong with a node itself, by both sides. -/
namespace Go.Proofs.YtfhkgnfphfmhiaaGreatDoor
open Go.RowKit Go.Vc
set_option linter.unusedSimpArgs false
theorem textC {f : FuncId} {s : ByteArray} {w : World} {R : Ending → World → Prop} (hc : Calls Tryz.prog f #[.string s] w fun e w' => e = .returned (.tuple #[.int .i64 (textS s).1, .int .i64 (textS s).2]) ∧ Below w.heap.size w w')
    (h : ∀ w', Below w.heap.size w w' → R (.returned (.tuple #[.int .i64 (textS s).1, .int .i64 (textS s).2])) w') : Calls Tryz.prog f #[.string s] w R :=
  hc.mono fun e w' ⟨he, hb⟩ => by rw [he]; exact h w' hb
theorem charsText_calls (s : ByteArray) {w : World} (hT : Tabs w) {R : Ending → World → Prop} (h : ∀ w', Below w.heap.size w w' → R (.returned (.tuple #[.int .i64 (textS s).1, .int .i64 (textS s).2])) w') : Calls Tryz.prog 117 #[.string s] w R := by
  refine ok117 s ?_
  unfold F117
  exact textC (text_calls s w hT) fun w' hb => ⟨_, _, rfl, h w' hb⟩
/-- Does a name come behind another one? -/
def behindB (p : Option ByteArray) (a : ByteArray) : Bool := match p with
  | none => true
  | some b => !(Op.bytesLess a.toList b.toList || (a.toList == b.toList))
/-- What is wrong with attributes. -/
def attrsF : Option ByteArray → List At → Int
  | _, [] => 0
  | p, a :: l => if isName a.nm = true then if behindB p a.nm = true then if (textS a.val).2 = 0 then attrsF (some a.nm) l else ((textS a.val).2 : Nat) else 6 else 6
def attrF (l : List At) : Int := if 32 < l.length then 2 else attrsF none l
def prevN (l : List At) (k : Nat) : Option ByteArray := if k = 0 then none else (l[k - 1]?).map (·.nm)
theorem prevN_succ {l : List At} {k : Nat} (h : k < l.length) : prevN l (k + 1) = some l[k].nm := by
  unfold prevN; rw [if_neg (by omega), Nat.add_sub_cancel, List.getElem?_eq_getElem h]; rfl
theorem attrs_calls (l : List At) (v : Sv) {w : World} {R : Ending → World → Prop} (hT : Tabs w) (hl : RR LAt w l v) (h : ∀ w', Below w.heap.size w w' → R (.returned (.int .i64 (attrF l))) w') :
    Calls Tryz.prog 116 #[.slice v.1 v.2.1 v.2.2] w R := by
  obtain ⟨z0, z1, z2⟩ := hl
  refine ok116 v.1 v.2.1 v.2.2 ?_
  unfold F116
  unfold attrF at h
  refine brd (fun hgt => ?_) (fun hle => ?_)
  · rw [if_pos (by omega)] at h; exact h w (Below.refl _ _)
  rw [if_neg (by omega)] at h
  refine ⟨fun i w' => ∃ k : Nat, i = k ∧ k ≤ l.length ∧ Below w.heap.size w w' ∧ attrsF (prevN l k) (l.drop k) = attrsF none l, fun i _ => l.length - i.toNat, ⟨0, rfl, by omega, Below.refl _ _, by simp [prevN]⟩, ?_⟩
  rintro i w1 ⟨k, rfl, hk, hb1, hF⟩
  unfold F116_l4
  refine brd (fun hlt => ?_) (fun hge => ?_)
  · have hk2 : k < l.length := by omega
    rw [List.drop_eq_getElem_cons hk2, attrsF] at hF
    refine (z2.keep hb1).at2 z1 rfl (k := k) hk2 fun b o c0 c1 => ?_
    simp only [Addr.add_mk, c0, c1, Addr.add_mk, List.getElem?_toArray, List.getElem?_cons_zero, List.getElem?_cons_succ, LdI_some, LdB_some, LdStr_some, LdP_some, LdSl_some, LdM_some, Nat.zero_add, Br_t, Br_f]
    refine al fun ga w2 hb2 b2 hge2 => ?_
    refine st_blk b2 (by simp) fun w3 b3 f3 => st_blk b3 (by simp) fun w4 b4 f4 => ?_
    simp only [List.setIfInBounds_toArray, List.set_cons_zero, List.set_cons_succ] at b4
    have D4 : Below w1.heap.size w1 w4 := hb2.trans ((Fm.trans f3 f4 : Fm (· = ga) w2 w4).toBelow hb2.size fun b hb e => by have e : b = ga := e; omega)
    have B4 := btr hb1 hb1.size D4
    refine ⟨fun w' => Below w4.heap.size w4 w' ∧ isName l[k].nm = true ∧ behindB (prevN l k) l[k].nm = true, ?_, ?_⟩
    · rintro w5 ⟨hb5, hn, hbh⟩
      unfold F116_j8
      have b5 := b4.keep hb5
      have B5 := btr B4 B4.size hb5
      rw [if_pos hn, if_pos hbh] at hF
      simp only [Addr.add_mk, Nat.zero_add, b5.cell, List.getElem?_toArray, List.getElem?_cons_zero, List.getElem?_cons_succ, Addr.add_mk, List.getElem?_toArray, List.getElem?_cons_zero, List.getElem?_cons_succ, LdI_some, LdB_some, LdStr_some, LdP_some, LdSl_some, LdM_some, Nat.zero_add, Br_t, Br_f]
      refine charsText_calls l[k].val (hT.keep B5) fun w6 hb6 => ⟨_, _, rfl, ?_⟩
      have B6 := btr B5 B5.size hb6
      refine brn (fun hne => ?_) (fun he => ?_)
      · rw [if_neg (by omega)] at hF
        rw [hF]; exact h w6 B6
      · rw [if_pos (by omega)] at hF
        exact ⟨inR_i64 (by omega) (by omega), ⟨k + 1, by simp, by omega, B6, by rw [prevN_succ hk2]; exact hF⟩, (by first | omega | (dsimp only; omega))⟩
    · have hd : Below w4.heap.size w4 w4.drew := (Below.refl _ _).drew
      refine ⟨fun w' => Below w4.heap.size w4 w', hd, ?_⟩
      refine ⟨_, fun w2 h2 => by rw [(b4.keep h2).cell]; rfl, ?_⟩
      refine name_calls ⟨_, rfl, hd, ?_⟩
      rw [brnot]
      refine br (fun hn => ?_) (fun hn => ?_)
      · refine brd (fun hpos => ?_) (fun hz => ?_)
        · refine ⟨_, fun w2 h2 => by rw [(b4.keep h2).cell]; rfl, inR_i64 (by omega) (by omega), ?_⟩
          refine (z2.keep B4).at2H (fun _ h => h) z1 (show (k : Int) - 1 = ((k - 1 : Nat) : Int) by omega) (by omega) fun b o d0 d1 => ⟨_, d0, ?_⟩
          have hpv : prevN l k = some l[k - 1].nm := by unfold prevN; rw [if_neg (by omega), List.getElem?_eq_getElem (by omega)]; rfl
          refine br (fun hb => ?_) (fun hb => ⟨hd, hn, by rw [hpv]; show (!(_ || _)) = true; rw [hb]; rfl⟩)
          rw [if_pos hn, if_neg (by rw [hpv]; show ¬ (!(_ || _)) = true; rw [hb]; decide)] at hF
          rw [hF]; exact h _ (btr B4 B4.size hd)
        · refine ⟨hd, hn, ?_⟩
          have : k = 0 := by omega
          subst this; simp [prevN, behindB]
      · rw [if_neg (by rw [hn]; decide)] at hF
        rw [hF]; exact h _ (btr B4 B4.size hd)
  · have hk2 : k = l.length := by omega
    subst hk2
    rw [List.drop_length, attrsF] at hF
    rw [hF]; exact h w1 hb1
/-- What is wrong with a node itself: of a kind, with a name, attributes, a text. -/
def ownF (kind : Int) (nm : ByteArray) (l : List At) (t : ByteArray) : Int := if kind = 1 then if isName nm = true then attrF l else 6 else if kind = 2 then ((textS t).2 : Nat) else 1
theorem own1_calls (kind : Int) (nm : ByteArray) (l : List At) (v : Sv) (t : ByteArray) (u : Sv) {w : World} {R : Ending → World → Prop} (hT : Tabs w) (hl : RR LAt w l v) (h : ∀ w', Below w.heap.size w w' → R (.returned (.int .i64 (ownF kind nm l t))) w') :
    Calls Tryz.prog 84 #[.agg #[.int .i64 kind, .string nm, .slice v.1 v.2.1 v.2.2, .string t, .slice u.1 u.2.1 u.2.2]] w R := by
  refine ok84 kind nm v.1 v.2.1 v.2.2 t u.1 u.2.1 u.2.2 ?_
  unfold F84
  unfold ownF at h
  refine al fun g w1 hb1 b1 hge => ?_
  simp only [Addr.add_mk, Nat.zero_add, b1.cell, List.getElem?_toArray, List.getElem?_cons_zero, List.getElem?_cons_succ, Addr.add_mk, List.getElem?_toArray, List.getElem?_cons_zero, List.getElem?_cons_succ, LdI_some, LdB_some, LdStr_some, LdP_some, LdSl_some, LdM_some, Nat.zero_add, Br_t, Br_f]
  refine bre (fun hk => ?_) (fun hk => ?_)
  · rw [if_pos hk] at h
    refine name_calls ⟨_, rfl, ?_⟩
    rw [brnot]
    refine br (fun hn => ?_) (fun hn => ?_)
    · rw [if_pos hn] at h
      simp only [Addr.add_mk, Nat.zero_add, b1.cell, List.getElem?_toArray, List.getElem?_cons_zero, List.getElem?_cons_succ, Addr.add_mk, List.getElem?_toArray, List.getElem?_cons_zero, List.getElem?_cons_succ, LdI_some, LdB_some, LdStr_some, LdP_some, LdSl_some, LdM_some, Nat.zero_add, Br_t, Br_f]
      exact attrs_calls l v (hT.keep hb1) (hl.keep hb1) fun w2 hb2 => ⟨_, rfl, h w2 (btr hb1 hb1.size hb2)⟩
    · rw [if_neg (by rw [hn]; decide)] at h
      exact h w1 hb1
  · rw [if_neg hk] at h
    refine bre (fun hk2 => ?_) (fun hk2 => ?_)
    · rw [if_pos hk2] at h
      exact charsText_calls t (hT.keep hb1) fun w2 hb2 => ⟨_, _, rfl, h w2 (btr hb1 hb1.size hb2)⟩
    · rw [if_neg hk2] at h
      exact h w1 hb1
end Go.Proofs.YtfhkgnfphfmhiaaGreatDoor
/- Documents: trees in plain, handles as a partial map to slots; which documents hang together. -/
namespace Go.Proofs.YtfhkgnfphfmhiaaGreatDoor
open Go.RowKit Go.Vc
set_option linter.unusedSimpArgs false
--PURE
/-- A tree in plain. -/
inductive Tr where
  | mk (kind : Int) (nm : ByteArray) (attrs : List At) (text : ByteArray) (kids : List Tr)
/-- The live slot of a handle. -/
def slA (sl : List Sl) (h : Nat) : Option Sl := (atF sl h).bind (sl[·]?)
theorem atF_iff {sl : List Sl} {h k : Nat} : atF sl h = some k ↔ h % 4294967296 = k + 1 ∧ ∃ s, sl[k]? = some s ∧ s.live = true ∧ hnd s.gen k = h := by
  unfold atF
  constructor
  · intro e
    by_cases h0 : h % 4294967296 = 0
    · rw [if_pos h0] at e; cases e
    · rw [if_neg h0] at e
      cases hs : sl[h % 4294967296 - 1]? with
      | none => rw [hs] at e; cases e
      | some s =>
        rw [hs] at e
        simp only at e
        by_cases hc : s.live = true ∧ hnd s.gen (h % 4294967296 - 1) = h
        · rw [if_pos hc] at e
          cases e
          exact ⟨by omega, s, hs, hc.1, hc.2⟩
        · rw [if_neg hc] at e; cases e
  · rintro ⟨h1, s, h2, h3, h4⟩
    rw [if_neg (by omega), h1, Nat.add_sub_cancel, h2]
    simp only
    rw [if_pos ⟨h3, h4⟩]
theorem slA_iff {sl : List Sl} {h : Nat} {s : Sl} : slA sl h = some s ↔ ∃ k, h % 4294967296 = k + 1 ∧ sl[k]? = some s ∧ s.live = true ∧ hnd s.gen k = h := by
  unfold slA
  constructor
  · intro e
    cases ha : atF sl h with
    | none => rw [ha] at e; cases e
    | some k =>
      rw [ha] at e
      obtain ⟨h1, t, h2, h3, h4⟩ := atF_iff.1 ha
      have : sl[k]? = some s := e
      rw [h2] at this; cases this
      exact ⟨k, h1, h2, h3, h4⟩
  · rintro ⟨k, h1, h2, h3, h4⟩
    rw [atF_iff.2 ⟨h1, s, h2, h3, h4⟩]; exact h2
theorem hnd_mod {g k : Nat} (hk : k + 1 < 4294967296) : hnd g k % 4294967296 = k + 1 := by
  unfold hnd; omega
theorem slA_hnd {sl : List Sl} {k : Nat} {s : Sl} (hk : k + 1 < 4294967296) (h : sl[k]? = some s) (hl : s.live = true) : slA sl (hnd s.gen k) = some s :=
  slA_iff.2 ⟨k, hnd_mod hk, h, hl, rfl⟩
theorem slA_zero (sl : List Sl) : slA sl 0 = none := by
  cases h : slA sl 0 with
  | none => rfl
  | some s => obtain ⟨k, h1, -⟩ := slA_iff.1 h; simp at h1
/-- A slot is written over. -/
theorem slA_set {sl : List Sl} {h : Nat} {s s' : Sl} {k : Nat} (hk : h % 4294967296 = k + 1) (hs : slA sl h = some s) (hg : s'.gen = s.gen) (hl : s'.live = true) (x : Nat) :
    slA (sl.set k s') x = if x = h then some s' else slA sl x := by
  obtain ⟨k', h1, h2, h3, h4⟩ := slA_iff.1 hs
  obtain rfl : k' = k := by omega
  have hlt : k' < sl.length := (List.getElem?_eq_some_iff.1 h2).1
  by_cases e : x = h
  · subst e
    rw [if_pos rfl]
    exact slA_iff.2 ⟨k', h1, by simp [hlt], hl, by rw [hg]; exact h4⟩
  · rw [if_neg e]
    cases hx : slA sl x with
    | none =>
      cases hy : slA (sl.set k' s') x with
      | none => rfl
      | some t =>
        obtain ⟨j, j1, j2, j3, j4⟩ := slA_iff.1 hy
        by_cases ej : k' = j
        · subst ej
          rw [List.getElem?_set_self hlt] at j2
          cases j2
          rw [hg, h4] at j4; exact absurd j4.symm e
        · rw [List.getElem?_set_ne ej] at j2
          rw [slA_iff.2 ⟨j, j1, j2, j3, j4⟩] at hx; cases hx
    | some t =>
      obtain ⟨j, j1, j2, j3, j4⟩ := slA_iff.1 hx
      refine slA_iff.2 ⟨j, j1, ?_, j3, j4⟩
      rw [List.getElem?_set_ne, j2]
      rintro rfl
      rw [h2] at j2; cases j2
      exact e (j4.symm.trans h4)
/-- What hangs where: the lists of a document. -/
def lstA (A : Nat → Option Sl) (roots : List Nat) (p : Nat) : List Nat := if p = 0 then roots else match A p with | some s => s.kids | none => []
/-- How many nodes there are from a handle up. -/
inductive Ch (A : Nat → Option Sl) : Nat → Nat → Prop where
  | zero : Ch A 0 0
  | succ {h c : Nat} {s : Sl} : h ≠ 0 → A h = some s → Ch A s.parent c → Ch A h (c + 1)
theorem Ch.fn {A : Nat → Option Sl} {h c d : Nat} (h1 : Ch A h c) (h2 : Ch A h d) : c = d := by
  induction h1 generalizing d with
  | zero => cases h2 with
    | zero => rfl
    | succ h0 => exact absurd rfl h0
  | succ h0 ha _ ih => cases h2 with
    | zero => exact absurd rfl h0
    | succ _ hb hc => rw [ha] at hb; cases hb; rw [ih hc]
theorem Ch.mono {A B : Nat → Option Sl} {h c : Nat} (hk : ∀ x s, A x = some s → ∃ t, B x = some t ∧ t.parent = s.parent) (h1 : Ch A h c) : Ch B h c := by
  induction h1 with
  | zero => exact .zero
  | succ h0 ha _ ih =>
    obtain ⟨t, h2, h3⟩ := hk _ _ ha
    exact .succ h0 h2 (by rw [h3]; exact ih)
/-- x is h or lies within it. -/
inductive Wi (A : Nat → Option Sl) (h : Nat) : Nat → Prop where
  | self : Wi A h h
  | up {x : Nat} {s : Sl} : A x = some s → Wi A h s.parent → Wi A h x
def updA (A : Nat → Option Sl) (h : Nat) (s : Option Sl) : Nat → Option Sl := fun x => if x = h then s else A x
theorem updA_self (A : Nat → Option Sl) (h : Nat) (s : Option Sl) : updA A h s h = s := by unfold updA; rw [if_pos rfl]
theorem updA_ne {A : Nat → Option Sl} {h x : Nat} {s : Option Sl} (e : x ≠ h) : updA A h s x = A x := by unfold updA; rw [if_neg e]
/-- A slot that can be. -/
def okSl (s : Sl) : Prop := ownF s.kind s.nm s.attrs s.text = 0 ∧ (s.kind = 1 ∧ s.text = noB ∨ s.kind = 2 ∧ s.nm = noB ∧ s.attrs = [] ∧ s.kids = [])
/-- A document that hangs together, but for loose nodes, which hang nowhere. -/
structure WfA (A : Nat → Option Sl) (roots loose : List Nat) : Prop where
  zero : A 0 = none
  ok : ∀ h s, A h = some s → okSl s
  par : ∀ h s, A h = some s → s.parent = 0 ∨ ∃ t, A s.parent = some t ∧ t.kind = 1
  chain : ∀ h s, A h = some s → ∃ c, c ≤ 64 ∧ Ch A h c
  kid : ∀ h s, A h = some s → s.kids.Nodup ∧ ∀ x ∈ s.kids, x ∉ loose ∧ ∃ t, A x = some t ∧ t.parent = h
  root : roots.Nodup ∧ ∀ x ∈ roots, x ∉ loose ∧ ∃ t, A x = some t ∧ t.parent = 0
  mem : ∀ h s, A h = some s → h ∉ loose → h ∈ lstA A roots s.parent
  lo : ∀ h ∈ loose, ∃ s, A h = some s
section
variable {A : Nat → Option Sl} {roots loose : List Nat}
theorem WfA.lst (h : WfA A roots loose) (p : Nat) : (lstA A roots p).Nodup ∧ ∀ x ∈ lstA A roots p, x ∉ loose ∧ ∃ t, A x = some t ∧ t.parent = p := by
  unfold lstA
  by_cases h0 : p = 0
  · subst h0; rw [if_pos rfl]; exact h.root
  · rw [if_neg h0]
    cases ha : A p with
    | none => simp
    | some s => exact h.kid p s ha
theorem lstA_some {p : Nat} {s : Sl} (h0 : p ≠ 0) (h : A p = some s) : lstA A roots p = s.kids := by unfold lstA; rw [if_neg h0, h]
theorem lstA_zero : lstA A roots 0 = roots := by unfold lstA; rw [if_pos rfl]
theorem WfA.ne0 (h : WfA A roots loose) {x : Nat} {s : Sl} (hx : A x = some s) : x ≠ 0 := fun e => by subst e; rw [h.zero] at hx; cases hx
/-- One more, that hangs nowhere yet. -/
theorem WfA.fresh (h : WfA A roots loose) {n p c : Nat} {s : Sl} (h0 : n ≠ 0) (hn : A n = none) (hs : okSl s) (hk : s.kids = []) (hp : s.parent = p) (hpk : p = 0 ∨ ∃ t, A p = some t ∧ t.kind = 1) (hc : Ch A p c) (hc2 : c + 1 ≤ 64) :
    WfA (updA A n (some s)) roots (n :: loose) := by
  have hext : ∀ x t, A x = some t → updA A n (some s) x = some t := fun x t hx => by
    rw [updA_ne]; exact hx
    rintro rfl; rw [hn] at hx; cases hx
  have hext2 : ∀ x t, A x = some t → ∃ u, updA A n (some s) x = some u ∧ u.parent = t.parent := fun x t hx => ⟨t, hext x t hx, rfl⟩
  have hold : ∀ x t, updA A n (some s) x = some t → (x = n ∧ t = s) ∨ A x = some t := fun x t hx => by
    by_cases e : x = n
    · subst e; rw [updA_self] at hx; cases hx; exact .inl ⟨rfl, rfl⟩
    · rw [updA_ne e] at hx; exact .inr hx
  have hpar : ∀ q, (q = 0 ∨ ∃ t, A q = some t ∧ t.kind = 1) → (q = 0 ∨ ∃ t, updA A n (some s) q = some t ∧ t.kind = 1) := fun q hq => by
    rcases hq with hq | ⟨t, h1, h2⟩
    · exact .inl hq
    · exact .inr ⟨t, hext _ _ h1, h2⟩
  refine ⟨by rw [updA_ne (Ne.symm h0)]; exact h.zero, fun x t hx => ?_, fun x t hx => ?_, fun x t hx => ?_, fun x t hx => ?_, ⟨h.root.1, fun x hx => ?_⟩, fun x t hx hl => ?_, fun x hx => ?_⟩
  rotate_right
  · rcases List.mem_cons.1 hx with rfl | hx
    · exact ⟨s, updA_self _ _ _⟩
    · obtain ⟨t, ht⟩ := h.lo x hx
      exact ⟨t, hext _ _ ht⟩
  · rcases hold x t hx with ⟨rfl, rfl⟩ | hx
    · exact hs
    · exact h.ok x t hx
  · rcases hold x t hx with ⟨rfl, rfl⟩ | hx
    · rw [hp]; exact hpar _ hpk
    · exact hpar _ (h.par x t hx)
  · rcases hold x t hx with ⟨rfl, rfl⟩ | hx
    · exact ⟨c + 1, hc2, .succ h0 (updA_self _ _ _) (by rw [hp]; exact hc.mono hext2)⟩
    · obtain ⟨d, h1, h2⟩ := h.chain x t hx
      exact ⟨d, h1, h2.mono hext2⟩
  · rcases hold x t hx with ⟨rfl, rfl⟩ | hx
    · rw [hk]; simp
    · obtain ⟨h1, h2⟩ := h.kid x t hx
      refine ⟨h1, fun y hy => ?_⟩
      obtain ⟨h3, u, h4, h5⟩ := h2 y hy
      refine ⟨?_, u, hext _ _ h4, h5⟩
      simp only [List.mem_cons, not_or]
      exact ⟨fun e => (by subst e; rw [hn] at h4; cases h4), h3⟩
  · obtain ⟨h3, u, h4, h5⟩ := h.root.2 x hx
    refine ⟨?_, u, hext _ _ h4, h5⟩
    simp only [List.mem_cons, not_or]
    exact ⟨fun e => (by subst e; rw [hn] at h4; cases h4), h3⟩
  · simp only [List.mem_cons, not_or] at hl
    rcases hold x t hx with ⟨rfl, rfl⟩ | hx
    · exact absurd rfl hl.1
    · have h1 := h.mem x t hx hl.2
      rcases h.par x t hx with h2 | ⟨u, h2, -⟩
      · rw [h2, lstA_zero] at h1 ⊢; exact h1
      · rw [lstA_some (h.ne0 h2) h2] at h1
        rw [lstA_some (h.ne0 h2) (hext _ _ h2)]; exact h1
/-- The map and the roots with another list at a place. -/
def setA (A : Nat → Option Sl) (p : Nat) (l : List Nat) : Nat → Option Sl := fun x => if x = p ∧ p ≠ 0 then (A x).map fun s => { s with kids := l } else A x
def setR (roots : List Nat) (p : Nat) (l : List Nat) : List Nat := if p = 0 then l else roots
theorem setA_some {p x : Nat} {l : List Nat} {t : Sl} (h : setA A p l x = some t) : ∃ s, A x = some s ∧ t = (if x = p ∧ p ≠ 0 then { s with kids := l } else s) := by
  unfold setA at h
  by_cases e : x = p ∧ p ≠ 0
  · rw [if_pos e] at h
    obtain ⟨s, h1, h2⟩ := Option.map_eq_some_iff.1 h
    exact ⟨s, h1, by rw [if_pos e]; exact h2.symm⟩
  · rw [if_neg e] at h
    exact ⟨t, h, by rw [if_neg e]⟩
theorem setA_of {p x : Nat} {l : List Nat} {s : Sl} (h : A x = some s) : setA A p l x = some (if x = p ∧ p ≠ 0 then { s with kids := l } else s) := by
  unfold setA
  by_cases e : x = p ∧ p ≠ 0
  · rw [if_pos e, if_pos e, h]; rfl
  · rw [if_neg e, if_neg e, h]
theorem setA_of' {p x : Nat} {l : List Nat} {s : Sl} (h : A x = some s) : ∃ t, setA A p l x = some t ∧ t.parent = s.parent ∧ t.kind = s.kind := by
  refine ⟨_, setA_of h, ?_, ?_⟩ <;> split <;> rfl
theorem lst_setA {p q : Nat} {l : List Nat} (hq : q = 0 ∨ ∃ s, A q = some s) (h0 : A 0 = none) : lstA (setA A p l) (setR roots p l) q = if q = p then l else lstA A roots q := by
  unfold lstA setR
  by_cases e : q = 0
  · subst e
    rw [if_pos rfl]
    by_cases e2 : p = 0
    · subst e2; simp
    · rw [if_neg e2, if_neg (Ne.symm e2), if_pos rfl]
  · rw [if_neg e, if_neg e]
    rcases hq with hq | ⟨s, hs⟩
    · exact absurd hq e
    · rw [setA_of hs, hs]
      simp only
      by_cases e2 : q = p
      · subst e2; rw [if_pos ⟨rfl, e⟩, if_pos rfl]
      · rw [if_neg (fun h => e2 h.1), if_neg e2]
/-- A list is changed: what was taken out is loose, what was put in isn't. -/
theorem WfA.setL (h : WfA A roots loose) {p : Nat} {l : List Nat} {loose' : List Nat} (hp : p = 0 ∨ ∃ t, A p = some t ∧ t.kind = 1) (hn : l.Nodup) (hl : ∀ x ∈ l, x ∉ loose' ∧ ∃ t, A x = some t ∧ t.parent = p)
    (hm : ∀ x s, A x = some s → s.parent = p → x ∉ loose' → x ∈ l) (ho : ∀ x s, A x = some s → s.parent ≠ p → (x ∈ loose' ↔ x ∈ loose)) (hlo : ∀ x ∈ loose', ∃ s, A x = some s) : WfA (setA A p l) (setR roots p l) loose' := by
  have hpe : ∀ q, (q = 0 ∨ ∃ t, A q = some t ∧ t.kind = 1) → (q = 0 ∨ ∃ t, setA A p l q = some t ∧ t.kind = 1) := fun q hq => by
    rcases hq with hq | ⟨t, h1, h2⟩
    · exact .inl hq
    · obtain ⟨u, h3, h4, h5⟩ := setA_of' (p := p) (l := l) h1
      exact .inr ⟨u, h3, by rw [h5, h2]⟩
  have hch : ∀ x s, A x = some s → ∃ t, setA A p l x = some t ∧ t.parent = s.parent := fun x s hx => by
    obtain ⟨u, h3, h4, h5⟩ := setA_of' (p := p) (l := l) hx
    exact ⟨u, h3, h4⟩
  refine ⟨by unfold setA; rw [if_neg (by rintro ⟨e, h2⟩; exact h2 e.symm)]; exact h.zero, fun x t hx => ?_, fun x t hx => ?_, fun x t hx => ?_, fun x t hx => ?_, ?_, fun x t hx hlo => ?_, fun x hx => ?_⟩
  rotate_right
  · obtain ⟨s, hs⟩ := hlo x hx
    exact ⟨_, setA_of hs⟩
  · obtain ⟨s, h1, rfl⟩ := setA_some hx
    have h2 := h.ok x s h1
    split
    · rename_i e
      rcases hp with hp | ⟨t, h3, h4⟩
      · exact absurd hp e.2
      · rw [← e.1, h1] at h3; cases h3
        obtain ⟨h5, h6⟩ := h2
        refine ⟨h5, .inl ⟨h4, ?_⟩⟩
        rcases h6 with h6 | h6
        · exact h6.2
        · rw [h4] at h6; exact absurd h6.1 (by decide)
    · exact h2
  · obtain ⟨s, h1, rfl⟩ := setA_some hx
    have : (if x = p ∧ p ≠ 0 then { s with kids := l } else s).parent = s.parent := by split <;> rfl
    rw [this]
    exact hpe _ (h.par x s h1)
  · obtain ⟨s, h1, rfl⟩ := setA_some hx
    obtain ⟨c, h2, h3⟩ := h.chain x s h1
    exact ⟨c, h2, h3.mono hch⟩
  · obtain ⟨s, h1, rfl⟩ := setA_some hx
    split
    · rename_i e
      refine ⟨hn, fun y hy => ?_⟩
      obtain ⟨h3, u, h4, h5⟩ := hl y hy
      obtain ⟨v, h6, h7⟩ := hch y u h4
      exact ⟨h3, v, h6, by rw [h7, h5, e.1]⟩
    · rename_i e
      obtain ⟨h2, h3⟩ := h.kid x s h1
      refine ⟨h2, fun y hy => ?_⟩
      obtain ⟨h4, u, h5, h6⟩ := h3 y hy
      obtain ⟨v, h7, h8⟩ := hch y u h5
      refine ⟨fun hy2 => h4 ((ho y u h5 ?_).1 hy2), v, h7, by rw [h8, h6]⟩
      rw [h6]
      rintro rfl
      exact e ⟨rfl, h.ne0 h1⟩
  · unfold setR
    split
    · rename_i e
      refine ⟨hn, fun y hy => ?_⟩
      obtain ⟨h3, u, h4, h5⟩ := hl y hy
      obtain ⟨v, h6, h7⟩ := hch y u h4
      exact ⟨h3, v, h6, by rw [h7, h5, e]⟩
    · rename_i e
      refine ⟨h.root.1, fun y hy => ?_⟩
      obtain ⟨h4, u, h5, h6⟩ := h.root.2 y hy
      obtain ⟨v, h7, h8⟩ := hch y u h5
      exact ⟨fun hy2 => h4 ((ho y u h5 (by rw [h6]; exact Ne.symm e)).1 hy2), v, h7, by rw [h8, h6]⟩
  · obtain ⟨s, h1, rfl⟩ := setA_some hx
    have hpe2 : (if x = p ∧ p ≠ 0 then { s with kids := l } else s).parent = s.parent := by split <;> rfl
    rw [hpe2]
    rw [lst_setA ((h.par x s h1).imp id fun ⟨t, h2, _⟩ => ⟨t, h2⟩) h.zero]
    by_cases e : s.parent = p
    · rw [if_pos e]; exact hm x s h1 e hlo
    · rw [if_neg e]; exact h.mem x s h1 fun h2 => hlo ((ho x s h1 e).2 h2)
end
end Go.Proofs.YtfhkgnfphfmhiaaGreatDoor
/- Documents: new nodes of a tree, in plain. -/
namespace Go.Proofs.YtfhkgnfphfmhiaaGreatDoor
open Go.RowKit Go.Vc
set_option linter.unusedSimpArgs false
--PURE
theorem Tr.ind {M : Tr → Prop} (h : ∀ kind nm attrs text kids, (∀ k ∈ kids, M k) → M (.mk kind nm attrs text kids)) : ∀ t, M t := by
  intro t
  refine Tr.rec (motive_1 := M) (motive_2 := fun ks => ∀ k ∈ ks, M k) (fun kind nm attrs text ks ih => h kind nm attrs text ks ih) (fun k hk => by simp at hk) (fun a l h1 h2 k hk => ?_) t
  rcases List.mem_cons.1 hk with rfl | hk
  · exact h1
  · exact h2 k hk
mutual
def szT : Tr → Nat
  | .mk kind _ _ _ kids => if kind = 2 then 1 else 1 + szL kids
def szL : List Tr → Nat
  | [] => 0
  | x :: l => szT x + szL l
end
mutual
def dpT : Tr → Nat
  | .mk kind _ _ _ kids => if kind = 2 then 1 else 1 + dpL kids
def dpL : List Tr → Nat
  | [] => 0
  | x :: l => max (dpT x) (dpL l)
end
mutual
/-- Each node is one that can be. -/
def okT : Tr → Prop
  | .mk kind nm attrs text kids => ownF kind nm attrs text = 0 ∧ (kind = 1 ∨ kind = 2) ∧ (kind = 1 → okL kids)
def okL : List Tr → Prop
  | [] => True
  | x :: l => okT x ∧ okL l
end
theorem szT_pos : ∀ x : Tr, 1 ≤ szT x
  | .mk kind _ _ _ kids => by unfold szT; split <;> omega
theorem dpT_pos : ∀ x : Tr, 1 ≤ dpT x
  | .mk kind _ _ _ kids => by unfold dpT; split <;> omega
mutual
/-- The deepest, and how many, as one goes through a tree that may be wrong; what is wrong. -/
def lookF : Tr → Nat → Nat → Nat × Int
  | .mk kind nm attrs text kids, deep, n =>
    if 64 < deep ∨ 4096 ≤ n then (n, 2) else if ownF kind nm attrs text ≠ 0 then (n, ownF kind nm attrs text) else if kind = 2 then (n + 1, 0) else looksF kids (deep + 1) (n + 1)
def looksF : List Tr → Nat → Nat → Nat × Int
  | [], _, n => (n, 0)
  | x :: l, deep, n => if (lookF x deep n).2 ≠ 0 then lookF x deep n else looksF l deep (lookF x deep n).1
end
/-- The first free slot; a slot that nobody has had. -/
def freeI (sl : List Sl) : Nat := sl.findIdx fun s => !s.live && decide (s.gen < 4294967295)
def deadS (g : Nat) : Sl := ⟨g, false, 0, noB, [], noB, 0, []⟩
def roomF (sl : List Sl) : List Sl := if freeI sl < sl.length then sl else sl ++ [deadS 0]
def genI (sl : List Sl) : Nat := match (roomF sl)[freeI sl]? with | some s => s.gen + 1 | none => 0
def freshH (sl : List Sl) : Nat := hnd (genI sl) (freeI sl)
mutual
def makeF : Tr → Nat → List Sl → List Sl
  | .mk kind nm attrs text kids, p, sl =>
    if kind = 2 then (roomF sl).set (freeI sl) ⟨genI sl, true, kind, noB, [], text, p, []⟩
    else makesF kids (freshH sl) (freeI sl) ((roomF sl).set (freeI sl) ⟨genI sl, true, kind, nm, attrs, noB, p, []⟩)
def makesF : List Tr → Nat → Nat → List Sl → List Sl
  | [], _, _, sl => sl
  | x :: l, h, i, sl => makesF l h i ((makeF x h sl).modify i fun s => { s with kids := s.kids ++ [freshH sl] })
end
/-- Slots by themselves. -/
structure WfS (sl : List Sl) : Prop where
  few : sl.length ≤ 4096
  gen : ∀ s ∈ sl, s.gen < 4294967296
  dead : ∀ s ∈ sl, s.live = false → s = deadS s.gen
  live : ∀ s ∈ sl, s.live = true → 1 ≤ s.gen
def tk (sl : List Sl) : Nat := (sl.filter fun s => s.live || decide (4294967295 ≤ s.gen)).length
section
variable {sl : List Sl}
theorem freeI_lt (h : freeI sl < sl.length) : ∃ s, sl[freeI sl]? = some s ∧ s.live = false ∧ s.gen < 4294967295 := by
  have h1 := List.findIdx_getElem (w := h)
  refine ⟨sl[freeI sl], List.getElem?_eq_getElem h, ?_⟩
  unfold freeI
  simpa using h1
theorem freeI_le : freeI sl ≤ sl.length := List.findIdx_le_length
theorem tk_le : tk sl ≤ sl.length := List.length_filter_le _ _
theorem tk_full (h : ¬ freeI sl < sl.length) : tk sl = sl.length := by
  unfold tk
  rw [List.filter_eq_self.2]
  intro s hs
  have h1 : sl.findIdx (fun s => !s.live && decide (s.gen < 4294967295)) = sl.length := by
    have := freeI_le (sl := sl); unfold freeI at this h; omega
  have h2 := List.findIdx_eq_length.1 h1 s hs
  cases hl : s.live
  · simp [hl] at h2 ⊢; omega
  · simp
/-- The slots with a free one at hand. -/
theorem room_get (hw : WfS sl) : ∃ s, (roomF sl)[freeI sl]? = some s ∧ s = deadS s.gen ∧ s.gen < 4294967295 ∧ s.live = false := by
  unfold roomF
  by_cases h : freeI sl < sl.length
  · rw [if_pos h]
    obtain ⟨s, h1, h2, h3⟩ := freeI_lt h
    exact ⟨s, h1, hw.dead s (List.mem_of_getElem? h1) h2, h3, h2⟩
  · rw [if_neg h]
    have h2 : freeI sl = sl.length := by have := freeI_le (sl := sl); omega
    exact ⟨deadS 0, by rw [h2]; simp, rfl, by decide, rfl⟩
theorem genI_eq {s : Sl} (h : (roomF sl)[freeI sl]? = some s) : genI sl = s.gen + 1 := by unfold genI; rw [h]
theorem room_old {k : Nat} {s : Sl} (h : sl[k]? = some s) : (roomF sl)[k]? = some s := by
  unfold roomF
  split
  · exact h
  · rw [List.getElem?_append_left (List.getElem?_eq_some_iff.1 h).1]; exact h
theorem room_len : sl.length ≤ (roomF sl).length ∧ (roomF sl).length ≤ tk sl + 1 ∨ (roomF sl).length = sl.length := by
  unfold roomF
  by_cases h : freeI sl < sl.length
  · rw [if_pos h]; exact .inr rfl
  · rw [if_neg h]
    have := tk_full h
    exact .inl (by simp; omega)
theorem room_wf (hw : WfS sl) (ht : tk sl < 4096) : WfS (roomF sl) := by
  unfold roomF
  by_cases h : freeI sl < sl.length
  · rw [if_pos h]; exact hw
  · rw [if_neg h]
    have h2 := tk_full h
    refine ⟨by simp; omega, fun s hs => ?_, fun s hs hl => ?_, fun s hs hl => ?_⟩ <;> rcases List.mem_append.1 hs with hs | hs
    · exact hw.gen s hs
    · rw [List.mem_singleton] at hs; subst hs; decide
    · exact hw.dead s hs hl
    · rw [List.mem_singleton] at hs; subst hs; rfl
    · exact hw.live s hs hl
    · rw [List.mem_singleton] at hs; subst hs; cases hl
theorem slA_room (hw : WfS sl) (x : Nat) : slA (roomF sl) x = slA sl x := by
  unfold roomF
  by_cases h : freeI sl < sl.length
  · rw [if_pos h]
  · rw [if_neg h]
    cases hx : slA sl x with
    | some s =>
      obtain ⟨k, h1, h2, h3, h4⟩ := slA_iff.1 hx
      exact slA_iff.2 ⟨k, h1, by rw [List.getElem?_append_left (List.getElem?_eq_some_iff.1 h2).1]; exact h2, h3, h4⟩
    | none =>
      cases hy : slA (sl ++ [deadS 0]) x with
      | none => rfl
      | some s =>
        obtain ⟨k, h1, h2, h3, h4⟩ := slA_iff.1 hy
        rcases Nat.lt_or_ge k sl.length with hk | hk
        · rw [List.getElem?_append_left hk] at h2
          rw [slA_iff.2 ⟨k, h1, h2, h3, h4⟩] at hx; cases hx
        · rw [List.getElem?_append_right hk] at h2
          have : s ∈ [deadS 0] := List.mem_of_getElem? h2
          rw [List.mem_singleton] at this; subst this; cases h3
/-- A dead slot comes to life. -/
theorem slA_born {k : Nat} {s s' : Sl} (hk : k + 1 < 4294967296) (hs : sl[k]? = some s) (hd : s.live = false) (hl : s'.live = true) (x : Nat) :
    slA (sl.set k s') x = updA (slA sl) (hnd s'.gen k) (some s') x := by
  have hlt : k < sl.length := (List.getElem?_eq_some_iff.1 hs).1
  by_cases e : x = hnd s'.gen k
  · subst e
    rw [updA_self]
    exact slA_hnd hk (by simp [hlt]) hl
  · rw [updA_ne e]
    cases hx : slA sl x with
    | some t =>
      obtain ⟨j, j1, j2, j3, j4⟩ := slA_iff.1 hx
      refine slA_iff.2 ⟨j, j1, ?_, j3, j4⟩
      rw [List.getElem?_set_ne, j2]
      rintro rfl
      rw [hs] at j2; cases j2; rw [hd] at j3; cases j3
    | none =>
      cases hy : slA (sl.set k s') x with
      | none => rfl
      | some t =>
        obtain ⟨j, j1, j2, j3, j4⟩ := slA_iff.1 hy
        by_cases ej : k = j
        · subst ej
          rw [List.getElem?_set_self hlt] at j2
          cases j2
          exact absurd j4.symm e
        · rw [List.getElem?_set_ne ej] at j2
          rw [slA_iff.2 ⟨j, j1, j2, j3, j4⟩] at hx; cases hx
theorem slA_dead {k h : Nat} {s : Sl} (hk : k + 1 < 4294967296) (hs : sl[k]? = some s) (hd : s.live = false) (hm : h % 4294967296 = k + 1) : slA sl h = none := by
  cases hx : slA sl h with
  | none => rfl
  | some t =>
    obtain ⟨j, j1, j2, j3, j4⟩ := slA_iff.1 hx
    obtain rfl : j = k := by omega
    rw [hs] at j2; cases j2; rw [hd] at j3; cases j3
theorem WfS.set (hw : WfS sl) {k : Nat} {s' : Sl} (h1 : s'.gen < 4294967296) (h2 : s'.live = false → s' = deadS s'.gen) (h3 : s'.live = true → 1 ≤ s'.gen) : WfS (sl.set k s') := by
  refine ⟨by simpa using hw.few, fun s hs => ?_, fun s hs hl => ?_, fun s hs hl => ?_⟩ <;> rcases List.mem_or_eq_of_mem_set hs with hs | hs
  · exact hw.gen s hs
  · subst hs; exact h1
  · exact hw.dead s hs hl
  · subst hs; exact h2 hl
  · exact hw.live s hs hl
  · subst hs; exact h3 hl
theorem filter_set_len {α : Type} (q : α → Bool) : ∀ (l : List α) (k : Nat) (a b : α), l[k]? = some a → ((l.set k b).filter q).length + (if q a then 1 else 0) = (l.filter q).length + (if q b then 1 else 0)
  | [], k, a, b, h => by simp at h
  | x :: l, 0, a, b, h => by
    simp at h; subst h
    simp only [List.set_cons_zero, List.filter_cons]
    cases q x <;> cases q b <;> simp
  | x :: l, k + 1, a, b, h => by
    have ih := filter_set_len q l k a b (by simpa using h)
    simp only [List.set_cons_succ, List.filter_cons]
    cases q x
    · simpa using ih
    · simp only [if_true, List.length_cons]; omega
theorem tk_set {k : Nat} {a b : Sl} (h : sl[k]? = some a) : tk (sl.set k b) + (if a.live || decide (4294967295 ≤ a.gen) then 1 else 0) = tk sl + (if b.live || decide (4294967295 ≤ b.gen) then 1 else 0) :=
  filter_set_len (fun s : Sl => s.live || decide (4294967295 ≤ s.gen)) sl k a b h
theorem tk_room : tk (roomF sl) = tk sl := by
  unfold roomF tk
  split
  · rfl
  · rw [List.filter_append]; simp [deadS]
theorem modify_set {α : Type} (f : α → α) : ∀ (l : List α) (k : Nat) (a : α), l[k]? = some a → l.modify k f = l.set k (f a)
  | [], k, a, h => by simp at h
  | x :: l, 0, a, h => by simp at h; subst h; rfl
  | x :: l, k + 1, a, h => by
    have ih := modify_set f l k a (by simpa using h)
    simp [ih]
end
/-- What making a tree's nodes comes to. -/
structure Made (roots loose : List Nat) (sl sl' : List Sl) (p h n : Nat) : Prop where
  wfs : WfS sl'
  wf : WfA (slA sl') roots (h :: loose)
  new : slA sl h = none
  ext : ∀ y s, slA sl y = some s → slA sl' y = some s
  top : ∃ s, slA sl' h = some s ∧ s.parent = p
  tk : tk sl' = tk sl + n
  len : sl.length ≤ sl'.length
section
variable {sl : List Sl} {roots loose : List Nat} {p c : Nat}
theorem one_wf {s : Sl} (hs : okSl s) (hk : s.kids = []) (hsp : s.parent = p) (hsl : s.live = true) (hsg : s.gen = genI sl) (hw : WfS sl) (hA : WfA (slA sl) roots loose) (hp : p = 0 ∨ ∃ t, slA sl p = some t ∧ t.kind = 1) (hc : Ch (slA sl) p c) (hc2 : c + 1 ≤ 64) (ht : tk sl + 1 ≤ 4096) :
    Made roots loose sl ((roomF sl).set (freeI sl) s) p (freshH sl) 1 ∧ slA ((roomF sl).set (freeI sl) s) (freshH sl) = some s := by
  obtain ⟨d, h1, h2, h3, h4⟩ := room_get hw
  have hg := genI_eq h1
  have hR := room_wf hw (by omega)
  have hi : freeI sl < (roomF sl).length := (List.getElem?_eq_some_iff.1 h1).1
  have hfew := hR.few
  have e : ∀ x, slA ((roomF sl).set (freeI sl) s) x = updA (slA sl) (freshH sl) (some s) x := fun x => by
    have e1 := slA_born (sl := roomF sl) (k := freeI sl) (s := d) (s' := s) (by omega) h1 h4 hsl x
    rw [e1]
    have e2 : (slA (roomF sl)) = slA sl := funext (slA_room hw)
    rw [e2, hsg]; rfl
  have e' := funext e
  have hnew : slA sl (freshH sl) = none := by
    rw [← slA_room hw]
    exact slA_dead (k := freeI sl) (s := d) (by omega) h1 h4 (by unfold freshH; exact hnd_mod (by omega))
  have h0 : freshH sl ≠ 0 := by unfold freshH hnd; omega
  refine ⟨⟨hR.set (by rw [hsg]; omega) (by rw [hsl]; simp) (fun _ => by rw [hsg]; omega), ?_, hnew, fun y t hy => ?_, ⟨s, by rw [e, updA_self], hsp⟩, ?_, ?_⟩, by rw [e, updA_self]⟩
  · rw [e']; exact hA.fresh h0 hnew hs hk hsp hp hc hc2
  · rw [e, updA_ne]; exact hy
    rintro rfl; rw [hnew] at hy; cases hy
  · have := tk_set (b := s) h1
    rw [tk_room] at this
    rw [h4, hsl] at this
    simp only [Bool.true_or, if_true, Bool.false_or] at this
    rw [if_neg (by simp; omega)] at this
    omega
  · rw [List.length_set]
    rcases room_len (sl := sl) with h | h <;> omega
/-- One that is loose comes to hang as the last one. -/
theorem WfA.hang1 {A : Nat → Option Sl} {h hk : Nat} {s : Sl} (hA : WfA A roots (hk :: loose)) (hh : A h = some s) (hs1 : s.kind = 1) (hkp : ∃ t, A hk = some t ∧ t.parent = h) (hnl : hk ∉ loose) :
    WfA (setA A h (s.kids ++ [hk])) roots loose := by
  have h0 := hA.ne0 hh
  have hr : setR roots h (s.kids ++ [hk]) = roots := by unfold setR; rw [if_neg h0]
  have := hA.setL (p := h) (l := s.kids ++ [hk]) (loose' := loose) (.inr ⟨s, hh, hs1⟩) ?_ (fun x hx => ?_) (fun x t hx hp hl => ?_) (fun x t hx hp => ?_) (fun x hx => hA.lo x (List.mem_cons_of_mem _ hx))
  · rw [hr] at this; exact this
  · obtain ⟨k1, k2⟩ := hA.kid h s hh
    rw [List.nodup_append]
    refine ⟨k1, by simp, fun a ha b hb e => ?_⟩
    rw [List.mem_singleton] at hb; subst hb; subst e
    exact (k2 a ha).1 (by simp)
  · rcases List.mem_append.1 hx with hx | hx
    · obtain ⟨k1, k2⟩ := (hA.kid h s hh).2 x hx
      exact ⟨fun e => k1 (List.mem_cons_of_mem _ e), k2⟩
    · rw [List.mem_singleton] at hx; subst hx
      exact ⟨hnl, hkp⟩
  · by_cases e : x = hk
    · subst e; simp
    · have := hA.mem x t hx (by simp [e, hl])
      rw [hp, lstA_some h0 hh] at this
      exact List.mem_append_left _ this
  · constructor
    · intro k; exact List.mem_cons_of_mem _ k
    · intro k
      rcases List.mem_cons.1 k with rfl | k
      · obtain ⟨u, u1, u2⟩ := hkp
        rw [hx] at u1; cases u1; exact absurd u2 hp
      · exact k
theorem makes_wf : ∀ (l : List Tr), (∀ x ∈ l, ∀ {sl : List Sl} {loose : List Nat} {p c : Nat}, okT x → WfS sl → WfA (slA sl) roots loose → (p = 0 ∨ ∃ t, slA sl p = some t ∧ t.kind = 1) → Ch (slA sl) p c → c + dpT x ≤ 64 → tk sl + szT x ≤ 4096 → Made roots loose sl (makeF x p sl) p (freshH sl) (szT x)) →
    ∀ {sl : List Sl} {loose : List Nat} {h c i : Nat} {s : Sl}, okL l → WfS sl → WfA (slA sl) roots loose → h % 4294967296 = i + 1 → slA sl h = some s → s.kind = 1 → Ch (slA sl) h c → c + dpL l ≤ 64 → tk sl + szL l ≤ 4096 →
    WfS (makesF l h i sl) ∧ WfA (slA (makesF l h i sl)) roots loose ∧ (∀ y t, y ≠ h → slA sl y = some t → slA (makesF l h i sl) y = some t) ∧ (∃ ks, slA (makesF l h i sl) h = some { s with kids := s.kids ++ ks }) ∧ tk (makesF l h i sl) = tk sl + szL l ∧ sl.length ≤ (makesF l h i sl).length
  | [], _, sl, loose, h, c, i, s, ho, hw, hA, hi, hs, hs1, hc, hd, ht => by
    unfold makesF
    exact ⟨hw, hA, fun _ _ _ h => h, ⟨[], by simpa using hs⟩, by simp [szL], Nat.le_refl _⟩
  | x :: l, ih, sl, loose, h, c, i, s, ho, hw, hA, hi, hs, hs1, hc, hd, ht => by
    simp only [okL, dpL, szL] at ho hd ht
    have M := ih x (by simp) ho.1 hw hA (.inr ⟨s, hs, hs1⟩) hc (by omega) (by omega)
    unfold makesF
    generalize hsl1 : makeF x h sl = sl1 at M ⊢
    generalize hhk : freshH sl = hk at M ⊢
    have hs' := M.ext h s hs
    obtain ⟨k, k1, k2, k3, k4⟩ := slA_iff.1 hs'
    obtain rfl : k = i := by omega
    have hfew := M.wfs.few
    have hlt : k < sl1.length := (List.getElem?_eq_some_iff.1 k2).1
    rw [modify_set _ _ _ _ k2]
    have e : ∀ y, slA (sl1.set k { s with kids := s.kids ++ [hk] }) y = setA (slA sl1) h (s.kids ++ [hk]) y := fun y => by
      rw [slA_set (s' := { s with kids := s.kids ++ [hk] }) k1 hs' rfl k3]
      unfold setA
      have h0 := hA.ne0 hs
      by_cases ey : y = h
      · subst ey; rw [if_pos rfl, if_pos ⟨rfl, h0⟩, hs']; rfl
      · rw [if_neg ey, if_neg (fun e => ey e.1)]
    have e' := funext e
    have hnl : hk ∉ loose := fun hm => by
      obtain ⟨t, ht⟩ := hA.lo hk hm
      rw [M.new] at ht; cases ht
    have A2 : WfA (slA (sl1.set k { s with kids := s.kids ++ [hk] })) roots loose := by rw [e']; exact M.wf.hang1 hs' hs1 M.top hnl
    have w2 : WfS (sl1.set k { s with kids := s.kids ++ [hk] }) := M.wfs.set (M.wfs.gen s (List.mem_of_getElem? k2)) (by rw [k3]; simp) (fun _ => M.wfs.live s (List.mem_of_getElem? k2) k3)
    have s2 : slA (sl1.set k { s with kids := s.kids ++ [hk] }) h = some { s with kids := s.kids ++ [hk] } := by rw [slA_set (s' := { s with kids := s.kids ++ [hk] }) k1 hs' rfl k3, if_pos rfl]
    have c2 : Ch (slA (sl1.set k { s with kids := s.kids ++ [hk] })) h c := (hc.mono fun y t hy => ⟨t, M.ext y t hy, rfl⟩).mono fun y t hy => by
      rw [e]
      obtain ⟨u, u1, u2, _⟩ := setA_of' (p := h) (l := s.kids ++ [hk]) hy
      exact ⟨u, u1, u2⟩
    have t2 : tk (sl1.set k { s with kids := s.kids ++ [hk] }) = tk sl + szT x := by
      have := tk_set (b := { s with kids := s.kids ++ [hk] }) k2
      have mt := M.tk
      simp only at this
      omega
    obtain ⟨r1, r2, r3, ⟨ks, r4⟩, r5, r6⟩ := makes_wf l (fun y hy => ih y (by simp [hy])) (i := k) ho.2 w2 A2 k1 s2 hs1 c2 (by omega) (by omega)
    refine ⟨r1, r2, fun y t hy ht => r3 y t hy ?_, ⟨hk :: ks, by rw [r4]; simp⟩, by simp only [szL]; omega, ?_⟩
    · rw [e]
      unfold setA
      rw [if_neg (fun e => hy e.1)]
      exact M.ext y t ht
    · have ml := M.len
      rw [List.length_set] at r6
      omega
theorem make_wf : ∀ (x : Tr) {sl : List Sl} {loose : List Nat} {p c : Nat}, okT x → WfS sl → WfA (slA sl) roots loose → (p = 0 ∨ ∃ t, slA sl p = some t ∧ t.kind = 1) → Ch (slA sl) p c → c + dpT x ≤ 64 → tk sl + szT x ≤ 4096 → Made roots loose sl (makeF x p sl) p (freshH sl) (szT x) := by
  refine Tr.ind fun kind nm attrs text kids ih sl loose p c ho hw hA hp hc hd ht => ?_
  unfold okT at ho
  obtain ⟨o1, o2, o3⟩ := ho
  unfold makeF
  unfold dpT at hd
  unfold szT at ht ⊢
  by_cases hk : kind = 2
  · subst hk
    rw [if_pos rfl] at hd ht ⊢
    rw [if_pos rfl]
    refine (one_wf (s := ⟨genI sl, true, 2, noB, [], text, p, []⟩) ⟨?_, .inr ⟨rfl, rfl, rfl, rfl⟩⟩ rfl rfl rfl rfl hw hA hp hc (by omega) (by omega)).1
    unfold ownF at o1 ⊢
    rw [if_neg (by decide), if_pos rfl] at o1
    rw [if_neg (show ¬ (2 : Int) = 1 by decide), if_pos rfl]
    exact o1
  · have hk1 : kind = 1 := o2.resolve_right hk
    subst hk1
    rw [if_neg hk] at hd ht ⊢
    rw [if_neg hk]
    have hok : okSl ⟨genI sl, true, 1, nm, attrs, noB, p, []⟩ := ⟨by unfold ownF at o1 ⊢; exact o1, .inl ⟨rfl, rfl⟩⟩
    obtain ⟨M, hs⟩ := one_wf (s := ⟨genI sl, true, 1, nm, attrs, noB, p, []⟩) hok rfl rfl rfl rfl hw hA hp hc (by omega) (by omega)
    generalize hsl1 : (roomF sl).set (freeI sl) ⟨genI sl, true, 1, nm, attrs, noB, p, []⟩ = sl1 at M hs ⊢
    have h0 : freshH sl ≠ 0 := by unfold freshH hnd; omega
    have hi : freshH sl % 4294967296 = freeI sl + 1 := by
      obtain ⟨d, d1, _⟩ := room_get hw
      have := (room_wf hw (by omega)).few
      have := (List.getElem?_eq_some_iff.1 d1).1
      unfold freshH; exact hnd_mod (by omega)
    have hc1 : Ch (slA sl1) (freshH sl) (c + 1) := .succ h0 hs (hc.mono fun y t hy => ⟨t, M.ext y t hy, rfl⟩)
    have mt := M.tk
    obtain ⟨r1, r2, r3, ⟨ks, r4⟩, r5, r6⟩ := makes_wf kids ih (o3 rfl) M.wfs M.wf hi hs rfl hc1 (by omega) (by omega)
    refine ⟨r1, r2, M.new, fun y t hy => r3 y t ?_ (M.ext y t hy), ⟨_, r4, rfl⟩, by omega, Nat.le_trans M.len r6⟩
    rintro rfl
    rw [M.new] at hy; cases hy
end
end Go.Proofs.YtfhkgnfphfmhiaaGreatDoor
/- Documents: what lies within a node; nodes taken out, moved, taken away, in plain. -/
namespace Go.Proofs.YtfhkgnfphfmhiaaGreatDoor
open Go.RowKit Go.Vc
set_option linter.unusedSimpArgs false
--PURE
/-- y lies so deep within x. -/
inductive De (A : Nat → Option Sl) (x : Nat) : Nat → Nat → Prop where
  | self : De A x x 0
  | up {y d : Nat} {s : Sl} : A y = some s → De A x s.parent d → De A x y (d + 1)
/-- A node and all within it. -/
def allA (A : Nat → Option Sl) : Nat → Nat → List Nat
  | 0, _ => []
  | r + 1, x => x :: (match A x with | some s => s.kids.flatMap (allA A r) | none => [])
theorem allA_some {A : Nat → Option Sl} {r x : Nat} {s : Sl} (h : A x = some s) : allA A (r + 1) x = x :: s.kids.flatMap (allA A r) := by
  rw [allA, h]
section
variable {A : Nat → Option Sl} {roots loose : List Nat}
theorem De.wi {x y d : Nat} (h : De A x y d) : Wi A x y := by
  induction h with
  | self => exact .self
  | up ha _ ih => exact .up ha ih
theorem Wi.de {x y : Nat} (h : Wi A x y) : ∃ d, De A x y d := by
  induction h with
  | self => exact ⟨0, .self⟩
  | up ha _ ih => obtain ⟨d, hd⟩ := ih; exact ⟨d + 1, .up ha hd⟩
theorem De.ch {x y d c : Nat} (h0 : A 0 = none) (h : De A x y d) (hc : Ch A x c) : Ch A y (c + d) := by
  induction h with
  | self => exact hc
  | up ha _ ih => exact .succ (fun e => by subst e; rw [h0] at ha; cases ha) ha ih
theorem De.fn {x x' y d : Nat} (h : De A x y d) (h' : De A x' y d) : x = x' := by
  induction h with
  | self => cases h'; rfl
  | up ha _ ih => cases h' with
    | up hb h2 => rw [ha] at hb; cases hb; exact ih h2
/-- From above on down. -/
theorem De.down {x k y d : Nat} {s : Sl} (hk : A k = some s) (hp : s.parent = x) (h : De A k y d) : De A x y (d + 1) := by
  induction h with
  | self => exact .up hk (by rw [hp]; exact .self)
  | up ha _ ih => exact .up ha ih
/-- What is not the node itself lies within a child. -/
theorem De.split (hA : WfA A roots loose) {x y d : Nat} (h : De A x y (d + 1)) (hx : x ≠ 0) (hl : ∀ z, z ∈ loose → z = x ∨ ¬ Wi A x z) (hne : ∀ z e, De A x z (e + 1) → z ≠ x) : ∃ k s, A x = some s ∧ k ∈ s.kids ∧ De A k y d := by
  generalize hn : d + 1 = n at h
  induction h generalizing d with
  | self => omega
  | @up y d' s ha h2 ih =>
    obtain rfl : d' = d := by omega
    cases d' with
    | zero =>
      cases h2
      have hy : y ≠ s.parent := hne y 0 (.up ha .self)
      have hm : y ∉ loose := fun hy2 => by
        rcases hl y hy2 with e | e
        · exact hy e
        · exact e (.up ha .self)
      have h3 := hA.mem y s ha hm
      rcases hA.par y s ha with e | ⟨t, ht, _⟩
      · exact absurd e hx
      · rw [lstA_some hx ht] at h3
        exact ⟨y, t, ht, h3, .self⟩
    | succ d =>
      obtain ⟨k, t, h3, h4, h5⟩ := ih rfl
      exact ⟨k, t, h3, h4, .up ha h5⟩
theorem WfA.de_ne (hA : WfA A roots loose) {x : Nat} (hx : ∃ s, A x = some s) : ∀ z e, De A x z (e + 1) → z ≠ x := by
  rintro z e h rfl
  obtain ⟨s, hs⟩ := hx
  obtain ⟨c, _, hc⟩ := hA.chain z s hs
  have := (h.ch hA.zero hc).fn hc
  omega
theorem mem_allA (hA : WfA A roots loose) : ∀ (r x y : Nat), (∃ s, A x = some s) → (∀ z, z ∈ loose → z = x ∨ ¬ Wi A x z) → (y ∈ allA A r x ↔ ∃ d, d < r ∧ De A x y d) := by
  intro r
  induction r with
  | zero => intro x y hx hl; simp [allA]
  | succ r ih =>
    intro x y hx hl
    obtain ⟨s, hs⟩ := hx
    rw [allA_some hs, List.mem_cons, List.mem_flatMap]
    have hkid : ∀ k ∈ s.kids, ∃ t, A k = some t ∧ t.parent = x := fun k hk => ((hA.kid x s hs).2 k hk).2
    have hkl : ∀ k ∈ s.kids, ∀ z, z ∈ loose → z = k ∨ ¬ Wi A k z := fun k hk z hz => by
      refine .inr fun hw => ?_
      obtain ⟨t, t1, t2⟩ := hkid k hk
      obtain ⟨d, hd⟩ := hw.de
      have h2 := hd.down t1 t2
      rcases hl z hz with e | e
      · exact hA.de_ne ⟨s, hs⟩ z d h2 e
      · exact e h2.wi
    constructor
    · rintro (rfl | ⟨k, hk, hy⟩)
      · exact ⟨0, by omega, .self⟩
      · obtain ⟨t, t1, t2⟩ := hkid k hk
        obtain ⟨d, d1, d2⟩ := (ih k y ⟨t, t1⟩ (hkl k hk)).1 hy
        exact ⟨d + 1, by omega, d2.down t1 t2⟩
    · rintro ⟨d, d1, d2⟩
      cases d with
      | zero => cases d2; exact .inl rfl
      | succ d =>
        obtain ⟨k, t, k1, k2, k3⟩ := d2.split hA (hA.ne0 hs) hl (hA.de_ne ⟨s, hs⟩)
        rw [hs] at k1; cases k1
        obtain ⟨t, t1, t2⟩ := hkid k k2
        exact .inr ⟨k, k2, (ih k y ⟨t, t1⟩ (hkl k k2)).2 ⟨d, by omega, k3⟩⟩
/-- With steps enough. -/
theorem mem_all (hA : WfA A roots loose) {r x y c : Nat} (hx : ∃ s, A x = some s) (hl : ∀ z, z ∈ loose → z = x ∨ ¬ Wi A x z) (hc : Ch A x c) (hr : 65 ≤ c + r) : y ∈ allA A r x ↔ Wi A x y := by
  rw [mem_allA hA r x y hx hl]
  constructor
  · rintro ⟨d, _, hd⟩; exact hd.wi
  · intro h
    obtain ⟨d, hd⟩ := h.de
    refine ⟨d, ?_, hd⟩
    have h2 := hd.ch hA.zero hc
    have : ∃ s, A y = some s := by
      cases hd with
      | self => exact hx
      | up ha _ => exact ⟨_, ha⟩
    obtain ⟨s, hs⟩ := this
    obtain ⟨c', h3, h4⟩ := hA.chain y s hs
    have := h2.fn h4
    omega
theorem all_live (hA : WfA A roots loose) {r x y : Nat} (hx : ∃ s, A x = some s) (hl : ∀ z, z ∈ loose → z = x ∨ ¬ Wi A x z) (h : y ∈ allA A r x) : ∃ s, A y = some s := by
  obtain ⟨d, _, hd⟩ := (mem_allA hA r x y hx hl).1 h
  cases hd with
  | self => exact hx
  | up ha _ => exact ⟨_, ha⟩
theorem flatMap_nodup {α β : Type} (f : α → List β) : ∀ (l : List α), l.Nodup → (∀ a ∈ l, (f a).Nodup) → (∀ a ∈ l, ∀ b ∈ l, a ≠ b → ∀ y, y ∈ f a → y ∉ f b) → (l.flatMap f).Nodup
  | [], _, _, _ => by simp
  | a :: l, h1, h2, h3 => by
    rw [List.flatMap_cons, List.nodup_append]
    have h4 := List.nodup_cons.1 h1
    refine ⟨h2 a (by simp), flatMap_nodup f l h4.2 (fun b hb => h2 b (by simp [hb])) (fun b hb c hc => h3 b (by simp [hb]) c (by simp [hc])), fun y hy z hz e => ?_⟩
    subst e
    obtain ⟨b, hb, hz⟩ := List.mem_flatMap.1 hz
    exact h3 a (by simp) b (by simp [hb]) (fun e => h4.1 (e ▸ hb)) y hy hz
theorem all_nodup (hA : WfA A roots loose) : ∀ (r x : Nat), (∃ s, A x = some s) → (∀ z, z ∈ loose → z = x ∨ ¬ Wi A x z) → (allA A r x).Nodup := by
  intro r
  induction r with
  | zero => intro x hx hl; simp [allA]
  | succ r ih =>
    intro x hx hl
    obtain ⟨s, hs⟩ := hx
    rw [allA_some hs, List.nodup_cons]
    have hkid : ∀ k ∈ s.kids, ∃ t, A k = some t ∧ t.parent = x := fun k hk => ((hA.kid x s hs).2 k hk).2
    have hkl : ∀ k ∈ s.kids, ∀ z, z ∈ loose → z = k ∨ ¬ Wi A k z := fun k hk z hz => by
      refine .inr fun hw => ?_
      obtain ⟨t, t1, t2⟩ := hkid k hk
      obtain ⟨d, hd⟩ := hw.de
      have h2 := hd.down t1 t2
      rcases hl z hz with e | e
      · exact hA.de_ne ⟨s, hs⟩ z d h2 e
      · exact e h2.wi
    refine ⟨fun hm => ?_, flatMap_nodup _ _ (hA.kid x s hs).1 (fun k hk => ?_) (fun a ha b hb hab y h1 h2 => ?_)⟩
    · obtain ⟨k, k1, k2⟩ := List.mem_flatMap.1 hm
      obtain ⟨t, t1, t2⟩ := hkid k k1
      obtain ⟨d, _, hd⟩ := (mem_allA hA r k x ⟨t, t1⟩ (hkl k k1)).1 k2
      exact hA.de_ne ⟨s, hs⟩ x d (hd.down t1 t2) rfl
    · obtain ⟨t, t1, t2⟩ := hkid k hk
      exact ih k ⟨t, t1⟩ (hkl k hk)
    · obtain ⟨t, t1, t2⟩ := hkid a ha
      obtain ⟨u, u1, u2⟩ := hkid b hb
      obtain ⟨d, _, hd⟩ := (mem_allA hA r a y ⟨t, t1⟩ (hkl a ha)).1 h1
      obtain ⟨e, _, he⟩ := (mem_allA hA r b y ⟨u, u1⟩ (hkl b hb)).1 h2
      obtain ⟨c, _, hc⟩ := hA.chain x s hs
      have c1 : Ch A a (c + 1) := .succ (hA.ne0 t1) t1 (by rw [t2]; exact hc)
      have c2 : Ch A b (c + 1) := .succ (hA.ne0 u1) u1 (by rw [u2]; exact hc)
      have := (hd.ch hA.zero c1).fn (he.ch hA.zero c2)
      obtain rfl : d = e := by omega
      exact hab (hd.fn he)
end
end Go.Proofs.YtfhkgnfphfmhiaaGreatDoor
/- Documents: the edits in plain; behind each the document hangs together. -/
namespace Go.Proofs.YtfhkgnfphfmhiaaGreatDoor
open Go.RowKit Go.Vc
set_option linter.unusedSimpArgs false
--PURE
structure Wf (D : Im) : Prop where
  s : WfS D.sl
  a : WfA (slA D.sl) D.roots []
def lstI (D : Im) (p : Nat) : List Nat := lstA (slA D.sl) D.roots p
/-- The document with another list at a place; with another slot. -/
def setI (D : Im) (p : Nat) (l : List Nat) : Im := if p = 0 then { D with roots := l } else { D with sl := D.sl.modify (p % 4294967296 - 1) fun s => { s with kids := l } }
def updI (D : Im) (h : Nat) (f : Sl → Sl) : Im := { D with sl := D.sl.modify (h % 4294967296 - 1) f }
/-- How many nodes there are from one up. -/
def cntF (A : Nat → Option Sl) : Nat → Nat → Nat
  | 0, _ => 0
  | r + 1, p => if p = 0 then 0 else match A p with | some s => cntF A r s.parent + 1 | none => 0
def cntI (D : Im) (p : Nat) : Nat := cntF (slA D.sl) 65 p
def posF (wh : Int) (a : Nat) (l : List Nat) : Nat := if wh = 2 then l.length else if wh = 3 then l.idxOf a else if wh = 4 then l.idxOf a + 1 else 0
def insAt (l : List Nat) (k h : Nat) : List Nat := l.take k ++ h :: l.drop k
/-- The parent under which a place lies; what is wrong with it. -/
def placeF (D : Im) (wh : Int) (a : Nat) : Nat × Int :=
  if wh < 1 ∨ 4 < wh ∨ (a = 0 ∧ 2 < wh) then (0, 1) else
  if a = 0 then (0, 0) else match slA D.sl a with
    | none => (0, 8)
    | some s => if wh ≤ 2 then (if s.kind = 2 then (0, 31) else (a, 0)) else (s.parent, 0)
def putI (D : Im) (n p : Nat) (wh : Int) (a : Nat) : Im := setI D p (insAt (lstI D p) (posF wh a (lstI D p)) n)
def insF (D : Im) (wh : Int) (a : Nat) (x : Tr) : Im × Nat × Int :=
  if (placeF D wh a).2 = 1 then (D, 0, 1) else if (lookF x 1 0).2 ≠ 0 then (D, 0, (lookF x 1 0).2) else if (placeF D wh a).2 ≠ 0 then (D, 0, (placeF D wh a).2) else
  if 64 < cntI D (placeF D wh a).1 + dpT x then (D, 0, 32) else if 4096 < tk D.sl + szT x then (D, 0, 33) else
  (putI { D with sl := makeF x (placeF D wh a).1 D.sl } (freshH D.sl) (placeF D wh a).1 wh a, freshH D.sl, 0)
section
variable {D : Im}
theorem slA_modify {sl : List Sl} {h : Nat} {s : Sl} {f : Sl → Sl} (hs : slA sl h = some s) (hg : (f s).gen = s.gen) (hl : (f s).live = true) (x : Nat) :
    slA (sl.modify (h % 4294967296 - 1) f) x = if x = h then some (f s) else slA sl x := by
  obtain ⟨k, h1, h2, h3, h4⟩ := slA_iff.1 hs
  rw [h1, Nat.add_sub_cancel, modify_set _ _ _ _ h2]
  exact slA_set h1 hs hg hl x
theorem WfS.modify {sl : List Sl} (hw : WfS sl) {h : Nat} {s : Sl} {f : Sl → Sl} (hs : slA sl h = some s) (hg : (f s).gen = s.gen) (hl : (f s).live = true) : WfS (sl.modify (h % 4294967296 - 1) f) := by
  obtain ⟨k, h1, h2, h3, h4⟩ := slA_iff.1 hs
  rw [h1, Nat.add_sub_cancel, modify_set _ _ _ _ h2]
  have hm := List.mem_of_getElem? h2
  exact hw.set (by rw [hg]; exact hw.gen s hm) (by rw [hl]; simp) (fun _ => by rw [hg]; exact hw.live s hm h3)
theorem setI_A {p : Nat} {l : List Nat} (hp : p = 0 ∨ ∃ s, slA D.sl p = some s) : slA (setI D p l).sl = setA (slA D.sl) p l ∧ (setI D p l).roots = setR D.roots p l := by
  unfold setI setR
  by_cases h0 : p = 0
  · rw [if_pos h0, if_pos h0]
    refine ⟨funext fun x => ?_, rfl⟩
    unfold setA
    rw [if_neg (fun e => e.2 h0)]
  · rw [if_neg h0, if_neg h0]
    obtain ⟨s, hs⟩ := hp.resolve_left h0
    have hlive := (slA_iff.1 hs).choose_spec.2.2.1
    refine ⟨funext fun x => ?_, rfl⟩
    rw [slA_modify (f := fun s => { s with kids := l }) hs rfl hlive]
    unfold setA
    by_cases e : x = p
    · subst e; rw [if_pos rfl, if_pos ⟨rfl, h0⟩, hs]; rfl
    · rw [if_neg e, if_neg (fun h => e h.1)]
theorem slA_live {sl : List Sl} {h : Nat} {s : Sl} (hs : slA sl h = some s) : s.live = true := by
  obtain ⟨k, h1, h2, h3, h4⟩ := slA_iff.1 hs; exact h3
theorem setI_S {p : Nat} {l : List Nat} (hw : WfS D.sl) (hp : p = 0 ∨ ∃ s, slA D.sl p = some s) : WfS (setI D p l).sl := by
  unfold setI
  by_cases h0 : p = 0
  · rw [if_pos h0]; exact hw
  · rw [if_neg h0]
    obtain ⟨s, hs⟩ := hp.resolve_left h0
    exact hw.modify (s := s) (f := fun s => { s with kids := l }) hs rfl (show s.live = true from slA_live hs)
theorem cnt_ch {A : Nat → Option Sl} {p c : Nat} (h : Ch A p c) : ∀ r, c ≤ r → 0 < r → cntF A r p = c := by
  induction h with
  | zero => intro r h1 h2; cases r with
    | zero => omega
    | succ r => rw [cntF, if_pos rfl]
  | @succ q d s h0 ha h3 ih =>
    intro r h1 h2
    cases r with
    | zero => omega
    | succ r =>
      rw [cntF, if_neg h0, ha]
      dsimp only
      by_cases hr : r = 0
      · subst hr
        obtain rfl : d = 0 := by omega
        rw [cntF]
      · rw [ih r (by omega) (by omega)]
theorem Wf.cnt (hw : Wf D) {p : Nat} (hp : p = 0 ∨ ∃ s, slA D.sl p = some s) : cntI D p ≤ 64 ∧ Ch (slA D.sl) p (cntI D p) := by
  rcases hp with rfl | ⟨s, hs⟩
  · have : cntI D 0 = 0 := by unfold cntI; rw [cntF, if_pos rfl]
    rw [this]; exact ⟨by omega, .zero⟩
  · obtain ⟨c, h1, h2⟩ := hw.a.chain p s hs
    have : cntI D p = c := cnt_ch h2 65 (by omega) (by omega)
    rw [this]; exact ⟨h1, h2⟩
theorem place_ok (hw : Wf D) {wh : Int} {a : Nat} (h : (placeF D wh a).2 = 0) :
    ((placeF D wh a).1 = 0 ∨ ∃ t, slA D.sl (placeF D wh a).1 = some t ∧ t.kind = 1) ∧ 1 ≤ wh ∧ wh ≤ 4 ∧ (2 < wh → ∃ s, slA D.sl a = some s ∧ s.parent = (placeF D wh a).1) ∧ (wh ≤ 2 → (placeF D wh a).1 = a) ∧ (a = 0 ∨ ∃ s, slA D.sl a = some s) := by
  unfold placeF at h ⊢
  by_cases h1 : wh < 1 ∨ 4 < wh ∨ (a = 0 ∧ 2 < wh)
  · rw [if_pos h1] at h; cases h
  · rw [if_neg h1] at h ⊢
    by_cases h0 : a = 0
    · rw [if_pos h0] at h ⊢
      refine ⟨.inl rfl, by omega, by omega, fun h2 => by omega, fun _ => h0.symm, .inl h0⟩
    · rw [if_neg h0] at h ⊢
      cases hs : slA D.sl a with
      | none => rw [hs] at h; cases h
      | some s =>
        rw [hs] at h
        dsimp only at h ⊢
        have ho := (hw.a.ok a s hs).2
        by_cases h2 : wh ≤ 2
        · rw [if_pos h2] at h ⊢
          by_cases hk : s.kind = 2
          · rw [if_pos hk] at h; cases h
          · rw [if_neg hk] at h ⊢
            refine ⟨.inr ⟨s, hs, ?_⟩, by omega, by omega, fun h3 => by omega, fun _ => rfl, .inr ⟨s, rfl⟩⟩
            rcases ho with ho | ho
            · exact ho.1
            · exact absurd ho.1 hk
        · rw [if_neg h2] at h ⊢
          exact ⟨hw.a.par a s hs, by omega, by omega, fun _ => ⟨s, rfl, rfl⟩, fun h3 => absurd h3 h2, .inr ⟨s, rfl⟩⟩
theorem mem_insAt {l : List Nat} {k h x : Nat} : x ∈ insAt l k h ↔ x = h ∨ x ∈ l := by
  unfold insAt
  rw [List.mem_append, List.mem_cons]
  constructor
  · rintro (h1 | h1 | h1)
    · exact .inr (List.mem_of_mem_take h1)
    · exact .inl h1
    · exact .inr (List.mem_of_mem_drop h1)
  · rintro (h1 | h1)
    · exact .inr (.inl h1)
    · rw [← List.take_append_drop k l, List.mem_append] at h1
      rcases h1 with h1 | h1
      · exact .inl h1
      · exact .inr (.inr h1)
theorem nodup_insAt {l : List Nat} {k h : Nat} (hl : l.Nodup) (hh : h ∉ l) : (insAt l k h).Nodup := by
  unfold insAt
  have h1 : (l.take k ++ l.drop k).Nodup := by rw [List.take_append_drop]; exact hl
  rw [List.nodup_append] at h1 ⊢
  obtain ⟨a1, a2, a3⟩ := h1
  refine ⟨a1, List.nodup_cons.2 ⟨fun hm => hh (List.mem_of_mem_drop hm), a2⟩, fun x hx y hy e => ?_⟩
  rcases List.mem_cons.1 hy with rfl | hy
  · subst e; exact hh (List.mem_of_mem_take hx)
  · exact a3 x hx y hy e
/-- A loose node comes to hang in its parent's list. -/
theorem WfA.hang {A : Nat → Option Sl} {roots : List Nat} {n p k : Nat} {s : Sl} (h : WfA A roots [n]) (hn : A n = some s) (hp : s.parent = p) : WfA (setA A p (insAt (lstA A roots p) k n)) (setR roots p (insAt (lstA A roots p) k n)) [] := by
  obtain ⟨l1, l2⟩ := h.lst p
  refine h.setL (hp ▸ h.par n s hn) (nodup_insAt l1 fun hm => (l2 n hm).1 (by simp)) (fun x hx => ⟨by simp, ?_⟩) (fun x t hx hxp _ => ?_) (fun x t hx hxp => ?_) (fun x hx => by simp at hx)
  · rcases mem_insAt.1 hx with rfl | hx
    · exact ⟨s, hn, hp⟩
    · exact (l2 x hx).2
  · rw [mem_insAt]
    by_cases e : x = n
    · exact .inl e
    · have := h.mem x t hx (by simpa using e)
      rw [hxp] at this; exact .inr this
  · simp only [List.mem_singleton, List.not_mem_nil, false_iff]
    rintro rfl
    rw [hn] at hx; cases hx; exact hxp hp
end
mutual
/-- What a tree without fault is. -/
theorem look_ok : ∀ (x : Tr) (deep n : Nat), (lookF x deep n).2 = 0 → okT x ∧ (lookF x deep n).1 = n + szT x ∧ deep + dpT x ≤ 65 ∧ n + szT x ≤ 4096
  | .mk kind nm attrs text kids, deep, n => by
    intro h
    unfold lookF at h ⊢
    unfold okT szT dpT
    by_cases h1 : 64 < deep ∨ 4096 ≤ n
    · rw [if_pos h1] at h; cases h
    · rw [if_neg h1] at h ⊢
      by_cases h2 : ownF kind nm attrs text ≠ 0
      · rw [if_pos h2] at h; exact absurd h h2
      · rw [if_neg h2] at h ⊢
        have h2' : ownF kind nm attrs text = 0 := by simpa using h2
        have hk : kind = 1 ∨ kind = 2 := by
          unfold ownF at h2'
          by_cases k1 : kind = 1
          · exact .inl k1
          · rw [if_neg k1] at h2'
            by_cases k2 : kind = 2
            · exact .inr k2
            · rw [if_neg k2] at h2'; exact absurd h2' (by decide)
        by_cases h3 : kind = 2
        · simp only [if_pos h3] at h ⊢
          refine ⟨⟨h2', hk, fun h4 => ?_⟩, trivial, by omega, by omega⟩
          rw [h3] at h4; exact absurd h4 (by decide)
        · simp only [if_neg h3] at h ⊢
          obtain ⟨a1, a2, a3, a4⟩ := looks_ok kids (deep + 1) (n + 1) h
          refine ⟨⟨h2', hk, fun _ => a1⟩, by rw [a2]; omega, ?_, ?_⟩
          · rcases a3 with a3 | rfl
            · omega
            · unfold dpL; omega
          · rcases a4 with a4 | rfl
            · omega
            · unfold szL; omega
theorem looks_ok : ∀ (l : List Tr) (deep n : Nat), (looksF l deep n).2 = 0 → okL l ∧ (looksF l deep n).1 = n + szL l ∧ (deep + dpL l ≤ 65 ∨ l = []) ∧ (n + szL l ≤ 4096 ∨ l = [])
  | [], deep, n => by intro _; unfold okL looksF szL; exact ⟨trivial, rfl, .inr rfl, .inr rfl⟩
  | x :: l, deep, n => by
    intro h
    unfold looksF at h ⊢
    unfold okL szL dpL
    by_cases h1 : (lookF x deep n).2 ≠ 0
    · rw [if_pos h1] at h; exact absurd h h1
    · rw [if_neg h1] at h ⊢
      obtain ⟨a1, a2, a3, a4⟩ := look_ok x deep n (by simpa using h1)
      rw [a2] at h ⊢
      obtain ⟨b1, b2, b3, b4⟩ := looks_ok l deep (n + szT x) h
      refine ⟨⟨a1, b1⟩, by rw [b2]; omega, .inl ?_, .inl ?_⟩
      · rcases b3 with b3 | rfl
        · omega
        · unfold dpL; omega
      · rcases b4 with b4 | rfl
        · omega
        · unfold szL; omega
end
section
variable {D : Im} {A B : Nat → Option Sl}
theorem put_wf {n p : Nat} {wh : Int} {a : Nat} {s : Sl} (hw : WfS D.sl) (hA : WfA (slA D.sl) D.roots [n]) (hn : slA D.sl n = some s) (hp : s.parent = p) : Wf (putI D n p wh a) := by
  have hpe : p = 0 ∨ ∃ s, slA D.sl p = some s := by rw [← hp]; exact (hA.par n s hn).imp id fun ⟨t, h, _⟩ => ⟨t, h⟩
  unfold putI
  obtain ⟨e1, e2⟩ := setI_A (l := insAt (lstI D p) (posF wh a (lstI D p)) n) hpe
  refine ⟨setI_S hw hpe, ?_⟩
  rw [e1, e2]
  exact hA.hang hn hp
theorem ins_wf (hw : Wf D) (wh : Int) (a : Nat) (x : Tr) : Wf (insF D wh a x).1 := by
  unfold insF
  by_cases h1 : (placeF D wh a).2 = 1
  · rw [if_pos h1]; exact hw
  rw [if_neg h1]
  by_cases h2 : (lookF x 1 0).2 ≠ 0
  · rw [if_pos h2]; exact hw
  rw [if_neg h2]
  by_cases h3 : (placeF D wh a).2 ≠ 0
  · rw [if_pos h3]; exact hw
  rw [if_neg h3]
  by_cases h4 : 64 < cntI D (placeF D wh a).1 + dpT x
  · rw [if_pos h4]; exact hw
  rw [if_neg h4]
  by_cases h5 : 4096 < tk D.sl + szT x
  · rw [if_pos h5]; exact hw
  rw [if_neg h5]
  obtain ⟨p1, p2, p3, p4, p5, p6⟩ := place_ok hw (by simpa using h3)
  obtain ⟨k1, k2, k3, k4⟩ := look_ok x 1 0 (by simpa using h2)
  obtain ⟨c1, c2⟩ := hw.cnt (p1.imp id fun ⟨t, h, _⟩ => ⟨t, h⟩)
  have M := make_wf x k1 hw.s hw.a p1 c2 (by omega) (by omega)
  obtain ⟨s, s1, s2⟩ := M.top
  exact put_wf (D := { D with sl := makeF x (placeF D wh a).1 D.sl }) M.wfs M.wf s1 s2
theorem nil_wf : Wf ⟨[], []⟩ := by
  have h : ∀ x, slA [] x = none := fun x => by
    cases h : slA [] x with
    | none => rfl
    | some s => obtain ⟨k, h1, h2, _⟩ := slA_iff.1 h; simp at h2
  refine ⟨⟨by simp, by simp, by simp, by simp⟩, ⟨h 0, ?_, ?_, ?_, ?_, by simp, ?_, by simp⟩⟩ <;> intro x s hx <;> dsimp only at hx <;> rw [h] at hx <;> cases hx
end
end Go.Proofs.YtfhkgnfphfmhiaaGreatDoor
/- Rows: slices.Insert of one element, slices.Delete; pointers, attributes. -/
namespace Go.Proofs.YtfhkgnfphfmhiaaGreatDoor
open Go.RowKit Go.Vc
set_option linter.unusedSimpArgs false
section
variable {α : Type} {L : Lay α} {w w1 : World} {e : TypeId} {k : Nat}
def slV (v : Sv) : Value := .slice v.1 v.2.1 v.2.2
theorem insAtT {l : List α} {i : Nat} {x : α} (hi : i = l.length) : l.take i ++ x :: l.drop i = l ++ [x] := by subst hi; simp
/-- A row with elements, as its block. -/
theorem Own.row1 {v : Sv} {xs : List α} (h : Own L w k e (slV v) xs) (h0 : 0 < xs.length) : ∃ g c rest, v = (some ⟨g, 0, none⟩, xs.length, c) ∧ rowOf (slV v) = some g ∧ k ≤ g ∧ Blk w g (L.all xs ++ rest).toArray e ∧ xs.length ≤ c ∧ c ≤ maxLen ∧ (L.all xs ++ rest).length = c * L.n := by
  rcases h with ⟨_, rfl⟩ | ⟨_, rfl⟩ | ⟨g, c, cur, hv, hb, hh, hn, hm, hs, ht⟩
  · simp at h0
  · simp at h0
  · obtain ⟨v1, v2, v3⟩ := v
    unfold slV at hv
    simp only [Value.slice.injEq] at hv
    obtain ⟨rfl, rfl, rfl⟩ := hv
    refine ⟨g, c + 1, cur.toList.drop (xs.length * L.n), rfl, rfl, hb, ?_, hn, hm, ?_⟩
    · rw [← ht, List.take_append_drop]; exact hh
    · rw [← ht, List.take_append_drop, Array.length_toList, hs]
theorem Own.ofBlk {g c : Nat} {xs : List α} {rest : List Value} (hB : Blk w g (L.all xs ++ rest).toArray e) (hk : k ≤ g) (hn : xs.length ≤ c) (h0 : 0 < c) (hm : c ≤ maxLen) (hs : (L.all xs ++ rest).length = c * L.n) : Own L w k e (.slice (some ⟨g, 0, none⟩) xs.length c) xs := by
  obtain ⟨c', rfl⟩ : ∃ c', c = c' + 1 := ⟨c - 1, by omega⟩
  exact .inr (.inr ⟨g, c', _, rfl, hk, hB, hn, hm, by simpa using hs, by simp [← L.all_length]⟩)
theorem cellL {g : Nat} {l : List Value} {t : TypeId} (h : Blk w g l.toArray t) (i : Nat) : w.cell? ⟨g, i, none⟩ = l[i]? := by rw [h.cell]; simp
theorem cell_add {g o : Nat} {l cs : List Value} {t : TypeId} (h : Blk w g l.toArray t) (hc : ∀ j v, cs[j]? = some v → l[o + j]? = some v) : ∀ j v, cs[j]? = some v → w.cell? ((⟨g, o, none⟩ : Addr).add j) = some v := fun j v hj => by
  rw [Addr.add_mk, cellL h]; exact hc j v hj
end

theorem insP_calls {w : World} {v : Sv} {xs : List Nat} {x : Nat} {i gx : Nat} {cx : Array Value} (hO : Own LPt w 0 102 (slV v) xs) (hi : i ≤ xs.length) (hx : Blk w gx cx 102) (hcx : cx.toList = LPt.cells x) (hgx : rowOf (slV v) ≠ some gx) (hl : xs.length + 1 ≤ 1048576) {R : Ending → World → Prop}
    (h : ∀ v' w', Own LPt w' 0 102 (slV v') (xs.take i ++ x :: xs.drop i) → Fm (fun b => rowOf (slV v) = some b) w w' → (rowOf (slV v') = rowOf (slV v) ∨ rowOf (slV v') = none ∨ ∃ g, rowOf (slV v') = some g ∧ w.heap.size ≤ g) → R (.returned (slV v')) w') :
    Calls Tryz.prog 89 #[slV v, .int .i64 (i : Nat), .slice (some ⟨gx, 0, none⟩) 1 1] w R := by
  have hz : zeroT Tryz.prog 102 = some (.pointer none) := by kernel_rfl
  have hsz : sizeT Tryz.prog 102 = some 1 := by kernel_rfl
  have hst : Tryz.prog.underlying 65 = some (.slice 102) := by kernel_rfl
  have hxl : cx.toList.length = 1 := by rw [hcx]; exact LPt.len x
  obtain ⟨A, c, hv0, hrd⟩ := hO.form
  have hv : v = (A, xs.length, c) := by obtain ⟨v1, v2, v3⟩ := v; unfold slV at hv0; simp only [Value.slice.injEq] at hv0; obtain ⟨rfl, rfl, rfl⟩ := hv0; rfl
  have hle := hrd.1
  have hmx := hrd.2.1
  unfold maxLen at hmx
  refine ok89 v.1 v.2.1 v.2.2 (i : Nat) (some ⟨gx, 0, none⟩) 1 1 ?_
  unfold F89
  subst hv
  dsimp only
  refine ⟨by omega, by omega, by omega, ?_⟩
  refine bre (fun h0 => absurd h0 (by decide)) (fun _ => ?_)
  refine bre (fun hin => ?_) (fun hin => ?_)
  · have hin : i = xs.length := by omega
    refine ap (L := LPt) (xs := xs) (ys := [x]) (base := 0) (.pointer none) 8 rfl hst (by kernel_rfl) (by kernel_rfl) hO ?_ (Nat.zero_le _) (by simp; omega) (by simp [maxLen]; omega) fun A' c' w1 o1 g1 => ⟨A', _, c', rfl, ?_⟩
    · refine ⟨by simp, by simp [maxLen], fun h0 => (by cases h0), fun _ => ⟨gx, 0, rfl, fun j u hj => ?_⟩⟩
      rw [LPt.all_one, ← hcx] at hj
      rw [hx.cell]; simpa using hj
    · refine h (A', _, c') w1 ?_ (Fm.grown g1.grown fun b hb => hb) g1.row
      rw [insAtT hin]; exact o1
  · have hin : i < xs.length := by omega
    obtain ⟨g, c9, rest, hvv, hrow, _, hB, hc1, hc2, hc3⟩ := hO.row1 (by omega)
    simp only [Prod.mk.injEq] at hvv
    obtain ⟨rfl, -, rfl⟩ := hvv
    have hgg : g ≠ gx := fun e => hgx (by rw [hrow, e])
    have hgl := hB.lt
    have hgxl := hx.lt
    have hx' : Blk w gx cx.toList.toArray 102 := by simpa using hx
    have hall := LPt.all_length xs
    have hLn : LPt.n = 1 := rfl
    rw [hLn] at hall hc3
    refine ⟨inR_i64 (by omega) (by omega), brd (fun hgr => ?_) (fun hgr => ?_)⟩
    · -- a new row
      refine ⟨by omega, by omega, by omega, inR_i64 (by omega) (by omega), inR_i64 (by omega) (by omega), ?_⟩
      have e1 : ((xs.length : Nat) : Int) + ((1 : Nat) : Int) - (i : Nat) = ((xs.length + 1 - i : Nat) : Int) := by omega
      rw [e1, Int.toNat_natCast]
      obtain ⟨inf, hinf, hiz⟩ := sizeT_info hsz
      have hib : inf.zero = some (.pointer none) ∧ inf.bytes = 8 := by
        have h1 : (Tryz.prog.info? 102).map (fun i => (i.zero, i.bytes)) = some (some (.pointer none), 8) := by kernel_rfl
        rw [hinf] at h1
        simp only [Option.map_some, Option.some.injEq, Prod.mk.injEq] at h1
        exact h1
      have e2 : i + (xs.length + 1 - i) = xs.length + 1 := by omega
      refine apz (u := 3) (k := .i64) (olds := LPt.all (xs.take i)) hst (by kernel_rfl) hinf hib.1 (by rw [LPt.all_length, List.length_take, Nat.min_eq_left hi, hiz]; rfl) (cell_add (o := 0) hB fun j u hj => ?_) (by omega) (by omega) (by omega) ?_ (by rw [hib.2]; omega) ?_
      · rw [Nat.zero_add, LPt.all_take] at *
        have hjl := (List.getElem?_eq_some_iff.1 hj).1
        rw [List.length_take] at hjl
        rw [List.getElem?_append_left (by omega), ← hj, List.getElem?_take_of_lt (by omega)]
      · rw [e2, hib.2]
        refine Nat.le_trans (growslice_fits (by omega) (show (xs.length + 1) * 8 ≤ 140737488355328 by omega)) (Nat.le_refl _)
      rw [e2, hiz]
      rw [if_neg (by omega)]
      have hge := grownCap_ge w (xs.length + 1) c 102
      have hcm : grownCap w (xs.length + 1) c 102 ≤ maxLen := grownCap_le_maxLen w _ c 102 (by simp [maxLen]; omega)
      generalize grownCap w (xs.length + 1) c 102 = q at hge hcm ⊢
      refine ⟨_, _, _, rfl, by omega, by omega, by omega, ?_⟩
      simp only [Int.toNat_natCast]
      have hSl : ∀ j : Nat, j < q → SlA (some ⟨w.heap.size, 0, none⟩) q j 1 = some ⟨w.heap.size, j * 1, none⟩ := fun j hj => by
        unfold SlA; rw [if_neg (by omega)]; simp [Addr.add_mk]
      rw [hSl i (by omega)]
      have hb1 : Below w.heap.size w (w.drew.alloc (.cells ((LPt.all (xs.take i)).toArray ++ Builtin.zeroCells ((.pointer none) : Value).cells (xs.length + 1 - i) ++ Builtin.zeroCells ((.pointer none) : Value).cells (q - (xs.length + 1))) 102)) := ((Below.refl _ _).drew).alloc (Nat.le_refl _) _
      have hB1 := Blk.alloc_new w.drew ((LPt.all (xs.take i)).toArray ++ Builtin.zeroCells ((.pointer none) : Value).cells (xs.length + 1 - i) ++ Builtin.zeroCells ((.pointer none) : Value).cells (q - (xs.length + 1))) 102
      have hzc : ∀ n, (Builtin.zeroCells ((.pointer none) : Value).cells n).toList.length = n * 1 := fun n => by
        have : ((.pointer none) : Value).cells.size = 1 := by kernel_rfl
        simp [Builtin.zeroCells, this]
      generalize hl0 : (LPt.all (xs.take i)).toArray ++ Builtin.zeroCells ((.pointer none) : Value).cells (xs.length + 1 - i) ++ Builtin.zeroCells ((.pointer none) : Value).cells (q - (xs.length + 1)) = l0 at hb1 hB1 ⊢
      have hl0' : l0.toList = LPt.all (xs.take i) ++ ((Builtin.zeroCells ((.pointer none) : Value).cells (xs.length + 1 - i)).toList ++ (Builtin.zeroCells ((.pointer none) : Value).cells (q - (xs.length + 1))).toList) := by rw [← hl0]; simp
      have hti : (LPt.all (xs.take i)).length = i * 1 := by rw [LPt.all_length, List.length_take, Nat.min_eq_left hi]; rfl
      have hl0l : l0.toList.length = q * 1 := by
        rw [hl0', List.length_append, List.length_append, hzc, hzc, hti]; omega
      generalize w.drew.alloc (.cells l0 102) = w1 at hb1 hB1 ⊢
      have hB1' : Blk w1 w.heap.size l0.toList.toArray 102 := by simpa using hB1
      have hx1 := hx'.keep hb1
      have hg1 := hB.keep hb1
      refine copy_blk (o := i * 1) hB1' hst hsz (cs := cx.toList) ?_ (cell_add (o := 0) hx1 fun j u hj => by rw [Nat.zero_add]; exact hj) (by rw [hxl, hl0l]; omega) ?_ fun w2 hB2 f2 => ⟨_, rfl, ?_⟩
      · rw [hxl, show Nat.min 1 (xs.length + 1 - i) = 1 from (by simp only [Nat.min_def]; split <;> omega)]
      · rw [hcx]; exact LPt.one x
      have hd2 : Below w2.heap.size w2 w2.drew := (Below.refl _ _).drew
      refine ⟨fun w' => Below w2.heap.size w2 w', hd2, inR_i64 (by omega) (by omega), by omega, by omega, by omega, by omega, by omega, by omega, ?_⟩
      have e3 : (((i : Nat) : Int) + ((1 : Nat) : Int)).toNat = i + 1 := by omega
      simp only [e3, Int.toNat_natCast]
      have hrow2 : w.heap.size ≠ g := by omega
      have hg2 : Blk w2.drew g (LPt.all xs ++ rest).toArray 102 := (f2.blk hg1 (fun e => hrow2 e.symm))
      have hS3 : SlA (some ⟨g, 0, none⟩) c i 1 = some ⟨g, i * 1, none⟩ := by unfold SlA; rw [if_neg (by omega)]; simp [Addr.add_mk]
      rw [hS3]
      have hfin : ∀ l3 rest3 w3, Blk w3 w.heap.size l3 102 → l3.toList = LPt.all (xs.take i ++ x :: xs.drop i) ++ rest3 → l3.toList.length = q * 1 → Fm (· = w.heap.size) w2.drew w3 → R (.returned (.slice (some ⟨w.heap.size, 0, none⟩) (xs.length + 1) q)) w3 := by
        intro l3 rest3 w3 hB3 he3 hl3 f3
        have hln : (xs.take i ++ x :: xs.drop i).length = xs.length + 1 := by simp; omega
        have hB3' : Blk w3 w.heap.size (LPt.all (xs.take i ++ x :: xs.drop i) ++ rest3).toArray 102 := by rw [← he3]; simpa using hB3
        have hO3 := Own.ofBlk (k := 0) (c := q) hB3' (Nat.zero_le _) (by rw [hln]; exact hge) (by omega) hcm (by rw [← he3]; exact hl3)
        rw [hln] at hO3
        refine h (some ⟨w.heap.size, 0, none⟩, xs.length + 1, q) w3 hO3 ?_ (.inr (.inr ⟨w.heap.size, ?_, Nat.le_refl _⟩))
        · have F1 : Fm (fun b => rowOf (slV (some ⟨g, 0, none⟩, xs.length, c)) = some b) w w1 := .below hb1
          exact ((F1.trans' f2 fun b hb e => by have e : b = w.heap.size := e; omega).tr hd2).trans' f3 fun b hb e => by have e : b = w.heap.size := e; omega
        · obtain ⟨q', rfl⟩ : ∃ q', q = q' + 1 := ⟨q - 1, by omega⟩
          rfl
      have hl2l : (l0.toList.take (i * 1) ++ cx.toList ++ l0.toList.drop (i * 1 + cx.toList.length)).length = q * 1 := by
        simp only [List.length_append, List.length_take, List.length_drop, hl0l, hxl]; omega
      have hl2p : l0.toList.take (i * 1) ++ cx.toList = LPt.all (xs.take i ++ [x]) := by
        rw [LPt.all_append, LPt.all_one, ← hcx, hl0', ← hti, List.take_left]
      have hl2q : (l0.toList.take (i * 1) ++ cx.toList ++ l0.toList.drop (i * 1 + cx.toList.length)).take ((i + 1) * 1) = LPt.all (xs.take i ++ [x]) := by
        rw [hl2p, List.take_left' (by rw [LPt.all_length]; simp [hLn]; omega)]
      generalize l0.toList.take (i * 1) ++ cx.toList ++ l0.toList.drop (i * 1 + cx.toList.length) = l2 at hl2l hl2q hB2
      have hdl : (LPt.all (xs.drop i)).length = (xs.length - i) * 1 := by rw [LPt.all_length, List.length_drop]; rfl
      have hS4 : SlA (some ⟨w.heap.size, 0, none⟩) q (i + 1) 1 = some ⟨w.heap.size, (i + 1) * 1, none⟩ ∨ (xs.length - i = 0) := by
        rcases Nat.lt_or_ge (i + 1) q with h4 | h4
        · exact .inl (hSl _ h4)
        · omega
      rcases hS4 with hS4 | hS4
      · rw [hS4]
        have hB2' : Blk w2.drew w.heap.size l2.toArray 102 := hB2
        refine copy_blk (o := (i + 1) * 1) hB2' hst hsz (cs := LPt.all (xs.drop i)) ?_ (cell_add (o := i * 1) hg2 fun j u hj => ?_) (by rw [hdl, hl2l]; omega) (LPt.all_ones _) fun w3 hB3 f3 => ⟨_, rfl, ?_⟩
        · rw [hdl, show Nat.min (xs.length - i) (xs.length + 1 - (i + 1)) = xs.length - i from (by simp only [Nat.min_def]; split <;> omega)]
        · have hjl := (List.getElem?_eq_some_iff.1 hj).1
          rw [hdl] at hjl
          rw [List.getElem?_append_left (by omega)]
          rw [LPt.all_drop _ _ hi, List.getElem?_drop] at hj
          exact hj
        · refine hfin _ (l2.drop ((i + 1) * 1 + (LPt.all (xs.drop i)).length)) w3 hB3 ?_ ?_ f3
          · rw [List.toList_toArray, hl2q]
            have : xs.take i ++ x :: xs.drop i = (xs.take i ++ [x]) ++ xs.drop i := by simp
            rw [this, LPt.all_append (xs.take i ++ [x]) (xs.drop i)]
          · rw [List.toList_toArray, List.length_append, List.length_append, List.length_take, List.length_drop, hdl, hl2l]; omega
      · omega
    · -- in place
      refine ⟨inR_i64 (by omega) (by omega), by omega, by omega, by omega, inR_i64 (by omega) (by omega), by omega, by omega, by omega, ?_⟩
      have e3 : (((i : Nat) : Int) + ((1 : Nat) : Int)).toNat = i + 1 := by omega
      have e4 : (((xs.length : Nat) : Int) + ((1 : Nat) : Int)).toNat = xs.length + 1 := by omega
      simp only [e3, e4, Int.toNat_natCast]
      have hS : ∀ j : Nat, j < c → SlA (some ⟨g, 0, none⟩) c j 1 = some ⟨g, j * 1, none⟩ := fun j hj => by
        unfold SlA; rw [if_neg (by omega)]; simp [Addr.add_mk]
      rw [hS (i + 1) (by omega), hS i (by omega)]
      have hov : ∀ la ca lb cb, (callFunc 118 #[.slice (some ⟨gx, 0, none⟩) la ca, .slice (some ⟨g, (i + 1) * 1, none⟩) lb cb]).run Tryz.prog w = .ok (.value (.bool false)) w := fun la ca lb cb => by
        rw [run_callFunc_extern Tryz.func118 (by kernel_rfl) (by kernel_rfl) (by kernel_rfl) (e := Extern.SlicesOverlaps.overlaps #[65, 65] #[4]) (by kernel_rfl),
          Lib.run_overlaps_apart w 65 4 102 hst 1 (run_size hsz) ⟨gx, 0, none⟩ ⟨g, (i + 1) * 1, none⟩ la ca lb cb (Ne.symm hgg) 102 102 cx.size (LPt.all xs ++ rest).length (by unfold Blk at hx; simp [World.shape?, hx]) (by unfold Blk at hB; simp [World.shape?, hB]) (by rw [hc3]; omega) (hx.frozen 0) (hx.frozen _)]
        rfl
      refine ⟨.bool false, w, hov _ _ _ _, false, rfl, ?_⟩
      rw [Bool.not_false, Br_t]
      have hd2 : Below w.heap.size w w.drew := (Below.refl _ _).drew
      refine ⟨fun w' => True, trivial, inR_i64 (by omega) (by omega), by omega, by omega, by omega, by omega, by omega, by omega, ?_⟩
      have hdl : (LPt.all (xs.drop i)).length = (xs.length - i) * 1 := by rw [LPt.all_length, List.length_drop]; rfl
      have hB1 : Blk w.drew g (LPt.all xs ++ rest).toArray 102 := hB
      refine copy_blk (o := (i + 1) * 1) hB1 hst hsz (cs := LPt.all (xs.drop i)) ?_ (cell_add (o := i * 1) hB1 fun j u hj => ?_) (by rw [hdl, hc3]; omega) (LPt.all_ones _) fun w2 hB2 f2 => ⟨_, rfl, ?_⟩
      · rw [hdl, show Nat.min (xs.length + 1 - i) (xs.length + 1 - (i + 1)) = xs.length - i from (by simp only [Nat.min_def]; split <;> omega)]
      · have hjl := (List.getElem?_eq_some_iff.1 hj).1
        rw [hdl] at hjl
        rw [List.getElem?_append_left (by omega)]
        rw [LPt.all_drop _ _ hi, List.getElem?_drop] at hj
        exact hj
      have hx2 : Blk w2 gx cx.toList.toArray 102 := f2.blk (show Blk w.drew gx cx.toList.toArray 102 from hx') (fun e => hgg e.symm)
      have hl2l : ((LPt.all xs ++ rest).take ((i + 1) * 1) ++ LPt.all (xs.drop i) ++ (LPt.all xs ++ rest).drop ((i + 1) * 1 + (LPt.all (xs.drop i)).length)).length = c * 1 := by
        rw [List.length_append, List.length_append, List.length_take, List.length_drop, hdl, hc3]; omega
      have hl2t : ((LPt.all xs ++ rest).take ((i + 1) * 1) ++ LPt.all (xs.drop i) ++ (LPt.all xs ++ rest).drop ((i + 1) * 1 + (LPt.all (xs.drop i)).length)).take (i * 1) = LPt.all (xs.take i) := by
        rw [List.append_assoc, List.take_append_of_le_length (by rw [List.length_take, hc3]; omega), List.take_take, Nat.min_eq_left (by omega), List.take_append_of_le_length (by omega), LPt.all_take]; rfl
      have hl2d : ∃ r3, ((LPt.all xs ++ rest).take ((i + 1) * 1) ++ LPt.all (xs.drop i) ++ (LPt.all xs ++ rest).drop ((i + 1) * 1 + (LPt.all (xs.drop i)).length)).drop ((i + 1) * 1) = LPt.all (xs.drop i) ++ r3 := by
        refine ⟨(LPt.all xs ++ rest).drop ((i + 1) * 1 + (LPt.all (xs.drop i)).length), ?_⟩
        rw [List.append_assoc, List.drop_left' (by rw [List.length_take, hc3]; omega)]
      generalize (LPt.all xs ++ rest).take ((i + 1) * 1) ++ LPt.all (xs.drop i) ++ (LPt.all xs ++ rest).drop ((i + 1) * 1 + (LPt.all (xs.drop i)).length) = l2 at hl2l hl2t hl2d hB2
      obtain ⟨r3, hl2d⟩ := hl2d
      refine ⟨by omega, by omega, by omega, ?_⟩
      refine copy_blk (o := i * 1) hB2 hst hsz (cs := cx.toList) ?_ (cell_add (o := 0) hx2 fun j u hj => by rw [Nat.zero_add]; exact hj) (by rw [hxl, hl2l]; omega) ?_ fun w3 hB3 f3 => ⟨_, rfl, ?_⟩
      · rw [hxl, show Nat.min 1 (xs.length + 1 - i) = 1 from (by simp only [Nat.min_def]; split <;> omega)]
      · rw [hcx]; exact LPt.one x
      have e5 : i * 1 + cx.toList.length = (i + 1) * 1 := by rw [hxl]; omega
      rw [hl2t, e5, hl2d, hcx] at hB3
      have hln : (xs.take i ++ x :: xs.drop i).length = xs.length + 1 := by simp; omega
      have he3 : LPt.all (xs.take i) ++ LPt.cells x ++ (LPt.all (xs.drop i) ++ r3) = LPt.all (xs.take i ++ x :: xs.drop i) ++ r3 := by
        have : xs.take i ++ x :: xs.drop i = xs.take i ++ ([x] ++ xs.drop i) := by simp
        rw [this, LPt.all_append, LPt.all_append, LPt.all_one]; simp
      rw [he3] at hB3
      have hl3l : (LPt.all (xs.take i ++ x :: xs.drop i) ++ r3).length = c * 1 := by
        have h6 : (l2.drop ((i + 1) * 1)).length = c * 1 - (i + 1) * 1 := by rw [List.length_drop, hl2l]
        rw [hl2d, List.length_append, hdl] at h6
        rw [List.length_append, LPt.all_length, hln, hLn]
        omega
      have hO3 := Own.ofBlk (k := 0) (c := c) hB3 (Nat.zero_le _) (by rw [hln]; omega) (by omega) hc2 hl3l
      rw [hln] at hO3
      refine h (some ⟨g, 0, none⟩, xs.length + 1, c) w3 hO3 ?_ (.inl ?_)
      · have F2 : Fm (fun b => rowOf (slV (some ⟨g, 0, none⟩, xs.length, c)) = some b) w w2 := (Fm.below (w := w) (w1 := w.drew) hd2).trans (f2.mono fun b _ e => by have e : b = g := e; rw [hrow, e])
        exact F2.trans (f3.mono fun b _ e => by have e : b = g := e; rw [hrow, e])
      · obtain ⟨c', rfl⟩ : ∃ c', c = c' + 1 := ⟨c - 1, by omega⟩
        rfl

end Go.Proofs.YtfhkgnfphfmhiaaGreatDoor
/- Rows of one's own that may begin anywhere in their block. -/
namespace Go.Proofs.YtfhkgnfphfmhiaaGreatDoor
open Go.RowKit Go.Vc
set_option linter.unusedSimpArgs false
def IsE (w : World) (e : TypeId) (b : Nat) : Prop := ∃ c, Blk w b c e
section
variable {α : Type} {L : Lay α} {w w1 : World} {e : TypeId} {k : Nat} {v : Value} {xs : List α} {M : Nat → Prop}
theorem IsE.fm {b : Nat} (h : IsE w e b) (hf : Fm M w w1) (hm : ¬ M b) : IsE w1 e b := by
  obtain ⟨c, hc⟩ := h
  exact ⟨c, hf.blk hc hm⟩
def OwnO (L : Lay α) (w : World) (k : Nat) (e : TypeId) (v : Value) (xs : List α) : Prop :=
  (v = .slice none 0 0 ∧ xs = []) ∨ ((∃ a, v = .slice (some a) 0 0) ∧ xs = []) ∨
  ∃ (g o c : Nat) (l : List Value), v = .slice (some ⟨g, o, none⟩) xs.length (c + 1) ∧ k ≤ g ∧ Blk w g l.toArray e ∧ xs.length ≤ c + 1 ∧ c + 1 ≤ maxLen ∧ o + (c + 1) * L.n ≤ l.length ∧ (l.drop o).take (xs.length * L.n) = L.all xs
theorem Own.o (h : Own L w k e v xs) : OwnO L w k e v xs := by
  rcases h with h | h | ⟨g, c, cur, rfl, hb, hh, hn, hm, hs, ht⟩
  · exact .inl h
  · exact .inr (.inl h)
  · exact .inr (.inr ⟨g, 0, c, cur.toList, rfl, hb, hh, hn, hm, by simp [hs], by simpa using ht⟩)
theorem OwnO.nil (L : Lay α) (w : World) (k : Nat) (e : TypeId) : OwnO L w k e (.slice none 0 0) [] := .inl ⟨rfl, rfl⟩
theorem OwnO.form (h : OwnO L w k e v xs) : ∃ A c, v = .slice A xs.length c ∧ Rd L w A c xs := by
  rcases h with ⟨rfl, rfl⟩ | ⟨⟨a, rfl⟩, rfl⟩ | ⟨g, o, c, l, rfl, hb, hh, hn, hm, hs, ht⟩
  · exact ⟨none, 0, rfl, Rd.nil _ _⟩
  · exact ⟨some a, 0, rfl, by simp, by simp [maxLen], fun _ => rfl, fun h => absurd h (by simp)⟩
  · refine ⟨_, c + 1, rfl, hn, hm, (fun h0 => by cases h0), fun h0 => ⟨g, o, rfl, fun j u hj => ?_⟩⟩
    rw [cellL hh]
    have hjl := (List.getElem?_eq_some_iff.1 hj).1
    rw [L.all_length] at hjl
    rw [← ht, List.getElem?_take_of_lt hjl, List.getElem?_drop] at hj
    exact hj
theorem OwnO.rd {A : Option Addr} {n c : Nat} (h : OwnO L w k e (.slice A n c) xs) : n = xs.length ∧ Rd L w A c xs := by
  obtain ⟨A', c', he, hr⟩ := h.form
  cases he
  exact ⟨rfl, hr⟩
theorem OwnO.row (h : OwnO L w k e v xs) : ∀ b, rowOf v = some b → k ≤ b ∧ IsE w e b := by
  intro b hb
  rcases h with ⟨rfl, rfl⟩ | ⟨⟨a, rfl⟩, rfl⟩ | ⟨g, o, c, l, rfl, hk, hh, hn, hm, hs, ht⟩
  · cases hb
  · cases hb
  · cases hb; exact ⟨hk, _, hh⟩
theorem IsE.lt {b : Nat} (h : IsE w e b) : b < w.heap.size := by
  obtain ⟨c, hc⟩ := h; exact hc.lt
theorem OwnO.lt (h : OwnO L w k e v xs) : ∀ b, rowOf v = some b → k ≤ b ∧ b < w.heap.size := fun b hb => ⟨(h.row b hb).1, (h.row b hb).2.lt⟩
theorem OwnO.fm (h : OwnO L w k e v xs) (hf : Fm M w w1) (hm : ∀ b, rowOf v = some b → ¬ M b) : OwnO L w1 k e v xs := by
  rcases h with h | h | ⟨g, o, c, l, rfl, hk, hh, hn, hm', hs, ht⟩
  · exact .inl h
  · exact .inr (.inl h)
  · exact .inr (.inr ⟨g, o, c, l, rfl, hk, hf.blk hh (hm g rfl), hn, hm', hs, ht⟩)
theorem OwnO.keep (h : OwnO L w k e v xs) (hb : Below w.heap.size w w1) : OwnO L w1 k e v xs := h.fm (M := fun _ => False) (.below hb) fun _ _ h => h
theorem OwnO.rebase (h : OwnO L w k e v xs) {j : Nat} (hj : ∀ b, rowOf v = some b → j ≤ b) : OwnO L w j e v xs := by
  rcases h with h | h | ⟨g, o, c, l, rfl, hk, hh, hn, hm', hs, ht⟩
  · exact .inl h
  · exact .inr (.inl h)
  · exact .inr (.inr ⟨g, o, c, l, rfl, hj g rfl, hh, hn, hm', hs, ht⟩)
/-- One element, and what a store there leaves. -/
theorem OwnO.elem {A : Option Addr} {n c : Nat} (h : OwnO L w k e (.slice A n c) xs) {i : Nat} (hi : i < xs.length) : ∃ (g o : Nat) (l : List Value), A = some ⟨g, o, none⟩ ∧ rowOf (.slice A n c) = some g ∧ Blk w g l.toArray e ∧ o + xs.length * L.n ≤ l.length ∧
    (∀ j u, (L.cells xs[i])[j]? = some u → l[o + i * L.n + j]? = some u) ∧
    ∀ (w1 : World) (l' : List Value) (x : α), Blk w1 g l'.toArray e → l'.length = l.length → (∀ j, (j < o + i * L.n ∨ o + (i + 1) * L.n ≤ j) → l'[j]? = l[j]?) → (∀ j u, (L.cells x)[j]? = some u → l'[o + i * L.n + j]? = some u) → OwnO L w1 k e (.slice A n c) (xs.set i x) := by
  rcases h with ⟨_, rfl⟩ | ⟨_, rfl⟩ | ⟨g, o, c', l, hv, hk, hh, hn, hm, hs, ht⟩
  · simp at hi
  · simp at hi
  · simp only [Value.slice.injEq] at hv
    obtain ⟨rfl, rfl, rfl⟩ := hv
    have hlen : xs.length * L.n ≤ (c' + 1) * L.n := Nat.mul_le_mul_right _ hn
    have hin : (i + 1) * L.n ≤ xs.length * L.n := Nat.mul_le_mul_right _ hi
    have hin' : (i + 1) * L.n = i * L.n + L.n := by rw [Nat.add_mul, Nat.one_mul]
    have hat : ∀ j, j < xs.length * L.n → (L.all xs)[j]? = l[o + j]? := fun j hj => by
      rw [← ht, List.getElem?_take_of_lt hj, List.getElem?_drop]
    refine ⟨g, o, l, rfl, rfl, hh, by omega, fun j u hj => ?_, fun w1 l' x hb hl ho hx => ?_⟩
    · have hjn : j < L.n := by rw [← L.len xs[i]]; exact (List.getElem?_eq_some_iff.1 hj).1
      have := L.all_at xs i hi j hjn
      rw [hat _ (by omega), hj] at this
      rw [Nat.add_assoc]; exact this
    · refine .inr (.inr ⟨g, o, c', l', by rw [List.length_set], hk, hb, by rw [List.length_set]; exact hn, hm, by rw [hl]; exact hs, ?_⟩)
      apply List.ext_getElem?
      intro j
      rw [List.length_set]
      rcases Nat.lt_or_ge j (xs.length * L.n) with hj | hj
      · rw [List.getElem?_take_of_lt hj, List.getElem?_drop]
        obtain ⟨i', j', rfl, hj', hi'⟩ : ∃ i' j', j = i' * L.n + j' ∧ j' < L.n ∧ i' < xs.length := by
          have hp := L.pos
          exact ⟨j / L.n, j % L.n, by rw [Nat.mul_comm, Nat.div_add_mod], Nat.mod_lt _ hp, Nat.div_lt_of_lt_mul (by rw [Nat.mul_comm]; exact hj)⟩
        rw [L.all_at (xs.set i x) i' (by simpa using hi') j' hj']
        by_cases hii : i' = i
        · subst hii
          rw [List.getElem_set_self, List.getElem?_eq_getElem (l := L.cells x) (by rw [L.len]; exact hj'), ← Nat.add_assoc]
          exact hx j' _ (List.getElem?_eq_getElem (by rw [L.len]; exact hj'))
        · rw [List.getElem_set_ne (fun e => hii e.symm), ho _ ?_, ← hat _ hj, L.all_at xs i' hi' j' hj']
          rcases Nat.lt_or_gt_of_ne hii with h3 | h3
          · have : (i' + 1) * L.n ≤ i * L.n := Nat.mul_le_mul_right _ h3
            rw [Nat.add_mul, Nat.one_mul] at this
            omega
          · have : (i + 1) * L.n ≤ i' * L.n := Nat.mul_le_mul_right _ h3
            omega
      · rw [List.getElem?_eq_none (by rw [List.length_take]; omega), List.getElem?_eq_none (by rw [L.all_length, List.length_set]; exact hj)]
theorem OwnO.tail {A : Option Addr} {n c : Nat} {x : α} (h : OwnO L w k e (.slice A n c) (x :: xs)) : OwnO L w k e (.slice (SlA A c 1 L.n) (n - 1) (c - 1)) xs ∧ ∀ b, rowOf (.slice (SlA A c 1 L.n) (n - 1) (c - 1)) = some b → rowOf (.slice A n c) = some b := by
  rcases h with ⟨_, h⟩ | ⟨_, h⟩ | ⟨g, o, c', l, hv, hk, hh, hn, hm, hs, ht⟩
  · cases h
  · cases h
  · simp only [Value.slice.injEq] at hv
    obtain ⟨rfl, rfl, rfl⟩ := hv
    simp only [List.length_cons] at *
    rcases Nat.eq_zero_or_pos c' with h0 | h0
    · subst h0
      obtain rfl : xs = [] := List.eq_nil_of_length_eq_zero (by omega)
      refine ⟨.inr (.inl ⟨⟨⟨g, o, none⟩, ?_⟩, rfl⟩), ?_⟩
      · unfold SlA; simp
      · intro b hb; unfold SlA at hb; simp [rowOf] at hb
    · obtain ⟨c2, rfl⟩ : ∃ c2, c' = c2 + 1 := ⟨c' - 1, by omega⟩
      have e1 : SlA (some ⟨g, o, none⟩) (c2 + 1 + 1) 1 L.n = some ⟨g, o + L.n, none⟩ := by
        unfold SlA; rw [if_neg (by omega)]; simp [Addr.add_mk]
      rw [e1]
      refine ⟨.inr (.inr ⟨g, o + L.n, c2, l, by simp, hk, hh, by omega, by omega, ?_, ?_⟩), fun b hb => hb⟩
      · have : (c2 + 1 + 1) * L.n = L.n + (c2 + 1) * L.n := by rw [Nat.add_mul (c2 + 1), Nat.one_mul]; omega
        omega
      · have h3 := congrArg (List.drop L.n) ht
        have h4 : L.all (x :: xs) = L.cells x ++ L.all xs := by simp [Lay.all]
        rw [h4, List.drop_left' (L.len x), List.drop_take, List.drop_drop] at h3
        rw [← h3]
        congr 1
        rw [Nat.add_mul, Nat.one_mul]; omega
end
section
variable {P : Program} {α : Type} {L : Lay α} {W : World} {base : Nat} {e : TypeId}
/-- append where there is room, anywhere in a block. -/
theorem app_roomO {w : World} {g : Nat} {l : List Value} {t sT ty elem : TypeId} {sz : Nat} (hg : Blk w g l.toArray t) (hu : P.underlying sT = some (.slice elem)) (hsz : sizeT P elem = some sz) {o sLen sCap : Nat} {a : Addr} {n c : Nat} {cs : List Value}
    (hn : cs.length = n * sz) (hsrc : ∀ j v, cs[j]? = some v → w.cell? (a.add j) = some v) (hroom : sLen + n ≤ sCap) (hfit : o + sLen * sz + cs.length ≤ l.length) (h1 : ∀ v ∈ cs, v.oneCell' = true) :
    ∃ w', (Builtin.append_ #[sT, sT] ty #[.slice (some ⟨g, o, none⟩) sLen sCap, .slice (some a) n c]).run P w = .ok (.slice (some ⟨g, o, none⟩) (sLen + n) sCap) w' ∧ Blk w' g (l.take (o + sLen * sz) ++ cs ++ l.drop (o + sLen * sz + cs.length)).toArray t ∧ w.grownBy w' (some g) := by
  obtain ⟨i, hi, hiz⟩ := sizeT_info hsz
  have hl := run_loadCells_list (P := P) w a cs hsrc
  have hst := run_storeCells_at P g (o + sLen * sz) t cs 0 l.toArray w hg (by simpa using hfit) h1
  obtain ⟨q1, q2⟩ := setRow_fm (w := w) (c' := (l.take (o + sLen * sz) ++ cs ++ l.drop (o + sLen * sz + cs.length)).toArray) hg
  refine ⟨_, ?_, q1, ⟨q2.os, q2.tape, q2.output, q2.size, fun b hb hr => q2.block b hb fun e => hr (by rw [e])⟩⟩
  subst hiz
  have hadd : (⟨g, o, none⟩ : Addr).add (sLen * i.size) = ⟨g, o + sLen * i.size, none⟩ := by rw [Addr.add_mk]
  simp [Builtin.append_, run_underlying hu, Builtin.lenOf, Builtin.firstCells, sizeOf, typeInfo, hi, ← hn, hl, hst, hroom, hadd]
theorem apO {xs ys : List α} {v : Value} {A : Option Addr} {m c : Nat} {t ty : TypeId} (z : Value) (bytes : Nat) (hm : m = ys.length)
    (ht : P.underlying t = some (.slice e)) (hinfo : (P.info? e).map (fun i => (i.zero, i.size, i.bytes)) = some (some z, L.n, bytes)) (hz : z.cells.size = L.n)
    (HO : OwnO L W base e v xs) (HR : Rd L W A c ys) (hbase : base ≤ W.heap.size) (hl : (xs.length + ys.length) * bytes ≤ 140737488355328) (hml : xs.length + ys.length ≤ maxLen) {K : Value → World → Prop}
    (h : ∀ A' c' w1, OwnO L w1 base e (.slice A' (xs.length + ys.length) c') (xs ++ ys) → Grew base W w1 v (.slice A' (xs.length + ys.length) c') → K (.slice A' (xs.length + ys.length) c') w1) :
    Raw P (Builtin.append_ #[t, t] ty #[v, .slice A m c]) W K := by
  rcases HO with ⟨rfl, rfl⟩ | ⟨⟨a, rfl⟩, rfl⟩ | ⟨g, o, cc, l, rfl, hk, hh, hn, hmx, hs, htk⟩
  · exact ap (L := L) (xs := []) (ys := ys) (base := base) z bytes hm ht hinfo hz (Own.nil _ _ _ _) HR hbase hl hml fun A' c' w1 ho hg => h A' c' w1 ho.o hg
  · exact ap (L := L) (xs := []) (ys := ys) (base := base) z bytes hm ht hinfo hz (Own.bare _ _ _ _ _) HR hbase hl hml fun A' c' w1 ho hg => h A' c' w1 ho.o hg
  · subst hm
    obtain ⟨i0, hi, hzz⟩ := Option.map_eq_some_iff.1 hinfo
    simp only [Prod.mk.injEq] at hzz
    obtain ⟨hz0, hz1, hz2⟩ := hzz
    have HO' : OwnO L W base e (.slice (some ⟨g, o, none⟩) xs.length (cc + 1)) xs := .inr (.inr ⟨g, o, cc, l, rfl, hk, hh, hn, hmx, hs, htk⟩)
    have hlt := hh.lt
    by_cases hy : ys = []
    · subst hy
      have hrun : (Builtin.append_ #[t, t] ty #[.slice (some ⟨g, o, none⟩) xs.length (cc + 1), .slice A 0 c]).run P W = .ok (.slice (some ⟨g, o, none⟩) xs.length (cc + 1)) W := by
        rcases A with _ | ad
        · simp [Builtin.append_, run_underlying ht, sizeOf, typeInfo, hi, Builtin.lenOf, Builtin.firstCells, storeCells, hn]
        · simp [Builtin.append_, run_underlying ht, sizeOf, typeInfo, hi, Builtin.lenOf, Builtin.firstCells, storeCells, loadCells, loadCellsFrom, hn]
      refine ⟨_, _, hrun, h (some ⟨g, o, none⟩) (cc + 1) W (by rw [List.append_nil]; exact HO') ⟨Below.refl _ _, Nat.le_refl _, World.grownBy.refl _ _, .inl rfl⟩⟩
    · have h0 : 0 < ys.length := List.length_pos_iff.2 hy
      obtain ⟨b, ob, rfl, hcs⟩ := HR.2.2.2 h0
      have hsrc : ∀ j u, (L.all ys)[j]? = some u → W.cell? ((⟨b, ob, none⟩ : Addr).add j) = some u := fun j u hj => by rw [Addr.add_mk]; exact hcs j u hj
      have hxl : xs.length * L.n ≤ (cc + 1) * L.n := Nat.mul_le_mul_right _ hn
      by_cases hroom : xs.length + ys.length ≤ cc + 1
      · have hfit : (xs.length + ys.length) * L.n ≤ (cc + 1) * L.n := Nat.mul_le_mul_right _ hroom
        rw [Nat.add_mul] at hfit
        have hyl := L.all_length ys
        obtain ⟨w1, hr, hb1, hg1⟩ := app_roomO (P := P) (ty := ty) (o := o) (sLen := xs.length) (sCap := cc + 1) (c := c) (n := ys.length) (cs := L.all ys) hh ht (sz := L.n) (by unfold sizeT; rw [hi]; exact congrArg some hz1) hyl hsrc hroom (by omega) (L.all_ones ys)
        refine ⟨_, _, hr, h _ _ w1 (.inr (.inr ⟨g, o, cc, _, by rw [List.length_append], hk, hb1, by rw [List.length_append]; exact hroom, hmx, ?_, ?_⟩)) ⟨?_, hg1.size, hg1, .inl rfl⟩⟩
        · simp only [List.length_append, List.length_take, List.length_drop]; omega
        · rw [List.length_append, Nat.add_mul, L.all_append, ← htk, List.append_assoc, List.drop_append_of_le_length (by rw [List.length_take]; omega), List.drop_take,
            List.take_append, List.length_take, List.length_drop, List.take_of_length_le (by rw [List.length_take, List.length_drop]; omega)]
          congr 1
          · congr 1; omega
          · rw [List.take_left' (by omega)]
        · exact (Fm.grown (M := fun b => b = g) hg1 fun b hb => by cases hb; rfl).toBelow hbase fun b hb e => by omega
      · have hrd := HO'.rd
        have holds : ∀ j u, (L.all xs)[j]? = some u → W.cell? ((⟨g, o, none⟩ : Addr).add j) = some u := fun j u hj => by
          have hjl := (List.getElem?_eq_some_iff.1 hj).1
          have hx0 : 0 < xs.length := by
            rcases Nat.eq_zero_or_pos xs.length with h9 | h9
            · rw [L.all_length, h9] at hjl; omega
            · exact h9
          obtain ⟨b2, o2, hA, hc⟩ := hrd.2.2.2.2 hx0
          simp only [Option.some.injEq, Addr.mk.injEq, and_true] at hA
          obtain ⟨rfl, rfl⟩ := hA
          rw [Addr.add_mk]; exact hc j u hj
        have hr := run_append_grow (P := P) W t ty e i0 z ht hi hz0 ⟨g, o, none⟩ xs.length (cc + 1) (L.all xs) (by rw [hz1]; exact L.all_length xs) holds ⟨b, ob, none⟩ ys.length c (L.all ys) (by rw [hz1]; exact L.all_length ys) hsrc (by omega) (by simp only [maxLen] at hml; omega) (by rw [hz2]; exact growslice_fits (by omega) hl)
        have hge := grownCap_ge W (xs.length + ys.length) (cc + 1) e
        have hcm : grownCap W (xs.length + ys.length) (cc + 1) e ≤ maxLen := grownCap_le_maxLen W _ (cc + 1) e hml
        refine ⟨_, _, hr, ?_⟩
        generalize grownCap W (xs.length + ys.length) (cc + 1) e = q at hge hcm ⊢
        obtain ⟨q, rfl⟩ : ∃ q', q = q' + 1 := ⟨q - 1, by omega⟩
        refine h _ _ _ (.inr (.inr ⟨W.heap.size, 0, q, (L.all xs ++ L.all ys) ++ (Builtin.zeroCells z.cells (q + 1 - (xs.length + ys.length))).toList, by rw [List.length_append], hbase, ?_, by rw [List.length_append]; exact hge, hcm, ?_, ?_⟩)) ⟨?_, ?_, ?_, .inr (.inr ⟨_, rfl, Nat.le_refl _⟩)⟩
        · have := Blk.alloc_new W.drew ((L.all xs).toArray ++ (L.all ys).toArray ++ Builtin.zeroCells z.cells (q + 1 - (xs.length + ys.length))) e
          rw [show ((L.all xs ++ L.all ys) ++ (Builtin.zeroCells z.cells (q + 1 - (xs.length + ys.length))).toList).toArray = (L.all xs).toArray ++ (L.all ys).toArray ++ Builtin.zeroCells z.cells (q + 1 - (xs.length + ys.length)) by simp]
          exact this
        · have hzc : (Builtin.zeroCells z.cells (q + 1 - (xs.length + ys.length))).toList.length = (q + 1 - (xs.length + ys.length)) * L.n := by simp [Builtin.zeroCells, hz]
          rw [List.length_append, List.length_append, hzc, L.all_length, L.all_length, ← Nat.add_mul, ← Nat.add_mul]
          have : xs.length + ys.length + (q + 1 - (xs.length + ys.length)) = q + 1 := by omega
          rw [this]; omega
        · rw [List.drop_zero, List.take_left' (by rw [← L.all_append, L.all_length]), L.all_append]
        · exact (((Below.refl _ _).drew).alloc (Nat.le_refl _) _).mono hbase
        · simp
        · exact ⟨rfl, rfl, rfl, by simp, fun k hk _ => by first | exact heap_alloc_old W.drew _ hk | exact heap_alloc_old W.drew _ _ hk⟩
end
end Go.Proofs.YtfhkgnfphfmhiaaGreatDoor
