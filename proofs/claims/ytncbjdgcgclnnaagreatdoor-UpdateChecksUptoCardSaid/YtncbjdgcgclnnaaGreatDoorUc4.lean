/- UpdateChecks: Check and Plan of any list of edits are as the document has them. -/
import Derived.Test.YtncbjdgcgclnnaaGreatDoorProg
import Derived.Test.YtncbjdgcgclnnaaGreatDoorRows
import Derived.Test.YtncbjdgcgclnnaaGreatDoorCards
import Derived.Test.YtncbjdgcgclnnaaGreatDoorTie
import Derived.WalkKit
import Derived.Lib.SmallJoins
import Derived.RowKit3
import Derived.ProofKit
import Derived.OpenShut
import Derived.ShutString
import Derived.ChangeOld
import Derived.Below
import Derived.Carry
import Derived.SizedLaws
import Derived.LaidMore
import Derived.PinnedBridge
import Derived.Lib.LaidIn
import Derived.Lib.LaidU8T
import Derived.SevenTiedAt
import Derived.Stop.Joined
import Derived.Deep.DeepHandedRow
import Derived.JoinedCond
import Derived.Deep.CondSized
import Derived.Test.YtncbjdgcgclnnaaGreatDoorUc3
set_option linter.unusedVariables false
set_option maxRecDepth 100000
namespace Go.Proofs.YtncbjdgcgclnnaaGreatDoor
open Go.Vc
def F21_j4 (b:Int) (a:Int) (c:World) (R:Ending→World→Prop):Prop :=
 R (.returned (.tuple #[(.int .u64 b),(.int .i64 a)])) c
def F21 (d:Option Addr) (where_:Int) (at_:Int) (x_0:Int) (x_1:ByteArray) (x_2:Option Addr) (x_2N:Nat) (x_2C:Nat) (x_3:ByteArray) (x_4:Option Addr) (x_4N:Nat) (x_4C:Nat) (t:World) (R:Ending→World→Prop):Prop :=
 Al t #[(.int .i64 x_0),(.string x_1),(.slice x_2 x_2N x_2C),(.string x_3),(.slice x_4 x_4N x_4C)] 54 fun g7 w1 =>
 ∃S:World→Prop,S w1.drew∧NonNil d fun p14 =>
 ∃(m:Int),Held S g7 (.int .i64 m)∧∃(k:ByteArray),Held S (g7.add 1) (.string k)∧∃(g:Option Addr) (c:Nat) (a:Nat),Held S (g7.add 2) (.slice g c a)∧∃(f:ByteArray),Held S (g7.add 3) (.string f)∧∃(j:Option Addr) (b:Nat) (e:Nat),Held S (g7.add 4) (.slice j b e)∧Calls Tryz.prog 48 #[(.pointer (some p14)),(.int .i64 where_),(.int .u64 at_),(.agg #[(.int .i64 m),(.string k),(.slice g c a),(.string f),(.slice j b e)])] w1.drew (post R fun v p =>
 ∃(i:Int) (h:Int),v=(.tuple #[(.int .u64 i),(.int .i64 h)]) ∧
 ∃J4:World→Prop,(∀ (q:World),J4 q→F21_j4 i h q R) ∧
 (Br (h == (0:Int))
 (Calls Tryz.prog 50 #[(.pointer d),(.int .u64 i)] p (post R fun v2 q =>
 ∃(r:Int),v2=(.int .u64 r) ∧
 Calls Tryz.prog 49 #[(.pointer d),(.int .u64 i),(.int .u64 r)] q (post R fun v3 n =>
 ∃(s:Int),v3=(.int .u64 s) ∧
 J4 n)))
 (J4 p)))
theorem ok21 (d:Option Addr) (where_:Int) (at_:Int) (x_0:Int) (x_1:ByteArray) (x_2:Option Addr) (x_2N:Nat) (x_2C:Nat) (x_3:ByteArray) (x_4:Option Addr) (x_4N:Nat) (x_4C:Nat) {w:World}{R:Ending→World→Prop} (h:F21 d where_ at_ x_0 x_1 x_2 x_2N x_2C x_3 x_4 x_4N x_4C w R):Calls Tryz.prog 21 #[(.pointer d),(.int .i64 where_),(.int .u64 at_),(.agg #[(.int .i64 x_0),(.string x_1),(.slice x_2 x_2N x_2C),(.string x_3),(.slice x_4 x_4N x_4C)])] w R :=
 vc_calls (pl:=⟨32,⟨[]⟩,[(4,⟨[],[(22,30)]⟩)],[]⟩) Tryz.func21 (by kernel_rfl) (by kernel_rfl) (by kernel_rfl) (Eq.mp (by kernel_rfl) h)
def F24 (d:Option Addr) (a:World) (R:Ending→World→Prop):Prop :=
 NonNil d fun p4 =>
 Calls Tryz.prog 58 #[(.pointer (some p4))] a (post R fun v w1 =>
 ∃(b:Option Addr),v=(.pointer b) ∧
 R (.returned (.pointer b)) w1)
theorem ok24 (d:Option Addr) {w:World}{R:Ending→World→Prop} (h:F24 d w R):Calls Tryz.prog 24 #[(.pointer d)] w R :=
 vc_calls (pl:=⟨7,⟨[]⟩,[],[]⟩) Tryz.func24 (by kernel_rfl) (by kernel_rfl) (by kernel_rfl) (Eq.mp (by kernel_rfl) h)
def F50_j12 (t:Int) (a:World) (R:Ending→World→Prop):Prop :=
 R (.returned (.int .u64 t)) a
def F50_l7 (d:Option Addr) (n:Int) (l:Option Addr) (lN:Nat) (J12:Int→World→Prop) (L7:Int→Int→World→Prop) (t:Int) (g:Int) (f:World) (R:Ending→World→Prop):Prop :=
 Br (decide (g < ((lN:Nat):Int)))
 (IdxA l lN g 1 fun i =>
 LdI .u64 (f.cell? i) fun e =>
 Br (e == n)
 (J12 t f)
 (NonNil d fun p50 =>
 LdM (f.cell? (p50.add 9)) fun h =>
 Raw Tryz.prog (Instr.lookup 80 (.map h) (.int .u64 e) false) f fun v4 c =>
 ∃(a:Int) (b:Int),v4=(.agg #[(.int .u64 a),(.int .u64 b)]) ∧
 InR .i64 (g+(1:Int))∧L7 b (g+(1:Int)) c))
 (J12 t f)
def F50_j5 (d:Option Addr) (n:Int) (c:Int) (l:Option Addr) (lN:Nat) (lC:Nat) (g:World) (R:Ending→World→Prop):Prop :=
 NonNil d fun p34 =>
 LdM (g.cell? (p34.add 9)) fun h =>
 Raw Tryz.prog (Instr.lookup 80 (.map h) (.int .u64 c) false) g fun v3 e =>
 ∃(b:Int) (a:Int),v3=(.agg #[(.int .u64 b),(.int .u64 a)]) ∧
 ∃J12:Int→World→Prop,(∀(t:Int) (f:World),J12 t f→F50_j12 t f R) ∧
 (∃(I:Int→Int→World→Prop) (m:Int→Int→World→Nat),I b (0:Int) e ∧
 ∀(t:Int) (i:Int) (f:World),I t i f→F50_l7 d n l lN J12 (fun t' i' w2=>I t' i' w2∧m t' i' w2 < m t i f) t i f R)
def F50 (d:Option Addr) (n:Int) (p:World) (R:Ending→World→Prop):Prop :=
 NonNil d fun p13 =>
 Calls Tryz.prog 90 #[(.pointer (some p13)),(.int .u64 n)] p (post R fun v w1 =>
 ∃(f:Int) (c:Int),v=(.tuple #[(.int .u64 f),(.int .i64 c)]) ∧
 NonNil d fun p20 =>
 Calls Tryz.prog 59 #[(.pointer (some p20))] w1 (post R fun v2 j =>
 ∃(m:Option Addr) (h:Nat) (i:Nat),v2=(.slice m h i) ∧
 ∃J5:Option Addr→Nat→Nat→World→Prop,(∀(l:Option Addr) (lN:Nat) (lC:Nat) (k:World),J5 l lN lC k→F50_j5 d n f l lN lC k R) ∧
 (Br (f != (0:Int))
 (NonNil d fun p27 =>
 Calls Tryz.prog 89 #[(.pointer (some p27)),(.int .u64 f)] j (post R fun v3 k =>
 ∃(e:Option Addr) (b:Nat) (a:Nat) (g:Int),v3=(.tuple #[(.slice e b a),(.int .i64 g)]) ∧
 J5 e b a k))
 (J5 m h i j))))
theorem ok50 (d:Option Addr) (n:Int) {w:World}{R:Ending→World→Prop} (h:F50 d n w R):Calls Tryz.prog 50 #[(.pointer d),(.int .u64 n)] w R :=
 vc_calls (pl:=⟨58,⟨[]⟩,[(12,⟨[(8,(.s (.int .u64)))],[(8,57)]⟩),(5,⟨[(7,(.s .slice))],[(7,33)]⟩)],[(7,⟨[(8,(.s (.int .u64))),(42,(.s (.int .i64)))],[(8,11),(42,57)]⟩)]⟩) Tryz.func50 (by kernel_rfl) (by kernel_rfl) (by kernel_rfl) (Eq.mp (by kernel_rfl) h)
def F49_j13 (d:Option Addr) (n:Int) (g7:Addr) (f:World) (R:Ending→World→Prop):Prop :=
 ∃S:World→Prop,S f.drew∧NonNil d fun p62 =>
 ∃(e:Option Nat),Held S (p62.add 9) (.map e)∧∃(a:Int),Held S g7 (.int .u64 a)∧∃(b:Int),Held S (g7.add 1) (.int .u64 b)∧Raw Tryz.prog (Instr.mapUpdate 80 (.map e) (.int .u64 n) (.agg #[(.int .u64 a),(.int .u64 b)])) f.drew fun _ c =>
 LdI .u64 (c.cell? (g7.add 1)) fun g =>
 R (.returned (.int .u64 g)) c
def F49_l6 (d:Option Addr) (n:Int) (g7:Addr) (c:Option Addr) (a:Nat) (L6:Int→Int→World→Prop) (last:Int) (m:Int) (k:World) (R:Ending→World→Prop):Prop :=
 Br (decide (m < ((a:Nat):Int)))
 (IdxA c a m 1 fun j =>
 LdI .u64 (k.cell? j) fun q =>
 Calls Tryz.prog 49 #[(.pointer d),(.int .u64 q),(.int .u64 last)] k (post R fun v3 f =>
 ∃(p:Int),v3=(.int .u64 p) ∧
 InR .i64 (m+(1:Int))∧L6 p (m+(1:Int)) f))
 (NonNil d fun p45 =>
 Calls Tryz.prog 88 #[(.pointer (some (p45.add 5))),(.int .u64 last)] k (post R fun v3 f =>
 ∃(e:Int) (b:Int),v3=(.tuple #[(.int .u64 e),(.int .i64 b)]) ∧
 St f (g7.add 1) (.int .u64 e) fun h =>
 ∃J13:World→Prop,(∀ (g:World),J13 g→F49_j13 d n g7 g R) ∧
 (NonNil d fun p53 =>
 LdM (h.cell? (p53.add 9)) fun r =>
 Br (r).isNone
 (AlM h fun r58 g =>
 NonNil d fun p59 =>
 St g (p59.add 9) (.map (some r58)) fun i =>
 J13 i)
 (J13 h))))
def F49 (d:Option Addr) (n:Int) (behind:Int) (r:World) (R:Ending→World→Prop):Prop :=
 Al r #[(.int .u64 0),(.int .u64 0)] 161 fun g7 w1 =>
 NonNil d fun p15 =>
 Calls Tryz.prog 88 #[(.pointer (some (p15.add 5))),(.int .u64 behind)] w1 (post R fun v i =>
 ∃(g:Int) (f:Int),v=(.tuple #[(.int .u64 g),(.int .i64 f)]) ∧
 St i g7 (.int .u64 g) fun j =>
 LdI .u64 (j.cell? g7) fun p =>
 NonNil d fun p26 =>
 Calls Tryz.prog 89 #[(.pointer (some p26)),(.int .u64 n)] j (post R fun v2 k =>
 ∃(e:Option Addr) (a:Nat) (b:Nat) (c:Int),v2=(.tuple #[(.slice e a b),(.int .i64 c)]) ∧
 ∃(I:Int→Int→World→Prop) (m:Int→Int→World→Nat),I p (0:Int) k ∧
 ∀(last:Int) (q:Int) (h:World),I last q h→F49_l6 d n g7 e a (fun last' q' w2=>I last' q' w2∧m last' q' w2 < m last q h) last q h R))
theorem ok49 (d:Option Addr) (n:Int) (behind:Int) {w:World}{R:Ending→World→Prop} (h:F49 d n behind w R):Calls Tryz.prog 49 #[(.pointer d),(.int .u64 n),(.int .u64 behind)] w R :=
 vc_calls (pl:=⟨69,⟨[]⟩,[(13,⟨[],[(52,61)]⟩)],[(6,⟨[(8,(.s (.int .u64))),(34,(.s (.int .i64)))],[(8,13),(34,43)]⟩)]⟩) Tryz.func49 (by kernel_rfl) (by kernel_rfl) (by kernel_rfl) (Eq.mp (by kernel_rfl) h)
def F88_j17 (g41:Addr) (b:World) (R:Ending→World→Prop):Prop :=
 LdI .u64 (b.cell? g41) fun a =>
 R (.returned (.tuple #[(.int .u64 a),(.int .i64 0)])) b
def F88_j13 (l:Option Addr) (a:Option Addr) (g41:Addr) (g:World) (R:Ending→World→Prop):Prop :=
 NonNil a fun p75 =>
 St g (p75.add 3) (.pointer (some g41)) fun c =>
 ∃S2:World→Prop,S2 c.drew∧NonNil l fun p78 =>
 ∃(f:Option Nat),Held S2 p78 (.map f)∧∃(h:Int),Held S2 g41 (.int .u64 h)∧Raw Tryz.prog (Instr.mapUpdate 76 (.map f) (.int .u64 h) (.pointer (some g41))) c.drew fun _ d =>
 ∃J17:World→Prop,(∀ (b:World),J17 b→F88_j17 g41 b R) ∧
 (LdI .u64 (d.cell? (g41.add 1)) fun e =>
 Br (e == (0:Int))
 (Calls Tryz.prog 127 #[(.pointer l)] d (post R fun v3 b =>
 v3=(.tuple #[]) ∧
 J17 b))
 (J17 d))
def F88_j11 (l:Option Addr) (a:Option Addr) (g41:Addr) (e:World) (R:Ending→World→Prop):Prop :=
 ∃J13:World→Prop,(∀ (b:World),J13 b→F88_j13 l a g41 b R) ∧
 (NonNil a fun p62 =>
 LdP (e.cell? (p62.add 3)) fun d =>
 Br (!(d).isNone)
 (NonNil a fun p67 =>
 LdP (e.cell? (p67.add 3)) fun c =>
 NonNil c fun p71 =>
 St e (p71.add 2) (.pointer (some g41)) fun b =>
 J13 b)
 (J13 e))
def F88 (l:Option Addr) (t:Int) (r:World) (R:Ending→World→Prop):Prop :=
 Calls Tryz.prog 123 #[(.pointer l),(.int .u64 t)] r (post R fun v w1 =>
 ∃(a:Option Addr) (b:Int),v=(.tuple #[(.pointer a),(.int .i64 b)]) ∧
 Br (b != (0:Int))
 (R (.returned (.tuple #[(.int .u64 0),(.int .i64 b)])) w1)
 (Calls Tryz.prog 124 #[(.pointer l)] w1 (post R fun v2 f =>
 ∃(q:Int),v2=(.int .i64 q) ∧
 Br (decide (q≥(8192:Int)))
 (R (.returned (.tuple #[(.int .u64 0),(.int .i64 11)])) f)
 (NonNil l fun p25 =>
 LdI .u64 (f.cell? (p25.add 2)) fun j =>
 InR .u64 (j+(1:Int))∧NonNil l fun p29 =>
 St f (p29.add 2) (.int .u64 (j+(1:Int))) fun d =>
 ∃S:World→Prop,S d.drew∧NonNil l fun p32 =>
 ∃(n:Int),Held S (p32.add 2) (.int .u64 n)∧NonNil a fun p37 =>
 ∃(i:Option Addr),Held S (p37.add 3) (.pointer i)∧Al d.drew #[(.int .u64 n),(.int .u64 0),(.pointer a),(.pointer i)] 196 fun g41 c =>
 ∃J11:World→Prop,(∀ (g:World),J11 g→F88_j11 l a g41 g R) ∧
 (∃S2:World→Prop,S2 c.drew∧NonNil a fun p45 =>
 ∃(p:Int),Held S2 (p45.add 1) (.int .u64 p)∧Calls Tryz.prog 125 #[(.pointer a)] c.drew (post R fun v3 e =>
 ∃(k:Int),v3=(.int .u64 k) ∧
 S2 e∧InR .u64 (k-p)∧Br (decide ((k-p)≥(2:Int)))
 (NonNil a fun p54 =>
 LdI .u64 (e.cell? (p54.add 1)) fun m =>
 InR .u64 ((k-p).tdiv (2:Int))∧InR .u64 (m+((k-p).tdiv (2:Int)))∧Calls Tryz.prog 126 #[(.pointer l),(.pointer (some g41)),(.int .u64 (m+((k-p).tdiv (2:Int))))] e (post R fun v4 h =>
 v4=(.tuple #[]) ∧
 J11 h))
 (J11 e)))))))
theorem ok88 (l:Option Addr) (t:Int) {w:World}{R:Ending→World→Prop} (h:F88 l t w R):Calls Tryz.prog 88 #[(.pointer l),(.int .u64 t)] w R :=
 vc_calls (pl:=⟨97,⟨[]⟩,[(17,⟨[],[(86,93)]⟩),(13,⟨[],[(61,73)]⟩),(11,⟨[],[(9,61)]⟩)],[]⟩) Tryz.func88 (by kernel_rfl) (by kernel_rfl) (by kernel_rfl) (Eq.mp (by kernel_rfl) h)
def F124 (l:Option Addr) (c:World) (R:Ending→World→Prop):Prop :=
 Calls Tryz.prog 147 #[(.pointer l)] c (post R fun v w1 =>
 v=(.tuple #[]) ∧
 NonNil l fun p6 =>
 LdM (w1.cell? p6) fun d =>
 Raw Tryz.prog (Builtin.len_ #[76] 3 #[(.map d)]) w1 fun v2 a =>
 ∃(b:Int),v2=(.int .i64 b) ∧
 InR .i64 (b-(1:Int))∧R (.returned (.int .i64 (b-(1:Int)))) a)
theorem ok124 (l:Option Addr) {w:World}{R:Ending→World→Prop} (h:F124 l w R):Calls Tryz.prog 124 #[(.pointer l)] w R :=
 vc_calls (pl:=⟨11,⟨[]⟩,[],[]⟩) Tryz.func124 (by kernel_rfl) (by kernel_rfl) (by kernel_rfl) (Eq.mp (by kernel_rfl) h)
def F147 (l:Option Addr) (g:World) (R:Ending→World→Prop):Prop :=
 NonNil l fun p3 =>
 LdP (g.cell? (p3.add 1)) fun f =>
 Br (f).isNone
 (Al g #[(.int .u64 0),(.int .u64 0),(.pointer none),(.pointer none)] 196 fun g9 w1 =>
 NonNil l fun p10 =>
 St w1 (p10.add 1) (.pointer (some g9)) fun c =>
 AlM c fun r13 b =>
 NonNil l fun p15 =>
 LdP (b.cell? (p15.add 1)) fun e =>
 Raw Tryz.prog (Instr.mapUpdate 76 (.map (some r13)) (.int .u64 0) (.pointer e)) b fun _ d =>
 NonNil l fun p19 =>
 St d p19 (.map (some r13)) fun a =>
 R (.returned (.tuple #[])) a)
 (R (.returned (.tuple #[])) g)
theorem ok147 (l:Option Addr) {w:World}{R:Ending→World→Prop} (h:F147 l w R):Calls Tryz.prog 147 #[(.pointer l)] w R :=
 vc_calls (pl:=⟨21,⟨[]⟩,[],[]⟩) Tryz.func147 (by kernel_rfl) (by kernel_rfl) (by kernel_rfl) (Eq.mp (by kernel_rfl) h)
def F123 (l:Option Addr) (t:Int) (e:World) (R:Ending→World→Prop):Prop :=
 Calls Tryz.prog 147 #[(.pointer l)] e (post R fun v w1 =>
 v=(.tuple #[]) ∧
 NonNil l fun p12 =>
 LdM (w1.cell? p12) fun d =>
 Raw Tryz.prog (Instr.lookup 76 (.map d) (.int .u64 t) true) w1 fun v2 c =>
 ∃(b:Option Addr) (a:Bool),v2=(.tuple #[(.pointer b),(.bool a)]) ∧
 Br (!a)
 (R (.returned (.tuple #[(.pointer none),(.int .i64 10)])) c)
 (R (.returned (.tuple #[(.pointer b),(.int .i64 0)])) c))
theorem ok123 (l:Option Addr) (t:Int) {w:World}{R:Ending→World→Prop} (h:F123 l t w R):Calls Tryz.prog 123 #[(.pointer l),(.int .u64 t)] w R :=
 vc_calls (pl:=⟨22,⟨[]⟩,[],[]⟩) Tryz.func123 (by kernel_rfl) (by kernel_rfl) (by kernel_rfl) (Eq.mp (by kernel_rfl) h)
def F127_l3 (l:Option Addr) (d:Int) (L3:Int→Option Addr→World→Prop) (label:Int) (x:Option Addr) (c:World) (R:Ending→World→Prop):Prop :=
 Br (!(x).isNone)
 (InR .u64 (label+((4611686018427387904:Int).tdiv ((d+(1:Int)))))∧Calls Tryz.prog 126 #[(.pointer l),(.pointer x),(.int .u64 (label+((4611686018427387904:Int).tdiv ((d+(1:Int))))))] c (post R fun v2 a =>
 v2=(.tuple #[]) ∧
 NonNil x fun p23 =>
 LdP (a.cell? (p23.add 3)) fun b =>
 L3 (label+((4611686018427387904:Int).tdiv ((d+(1:Int))))) b a))
 (R (.returned (.tuple #[])) c)
def F127 (l:Option Addr) (e:World) (R:Ending→World→Prop):Prop :=
 NonNil l fun p6 =>
 LdM (e.cell? p6) fun f =>
 Raw Tryz.prog (Builtin.len_ #[76] 3 #[(.map f)]) e fun v w1 =>
 ∃(d:Int),v=(.int .i64 d) ∧
 InR .i64 (d+(1:Int))∧InR .u64 ((d+(1:Int)))∧((d+(1:Int)))≠0∧InR .u64 ((4611686018427387904:Int).tdiv ((d+(1:Int))))∧NonNil l fun p14 =>
 LdP (w1.cell? (p14.add 1)) fun b =>
 NonNil b fun p17 =>
 LdP (w1.cell? (p17.add 3)) fun c =>
 ∃(I:Int→Option Addr→World→Prop) (m:Int→Option Addr→World→Nat),I (0:Int) c w1 ∧
 ∀(label:Int) (x:Option Addr) (a:World),I label x a→F127_l3 l d (fun label' x' w2=>I label' x' w2∧m label' x' w2 < m label x a) label x a R
theorem ok127 (l:Option Addr) {w:World}{R:Ending→World→Prop} (h:F127 l w R):Calls Tryz.prog 127 #[(.pointer l)] w R :=
 vc_calls (pl:=⟨33,⟨[]⟩,[],[(3,⟨[(3,(.s (.int .u64))),(4,(.s .ptr))],[(3,33)]⟩)]⟩) Tryz.func127 (by kernel_rfl) (by kernel_rfl) (by kernel_rfl) (Eq.mp (by kernel_rfl) h)
def F126 (l:Option Addr) (x:Option Addr) (label:Int) (d:World) (R:Ending→World→Prop):Prop :=
 NonNil x fun p7 =>
 LdI .u64 (d.cell? (p7.add 1)) fun c =>
 Br (c != label)
 (NonNil x fun p14 =>
 St d (p14.add 1) (.int .u64 label) fun w1 =>
 NonNil l fun p17 =>
 LdI .u64 (w1.cell? (p17.add 3)) fun b =>
 NonNil l fun p21 =>
 St w1 (p21.add 3) (.int .u64 (IntKind.wrap .u64 (b+(1:Int)))) fun a =>
 R (.returned (.tuple #[])) a)
 (R (.returned (.tuple #[])) d)
theorem ok126 (l:Option Addr) (x:Option Addr) (label:Int) {w:World}{R:Ending→World→Prop} (h:F126 l x label w R):Calls Tryz.prog 126 #[(.pointer l),(.pointer x),(.int .u64 label)] w R :=
 vc_calls (pl:=⟨23,⟨[(2,4)]⟩,[],[]⟩) Tryz.func126 (by kernel_rfl) (by kernel_rfl) (by kernel_rfl) (Eq.mp (by kernel_rfl) h)
def F125 (x:Option Addr) (c:World) (R:Ending→World→Prop):Prop :=
 NonNil x fun p4 =>
 LdP (c.cell? (p4.add 3)) fun d =>
 Br (d).isNone
 (R (.returned (.int .u64 4611686018427387904)) c)
 (NonNil x fun p9 =>
 LdP (c.cell? (p9.add 3)) fun b =>
 NonNil b fun p12 =>
 LdI .u64 (c.cell? (p12.add 1)) fun a =>
 R (.returned (.int .u64 a)) c)
theorem ok125 (x:Option Addr) {w:World}{R:Ending→World→Prop} (h:F125 x w R):Calls Tryz.prog 125 #[(.pointer x)] w R :=
 vc_calls (pl:=⟨15,⟨[]⟩,[],[]⟩) Tryz.func125 (by kernel_rfl) (by kernel_rfl) (by kernel_rfl) (Eq.mp (by kernel_rfl) h)
end Go.Proofs.YtncbjdgcgclnnaaGreatDoor
namespace Go.Proofs.YtncbjdgcgclnnaaGreatDoor
open Go.RowKit Go.Vc
set_option linter.unusedVariables false
set_option linter.unusedSimpArgs false
set_option maxRecDepth 100000
theorem insAt_get {α:Type}{l:List α}{m:Nat}{h:α} (hm:m≤l.length) (j:Nat):(l.take m++h :: l.drop m)[j]?=if j < m then l[j]? else if j=m then some h else l[j-1]?:=by
 have hl:(l.take m).length=m:=by rw [List.length_take];omega
 by_cases h1:j < m
 ·rw [if_pos h1,List.getElem?_append_left (by omega),List.getElem?_take,if_pos h1]
 ·rw [if_neg h1,List.getElem?_append_right (by omega),hl]
  by_cases h2:j=m
  ·rw [if_pos h2,h2,Nat.sub_self];rfl
  ·rw [if_neg h2,show j-m=(j-m-1)+1 by omega,List.getElem?_cons_succ,List.getElem?_drop]
   congr 1;omega
theorem idx_iff {l:List Nat} (hn:l.Nodup) {k j:Nat}:l[j]?=some k↔k∈l∧l.idxOf k=j:=by
 constructor
 ·intro h
  obtain⟨hj,he⟩:=List.getElem?_eq_some_iff.1 h
  have hm:k∈l:=List.mem_of_getElem? h
  refine⟨hm,?_⟩
  have hlt:=List.idxOf_lt_length_iff.2 hm
  have h2:=List.getElem_idxOf hlt
  have hp:=List.pairwise_iff_getElem.1 hn
  rcases Nat.lt_trichotomy (l.idxOf k) j with h3 | h3 | h3
  ·exact absurd (h2.trans he.symm) (hp _ _ hlt hj h3)
  ·exact h3
  ·exact absurd (he.trans h2.symm) (hp _ _ hj hlt h3)
 ·rintro ⟨hm,rfl⟩
  have hlt:=List.idxOf_lt_length_iff.2 hm
  rw [List.getElem?_eq_getElem hlt,List.getElem_idxOf hlt]
def pB (b:Option Nat):Value:=.pointer (b.map fun b=>⟨b,0,none⟩)
def pvB (bs:List Nat) (i:Nat):Option Nat:=if i=0 then none else bs[i-1]?
def nxB (bs:List Nat) (i:Nat):Option Nat:=bs[i+1]?
def tgC (bs nms lbs:List Nat) (i:Nat):Array Value:=#[.int .u64 (nms.getD i 0:Nat),.int .u64 (lbs.getD i 0:Nat),pB (pvB bs i),pB (nxB bs i)]
def mpT (bs nms:List Nat) (k:Int):Option Value:=if 0≤k∧k.toNat∈nms then some (pB (some (bs.getD (nms.idxOf k.toNat) 0))) else none
structure TgR (w:World) (o:Nat→Nat) (bs nms lbs:List Nat) (mb:Nat):Prop where
 blk:∀(i b:Nat),bs[i]?=some b→Blk w b (tgC bs nms lbs i) 196
 col:∀b∈bs,o b=4
 nd:bs.Nodup
 mp:Mp .u64 w mb (mpT bs nms)
 mcol:o mb=5
structure TgI (nms lbs:List Nat) (gv:Nat):Prop where
 len:lbs.length=nms.length
 h0:nms[0]?=some 0
 l0:lbs[0]?=some 0
 nd:nms.Nodup
 le:∀x∈nms,x≤gv
 up:lbs.Pairwise (· < ·)
 mx:∀x∈lbs,x < 4611686018427387904
 few:nms.length≤8193
structure Fr where
 a:Value
 b:Value
 c:Value
 d:Value
 e:Value
 m:Value
 t:TypeId
def dkC (f:Fr) (mb:Option Nat) (hd:Option Nat) (gv:Nat) (wr:Int):Array Value:=#[f.a,f.b,f.c,f.d,f.e,.map mb,pB hd,.int .u64 (gv:Nat),.int .u64 wr,f.m]
structure TgD (w:World) (o:Nat→Nat) (g:Nat) (f:Fr) (bs nms lbs:List Nat) (mb gv:Nat) (wr:Int):Prop where
 blk:Blk w g (dkC f (some mb) bs[0]? gv wr) f.t
 gcol:o g=1
 r:TgR w o bs nms lbs mb
 len:bs.length=nms.length
 len2:lbs.length=nms.length
 pos:0 < nms.length
 nn:nms.Nodup
 lt:∀b,o b≠0→b < w.heap.size
structure EvT (w:World) (o:Nat→Nat) (w1:World) (o1:Nat→Nat):Prop where
 fm:Fm (fun b=>o b=1∨o b=4∨o b=5) w w1
 same:∀b,o b≠0→o1 b=o b
 old:∀b,b < w.heap.size→o b=0→o1 b=0
 new:∀b,o1 b≠0→o b≠0∨o1 b=4∨o1 b=5
section
variable {w w1 w2:World}{o o1 o2:Nat→Nat}{g:Nat}{f:Fr}{bs nms lbs:List Nat}{mb gv:Nat}{wr:Int}{M:Nat→Prop}{R:Ending→World→Prop}
theorem EvT.refl:EvT w o w o:=⟨.refl _ _,fun _ _=>rfl,fun _ _ h=>h,fun _ h=>.inl h⟩
theorem EvT.trans (h:EvT w o w1 o1) (hlt:∀b,o b≠0→b < w.heap.size) (k:EvT w1 o1 w2 o2):EvT w o w2 o2:=by
 refine⟨⟨k.fm.os.trans h.fm.os,k.fm.tape.trans h.fm.tape,k.fm.output.trans h.fm.output,Nat.le_trans h.fm.size k.fm.size,fun b hb hm=>?_⟩,fun b hb=>?_,fun b hb h1=>k.old b (Nat.lt_of_lt_of_le hb h.fm.size) (h.old b hb h1),fun b hb=>?_⟩
 ·rw [k.fm.block b (Nat.lt_of_lt_of_le hb h.fm.size) fun e=>?_]
  ·exact h.fm.block b hb hm
  ·by_cases h1:o b=0
   ·have:=h.old b hb h1;omega
   ·rw [h.same b h1] at e;exact hm e
 ·rw [k.same b (by rw [h.same b hb];exact hb)];exact h.same b hb
 ·rcases k.new b hb with e | e
  ·rcases h.new b e with e2 | e2
   ·exact .inl e2
   ·rw [k.same b e];exact .inr e2
  ·exact .inr e
theorem TgR.fm (h:TgR w o bs nms lbs mb) (hf:Fm M w w1) (hm:∀b,(o b=4∨o b=5)→¬M b):TgR w1 o bs nms lbs mb :=
 ⟨fun i b hb=>hf.blk (h.blk i b hb) (hm b (.inl (h.col b (List.mem_of_getElem? hb)))),h.col,h.nd,h.mp.fm hf (hm mb (.inr h.mcol)),h.mcol⟩
theorem TgD.keep (h:TgD w o g f bs nms lbs mb gv wr) (hb:Below w.heap.size w w1):TgD w1 o g f bs nms lbs mb gv wr :=
 ⟨h.blk.keep hb,h.gcol,h.r.fm (M:=fun _=>False) (.below hb) (fun _ _ h=>h),h.len,h.len2,h.pos,h.nn,fun b h1=>Nat.lt_of_lt_of_le (h.lt b h1) hb.size⟩
theorem TgD.bpos (h:TgD w o g f bs nms lbs mb gv wr):∃b,bs[0]?=some b:=by
 exact⟨_,List.getElem?_eq_getElem (by rw [h.len];exact h.pos)⟩
theorem mpT_some {i x b:Nat} (hn:nms.Nodup) (hx:nms[i]?=some x) (hb:bs[i]?=some b):mpT bs nms (x:Nat)=some (pB (some b)):=by
 obtain⟨h1,h2⟩:=(idx_iff hn).1 hx
 unfold mpT
 rw [if_pos ⟨by omega,by rw [Int.toNat_natCast];exact h1⟩,Int.toNat_natCast,h2,List.getD_eq_getElem?_getD,hb];rfl
theorem mapType:Tryz.prog.underlying 76=some (.map 101 77):=by kernel_rfl
theorem keyType:Tryz.prog.underlying 101=some (.int .u64):=by kernel_rfl
theorem zeroTag (w:World):(zeroValue 77).run Tryz.prog w=.ok (.pointer none) w:=by kernel_rfl
theorem begin_calls (h:TgD w o g f bs nms lbs mb gv wr) (hK:R (.returned (.tuple #[])) w):Calls Tryz.prog 147 #[.pointer (some ⟨g,5,none⟩)] w R:=by
 refine ok147 (some ⟨g,5,none⟩) ?_
 unfold F147
 obtain⟨b,hb⟩:=h.bpos
 have hB:=h.blk
 unfold dkC at hB
 rw [hb] at hB
 simp only [NonNil_some,Addr.add_mk,Nat.reduceAdd,hB.cell,List.getElem?_toArray,List.getElem?_cons_zero,List.getElem?_cons_succ,pB,Option.map_some,lds]
 simp only [Option.isNone_some,Br_f]
 exact hK
theorem find_some (h:TgD w o g f bs nms lbs mb gv wr) {i x b:Nat} (hx:nms[i]?=some x) (hb:bs[i]?=some b) (hK:R (.returned (.tuple #[pB (some b),.int .i64 0])) w):Calls Tryz.prog 123 #[.pointer (some ⟨g,5,none⟩),.int .u64 (x:Nat)] w R:=by
 refine ok123 (some ⟨g,5,none⟩) x ?_
 unfold F123
 refine begin_calls h ⟨rfl,?_⟩
 have hB:=h.blk
 unfold dkC at hB
 simp only [NonNil_some,Addr.add_mk,Nat.reduceAdd,Nat.zero_add,hB.cell,lds]
 refine h.r.mp.look mapType keyType (zeroTag w) x true ?_
 rw [mpT_some h.nn hx hb]
 exact⟨some ⟨b,0,none⟩,true,rfl,hK⟩
theorem lenM (h:TgD w o g f bs nms lbs mb gv wr) {t:TypeId}{K:Value→World→Prop} (hK:K (.int .i64 (nms.length:Nat)) w):Raw Tryz.prog (Builtin.len_ #[76] t #[.map (some mb)]) w K:=by
 refine h.r.mp.len mapType (l:=nms.map fun (x:Nat)=>((x:Nat):Int)) ?_ (fun k=>?_) (by rw [List.length_map];exact hK)
 ·exact List.pairwise_map.2 (h.nn.imp fun {a c} hac e=>hac (by omega))
 ·constructor
  ·intro hk
   obtain⟨x,hx,rfl⟩:=List.mem_map.1 hk
   obtain⟨i,hi⟩:=List.mem_iff_getElem?.1 hx
   obtain⟨b,hb⟩:∃b,bs[i]?=some b:=⟨_,List.getElem?_eq_getElem (by rw [h.len];exact (List.getElem?_eq_some_iff.1 hi).1)⟩
   exact⟨_,mpT_some h.nn hi hb⟩
  ·rintro ⟨v,hv⟩
   unfold mpT at hv
   by_cases hc:0≤k∧k.toNat∈nms
   ·exact List.mem_map.2 ⟨k.toNat,hc.2,by omega⟩
   ·rw [if_neg hc] at hv;cases hv
theorem Len_calls (h:TgD w o g f bs nms lbs mb gv wr) (hf:nms.length≤8193) (hK:R (.returned (.int .i64 ((nms.length:Nat)-1:Int))) w):Calls Tryz.prog 124 #[.pointer (some ⟨g,5,none⟩)] w R:=by
 refine ok124 (some ⟨g,5,none⟩) ?_
 unfold F124
 refine begin_calls h ⟨rfl,?_⟩
 have hB:=h.blk
 unfold dkC at hB
 simp only [NonNil_some,Addr.add_mk,Nat.reduceAdd,Nat.zero_add,hB.cell,lds]
 exact lenM h ⟨_,rfl,inR_i64 (by omega) (by omega),hK⟩
theorem TgD.tag (h:TgD w o g f bs nms lbs mb gv wr) {i b:Nat} (hb:bs[i]?=some b):∃x l,nms[i]?=some x∧lbs[i]?=some l∧Blk w b #[.int .u64 (x:Nat),.int .u64 (l:Nat),pB (pvB bs i),pB (nxB bs i)] 196:=by
 have h1:=(List.getElem?_eq_some_iff.1 hb).1
 have h2:nms[i]?=some (nms[i]'(by rw [←h.len];exact h1)):=List.getElem?_eq_getElem _
 have h3:lbs[i]?=some (lbs[i]'(by rw [h.len2,←h.len];exact h1)):=List.getElem?_eq_getElem _
 refine⟨_,_,h2,h3,?_⟩
 have:=h.r.blk i b hb
 unfold tgC at this
 rw [List.getD_eq_getElem?_getD,List.getD_eq_getElem?_getD,h2,h3] at this
 exact this
theorem past_calls (h:TgD w o g f bs nms lbs mb gv wr) {i b:Nat} (hb:bs[i]?=some b) (hK:R (.returned (.int .u64 ((lbs[i+1]?).getD 4611686018427387904:Nat))) w):Calls Tryz.prog 125 #[pB (some b)] w R:=by
 refine ok125 (some ⟨b,0,none⟩) ?_
 unfold F125
 obtain⟨x',l',h1,h2,hB⟩:=h.tag hb
 unfold nxB pB at hB
 simp only [NonNil_some,Addr.add_mk,Nat.reduceAdd,Nat.zero_add,hB.cell,lds]
 cases hn:bs[i+1]? with
 | none =>
  have:lbs[i+1]?=none:=by
   rw [List.getElem?_eq_none_iff] at hn ⊢
   rw [h.len2,←h.len];exact hn
  rw [this] at hK
  simp only [Option.map_none,Option.isNone_none,Br_t]
  exact hK
 | some b2 =>
  obtain⟨x2,l2,h3,h4,hB2⟩:=h.tag hn
  rw [h4] at hK
  simp only [Option.map_some,Option.isNone_some,Br_f,NonNil_some,Addr.add_mk,Nat.reduceAdd,Nat.zero_add,hB2.cell,lds]
  exact hK
theorem TgD.gne (h:TgD w o g f bs nms lbs mb gv wr) {b:Nat} (hb:b∈bs):b≠g∧b≠mb:=⟨fun e=>by have:=h.r.col b hb;rw [e,h.gcol] at this;omega,fun e=>by have:=h.r.col b hb;rw [e,h.r.mcol] at this;omega⟩
theorem nd_get {l:List Nat} (hn:l.Nodup) {i j b:Nat} (hi:l[i]?=some b) (hj:l[j]?=some b):i=j:=by
 have h1:=((idx_iff hn).1 hi).2
 have h2:=((idx_iff hn).1 hj).2
 omega
theorem write_calls (h:TgD w o g f bs nms lbs mb gv wr) {i b:Nat} (hb:bs[i]?=some b) (v:Nat) (hK:∀w' wr',TgD w' o g f bs nms (lbs.set i v) mb gv wr'→Fm (fun x=>x=g∨x=b) w w'→R (.returned (.tuple #[])) w') :
  Calls Tryz.prog 126 #[.pointer (some ⟨g,5,none⟩),pB (some b),.int .u64 (v:Nat)] w R:=by
 refine ok126 (some ⟨g,5,none⟩) (some ⟨b,0,none⟩) v ?_
 unfold F126
 obtain⟨x',l',h1,h2,hB⟩:=h.tag hb
 have hbm:=List.mem_of_getElem? hb
 obtain⟨hne,-⟩:=h.gne hbm
 have hil:=(List.getElem?_eq_some_iff.1 h2).1
 simp only [NonNil_some,Addr.add_mk,Nat.reduceAdd,Nat.zero_add,hB.cell,lds]
 refine brn (fun hv=>?_) (fun hv=>?_)
 ·refine st_blk hB (by simp) fun w1 b1 f1=>?_
  simp only [List.setIfInBounds_toArray,List.set_cons_zero,List.set_cons_succ] at b1
  have hD:=f1.blk h.blk (fun e=>hne e.symm)
  unfold dkC at hD
  simp only [NonNil_some,Addr.add_mk,Nat.reduceAdd,Nat.zero_add,hD.cell,lds]
  refine st_blk hD (by simp) fun w2 b2 f2=>?_
  simp only [List.setIfInBounds_toArray,List.set_cons_zero,List.set_cons_succ] at b2
  have FF:Fm (fun x=>x=g∨x=b) w w2:=(f1.mono fun x _ e=>.inr e).trans (f2.mono fun x _ e=>.inl e)
  refine hK w2 _ ⟨b2,h.gcol,⟨fun j c hc=>?_,h.r.col,h.r.nd,h.r.mp.fm FF fun e=>?_,h.r.mcol⟩,h.len,by rw [List.length_set];exact h.len2,h.pos,h.nn,fun c hc=>Nat.lt_of_lt_of_le (h.lt c hc) FF.size⟩ FF
  ·unfold tgC
   by_cases e:j=i
   ·subst e
    rw [hb] at hc;cases hc
    have:=f2.blk b1 (fun e=>hne e)
    rw [List.getD_eq_getElem?_getD,List.getD_eq_getElem?_getD,h1,List.getElem?_set_self hil]
    exact this
   ·rw [List.getD_eq_getElem?_getD (l:=lbs.set i v),List.getElem?_set_ne (Ne.symm e),←List.getD_eq_getElem?_getD]
    have hcm:=List.mem_of_getElem? hc
    exact FF.blk (h.r.blk j c hc) (fun e2=>by
     rcases e2 with e2 | e2
     ·exact (h.gne hcm).1 e2
     ·subst e2;exact e (nd_get h.r.nd hc hb))
  ·rcases e with e | e
   ·have:=h.gcol;rw [←e,h.r.mcol] at this;omega
   ·exact (h.gne hbm).2 e.symm
 ·have e:lbs.set i v=lbs:=by
   have:l'=v:=by omega
   subst this
   obtain⟨h3,h4⟩:=List.getElem?_eq_some_iff.1 h2
   rw [←h4,List.set_getElem_self]
  exact hK w wr (by rw [e];exact h) (.refl _ _)
end
set_option maxRecDepth 100000
theorem insAt_at {l:List Nat}{m h:Nat} (hm:m≤l.length) (j:Nat):(insAt l m h)[j]?=if j < m then l[j]? else if j=m then some h else l[j-1]?:=insAt_get hm j
theorem insAt_len {l:List Nat}{m h:Nat} (hm:m≤l.length):(insAt l m h).length=l.length+1:=by unfold insAt;simp;omega
section
variable {w w1 w2:World}{o o1 o2:Nat→Nat}{g:Nat}{f:Fr}{bs nms lbs:List Nat}{mb gv:Nat}{wr:Int}{M:Nat→Prop}{R:Ending→World→Prop}
theorem spread_calls (h:TgD w o g f bs nms lbs mb gv wr) (hf:nms.length≤8193) (h0:lbs[0]?=some 0)
  (hK:∀w' lbs' wr',TgD w' o g f bs nms lbs' mb gv wr'→Fm (fun x=>x=g∨x∈bs) w w'→lbs'[0]?=some 0→lbs'.Pairwise (· < ·)→(∀x∈lbs',x < 4611686018427387904)→R (.returned (.tuple #[])) w'):Calls Tryz.prog 127 #[.pointer (some ⟨g,5,none⟩)] w R:=by
 refine ok127 (some ⟨g,5,none⟩) ?_
 unfold F127
 obtain⟨b0,hb0⟩:=h.bpos
 have hB:=h.blk
 unfold dkC at hB
 rw [hb0] at hB
 have hpos:=h.pos
 simp only [NonNil_some,Addr.add_mk,Nat.reduceAdd,Nat.zero_add,hB.cell,lds]
 obtain⟨st,hst⟩:∃st:Nat,st=4611686018427387904 / (nms.length+1):=⟨_,rfl⟩
 have hdiv:(4611686018427387904:Int).tdiv (((nms.length:Nat):Int)+1)=((st:Nat):Int):=by
  rw [hst,show ((nms.length:Nat):Int)+1=((nms.length+1:Nat):Int) by omega,Int.tdiv_eq_ediv_of_nonneg (by omega)];rfl
 have hst1:st*(nms.length+1)≤4611686018427387904:=by rw [hst];exact Nat.div_mul_le_self _ _
 have hst2:1≤st:=by rw [hst];exact (Nat.le_div_iff_mul_le (by omega)).2 (by omega)
 have hst3:st≤4611686018427387904:=by rw [hst];exact Nat.div_le_self _ _
 refine lenM h ⟨_,rfl,inR_i64 (by omega) (by omega),inR_u64 (by omega) (by omega),by omega,?_⟩
 rw [hdiv]
 refine⟨inR_u64 (by omega) (by omega),?_⟩
 simp only [pB,Option.map_some,NonNil_some,Addr.add_mk,Nat.reduceAdd,Nat.zero_add,hB.cell,lds]
 obtain⟨x0,l0,t1,t2,tB⟩:=h.tag hb0
 unfold nxB pB at tB
 simp only [NonNil_some,Addr.add_mk,Nat.reduceAdd,Nat.zero_add,tB.cell,lds]
 have hmul:∀j,j≤nms.length→st*j≤4611686018427387904:=fun j hj=>Nat.le_trans (Nat.mul_le_mul_left st (show j≤nms.length+1 by omega)) hst1
 refine⟨fun lab x w'=>∃(j:Nat) (ls:List Nat) (wr':Int),1≤j∧j≤nms.length∧lab=((st*(j-1):Nat):Int)∧x=bs[j]?.map (fun b=>(⟨b,0,none⟩:Addr))∧TgD w' o g f bs nms ls mb gv wr'∧Fm (fun x=>x=g∨x∈bs) w w'∧∀i,i < j→ls[i]?=some (st*i),fun lab x w'=>nms.length-(lab / (st:Int)).toNat,
  ⟨1,lbs,wr,Nat.le_refl _,by omega,by simp,rfl,h,.refl _ _,fun i hi=>by rw [show i=0 by omega];exact h0⟩,?_⟩
 rintro lab x w2 ⟨j,ls,wr2,hj1,hj2,rfl,rfl,h2,f2,hl⟩
 unfold F127_l3
 cases hbj:bs[j]? with
 | none =>
  have hjn:j=nms.length:=by
   rw [List.getElem?_eq_none_iff,h.len] at hbj;omega
  simp only [Option.map_none,Option.isNone_none,Bool.not_true,Br_f]
  have hlen:=h2.len2
  have hget:∀i,∀hi:i < ls.length,ls[i]=st*i:=fun i hi=>by
   have:=hl i (by omega)
   rw [List.getElem?_eq_getElem hi] at this;exact Option.some.inj this
  refine hK w2 ls wr2 h2 f2 (by rw [hl 0 (by omega)];rfl) (List.pairwise_iff_getElem.2 fun a c ha hc hac=>?_) fun y hy=>?_
  ·rw [hget a ha,hget c hc]
   exact Nat.mul_lt_mul_of_pos_left hac (by omega)
  ·obtain⟨a,ha,rfl⟩:=List.mem_iff_getElem.1 hy
   rw [hget a ha]
   have h3:st*(a+1)≤4611686018427387904:=hmul (a+1) (by omega)
   rw [Nat.mul_succ] at h3
   omega
 | some b =>
  simp only [Option.map_some,Option.isNone_some,Bool.not_false,Br_t]
  have hjl:=(List.getElem?_eq_some_iff.1 hbj).1
  rw [h.len] at hjl
  have e1:((st*(j-1):Nat):Int)+((st:Nat):Int)=((st*j:Nat):Int):=by
   have:st*j=st*(j-1)+st:=by rw [←Nat.mul_succ];congr 1;omega
   rw [this];omega
  rw [hdiv,e1]
  have hmj:=hmul j hj2
  refine⟨inR_u64 (by omega) (by omega),?_⟩
  refine write_calls h2 hbj (st*j) fun w3 wr3 h3 f3=>⟨rfl,?_⟩
  obtain⟨x3,l3,t3,t4,tB3⟩:=h3.tag hbj
  unfold nxB pB at tB3
  simp only [NonNil_some,Addr.add_mk,Nat.reduceAdd,Nat.zero_add,tB3.cell,lds]
  have hjls:j < ls.length:=by rw [h2.len2];exact hjl
  refine⟨⟨j+1,ls.set j (st*j),wr3,by omega,by omega,by simp,rfl,h3,f2.trans (f3.mono fun x _ e=>?_),fun i hi=>?_⟩,?_⟩
  ·rcases e with e | e
   ·exact .inl e
   ·subst e;exact .inr (List.mem_of_getElem? hbj)
  ·by_cases e:i=j
   ·subst e;rw [List.getElem?_set_self hjls]
   ·rw [List.getElem?_set_ne (Ne.symm e)];exact hl i (by omega)
  ·show nms.length-(((st*j:Nat):Int) / (st:Int)).toNat < nms.length-(((st*(j-1):Nat):Int) / (st:Int)).toNat
   have d1:∀a:Nat,(((st*a:Nat):Int) / (st:Int)).toNat=a:=fun a=>by
    rw [show (((st*a:Nat):Int) / (st:Int))=((st*a / st:Nat):Int) from rfl,Int.toNat_natCast,Nat.mul_div_cancel_left a (by omega)]
   rw [d1,d1];omega
theorem writeN_calls (h:TgD w o g f bs nms lbs mb gv wr) {b:Nat}{nm l:Nat}{p q:Value} (hb:o b=0) (hB:Blk w b #[.int .u64 (nm:Nat),.int .u64 (l:Nat),p,q] 196) (v:Nat)
  (hK:∀w' wr',TgD w' o g f bs nms lbs mb gv wr'→Blk w' b #[.int .u64 (nm:Nat),.int .u64 (v:Nat),p,q] 196→Fm (fun x=>x=g∨x=b) w w'→R (.returned (.tuple #[])) w') :
  Calls Tryz.prog 126 #[.pointer (some ⟨g,5,none⟩),.pointer (some ⟨b,0,none⟩),.int .u64 (v:Nat)] w R:=by
 refine ok126 (some ⟨g,5,none⟩) (some ⟨b,0,none⟩) v ?_
 unfold F126
 have hne:b≠g:=fun e=>by have:=h.gcol;rw [←e] at this;omega
 simp only [NonNil_some,Addr.add_mk,Nat.reduceAdd,Nat.zero_add,hB.cell,lds]
 refine brn (fun hv=>?_) (fun hv=>?_)
 ·refine st_blk hB (by simp) fun w1 b1 f1=>?_
  simp only [List.setIfInBounds_toArray,List.set_cons_zero,List.set_cons_succ] at b1
  have hD:=f1.blk h.blk (fun e=>hne e.symm)
  unfold dkC at hD
  simp only [NonNil_some,Addr.add_mk,Nat.reduceAdd,Nat.zero_add,hD.cell,lds]
  refine st_blk hD (by simp) fun w2 b2 f2=>?_
  simp only [List.setIfInBounds_toArray,List.set_cons_zero,List.set_cons_succ] at b2
  have FF:Fm (fun x=>x=g∨x=b) w w2:=(f1.mono fun x _ e=>.inr e).trans (f2.mono fun x _ e=>.inl e)
  refine hK w2 _ ⟨b2,h.gcol,h.r.fm FF fun c hc e=>?_,h.len,h.len2,h.pos,h.nn,fun c hc=>Nat.lt_of_lt_of_le (h.lt c hc) FF.size⟩ (f2.blk b1 (fun e=>hne e)) FF
  rcases e with e | e
  ·have:=h.gcol;rw [←e] at this;omega
  ·rw [e] at hc;omega
 ·have:l=v:=by omega
  subst this
  exact hK w wr h hB (.refl _ _)
end
set_option maxRecDepth 100000
theorem mpT_ins {bs nms:List Nat}{i nb x:Nat} (hn:nms.Nodup) (hx:x∉nms) (hl:bs.length=nms.length) (hi:i+1≤nms.length):mpT (insAt bs (i+1) nb) (insAt nms (i+1) x)=upd (mpT bs nms) x (some (pB (some nb))):=by
 have hn':(insAt nms (i+1) x).Nodup:=nodup_insAt hn hx
 funext k
 unfold upd
 by_cases hk:k=(x:Int)
 ·rw [if_pos hk,hk]
  exact mpT_some (i:=i+1) hn' (by rw [insAt_at hi,if_neg (by omega),if_pos rfl]) (by rw [insAt_at (by omega),if_neg (by omega),if_pos rfl])
 ·rw [if_neg hk]
  by_cases hm:0≤k∧k.toNat∈nms
  ·obtain⟨hk0,hkm⟩:=hm
   obtain⟨a,rfl⟩:∃a:Nat,k=a:=⟨k.toNat,by omega⟩
   rw [Int.toNat_natCast] at hkm
   obtain⟨j,hj⟩:=List.mem_iff_getElem?.1 hkm
   have hjl:=(List.getElem?_eq_some_iff.1 hj).1
   obtain⟨b,hb⟩:∃b,bs[j]?=some b:=⟨_,List.getElem?_eq_getElem (by omega)⟩
   rw [mpT_some hn hj hb]
   by_cases hji:j < i+1
   ·exact mpT_some hn' (by rw [insAt_at hi,if_pos hji];exact hj) (by rw [insAt_at (by omega),if_pos hji];exact hb)
   ·refine mpT_some (i:=j+1) hn' ?_ ?_
    ·rw [insAt_at hi,if_neg (by omega),if_neg (by omega)];exact hj
    ·rw [insAt_at (by omega),if_neg (by omega),if_neg (by omega)];exact hb
  ·unfold mpT
   rw [if_neg hm,if_neg]
   rintro ⟨h0,h1⟩
   rcases mem_insAt.1 h1 with h1 | h1
   ·exact hk (by omega)
   ·exact hm ⟨h0,h1⟩
theorem TgI.ins {nms lbs:List Nat}{gv i l L:Nat} (h:TgI nms lbs gv) (hi:i+1≤nms.length) (hl:lbs[i]?=some l) (h1:l < L) (h2:∀m,lbs[i+1]?=some m→L < m) (h3:L < 4611686018427387904) (hf:nms.length≤8192):TgI (insAt nms (i+1) (gv+1)) (insAt lbs (i+1) L) (gv+1):=by
 have hlen:=h.len
 have hx:gv+1∉nms:=fun hx=>by have:=h.le _ hx;omega
 refine⟨by rw [insAt_len hi,insAt_len (by omega),hlen],by rw [insAt_at hi,if_pos (by omega)];exact h.h0,by rw [insAt_at (by omega),if_pos (by omega)];exact h.l0,nodup_insAt h.nd hx,fun x hx=>?_,?_,fun x hx=>?_,by rw [insAt_len hi];omega⟩
 ·rcases mem_insAt.1 hx with rfl | hx
  ·omega
  ·have:=h.le x hx;omega
 ·unfold insAt
  have hp:=h.up
  rw [←List.take_append_drop (i+1) lbs,List.pairwise_append] at hp
  obtain⟨q1,q2,q3⟩:=hp
  have hg:=List.pairwise_iff_getElem.1 h.up
  obtain⟨hil,hie⟩:=List.getElem?_eq_some_iff.1 hl
  have htake:∀x∈lbs.take (i+1),x < L:=fun x hx=>by
   obtain⟨a,ha,rfl⟩:=List.mem_iff_getElem.1 hx
   rw [List.length_take] at ha
   rw [List.getElem_take]
   rcases Nat.lt_or_ge a i with h4 | h4
   ·have:=hg a i (by omega) hil h4;omega
   ·have:a=i:=by omega
    subst this;omega
  have hdrop:∀x∈lbs.drop (i+1),L < x:=fun x hx=>by
   obtain⟨a,ha,rfl⟩:=List.mem_iff_getElem.1 hx
   rw [List.length_drop] at ha
   rw [List.getElem_drop]
   have h5:=h2 _ (List.getElem?_eq_getElem (show i+1 < lbs.length by omega))
   by_cases h4:a=0
   ·subst h4;exact h5
   ·have:=hg (i+1) (i+1+a) (by omega) (by omega) (by omega);omega
  rw [List.pairwise_append,List.pairwise_cons]
  refine⟨q1,⟨hdrop,q2⟩,fun x hx y hy=>?_⟩
  rcases List.mem_cons.1 hy with rfl | hy
  ·exact htake x hx
  ·exact q3 x hx y hy
 ·rcases mem_insAt.1 hx with rfl | hx
  ·exact h3
  ·exact h.mx x hx
theorem TgI.renum {nms lbs lbs':List Nat}{gv i L:Nat} (h:TgI nms lbs gv) (hi:i+1≤nms.length) (hf:nms.length≤8192) (hl:lbs'.length=(insAt nms (i+1) (gv+1)).length) (h0:lbs'[0]?=some 0) (hp:lbs'.Pairwise (· < ·)) (hm:∀x∈lbs',x < 4611686018427387904):TgI (insAt nms (i+1) (gv+1)) lbs' (gv+1):=by
 have hx:gv+1∉nms:=fun hx=>by have:=h.le _ hx;omega
 refine⟨hl,by rw [insAt_at hi,if_pos (by omega)];exact h.h0,h0,nodup_insAt h.nd hx,fun x hx=>?_,hp,hm,by rw [insAt_len hi];omega⟩
 rcases mem_insAt.1 hx with rfl | hx
 ·omega
 ·have:=h.le x hx;omega
theorem TgR.ins {w w1:World}{o:Nat→Nat}{bs nms lbs:List Nat}{mb i b nb x L:Nat} (h:TgR w o bs nms lbs mb) (hlen:bs.length=nms.length) (hlen2:lbs.length=nms.length) (hb:bs[i]?=some b) (hnb:∀c,o c≠0→c≠nb)
  (h1:Blk w1 b #[.int .u64 (nms.getD i 0:Nat),.int .u64 (lbs.getD i 0:Nat),pB (pvB bs i),pB (some nb)] 196) (h2:Blk w1 nb #[.int .u64 (x:Nat),.int .u64 (L:Nat),pB (some b),pB (nxB bs i)] 196)
  (h3:∀c,bs[i+1]?=some c→Blk w1 c #[.int .u64 (nms.getD (i+1) 0:Nat),.int .u64 (lbs.getD (i+1) 0:Nat),pB (some nb),pB (nxB bs (i+1))] 196)
  (h4:∀j c,bs[j]?=some c→j≠i→j≠i+1→Blk w1 c (tgC bs nms lbs j) 196) (hm:Mp .u64 w1 mb (mpT (insAt bs (i+1) nb) (insAt nms (i+1) x))) :
  TgR w1 (fun c=>if c=nb then 4 else o c) (insAt bs (i+1) nb) (insAt nms (i+1) x) (insAt lbs (i+1) L) mb:=by
 have hil:=(List.getElem?_eq_some_iff.1 hb).1
 have hi:i+1≤bs.length:=hil
 have hi2:i+1≤nms.length:=by omega
 have hi3:i+1≤lbs.length:=by omega
 have gd:∀(l:List Nat) (y:Nat),i+1≤l.length→∀j,(insAt l (i+1) y).getD j 0=if j < i+1 then l.getD j 0 else if j=i+1 then y else l.getD (j-1) 0:=fun l y hl j=>by
  rw [List.getD_eq_getElem?_getD,insAt_at hl]
  split
  ·rw [List.getD_eq_getElem?_getD]
  ·split
   ·rfl
   ·rw [List.getD_eq_getElem?_getD]
 refine⟨fun j c hc=>?_,fun c hc=>?_,nodup_insAt h.nd fun hx=>hnb nb (by rw [h.col nb hx];decide) rfl,hm,?_⟩
 ·rw [insAt_at hi] at hc
  unfold tgC pvB nxB
  rw [gd nms x hi2,gd lbs L hi3,insAt_at hi,insAt_at hi]
  by_cases c1:j < i+1
  ·rw [if_pos c1] at hc
   rw [if_pos c1,if_pos c1]
   by_cases c2:j=i
   ·subst c2
    rw [hb] at hc;cases hc
    have e:(if j=0 then none else if j-1 < j+1 then bs[j-1]? else if j-1=j+1 then some nb else bs[j-1-1]?)=pvB bs j:=by
     unfold pvB
     split
     ·rfl
     ·rw [if_pos (by omega)]
    rw [e,if_neg (by omega),if_pos rfl];exact h1
   ·have e:(if j=0 then none else if j-1 < i+1 then bs[j-1]? else if j-1=i+1 then some nb else bs[j-1-1]?)=pvB bs j:=by
     unfold pvB
     split
     ·rfl
     ·rw [if_pos (by omega)]
    rw [e,if_pos (by omega)]
    exact h4 j c hc c2 (by omega)
  ·rw [if_neg c1] at hc
   rw [if_neg c1,if_neg c1]
   by_cases c2:j=i+1
   ·rw [if_pos c2] at hc;cases hc
    subst c2
    rw [if_pos rfl,if_pos rfl,if_neg (by omega),if_pos (by omega),show i+1-1=i by omega,hb,if_neg (by omega),if_neg (by omega)]
    exact h2
   ·rw [if_neg c2] at hc
    rw [if_neg c2,if_neg c2,if_neg (show ¬j=0 by omega),if_neg (show ¬j-1 < i+1 by omega),if_neg (show ¬j+1 < i+1 by omega),if_neg (show ¬j+1=i+1 by omega),show j+1-1=j by omega]
    by_cases c3:j=i+2
    ·subst c3
     rw [if_pos (by omega)]
     exact h3 c hc
    ·rw [if_neg (by omega)]
     have:=h4 (j-1) c hc (by omega) (by omega)
     unfold tgC pvB nxB at this
     rw [if_neg (by omega),show j-1+1=j by omega] at this
     exact this
 ·by_cases e:c=nb
  ·rw [if_pos e]
  ·rw [if_neg e]
   rcases mem_insAt.1 hc with rfl | hc
   ·exact absurd rfl e
   ·exact h.col c hc
 ·rw [if_neg (hnb mb (by rw [h.mcol];decide))];exact h.mcol
set_option maxRecDepth 100000
section
variable {w w1 w2:World}{o o1 o2:Nat→Nat}{g:Nat}{f:Fr}{bs nms lbs:List Nat}{mb gv:Nat}{wr:Int}{M:Nat→Prop}{R:Ending→World→Prop}
theorem Fm.tr2 {M M':Nat→Prop}{w w1 w2:World} (h:Fm M w w1) (k:Fm M' w1 w2) (hm:∀b,b < w.heap.size→M' b→M b):Fm M w w2 :=
 ⟨k.os.trans h.os,k.tape.trans h.tape,k.output.trans h.output,Nat.le_trans h.size k.size,fun b hb hn=>by
  rw [k.block b (by have:=h.size;omega) (fun e=>hn (hm b hb e)),h.block b hb hn]⟩
theorem After_gen {w0:World}{o0:Nat→Nat} (hlt0:∀b,o0 b≠0→b < w0.heap.size) (hf:nms.length≤8192) (hgv:gv < 9223372036854775808) {i x:Nat} (hx:nms[i]?=some x)
  (hF:∀R':Ending→World→Prop,(∀w o bs lbs mb wr b,TgD w o g f bs nms lbs mb gv wr→TgI nms lbs gv→EvT w0 o0 w o→bs[i]?=some b→R' (.returned (.tuple #[pB (some b),.int .i64 0])) w)→Calls Tryz.prog 123 #[.pointer (some ⟨g,5,none⟩),.int .u64 (x:Nat)] w0 R')
  (hK:∀w' o' bs' lbs' mb wr',TgD w' o' g f bs' (insAt nms (i+1) (gv+1)) lbs' mb (gv+1) wr'→TgI (insAt nms (i+1) (gv+1)) lbs' (gv+1)→EvT w0 o0 w' o'→R (.returned (.tuple #[.int .u64 (gv+1:Nat),.int .i64 0])) w') :
  Calls Tryz.prog 88 #[.pointer (some ⟨g,5,none⟩),.int .u64 (x:Nat)] w0 R:=by
 refine ok88 (some ⟨g,5,none⟩) x ?_
 unfold F88
 have hxl:=(List.getElem?_eq_some_iff.1 hx).1
 have hi2:i+1≤nms.length:=hxl
 refine hF _ fun w o bs lbs mb wr b h hI ev0 hb=>⟨_,_,rfl,brn (fun e=>absurd rfl e) fun _=>?_⟩
 have hbm:=List.mem_of_getElem? hb
 have hlt:=h.lt
 refine Len_calls h (by omega) ⟨_,rfl,brd (fun e=>absurd e (by omega)) fun _=>?_⟩
 obtain⟨b0,hb0⟩:=h.bpos
 have hD:=h.blk
 unfold dkC at hD
 simp only [NonNil_some,Addr.add_mk,Nat.reduceAdd,Nat.zero_add,hD.cell,lds]
 have eg:((gv:Nat):Int)+1=((gv+1:Nat):Int):=by omega
 rw [eg]
 refine⟨inR_u64 (by omega) (by omega),?_⟩
 refine st_blk hD (by simp) fun w1 bD1 f1=>?_
 simp only [List.setIfInBounds_toArray,List.set_cons_zero,List.set_cons_succ] at bD1
 have hgne:∀c,(o c=4∨o c=5)→¬c=g:=fun c hc e=>by have:=h.gcol;rw [←e] at this;omega
 have h1:TgD w1 o g f bs nms lbs mb (gv+1) wr:=⟨bD1,h.gcol,h.r.fm f1 hgne,h.len,h.len2,h.pos,h.nn,fun c hc=>Nat.lt_of_lt_of_le (hlt c hc) f1.size⟩
 have hdr1:Below w1.heap.size w1 w1.drew:=(Below.refl _ _).drew
 obtain⟨x1,l,t1,t2,tB⟩:=h1.tag hb
 rw [hx] at t1;cases t1
 have hs1:=f1.size
 refine⟨fun w'=>Below w1.heap.size w1 w',hdr1,?_⟩
 refine⟨_,fun w' hw=>by rw [(bD1.keep hw).cell];rfl,?_⟩
 simp only [Option.map_some,NonNil_some,Addr.add_mk,Nat.reduceAdd,Nat.zero_add]
 refine⟨(nxB bs i).map fun b=>(⟨b,0,none⟩:Addr),fun w' hw=>by rw [(tB.keep hw).cell];rfl,?_⟩
 refine al fun nb w2 hb2 bn2 hge2=>?_
 have D2:Below w1.heap.size w1 w2:=btr hdr1 hdr1.size hb2
 have h2:=h1.keep D2
 have onb:o nb=0:=Classical.byContradiction fun e=>by have:=hlt nb e;have:w1.heap.size≤nb:=hge2;omega
 have hnb:∀c,o c≠0→c≠nb:=fun c hc e=>hc (by rw [e];exact onb)
 have tB2:=tB.keep D2
 have hup:=List.pairwise_iff_getElem.1 hI.up
 obtain⟨hil,hie⟩:=List.getElem?_eq_some_iff.1 t2
 have hlmx:=hI.mx l (List.mem_of_getElem? t2)
 have hpast:l < (lbs[i+1]?).getD 4611686018427387904∧(lbs[i+1]?).getD 4611686018427387904≤4611686018427387904:=by
  cases hn:lbs[i+1]? with
  | none=>exact⟨hlmx,Nat.le_refl _⟩
  | some m =>
   obtain⟨h3,h4⟩:=List.getElem?_eq_some_iff.1 hn
   have:=hup i (i+1) hil h3 (by omega)
   have h5:=hI.mx m (List.mem_of_getElem? hn)
   show l < m∧m≤_
   omega
 refine⟨fun w'=>∃(L:Nat) (wr':Int),TgD w' o g f bs nms lbs mb (gv+1) wr'∧Blk w' nb #[.int .u64 (gv+1:Nat),.int .u64 (L:Nat),pB (some b),pB (nxB bs i)] 196∧Fm (fun c=>c=g∨c=nb) w2 w'∧(L=0∨(l < L∧(∀m,lbs[i+1]?=some m→L < m)∧L < 4611686018427387904)),?_,?_⟩
 rotate_left
 ·have hdr2:Below w2.heap.size w2 w2.drew:=(Below.refl _ _).drew
  refine⟨fun w'=>Below w2.heap.size w2 w',hdr2,?_⟩
  refine⟨_,fun w' hw=>by rw [(tB2.keep hw).cell];rfl,?_⟩
  refine past_calls (h2.keep hdr2) hb ⟨_,rfl,hdr2,?_⟩
  generalize hpp:(lbs[i+1]?).getD 4611686018427387904=p at hpast ⊢
  have hnext:∀m,lbs[i+1]?=some m→p=m:=fun m hm=>by rw [←hpp,hm];rfl
  have esub:((p:Nat):Int)-((l:Nat):Int)=((p-l:Nat):Int):=by omega
  rw [esub]
  refine⟨inR_u64 (by omega) (by omega),?_⟩
  have bn2d:=bn2.keep hdr2
  have tB2d:=tB2.keep hdr2
  refine brd (fun hgap=>?_) (fun hgap=>⟨0,wr,h2.keep hdr2,bn2d,.below hdr2,.inl rfl⟩)
  simp only [NonNil_some,Addr.add_mk,Nat.reduceAdd,Nat.zero_add,tB2d.cell,lds]
  have ediv:((p-l:Nat):Int).tdiv 2=(((p-l) / 2:Nat):Int):=by rw [Int.tdiv_eq_ediv_of_nonneg (by omega)];rfl
  rw [ediv]
  have eadd:((l:Nat):Int)+(((p-l) / 2:Nat):Int)=((l+(p-l) / 2:Nat):Int):=by omega
  rw [eadd]
  refine⟨inR_u64 (by omega) (by omega),inR_u64 (by omega) (by omega),?_⟩
  refine writeN_calls (h2.keep hdr2) onb (b:=nb) (nm:=gv+1) (l:=0) (p:=pB (some b)) (q:=pB (nxB bs i)) bn2d (l+(p-l) / 2) fun w3 wr3 h3 b3 f3=>⟨rfl,?_⟩
  exact⟨_,wr3,h3,b3,(Fm.below hdr2).trans f3,.inr ⟨by omega,fun m hm=>by have:=hnext m hm;omega,by omega⟩⟩
 rintro w3 ⟨L,wr3,h3,b3,f3,hL⟩
 unfold F88_j11
 obtain⟨x3,l3,t3,t4,tB3⟩:=h3.tag hb
 rw [hx] at t3;cases t3
 rw [t2] at t4;cases t4
 have hgd1:nms.getD i 0=x:=by rw [List.getD_eq_getElem?_getD,hx];rfl
 have hgd2:lbs.getD i 0=l:=by rw [List.getD_eq_getElem?_getD,t2];rfl
 refine⟨fun w'=>Fm (fun c=>bs[i+1]?=some c) w3 w'∧∀c,bs[i+1]?=some c→Blk w' c #[.int .u64 (nms.getD (i+1) 0:Nat),.int .u64 (lbs.getD (i+1) 0:Nat),pB (some nb),pB (nxB bs (i+1))] 196,?_,?_⟩
 rotate_left
 ·simp only [pB,NonNil_some,Addr.add_mk,Nat.reduceAdd,Nat.zero_add,tB3.cell,lds]
  cases hn:bs[i+1]? with
  | none =>
   have e:nxB bs i=none:=hn
   rw [e]
   simp only [Option.map_none,Option.isNone_none,Bool.not_true,Br_f]
   exact⟨.refl _ _,fun c hc=>by cases hc⟩
  | some c =>
   have e:nxB bs i=some c:=hn
   rw [e]
   simp only [Option.map_some,Option.isNone_some,Bool.not_false,Br_t,NonNil_some,Addr.add_mk,Nat.reduceAdd,Nat.zero_add]
   have hc3:=h3.r.blk (i+1) c hn
   unfold tgC at hc3
   refine st_blk hc3 (by simp) fun w4 b4 f4=>?_
   simp only [List.setIfInBounds_toArray,List.set_cons_zero,List.set_cons_succ] at b4
   exact⟨f4.mono fun y _ e=>by rw [e],fun c' hc'=>by cases hc';exact b4⟩
 rintro w4 ⟨f4,hc4⟩
 unfold F88_j13
 have hne1:∀c,bs[i+1]?=some c→c≠b∧c≠g∧c≠nb∧c≠mb:=fun c hc=>by
  have hcm:=List.mem_of_getElem? hc
  refine⟨fun e=>?_,(h.gne hcm).1,hnb c (by rw [h.r.col c hcm];decide),(h.gne hcm).2⟩
  subst e
  have:=nd_get h.r.nd hc hb;omega
 have tB4:=f4.blk tB3 (fun e=>(hne1 b e).1 rfl)
 have b4:=f4.blk b3 (fun e=>(hne1 nb e).2.2.1 rfl)
 have bD4:=f4.blk h3.blk (fun e=>(hne1 g e).2.1 rfl)
 unfold dkC at bD4
 simp only [pB,NonNil_some,Addr.add_mk,Nat.reduceAdd,Nat.zero_add]
 have hbnb:b≠nb:=hnb b (by rw [h.r.col b hbm];decide)
 obtain⟨hbg,hbmb⟩:=h.gne hbm
 refine st_blk tB4 (by simp) fun w5 tB5 f5=>?_
 simp only [List.setIfInBounds_toArray,List.set_cons_zero,List.set_cons_succ] at tB5
 have b5:=f5.blk b4 (fun e=>hbnb e.symm)
 have bD5:=f5.blk bD4 (fun e=>hbg e.symm)
 have hdr5:Below w5.heap.size w5 w5.drew:=(Below.refl _ _).drew
 refine⟨fun w'=>Below w5.heap.size w5 w',hdr5,?_⟩
 refine⟨_,fun w' hw=>by rw [(bD5.keep hw).cell];rfl,?_⟩
 refine⟨_,fun w' hw=>by rw [(b5.keep hw).cell];rfl,?_⟩
 have mcol:=h.r.mcol
 have hmb4:¬bs[i+1]?=some mb:=fun e=>(hne1 mb e).2.2.2 rfl
 have mp5:Mp .u64 w5.drew mb (mpT bs nms):=((h3.r.mp.fm f4 hmb4).fm f5 (fun e=>hbmb e.symm)).fm (M:=fun _=>False) (.below hdr5) fun h=>h
 have hgx:gv+1∉nms:=fun e=>by have:=hI.le _ e;omega
 refine mp5.update mapType keyType (gv+1:Nat) _ fun w6 mp6 f6=>?_
 have F36:Fm (fun c=>c=b∨c=mb∨bs[i+1]?=some c) w3 w6:=((f4.mono fun c _ e=>.inr (.inr e)).trans (f5.mono fun c _ e=>.inl e)).trans ((Fm.below hdr5).trans (f6.mono fun c _ e=>.inr (.inl e)))
 have F56:Fm (·=mb) w5 w6:=(Fm.below hdr5).trans f6
 have b6:=F56.blk b5 (fun e=>by have e:nb=mb:=e;rw [e] at onb;omega)
 have hR6:=h3.r.ins (w1:=w6) (L:=L) (x:=gv+1) (nb:=nb) h.len h.len2 hb hnb (by rw [hgd1,hgd2];exact F56.blk tB5 hbmb) b6 (fun c hc=>F56.blk (f5.blk (hc4 c hc) (hne1 c hc).1) (hne1 c hc).2.2.2)
  (fun j c hc hji hji1=>F36.blk (h3.r.blk j c hc) (fun e=>by
   have hcm:=List.mem_of_getElem? hc
   rcases e with e | e | e
   ·subst e;exact hji (nd_get h.r.nd hc hb)
   ·exact (h.gne hcm).2 e
   ·exact hji1 (nd_get h.r.nd hc e))) (by rw [mpT_ins h.nn hgx h.len hi2];exact mp6)
 have hi3:i+1≤bs.length:=by rw [h.len];exact hi2
 have hi4:i+1≤lbs.length:=by rw [h.len2];exact hi2
 have F26:=F36.size
 have F23:=f3.size
 have hnb6:=b6.lt
 have h6:TgD w6 (fun c=>if c=nb then 4 else o c) g f (insAt bs (i+1) nb) (insAt nms (i+1) (gv+1)) (insAt lbs (i+1) L) mb (gv+1) wr3:=by
  refine⟨?_,?_,hR6,by rw [insAt_len hi3,insAt_len hi2,h.len],by rw [insAt_len hi4,insAt_len hi2,h.len2],by rw [insAt_len hi2];omega,nodup_insAt h.nn hgx,fun c hc=>?_⟩
  ·have:=F56.blk bD5 (fun e=>by have e:g=mb:=e;rw [←e,h.gcol] at mcol;omega)
   unfold dkC
   rw [insAt_at hi3,if_pos (by omega)]
   exact this
  ·show (if g=nb then 4 else o g)=1
   rw [if_neg (hnb g (by rw [h.gcol];decide))];exact h.gcol
  ·by_cases e:c=nb
   ·rw [e];exact hnb6
   ·have hc:(if c=nb then 4 else o c)≠0:=hc
    rw [if_neg e] at hc
    exact Nat.lt_of_lt_of_le (h3.lt c hc) F26
 have hcold:∀c,c < w.heap.size→c≠nb:=fun c hc e=>by have:w1.heap.size≤nb:=hge2;omega
 have F06:Fm (fun c=>o c=1∨o c=4∨o c=5) w w6:=by
  have a1:Fm (fun c=>o c=1∨o c=4∨o c=5) w w2:=(f1.mono fun c _ e=>by have e:c=g:=e;rw [e];exact .inl h.gcol).tr D2
  have a2:=a1.tr2 f3 fun c hc e=>by
   rcases e with e | e
   ·rw [e];exact .inl h.gcol
   ·exact absurd e (hcold c hc)
  refine a2.tr2 F36 fun c hc e=>?_
  rcases e with e | e | e
  ·rw [e];exact .inr (.inl (h.r.col b hbm))
  ·rw [e];exact .inr (.inr mcol)
  ·exact .inr (.inl (h.r.col c (List.mem_of_getElem? e)))
 have ev6:EvT w o w6 (fun c=>if c=nb then 4 else o c):=⟨F06,fun c hc=>by show (if c=nb then 4 else o c)=o c;rw [if_neg (hnb c hc)],fun c hc h9=>by show (if c=nb then 4 else o c)=0;rw [if_neg (hcold c hc)];exact h9,fun c hc=>by
  by_cases e:c=nb
  ·right;left;show (if c=nb then 4 else o c)=4;rw [if_pos e]
  ·left
   have hc:(if c=nb then 4 else o c)≠0:=hc
   rw [if_neg e] at hc;exact hc⟩
 refine⟨fun w'=>∃lbs' wr',TgD w' (fun c=>if c=nb then 4 else o c) g f (insAt bs (i+1) nb) (insAt nms (i+1) (gv+1)) lbs' mb (gv+1) wr'∧TgI (insAt nms (i+1) (gv+1)) lbs' (gv+1)∧EvT w o w' (fun c=>if c=nb then 4 else o c),?_,?_⟩
 ·rintro w7 ⟨lbs',wr',h7,i7,ev7⟩
  unfold F88_j17
  obtain⟨x7,l7,u1,u2,u3⟩:=h7.tag (i:=i+1) (b:=nb) (by rw [insAt_at hi3,if_neg (by omega),if_pos rfl])
  rw [insAt_at hi2,if_neg (by omega),if_pos rfl] at u1
  cases u1
  simp only [NonNil_some,Addr.add_mk,Nat.reduceAdd,Nat.zero_add,u3.cell,lds]
  exact hK w7 _ _ lbs' mb wr' h7 i7 (ev0.trans hlt0 ev7)
 ·simp only [NonNil_some,Addr.add_mk,Nat.reduceAdd,Nat.zero_add,b6.cell,lds]
  refine bre (fun hz=>?_) (fun hnz=>?_)
  ·have hl0:(insAt lbs (i+1) L)[0]?=some 0:=by rw [insAt_at hi4,if_pos (by omega)];exact hI.l0
   refine spread_calls h6 (by rw [insAt_len hi2];omega) hl0 fun w7 lbs' wr' h7 f7 z0 z1 z2=>⟨rfl,?_⟩
   refine⟨lbs',wr',h7,hI.renum (L:=L) hi2 hf h7.len2 z0 z1 z2,ev6.trans hlt ⟨f7.mono fun c hc e=>?_,fun _ _=>rfl,fun _ _ h=>h,fun _ h=>.inl h⟩⟩
   rcases e with e | e
   ·rw [e];exact .inl h6.gcol
   ·exact .inr (.inl (h6.r.col c e))
  ·rcases hL with hL | ⟨q1,q2,q3⟩
   ·exact absurd (by omega) hnz
   ·exact⟨_,wr3,h6,hI.ins hi2 t2 q1 q2 q3 hf,ev6⟩
theorem After_calls (h:TgD w o g f bs nms lbs mb gv wr) (hI:TgI nms lbs gv) (hf:nms.length≤8192) (hgv:gv < 9223372036854775808) {i x:Nat} (hx:nms[i]?=some x)
  (hK:∀w' o' bs' lbs' mb wr',TgD w' o' g f bs' (insAt nms (i+1) (gv+1)) lbs' mb (gv+1) wr'→TgI (insAt nms (i+1) (gv+1)) lbs' (gv+1)→EvT w o w' o'→R (.returned (.tuple #[.int .u64 (gv+1:Nat),.int .i64 0])) w') :
  Calls Tryz.prog 88 #[.pointer (some ⟨g,5,none⟩),.int .u64 (x:Nat)] w R :=
 After_gen h.lt hf hgv hx (fun R' k=>by
  obtain⟨b,hb⟩:∃b,bs[i]?=some b:=⟨_,List.getElem?_eq_getElem (by rw [h.len];exact (List.getElem?_eq_some_iff.1 hx).1)⟩
  exact find_some h hx hb (k w o bs lbs mb wr b h hI .refl hb)) hK
structure TgZ (w:World) (o:Nat→Nat) (g:Nat) (f:Fr):Prop where
 blk:Blk w g (dkC f none none 0 0) f.t
 gcol:o g=1
 lt:∀b,o b≠0→b < w.heap.size
theorem begin_zero (h:TgZ w o g f) (hK:∀w' o' b mb,TgD w' o' g f [b] [0] [0] mb 0 0→EvT w o w' o'→R (.returned (.tuple #[])) w'):Calls Tryz.prog 147 #[.pointer (some ⟨g,5,none⟩)] w R:=by
 refine ok147 (some ⟨g,5,none⟩) ?_
 unfold F147
 have hD:=h.blk
 unfold dkC pB at hD
 simp only [NonNil_some,Addr.add_mk,Nat.reduceAdd,Nat.zero_add,hD.cell,List.getElem?_toArray,List.getElem?_cons_zero,List.getElem?_cons_succ,Option.map_none,lds]
 simp only [Option.isNone_none,Br_t]
 refine al fun gb w1 hb1 b1 hge1=>?_
 have hgl:=hD.lt
 refine st_blk (hD.keep hb1) (by simp) fun w2 bD2 f2=>?_
 simp only [List.setIfInBounds_toArray,List.set_cons_zero,List.set_cons_succ] at bD2
 have hne1:gb≠g:=by omega
 have b2:=f2.blk b1 (fun e=>hne1 e)
 have hs1:=hb1.size
 have hs2:=f2.size
 have hb3:Below w2.heap.size w2 (w2.alloc (.map #[] 0)):=(Below.refl _ _).alloc (Nat.le_refl _) _
 have mp3:Mp .u64 (w2.alloc (.map #[] 0)) w2.heap.size fun _=>none:=Mp.made w2 .u64
 unfold AlM
 have bD3:=bD2.keep hb3
 have b3:=b2.keep hb3
 generalize (w2.alloc (.map #[] 0))=w3 at *
 have hbl:=b2.lt
 have hD2l:=bD2.lt
 generalize hmb:w2.heap.size=mb at *
 simp only [NonNil_some,Addr.add_mk,Nat.reduceAdd,Nat.zero_add,bD3.cell,lds]
 refine mp3.update mapType keyType (0:Nat) _ fun w4 mp4 f4=>?_
 have bD4:=f4.blk bD3 (fun e=>by have e:g=mb:=e;omega)
 have b4:=f4.blk b3 (fun e=>by have e:gb=mb:=e;omega)
 refine st_blk bD4 (by simp) fun w5 bD5 f5=>?_
 simp only [List.setIfInBounds_toArray,List.set_cons_zero,List.set_cons_succ] at bD5
 have hs3:=hb3.size
 have hs4:=f4.size
 have hs5:=f5.size
 have ogb:o gb=0:=Classical.byContradiction fun e=>by have:=h.lt gb e;omega
 have omb:o mb=0:=Classical.byContradiction fun e=>by have:=h.lt mb e;omega
 have b5:=f5.blk b4 (fun e=>hne1 e)
 have mp5:=mp4.fm f5 (fun e=>by have e:mb=g:=e;omega)
 have hgb:g≠gb:=fun e=>hne1 e.symm
 have hgm:g≠mb:=by omega
 have hmg:gb≠mb:=by omega
 have mplt:=mp5.lt
 refine hK w5 (fun c=>if c=gb then 4 else if c=mb then 5 else o c) gb mb ⟨bD5,?_,⟨fun i c hc=>?_,fun c hc=>?_,by simp,?_,?_⟩,rfl,rfl,by simp,by simp,fun c hc=>?_⟩ ⟨?_,fun c hc=>?_,fun c hcl hc=>?_,fun c hc=>?_⟩
 ·show (if g=gb then 4 else if g=mb then 5 else o g)=1
  rw [if_neg hgb,if_neg hgm];exact h.gcol
 ·cases i with
  | succ i=>cases hc
  | zero=>cases hc;exact b5
 ·rw [List.mem_singleton] at hc;subst hc
  show (if c=c then 4 else _)=4
  rw [if_pos rfl]
 ·have e:mpT [gb] [0]=upd (fun _=>none) ((0:Nat):Int) (some (Value.pointer (some ⟨gb,0,none⟩))):=by
   funext k
   unfold mpT upd
   by_cases hk:k=((0:Nat):Int)
   ·subst hk;rfl
   ·rw [if_neg hk,if_neg]
    rintro ⟨h1,h2⟩
    rw [List.mem_singleton] at h2
    exact hk (by omega)
  rw [e];exact mp5
 ·show (if mb=gb then 4 else if mb=mb then 5 else o mb)=5
  rw [if_neg (fun e=>hmg e.symm),if_pos rfl]
 ·have hc:(if c=gb then 4 else if c=mb then 5 else o c)≠0:=hc
  by_cases e1:c=gb
  ·rw [e1];exact b5.lt
  ·rw [if_neg e1] at hc
   by_cases e2:c=mb
   ·rw [e2];exact mplt
   ·rw [if_neg e2] at hc
    have:=h.lt c hc;omega
 ·have a1:Fm (fun c=>o c=1∨o c=4∨o c=5) w w2:=(Fm.below hb1).trans (f2.mono fun c _ e=>by have e:c=g:=e;rw [e];exact .inl h.gcol)
  have a2:Fm (fun c=>o c=1∨o c=4∨o c=5) w w3:=a1.tr (by rw [hmb];exact hb3)
  have a3:=a2.tr2 f4 fun c hc e=>by have e:c=mb:=e;omega
  exact a3.tr2 f5 fun c hc e=>by have e:c=g:=e;rw [e];exact .inl h.gcol
 ·show (if c=gb then 4 else if c=mb then 5 else o c)=o c
  rw [if_neg (fun e=>hc (by rw [e];exact ogb)),if_neg (fun e=>hc (by rw [e];exact omb))]
 ·show (if c=gb then 4 else if c=mb then 5 else o c)=0
  rw [if_neg (by omega),if_neg (by omega)];exact hc
 ·by_cases e1:c=gb
  ·right;left;show (if c=gb then 4 else if c=mb then 5 else o c)=4;rw [if_pos e1]
  ·by_cases e2:c=mb
   ·right;right;show (if c=gb then 4 else if c=mb then 5 else o c)=5;rw [if_neg e1,if_pos e2]
   ·left
    have hc:(if c=gb then 4 else if c=mb then 5 else o c)≠0:=hc
    rw [if_neg e1,if_neg e2] at hc;exact hc
theorem find_zero (h:TgZ w o g f) (hK:∀w' o' b mb,TgD w' o' g f [b] [0] [0] mb 0 0→EvT w o w' o'→R (.returned (.tuple #[pB (some b),.int .i64 0])) w'):Calls Tryz.prog 123 #[.pointer (some ⟨g,5,none⟩),.int .u64 (0:Nat)] w R:=by
 refine ok123 (some ⟨g,5,none⟩) (0:Nat) ?_
 unfold F123
 refine begin_zero h fun w1 o1 b mb h1 ev=>⟨rfl,?_⟩
 have hB:=h1.blk
 unfold dkC at hB
 simp only [NonNil_some,Addr.add_mk,Nat.reduceAdd,Nat.zero_add,hB.cell,lds]
 refine h1.r.mp.look mapType keyType (zeroTag w1) (0:Nat) true ?_
 rw [mpT_some (i:=0) (x:=0) (b:=b) h1.nn rfl rfl]
 exact⟨some ⟨b,0,none⟩,true,rfl,hK w1 o1 b mb h1 ev⟩
theorem one_I:TgI [0] [0] 0:=⟨rfl,rfl,rfl,by simp,by simp,by simp,by simp,by simp⟩
theorem After_zero (h:TgZ w o g f)
  (hK:∀w' o' bs' lbs' mb wr',TgD w' o' g f bs' (insAt [0] 1 1) lbs' mb 1 wr'→TgI (insAt [0] 1 1) lbs' 1→EvT w o w' o'→R (.returned (.tuple #[.int .u64 (1:Nat),.int .i64 0])) w') :
  Calls Tryz.prog 88 #[.pointer (some ⟨g,5,none⟩),.int .u64 (0:Nat)] w R :=
 After_gen (nms:=[0]) (gv:=0) (i:=0) (x:=0) (f:=f) h.lt (by simp) (by decide) rfl (fun R' k=>find_zero h fun w1 o1 b mb h1 ev=>k w1 o1 [b] [0] mb 0 b h1 one_I ev rfl) hK
end
set_option maxRecDepth 100000
section
variable {w w1 w2:World}{o o1 o2:Nat→Nat}{g:Nat}{f:Fr}{bs nms lbs:List Nat}{mb gv:Nat}{wr:Int}{M:Nat→Prop}{R:Ending→World→Prop}
end
set_option maxRecDepth 100000
def mpE (E:Nat→Option (Nat × Nat)) (k:Int):Option Value:=if 0≤k then (E k.toNat).map (fun p=>.agg #[.int .u64 (p.1:Nat),.int .u64 (p.2:Nat)]) else none
def tlL (mb hd:Option Nat) (gv:Nat) (wr:Int) (em:Option Nat):List Value:=[.map mb,pB hd,.int .u64 (gv:Nat),.int .u64 wr,.map em]
def EndR (w:World) (o:Nat→Nat) (em:Option Nat) (E:Nat→Option (Nat × Nat)):Prop:=match em with
 | none=>∀y,E y=none
 | some eb=>o eb=6∧Mp .u64 w eb (mpE E)
structure LM (w:World) (o:Nat→Nat) (g:Nat) (ty:TypeId) (S:PS) (bs nms lbs:List Nat) (mb gv:Nat) (wr:Int) (em:Option Nat) (E:Nat→Option (Nat × Nat)):Prop where
 pm:PM w o ⟨g,ty,tlL (some mb) bs[0]? gv wr em⟩ S
 r:TgR w o bs nms lbs mb
 i:TgI nms lbs gv
 len:bs.length=nms.length
 e:EndR w o em E
structure LZ (w:World) (o:Nat→Nat) (g:Nat) (ty:TypeId) (S:PS):Prop where
 pm:PM w o ⟨g,ty,tlL none none 0 0 none⟩ S
structure EvL (w:World) (o:Nat→Nat) (w1:World) (o1:Nat→Nat):Prop where
 fm:Fm (fun b=>o b=1∨o b=4∨o b=5∨o b=6) w w1
 same:∀b,o b≠0→o1 b=o b
 old:∀b,b < w.heap.size→o b=0→o1 b=0
 new:∀b,o1 b≠0→o b≠0∨o1 b=4∨o1 b=5∨o1 b=6
section
variable {w w1 w2:World}{o o1 o2:Nat→Nat}{g:Nat}{ty:TypeId}{S:PS}{bs nms lbs:List Nat}{mb gv:Nat}{wr:Int}{em:Option Nat}{E:Nat→Option (Nat × Nat)}{M:Nat→Prop}{R:Ending→World→Prop}{θ:Th}
theorem EvL.trans (h:EvL w o w1 o1) (k:EvL w1 o1 w2 o2):EvL w o w2 o2:=by
 refine⟨⟨k.fm.os.trans h.fm.os,k.fm.tape.trans h.fm.tape,k.fm.output.trans h.fm.output,Nat.le_trans h.fm.size k.fm.size,fun b hb hm=>?_⟩,fun b hb=>?_,fun b hb h1=>k.old b (Nat.lt_of_lt_of_le hb h.fm.size) (h.old b hb h1),fun b hb=>?_⟩
 ·rw [k.fm.block b (Nat.lt_of_lt_of_le hb h.fm.size) fun e=>?_]
  ·exact h.fm.block b hb hm
  ·by_cases h1:o b=0
   ·have:=h.old b hb h1;omega
   ·rw [h.same b h1] at e;exact hm e
 ·rw [k.same b (by rw [h.same b hb];exact hb)];exact h.same b hb
 ·rcases k.new b hb with e | e
  ·rcases h.new b e with e2 | e2
   ·exact .inl e2
   ·rw [k.same b e];exact .inr e2
  ·exact .inr e
theorem EvT.l (h:EvT w o w1 o1):EvL w o w1 o1:=⟨h.fm.mono fun b _ e=>by rcases e with e | e | e <;> simp [e],h.same,h.old,fun b hb=>by rcases h.new b hb with e | e | e <;> simp [e]⟩
theorem EvL.below (hb:Below w.heap.size w w1):EvL w o w1 o:=⟨.below hb,fun _ _=>rfl,fun _ _ h=>h,fun _ h=>.inl h⟩
theorem PM.tail (h:PM w o θ S) {tl:List Value} (hf:Fm M w w1) (hm:∀b,pc (o b)→o b≠1→¬M b) (hB:∀nv rv,Blk w θ.g (docC nv rv S.lv S.wn S.lo θ.tl) θ.t→Blk w1 θ.g (docC nv rv S.lv S.wn S.lo tl) θ.t) (ho:∀b,o b≠0→o1 b=o b) (hl:∀b,o1 b≠0→b < w1.heap.size) :
  PM w1 o1 { θ with tl:=tl } S:=by
 have hg:=h.col
 have hn:∀b c,o b=c→c≠1→pc c→¬M b:=fun b c hb hc hp hM=>by
  exact hm b (by rw [hb];exact hp) (by omega) hM
 have p2:pc 2:=.inr (.inl rfl)
 have p3:pc 3:=.inr (.inr (.inl rfl))
 obtain⟨nv,rv,hd⟩:=h.doc
 refine⟨by show o1 θ.g=1;rw [ho _ (by rw [hg];decide)];exact hg,hl,h.len,h.few,fun i b hb=>?_,⟨nv,rv,⟨hB nv rv hd.blk,own_fm hd.n1 hf fun x hx=>hn x 2 (hd.n2 x hx) (by decide) p2,fun x hx=>?_,own_fm hd.r1 hf fun x hx=>hn x 3 (hd.r2 x hx) (by decide) p3,fun x hx=>?_⟩⟩,fun i b s hb hs=>?_,h.rng,h.rts,h.cnt⟩
 ·have:=h.nc i b hb
  rw [ho b (by rw [this];omega)];exact this
 ·have:=hd.n2 x hx
  rw [ho x (by rw [this];decide)];exact this
 ·have:=hd.r2 x hx
  rw [ho x (by rw [this];decide)];exact this
 ·obtain⟨a,kv,hnd⟩:=h.nodes i b s hb hs
  obtain⟨q1,q2,q3⟩:=pc_nd i
  refine⟨a,kv,hnd.keep (h.nc i b hb) hf (fun x hx=>?_) (fun x hx=>?_)⟩
  ·rcases hx with e | e | e
   ·exact hn x _ e (by omega) q1
   ·exact hn x _ e (by omega) q2
   ·exact hn x _ e (by omega) q3
  ·exact ho x (by rcases hx with e | e <;> rw [e] <;> omega)
theorem LM.tg (h:LM w o g ty S bs nms lbs mb gv wr em E):∃f,TgD w o g f bs nms lbs mb gv wr∧f.m=.map em∧f.t=ty∧∃nv rv,f.a=slV nv∧f.b=slV rv∧f.c=.int .i64 (S.lv:Nat)∧f.d=.int .i64 (S.wn:Nat)∧f.e=.int .i64 (S.lo:Nat)∧Blk w g (docC nv rv S.lv S.wn S.lo (tlL (some mb) bs[0]? gv wr em)) ty:=by
 obtain⟨nv,rv,hd⟩:=h.pm.doc
 have hpos:=(List.getElem?_eq_some_iff.1 h.i.h0).1
 exact⟨⟨slV nv,slV rv,.int .i64 (S.lv:Nat),.int .i64 (S.wn:Nat),.int .i64 (S.lo:Nat),.map em,ty⟩,⟨hd.blk,h.pm.col,h.r,h.len,h.i.len,hpos,h.i.nd,h.pm.lt⟩,rfl,rfl,nv,rv,rfl,rfl,rfl,rfl,rfl,hd.blk⟩
theorem blk_inj {b:Nat}{c c':Array Value}{t t':TypeId} (h:Blk w b c t) (k:Blk w b c' t'):c=c'∧t=t':=by
 unfold Blk at h k
 rw [h] at k
 simp only [Option.some.injEq,Obj.cells.injEq] at k
 exact⟨k.1,k.2.1⟩
theorem EndR.fm (h:EndR w o em E) (hf:Fm M w w1) (hm:∀b,o b=6→¬M b) (ho:∀b,o b≠0→o1 b=o b):EndR w1 o1 em E:=by
 cases em with
 | none=>exact h
 | some eb =>
  obtain⟨h1,h2⟩:=h
  exact⟨by rw [ho eb (by rw [h1];decide)];exact h1,h2.fm hf (hm eb h1)⟩
theorem LM.setTg {f:Fr}{bs' nms' lbs':List Nat}{mb' gv':Nat}{wr':Int}{hd0 mb0:Option Nat}{gv0:Nat}{wr0:Int} (hp:PM w o ⟨g,ty,tlL mb0 hd0 gv0 wr0 em⟩ S) (he:EndR w o em E)
  (hf:∃nv rv,f.a=slV nv∧f.b=slV rv∧f.c=.int .i64 (S.lv:Nat)∧f.d=.int .i64 (S.wn:Nat)∧f.e=.int .i64 (S.lo:Nat)∧Blk w g (docC nv rv S.lv S.wn S.lo (tlL mb0 hd0 gv0 wr0 em)) ty) (hm:f.m=.map em) (ht:f.t=ty)
  (h1:TgD w1 o1 g f bs' nms' lbs' mb' gv' wr') (hI:TgI nms' lbs' gv') (ev:EvT w o w1 o1):LM w1 o1 g ty S bs' nms' lbs' mb' gv' wr' em E:=by
 have hgc:o g=1:=hp.col
 refine⟨hp.tail (tl:=tlL (some mb') bs'[0]? gv' wr' em) ev.fm (fun b hb h1 hM=>by unfold pc at hb;omega) (fun nv rv hB=>?_) ev.same h1.lt,h1.r,hI,h1.len,he.fm ev.fm (fun b hb=>by omega) ev.same⟩
 ·obtain⟨nv',rv',a1,a2,a3,a4,a5,a6⟩:=hf
  have hB:Blk w g (docC nv rv S.lv S.wn S.lo (tlL mb0 hd0 gv0 wr0 em)) ty:=hB
  obtain⟨q1,-⟩:=blk_inj hB a6
  have hb1:=h1.blk
  unfold dkC at hb1
  rw [a1,a2,a3,a4,a5,hm,ht] at hb1
  have e1:docC nv rv S.lv S.wn S.lo (tlL (some mb') bs'[0]? gv' wr' em)=docC nv' rv' S.lv S.wn S.lo (tlL (some mb') bs'[0]? gv' wr' em):=by
   unfold docC at q1 ⊢
   simp only [Array.mk.injEq,List.cons.injEq,and_true,true_and,List.toArray_inj] at q1 ⊢
   exact⟨q1.1,q1.2⟩
  show Blk w1 g (docC nv rv S.lv S.wn S.lo _) ty
  rw [e1];exact hb1
end
set_option maxRecDepth 100000
def LB (w:World) (o:Nat→Nat) (g:Nat) (ty:TypeId) (S:PS) (nms:List Nat) (gv:Nat) (E:Nat→Option (Nat × Nat)):Prop:=∃bs lbs mb wr em,LM w o g ty S bs nms lbs mb gv wr em E
def LX (w:World) (o:Nat→Nat) (g:Nat) (ty:TypeId) (S:PS) (nms:List Nat) (gv:Nat) (E:Nat→Option (Nat × Nat)):Prop :=
 (∃bs lbs mb wr em,LM w o g ty S bs nms lbs mb gv wr em E)∨(LZ w o g ty S∧nms=[0]∧gv=0∧∀y,E y=none)
section
variable {w w1 w2:World}{o o1 o2:Nat→Nat}{g:Nat}{ty:TypeId}{S:PS}{bs nms lbs:List Nat}{mb gv:Nat}{wr:Int}{em:Option Nat}{E:Nat→Option (Nat × Nat)}{M:Nat→Prop}{R:Ending→World→Prop}{θ:Th}
theorem LX.pm (h:LX w o g ty S nms gv E):∃tl,tl.length=5∧PM w o ⟨g,ty,tl⟩ S:=by
 rcases h with ⟨bs,lbs,mb,wr,em,h⟩ | ⟨h,_⟩
 ·exact⟨_,rfl,h.pm⟩
 ·exact⟨_,rfl,h.pm⟩
theorem LX.lt (h:LX w o g ty S nms gv E):∀b,o b≠0→b < w.heap.size:=by obtain⟨tl,_,h⟩:=h.pm;exact h.lt
theorem LX.I (h:LX w o g ty S nms gv E):∃lbs,TgI nms lbs gv:=by
 rcases h with ⟨bs,lbs,mb,wr,em,h⟩ | ⟨h,rfl,rfl,_⟩
 ·exact⟨lbs,h.i⟩
 ·exact⟨_,one_I⟩
theorem LM.below (h:LM w o g ty S bs nms lbs mb gv wr em E) (hb:Below w.heap.size w w1):LM w1 o g ty S bs nms lbs mb gv wr em E :=
 ⟨h.pm.below hb,h.r.fm (M:=fun _=>False) (.below hb) (fun _ _ h=>h),h.i,h.len,h.e.fm (M:=fun _=>False) (.below hb) (fun _ _ h=>h) fun _ _=>rfl⟩
theorem LX.below (h:LX w o g ty S nms gv E) (hb:Below w.heap.size w w1):LX w1 o g ty S nms gv E:=by
 rcases h with ⟨bs,lbs,mb,wr,em,h⟩ | ⟨h,h2⟩
 ·exact .inl ⟨bs,lbs,mb,wr,em,h.below hb⟩
 ·exact .inr ⟨⟨h.pm.below hb⟩,h2⟩
theorem LX.fm (h:LX w o g ty S nms gv E) (hf:Fm M w w1) (hm:∀b,b < w.heap.size→M b→o b=0):LX w1 o g ty S nms gv E:=by
 have hlt:=h.lt
 have hM:∀b,o b≠0→¬M b:=fun b hb hM=>hb (hm b (hlt b hb) hM)
 have hl:∀b,o b≠0→b < w1.heap.size:=fun b hb=>Nat.lt_of_lt_of_le (hlt b hb) hf.size
 have hp:∀b,pc (o b)→¬M b:=fun b hb=>hM b fun e=>by rw [e] at hb;unfold pc at hb;omega
 rcases h with ⟨bs,lbs,mb,wr,em,h⟩ | ⟨h,h2⟩
 ·exact .inl ⟨bs,lbs,mb,wr,em,h.pm.keep hf hp (fun _ _=>rfl) hl,h.r.fm hf (fun b hb=>hM b (by omega)),h.i,h.len,h.e.fm hf (fun b hb=>hM b (by omega)) fun _ _=>rfl⟩
 ·exact .inr ⟨⟨h.pm.keep hf hp (fun _ _=>rfl) hl⟩,h2⟩
theorem After_x (h:LX w o g ty S nms gv E) (hf:nms.length≤8192) (hgv:gv < 9223372036854775808) {i x:Nat} (hx:nms[i]?=some x)
  (hK:∀w' o',LB w' o' g ty S (insAt nms (i+1) (gv+1)) (gv+1) E→EvL w o w' o'→R (.returned (.tuple #[.int .u64 (gv+1:Nat),.int .i64 0])) w') :
  Calls Tryz.prog 88 #[.pointer (some ⟨g,5,none⟩),.int .u64 (x:Nat)] w R:=by
 rcases h with ⟨bs,lbs,mb,wr,em,h⟩ | ⟨h,rfl,rfl,h2⟩
 ·obtain⟨f,t1,t2,t3,t4⟩:=h.tg
  refine After_calls t1 h.i hf hgv hx fun w' o' bs' lbs' mb' wr' q1 q2 ev=>hK w' o' ⟨bs',lbs',mb',wr',em,?_⟩ ev.l
  exact LM.setTg h.pm h.e t4 t2 t3 q1 q2 ev
 ·have hi0:i=0:=by have:=(List.getElem?_eq_some_iff.1 hx).1;simp at this;exact this
  subst hi0
  have hx0:x=0:=by simpa using hx.symm
  subst hx0
  obtain⟨nv,rv,hd⟩:=h.pm.doc
  refine After_zero (f:=⟨slV nv,slV rv,.int .i64 (S.lv:Nat),.int .i64 (S.wn:Nat),.int .i64 (S.lo:Nat),.map none,ty⟩) ⟨hd.blk,h.pm.col,h.pm.lt⟩ fun w' o' bs' lbs' mb' wr' q1 q2 ev=>hK w' o' ⟨bs',lbs',mb',wr',none,?_⟩ ev.l
  exact LM.setTg (mb0:=none) (hd0:=none) (gv0:=0) (wr0:=0) h.pm h2 ⟨nv,rv,rfl,rfl,rfl,rfl,rfl,hd.blk⟩ rfl rfl q1 q2 ev
theorem LX.emc (h:LX w o g ty S nms gv E):∃em,w.cell? ⟨g,9,none⟩=some (.map em)∧EndR w o em E:=by
 rcases h with ⟨bs,lbs,mb,wr,em,h⟩ | ⟨h,h2,h3,h4⟩
 ·obtain⟨nv,rv,hd⟩:=h.pm.doc
  exact⟨em,by rw [hd.blk.cell];rfl,h.e⟩
 ·obtain⟨nv,rv,hd⟩:=h.pm.doc
  exact⟨none,by rw [hd.blk.cell];rfl,h4⟩
theorem mapTypeE:Tryz.prog.underlying 80=some (.map 48 161):=by kernel_rfl
theorem keyTypeE:Tryz.prog.underlying 48=some (.int .u64):=by kernel_rfl
theorem zeroEnd (w:World):(zeroValue 161).run Tryz.prog w=.ok (.agg #[.int .u64 0,.int .u64 0]) w:=by kernel_rfl
def eN (E:Nat→Option (Nat × Nat)) (y:Nat):Nat × Nat:=(E y).getD (0,0)
theorem look_nil {P:Program}{t kt et:TypeId} (ht:P.underlying t=some (.map kt et)) (hk:P.underlying kt=some (.int .u64)) {z:Value} (hz:(zeroValue et).run P w=.ok z w) (k:Int) {K:Value→World→Prop} (hK:K z w):Raw P (Instr.lookup t (.map none) (.int .u64 k) false) w K:=by
 have hc:(Instr.checkKey true 10000 kt (.int .u64 k)).run P w=.ok () w:=MapKept.run_checkKey (k:=.int .u64 k) hk (by simp [MapKept.IsKey]) _ 9999
 exact⟨_,w,by simp [Instr.lookup,run_underlying ht,hc,MapKept.run_findKey hk (show Instr.findNow (.int .u64) (.int .u64 k) [] 0=some none from rfl),hz,Result.andThen],hK⟩
theorem lookE {em:Option Nat} (h:EndR w o em E) (y:Nat) {K:Value→World→Prop} (hK:K (.agg #[.int .u64 ((eN E y).1:Nat),.int .u64 ((eN E y).2:Nat)]) w):Raw Tryz.prog (Instr.lookup 80 (.map em) (.int .u64 (y:Nat)) false) w K:=by
 cases em with
 | none =>
  have:eN E y=(0,0):=by unfold eN;rw [h y];rfl
  rw [this] at hK
  exact look_nil mapTypeE keyTypeE (zeroEnd w) y hK
 | some eb =>
  obtain⟨h1,h2⟩:=h
  refine h2.look mapTypeE keyTypeE (zeroEnd w) y false ?_
  have:(mpE E (y:Nat)).getD (.agg #[.int .u64 0,.int .u64 0])=.agg #[.int .u64 ((eN E y).1:Nat),.int .u64 ((eN E y).2:Nat)]:=by
   unfold mpE eN
   rw [if_pos (by omega),Int.toNat_natCast]
   cases E y with
   | none=>rfl
   | some p=>rfl
  simp only [this]
  exact hK
def updE (E:Nat→Option (Nat × Nat)) (y:Nat) (p:Option (Nat × Nat)):Nat→Option (Nat × Nat):=fun z=>if z=y then p else E z
theorem mpE_upd {E:Nat→Option (Nat × Nat)}{y:Nat}{p:Option (Nat × Nat)}:mpE (updE E y p)=upd (mpE E) (y:Nat) (p.map fun p=>.agg #[.int .u64 (p.1:Nat),.int .u64 (p.2:Nat)]):=by
 funext k
 unfold mpE upd updE
 by_cases h0:0≤k
 ·rw [if_pos h0]
  by_cases hk:k=(y:Int)
  ·rw [if_pos hk,if_pos (by omega)]
  ·rw [if_neg hk,if_neg (by omega)]
   dsimp only
   rw [if_pos h0]
 ·rw [if_neg h0,if_neg (by omega)]
  dsimp only
  rw [if_neg h0]
theorem LB.x (h:LB w o g ty S nms gv E):LX w o g ty S nms gv E:=.inl h
theorem LB.fm (h:LB w o g ty S nms gv E) (hf:Fm M w w1) (hm:∀b,b < w.heap.size→M b→o b=0):LB w1 o g ty S nms gv E:=by
 have hlt:=h.x.lt
 have hM:∀b,o b≠0→¬M b:=fun b hb hM=>hb (hm b (hlt b hb) hM)
 have hl:∀b,o b≠0→b < w1.heap.size:=fun b hb=>Nat.lt_of_lt_of_le (hlt b hb) hf.size
 have hp:∀b,pc (o b)→¬M b:=fun b hb=>hM b fun e=>by rw [e] at hb;unfold pc at hb;omega
 obtain⟨bs,lbs,mb,wr,em,h⟩:=h
 exact⟨bs,lbs,mb,wr,em,h.pm.keep hf hp (fun _ _=>rfl) hl,h.r.fm hf (fun b hb=>hM b (by omega)),h.i,h.len,h.e.fm hf (fun b hb=>hM b (by omega)) fun _ _=>rfl⟩
theorem LM.made (h:LM w o g ty S bs nms lbs mb gv wr none E) {K:World→Prop} (hK:∀w' o' eb,LM w' o' g ty S bs nms lbs mb gv wr (some eb) E→EvL w o w' o'→K w'):AlM w fun r w1=>St w1 ⟨g,9,none⟩ (.map (some r)) K:=by
 obtain⟨nv,rv,hd⟩:=h.pm.doc
 have hg:=hd.blk.lt
 unfold AlM
 have hb1:Below w.heap.size w (w.alloc (.map #[] 0)):=(Below.refl _ _).alloc (Nat.le_refl _) _
 have mp1:Mp .u64 (w.alloc (.map #[] 0)) w.heap.size fun _=>none:=Mp.made w .u64
 generalize (w.alloc (.map #[] 0))=w1 at *
 have hB:Blk w g (docC nv rv S.lv S.wn S.lo (tlL (some mb) bs[0]? gv wr none)) ty:=hd.blk
 refine st_blk (hB.keep hb1) (by simp [docC,tlL]) fun w2 b2 f2=>?_
 have hn:o w.heap.size=0:=Classical.byContradiction fun e=>by have:=h.pm.lt _ e;omega
 have hcol:=h.pm.col
 have hs1:=hb1.size
 have mp2:=mp1.fm f2 (fun e=>by have e:w.heap.size=g:=e;have hg:g < w.heap.size:=hg;omega)
 have F2:Fm (·=g) w w2:=(Fm.below hb1).trans f2
 have hss:∀b,o b≠0→(if b=w.heap.size then 6 else o b)=o b:=fun b hb=>by rw [if_neg (fun e=>hb (by rw [e];exact hn))]
 have hl:∀b,(if b=w.heap.size then 6 else o b)≠0→b < w2.heap.size:=fun b hb=>by
  by_cases e:b=w.heap.size
  ·rw [e];exact mp2.lt
  ·rw [if_neg e] at hb
   exact Nat.lt_of_lt_of_le (h.pm.lt b hb) F2.size
 have hp:=h.pm.tail (o1:=fun b=>if b=w.heap.size then 6 else o b) (tl:=tlL (some mb) bs[0]? gv wr (some w.heap.size)) F2 (fun b hb h1 e=>h1 (by have e:b=g:=e;rw [e];exact hcol)) (fun nv' rv' hB'=>by
  obtain⟨q1,-⟩:=blk_inj hB' hB
  have e1:docC nv' rv' S.lv S.wn S.lo (tlL (some mb) bs[0]? gv wr (some w.heap.size))=docC nv rv S.lv S.wn S.lo (tlL (some mb) bs[0]? gv wr (some w.heap.size)):=by
   unfold docC at q1 ⊢
   simp only [Array.mk.injEq,List.cons.injEq,and_true,true_and,List.toArray_inj] at q1 ⊢
   exact⟨q1.1,q1.2⟩
  rw [e1];exact b2) hss hl
 refine hK w2 (fun b=>if b=w.heap.size then 6 else o b) w.heap.size ⟨hp,?_,h.i,h.len,?_,?_⟩ ⟨F2.mono fun b _ e=>by have e:b=g:=e;rw [e];exact .inl hcol,hss,fun b hb h0=>by show (if b=w.heap.size then 6 else o b)=0;rw [if_neg (by omega)];exact h0,fun b hb=>?_⟩
 ·have hr:=h.r.fm F2 (fun b hb e=>by have e:b=g:=e;rw [e,hcol] at hb;omega)
  exact⟨hr.blk,fun b hb=>by show (if b=w.heap.size then 6 else o b)=4;rw [hss b (by rw [hr.col b hb];decide)];exact hr.col b hb,hr.nd,hr.mp,by show (if mb=w.heap.size then 6 else o mb)=5;rw [hss mb (by rw [hr.mcol];decide)];exact hr.mcol⟩
 ·show (if w.heap.size=w.heap.size then 6 else _)=6
  rw [if_pos rfl]
 ·have e:mpE E=fun _=>none:=by
   funext k
   unfold mpE
   rw [h.e k.toNat]
   split <;> rfl
  rw [e];exact mp2
 ·by_cases e:b=w.heap.size
  ·right;right;right;show (if b=w.heap.size then 6 else o b)=6;rw [if_pos e]
  ·left
   have hb:(if b=w.heap.size then 6 else o b)≠0:=hb
   rw [if_neg e] at hb;exact hb
theorem LM.setE {eb:Nat} (h:LM w o g ty S bs nms lbs mb gv wr (some eb) E) (hf:Fm (·=eb) w w1) {E':Nat→Option (Nat × Nat)} (hm:Mp .u64 w1 eb (mpE E')):LM w1 o g ty S bs nms lbs mb gv wr (some eb) E'∧EvL w o w1 o:=by
 obtain⟨e1,e2⟩:=h.e
 have hl:∀b,o b≠0→b < w1.heap.size:=fun b hb=>Nat.lt_of_lt_of_le (h.pm.lt b hb) hf.size
 refine⟨⟨h.pm.keep hf (fun b hb e=>?_) (fun _ _=>rfl) hl,h.r.fm hf (fun b hb e=>?_),h.i,h.len,e1,hm⟩,⟨hf.mono fun b _ e=>?_,fun _ _=>rfl,fun _ _ h=>h,fun _ h=>.inl h⟩⟩
 ·have e:b=eb:=e
  rw [e,e1] at hb;unfold pc at hb;omega
 ·have e:b=eb:=e
  rw [e,e1] at hb;omega
 ·have e:b=eb:=e
  rw [e];exact .inr (.inr (.inr e1))
end
set_option maxRecDepth 100000
def wrd (A:Nat→Option Sl) (E:Nat→Option (Nat × Nat)):Nat→Nat→List Nat
 | 0,_=>[]
 | r+1,n=>match A n with | some s=>(eN E n).1 :: s.kids.flatMap (wrd A E r)++[(eN E n).2] | none=>[]
theorem wrd_some {A:Nat→Option Sl}{E:Nat→Option (Nat × Nat)}{r n:Nat}{s:Sl} (h:A n=some s):wrd A E (r+1) n=(eN E n).1 :: s.kids.flatMap (wrd A E r)++[(eN E n).2]:=by rw [wrd,h]
theorem flat_congr {α:Type}{f h:Nat→List α}:∀{l:List Nat},(∀y∈l,f y=h y)→l.flatMap f=l.flatMap h
 | [],_=>rfl
 | y :: l,k=>by rw [List.flatMap_cons,List.flatMap_cons,k y (by simp),flat_congr fun z hz=>k z (by simp [hz])]
theorem wrd_congr {A:Nat→Option Sl}{E E':Nat→Option (Nat × Nat)}:∀(r n:Nat),(∀y∈allA A r n,E y=E' y)→wrd A E r n=wrd A E' r n
 | 0,n,_=>rfl
 | r+1,n,h=>by
  cases hs:A n with
  | none=>unfold wrd;rw [hs]
  | some s =>
   rw [allA_some hs] at h
   rw [wrd_some hs,wrd_some hs]
   have e1:eN E n=eN E' n:=by unfold eN;rw [h n (by simp)]
   rw [e1,flat_congr fun y hy=>wrd_congr r y fun z hz=>h z (List.mem_cons_of_mem _ (List.mem_flatMap.2 ⟨y,hy,hz⟩))]
theorem flat_len2 {f h:Nat→List Nat}:∀{l:List Nat},(∀y∈l,(f y).length=2*(h y).length)→(l.flatMap f).length=2*(l.flatMap h).length
 | [],_=>rfl
 | y :: l,k=>by
  rw [List.flatMap_cons,List.flatMap_cons,List.length_append,List.length_append,k y (by simp),flat_len2 fun z hz=>k z (by simp [hz])];omega
theorem wrd_len {A:Nat→Option Sl}{E:Nat→Option (Nat × Nat)}{roots loose:List Nat} (hA:WfA A roots loose):∀(r n c:Nat) {s:Sl},A n=some s→Ch A n c→65≤c+r→(wrd A E r n).length=2*(allA A r n).length:=by
 intro r
 induction r with
 | zero =>
  intro n c s hs hc hr
  obtain⟨c',h1,h2⟩:=hA.chain n s hs
  have:=hc.fn h2;omega
 | succ r ih =>
  intro n c s hs hc hr
  rw [wrd_some hs,allA_some hs,List.length_append,List.length_cons,List.length_cons,flat_len2 (h:=allA A r) fun y hy=>by
   obtain⟨t,t1,t2⟩:=((hA.kid n s hs).2 y hy).2
   exact ih y (c+1) t1 (.succ (hA.ne0 t1) t1 (by rw [t2];exact hc)) (by omega)]
  simp;omega
section
variable {w w1 w2:World}{o o1 o2:Nat→Nat}{g:Nat}{ty:TypeId}{S:PS}{bs nms lbs:List Nat}{mb gv:Nat}{wr:Int}{em:Option Nat}{E:Nat→Option (Nat × Nat)}{M:Nat→Prop}{R:Ending→World→Prop}{θ:Th}{loose:List Nat}
theorem insAt_mid {a b:List Nat}{x y:Nat}{ws:List Nat}{j:Nat} (hj:j=a.length+1+ws.length):insAt (a++(x :: ws)++b) j y=a++(x :: ws++[y])++b:=by
 unfold insAt
 have hl:(a++(x :: ws)).length=j:=by simp;omega
 rw [List.take_append_of_le_length (by omega),List.drop_append_of_le_length (by omega),←hl,List.take_length,List.drop_length]
 simp
theorem EvL.mine (h:EvL w o w1 o1) (hf:Fm M w1 w2) (hm:∀b,b < w1.heap.size→M b→w.heap.size≤b):EvL w o w2 o1 :=
 ⟨⟨hf.os.trans h.fm.os,hf.tape.trans h.fm.tape,hf.output.trans h.fm.output,Nat.le_trans h.fm.size hf.size,fun b hb hn=>by
  rw [hf.block b (Nat.lt_of_lt_of_le hb h.fm.size) (fun e=>by have:=hm b (Nat.lt_of_lt_of_le hb h.fm.size) e;omega),h.fm.block b hb hn]⟩,h.same,h.old,h.new⟩
theorem tag_calls (hA:WfA (slA S.D.sl) S.D.roots []):∀(r n c:Nat) {s:Sl}{w:World}{o:Nat→Nat}{nms:List Nat}{gv:Nat}{E:Nat→Option (Nat × Nat)}{i x:Nat}{R:Ending→World→Prop},slA S.D.sl n=some s→Ch (slA S.D.sl) n c→65≤c+r →
  LX w o g ty S nms gv E→nms[i]?=some x→nms.length+2*(allA (slA S.D.sl) r n).length≤8193→gv+2*(allA (slA S.D.sl) r n).length < 9223372036854775808 →
  (∀w' o' E',LB w' o' g ty S (nms.take (i+1)++wrd (slA S.D.sl) E' r n++nms.drop (i+1)) (gv+2*(allA (slA S.D.sl) r n).length) E'→EvL w o w' o'→(∀y,y∉allA (slA S.D.sl) r n→E' y=E y)→(∀y∈allA (slA S.D.sl) r n,E' y≠none)→R (.returned (.int .u64 ((eN E' n).2:Nat))) w') →
  Calls Tryz.prog 49 #[.pointer (some ⟨g,0,none⟩),.int .u64 (n:Nat),.int .u64 (x:Nat)] w R:=by
 intro r
 induction r with
 | zero =>
  intro n c s w o nms gv E i x R hs hc hr
  obtain⟨c',h1,h2⟩:=hA.chain n s hs
  have:=hc.fn h2;omega
 | succ r ih =>
  intro n c s w o nms gv E i x R hs hc hr h hx hroom hgv hK
  have hil:=(List.getElem?_eq_some_iff.1 hx).1
  have hnd:=all_nodup hA (r+1) n ⟨s,hs⟩ (fun z hz=>by simp at hz)
  rw [allA_some hs] at hroom hgv hK hnd
  rw [List.length_cons] at hroom hgv hK
  obtain⟨hnn,hnd⟩:=List.nodup_cons.1 hnd
  refine ok49 (some ⟨g,0,none⟩) n x ?_
  unfold F49
  refine al fun g7 w1 hb1 b7 hge7=>?_
  have o7:o g7=0:=Classical.byContradiction fun e=>by have:=h.lt g7 e;omega
  simp only [NonNil_some,Addr.add_mk,Nat.zero_add]
  refine After_x (h.below hb1) (by omega) (by omega) hx fun w2 o2 h2 ev2=>⟨_,_,rfl,?_⟩
  have b72:=ev2.fm.blk b7 (fun e=>by omega)
  have o72:o2 g7=0:=ev2.old g7 b7.lt o7
  refine st_blk b72 (by simp) fun w3 b73 f3=>?_
  simp only [List.setIfInBounds_toArray,List.set_cons_zero,List.set_cons_succ] at b73
  have h3:=h2.fm f3 fun b hb e=>by have e:b=g7:=e;rw [e];exact o72
  simp only [NonNil_some,Addr.add_mk,Nat.zero_add,b73.cell,lds]
  obtain⟨tl,-,hpm⟩:=h3.x.pm
  refine Kids_calls (θ:=⟨g,ty,tl⟩) hpm hA hpm.few hs fun v w4 hb4 ov=>⟨_,_,_,_,rfl,?_⟩
  have h4:=h3.fm (M:=fun _=>False) (.below hb4) fun _ _ h=>h.elim
  have b74:=b73.keep hb4
  have hkid:∀y∈s.kids,∃t,slA S.D.sl y=some t∧t.parent=n:=fun y hy=>((hA.kid n s hs).2 y hy).2
  have hv1:v.2.1=s.kids.length:=by
   obtain⟨A,cc,hvf,_⟩:=ov.form
   rw [slvF hvf]
  have evA:EvL w o w2 o2:=(EvL.below hb1).trans ev2
  have E4:EvL w o w4 o2:=(evA.mine f3 fun b _ e=>by have e:b=g7:=e;omega).trans (EvL.below hb4)
  have hvc:∀b,rowOf (slV v)=some b→o2 b=0:=fun b hb=>Classical.byContradiction fun e=>by
   have:=h3.x.lt b e
   have:=(ov.lt b hb).1
   omega
  have hkl:∀y∈s.kids,(∃t,slA S.D.sl y=some t)∧Ch (slA S.D.sl) y (c+1):=fun y hy=>by
   obtain⟨t,t1,t2⟩:=hkid y hy
   exact⟨⟨t,t1⟩,.succ (hA.ne0 t1) t1 (by rw [t2];exact hc)⟩
  have hk4:s.kids.length≤4096:=Nat.le_trans (live_few (fun y hy=>(hkl y hy).1) (hA.kid n s hs).1) hpm.few
  have hwl:∀(E':Nat→Option (Nat × Nat)) (l:List Nat),(∀y∈l,y∈s.kids)→(l.flatMap (wrd (slA S.D.sl) E' r)).length=2*(l.flatMap (allA (slA S.D.sl) r)).length:=fun E' l hl=>flat_len2 fun y hy=>by
   obtain⟨⟨t,t1⟩,t2⟩:=hkl y (hl y hy)
   exact wrd_len hA r y (c+1) t1 t2 (by omega)
  refine⟨fun last j w'=>∃(k:Nat) (o':Nat→Nat) (E':Nat→Option (Nat × Nat)) (la:Nat),last=(la:Nat)∧j=k∧k≤s.kids.length ∧
    LB w' o' g ty S (nms.take (i+1)++((gv+1) :: (s.kids.take k).flatMap (wrd (slA S.D.sl) E' r))++nms.drop (i+1)) (gv+1+2*((s.kids.take k).flatMap (allA (slA S.D.sl) r)).length) E' ∧
    EvL w o w' o'∧(∀y,y∉(s.kids.take k).flatMap (allA (slA S.D.sl) r)→E' y=E y)∧(∀y∈(s.kids.take k).flatMap (allA (slA S.D.sl) r),E' y≠none) ∧
    Blk w' g7 #[.int .u64 (gv+1:Nat),.int .u64 0] 161∧o' g7=0∧Own LHn w' w3.heap.size 48 (slV v) s.kids∧(∀b,rowOf (slV v)=some b→o' b=0) ∧
    (nms.take (i+1)++((gv+1) :: (s.kids.take k).flatMap (wrd (slA S.D.sl) E' r))++nms.drop (i+1))[i+1+((s.kids.take k).flatMap (wrd (slA S.D.sl) E' r)).length]?=some la,fun _ j _=>s.kids.length-j.toNat,
   ⟨0,o2,E,gv+1,rfl,rfl,Nat.zero_le _,?_,E4,fun _ _=>rfl,fun y hy=>by simp at hy,b74,o72,ov,hvc,?_⟩,?_⟩
  ·have e:insAt nms (i+1) (gv+1)=nms.take (i+1)++((gv+1) :: (s.kids.take 0).flatMap (wrd (slA S.D.sl) E r))++nms.drop (i+1):=by unfold insAt;simp
   rw [e] at h4
   simpa using h4
  ·rw [List.append_assoc,List.getElem?_append_right (by simp;omega)]
   simp only [List.take_zero,List.flatMap_nil,List.length_nil,Nat.add_zero,List.length_take]
   rw [show i+1-min (i+1) nms.length=0 by omega];rfl
  rintro last j w5 ⟨k,o5,E5,la,rfl,rfl,hk,h5,ev5,q1,q2,b75,o75,ov5,ovc,hla⟩
  unfold F49_l6
  have hm5:=hwl E5 (s.kids.take k) fun y hy=>List.mem_of_mem_take hy
  have htl:(nms.take (i+1)).length=i+1:=by rw [List.length_take];omega
  refine brd (fun hlt=>?_) (fun hge=>?_)
  ·have hk2:k < s.kids.length:=by omega
   obtain⟨A,cc,hvf,hrd⟩:=ov5.form
   have e1:v.1=A:=by rw [slvF hvf]
   rw [←e1] at hrd
   refine hrd.hn hv1 rfl hk2 fun bb oo cx=>?_
   simp only [cx,lds]
   have hkm:s.kids[k]∈s.kids:=List.getElem_mem hk2
   obtain⟨⟨t,t1⟩,t2⟩:=hkl s.kids[k] hkm
   have hst:∀f:Nat→List Nat,(s.kids.take (k+1)).flatMap f=(s.kids.take k).flatMap f++f s.kids[k]:=fun f=>by
    rw [List.take_succ_eq_append_getElem hk2,List.flatMap_append];simp
   have hle:((s.kids.take (k+1)).flatMap (allA (slA S.D.sl) r)).length≤(s.kids.flatMap (allA (slA S.D.sl) r)).length:=by
    have e:s.kids.flatMap (allA (slA S.D.sl) r)=(s.kids.take (k+1)).flatMap (allA (slA S.D.sl) r)++(s.kids.drop (k+1)).flatMap (allA (slA S.D.sl) r):=by rw [←List.flatMap_append,List.take_append_drop]
    rw [e,List.length_append];omega
   have hdis:∀y∈(s.kids.take k).flatMap (allA (slA S.D.sl) r),y∉allA (slA S.D.sl) r s.kids[k]:=fun y hy hy2=>by
    have e:s.kids.flatMap (allA (slA S.D.sl) r)=(s.kids.take (k+1)).flatMap (allA (slA S.D.sl) r)++(s.kids.drop (k+1)).flatMap (allA (slA S.D.sl) r):=by rw [←List.flatMap_append,List.take_append_drop]
    rw [e,hst] at hnd
    have:=(List.nodup_append.1 hnd).1
    exact (List.nodup_append.1 this).2.2 y hy y hy2 rfl
   rw [hst,List.length_append] at hle
   have hLlen:(nms.take (i+1)++((gv+1) :: (s.kids.take k).flatMap (wrd (slA S.D.sl) E5 r))++nms.drop (i+1)).length=nms.length+1+((s.kids.take k).flatMap (wrd (slA S.D.sl) E5 r)).length:=by simp;omega
   refine ih s.kids[k] (c+1) t1 t2 (by omega) h5.x hla (by rw [hLlen,hm5];omega) (by omega) fun w6 o6 E6 h6 ev6 z1 z2=>⟨_,rfl,inR_i64 (by omega) (by omega),⟨k+1,o6,E6,_,rfl,by simp,by omega,?_,ev5.trans ev6,?_,?_,ev6.fm.blk b75 (fun e=>by omega),ev6.old g7 b75.lt o75,own_fm ov5 ev6.fm fun b hb e=>by have:=ovc b hb;omega,fun b hb=>ev6.old b (ov5.lt b hb).2 (ovc b hb),?_⟩,(by first | omega | (dsimp only;omega))⟩
   ·have hcg:(s.kids.take k).flatMap (wrd (slA S.D.sl) E5 r)=(s.kids.take k).flatMap (wrd (slA S.D.sl) E6 r):=flat_congr fun y hy=>wrd_congr r y fun z hz=>(z1 z (hdis z (List.mem_flatMap.2 ⟨y,hy,hz⟩))).symm
    rw [hst,hst,←hcg]
    have e1:(nms.take (i+1)++((gv+1) :: (s.kids.take k).flatMap (wrd (slA S.D.sl) E5 r))).length=i+1+((s.kids.take k).flatMap (wrd (slA S.D.sl) E5 r)).length+1:=by rw [List.length_append,htl,List.length_cons];omega
    rw [List.take_left' e1,List.drop_left' e1] at h6
    have e2:nms.take (i+1)++((gv+1) :: (s.kids.take k).flatMap (wrd (slA S.D.sl) E5 r))++wrd (slA S.D.sl) E6 r s.kids[k]++nms.drop (i+1)=nms.take (i+1)++((gv+1) :: ((s.kids.take k).flatMap (wrd (slA S.D.sl) E5 r)++wrd (slA S.D.sl) E6 r s.kids[k]))++nms.drop (i+1):=by simp
    rw [e2] at h6
    have e3:gv+1+2*((s.kids.take k).flatMap (allA (slA S.D.sl) r)).length+2*(allA (slA S.D.sl) r s.kids[k]).length=gv+1+2*((s.kids.take k).flatMap (allA (slA S.D.sl) r)++allA (slA S.D.sl) r s.kids[k]).length:=by rw [List.length_append];omega
    rw [e3] at h6
    exact h6
   ·intro y hy
    rw [hst,List.mem_append,not_or] at hy
    rw [z1 y hy.2];exact q1 y hy.1
   ·intro y hy
    rw [hst,List.mem_append] at hy
    rcases hy with hy | hy
    ·rw [z1 y (hdis y hy)];exact q2 y hy
    ·exact z2 y hy
   ·obtain⟨c',d1,d2⟩:=hA.chain _ t t1
    have:=t2.fn d2
    obtain⟨r',rfl⟩:∃r',r=r'+1:=⟨r-1,by omega⟩
    rw [hst,wrd_some (E:=E6) t1]
    generalize (s.kids.take k).flatMap (wrd (slA S.D.sl) E6 (r'+1))=ws
    generalize t.kids.flatMap (wrd (slA S.D.sl) E6 r')=xs
    have e1:nms.take (i+1)++(gv+1) :: (ws++((eN E6 s.kids[k]).1 :: xs++[(eN E6 s.kids[k]).2]))++nms.drop (i+1)=(nms.take (i+1)++(gv+1) :: (ws++((eN E6 s.kids[k]).1 :: xs)))++((eN E6 s.kids[k]).2 :: nms.drop (i+1)):=by simp
    rw [e1,List.getElem?_append_right (by simp only [List.length_append,List.length_cons,List.length_nil,htl];omega)]
    simp only [List.length_append,List.length_cons,List.length_nil,htl]
    rw [show i+1+(ws.length+(xs.length+1+(0+1)))-(i+1+(ws.length+(xs.length+1)+1))=0 by omega]
    rfl
  ·have hk2:k=s.kids.length:=by omega
   subst hk2
   rw [List.take_length] at h5 q1 q2 hla hm5
   have hLlen:(nms.take (i+1)++((gv+1) :: s.kids.flatMap (wrd (slA S.D.sl) E5 r))++nms.drop (i+1)).length=nms.length+1+(s.kids.flatMap (wrd (slA S.D.sl) E5 r)).length:=by simp;omega
   simp only [NonNil_some,Addr.add_mk,Nat.zero_add]
   refine After_x h5.x (by rw [hLlen,hm5];omega) (by omega) hla fun w6 o6 h6 ev6=>⟨_,_,rfl,?_⟩
   rw [insAt_mid (by rw [htl];omega)] at h6
   have b76:=ev6.fm.blk b75 (fun e=>by omega)
   have o76:=ev6.old g7 b75.lt o75
   refine st_blk b76 (by simp) fun w7 b77 f7=>?_
   simp only [List.setIfInBounds_toArray,List.set_cons_zero,List.set_cons_succ] at b77
   have h7:=h6.fm f7 fun b hb e=>by have e:b=g7:=e;rw [e];exact o76
   have ev7:EvL w o w7 o6:=(ev5.trans ev6).mine f7 fun b _ e=>by have e:b=g7:=e;omega
   refine⟨fun w'=>∃o' bs lbs mb wr eb,LM w' o' g ty S bs (nms.take (i+1)++((gv+1) :: s.kids.flatMap (wrd (slA S.D.sl) E5 r)++[gv+1+2*(s.kids.flatMap (allA (slA S.D.sl) r)).length+1])++nms.drop (i+1)) lbs mb (gv+1+2*(s.kids.flatMap (allA (slA S.D.sl) r)).length+1) wr (some eb) E5∧EvL w o w' o'∧o' g7=0∧Blk w' g7 #[.int .u64 (gv+1:Nat),.int .u64 (gv+1+2*(s.kids.flatMap (allA (slA S.D.sl) r)).length+1:Nat)] 161,?_,?_⟩
   ·rintro w8 ⟨o8,bs8,lbs8,mb8,wr8,eb,h8,ev8,o78,b78⟩
    unfold F49_j13
    have hdr:Below w8.heap.size w8 w8.drew:=(Below.refl _ _).drew
    obtain⟨nv,rv,hd⟩:=h8.pm.doc
    have cm:w8.cell? ⟨g,9,none⟩=some (.map (some eb)):=by rw [hd.blk.cell];rfl
    refine⟨fun w'=>Below w8.heap.size w8 w',hdr,?_⟩
    simp only [NonNil_some,Addr.add_mk,Nat.zero_add]
    refine⟨_,fun w' hw=>(sub_below hw).cell cm,?_⟩
    refine⟨_,fun w' hw=>by rw [(b78.keep hw).cell];rfl,?_⟩
    refine⟨_,fun w' hw=>by rw [(b78.keep hw).cell];rfl,?_⟩
    have h8d:=h8.below hdr
    obtain⟨e1,e2⟩:=h8d.e
    refine e2.update mapTypeE keyTypeE (n:Nat) _ fun w9 mp9 f9=>?_
    have hmu:mpE (updE E5 n (some (gv+1,gv+1+2*(s.kids.flatMap (allA (slA S.D.sl) r)).length+1)))=upd (mpE E5) (n:Nat) (some (.agg #[.int .u64 (gv+1:Nat),.int .u64 (gv+1+2*(s.kids.flatMap (allA (slA S.D.sl) r)).length+1:Nat)])):=mpE_upd
    obtain⟨h9,ev9⟩:=h8d.setE f9 (by rw [hmu];exact mp9)
    have hne:g7≠eb:=fun e=>by rw [e,e1] at o78;omega
    have b79:=f9.blk (b78.keep hdr) hne
    simp only [b79.cell,lds]
    have hsame:∀y,y≠n→updE E5 n (some (gv+1,gv+1+2*(s.kids.flatMap (allA (slA S.D.sl) r)).length+1)) y=E5 y:=fun y hy=>by unfold updE;rw [if_neg hy]
    have hself:updE E5 n (some (gv+1,gv+1+2*(s.kids.flatMap (allA (slA S.D.sl) r)).length+1)) n=some (gv+1,gv+1+2*(s.kids.flatMap (allA (slA S.D.sl) r)).length+1):=by unfold updE;rw [if_pos rfl]
    have hcg:s.kids.flatMap (wrd (slA S.D.sl) E5 r)=s.kids.flatMap (wrd (slA S.D.sl) (updE E5 n (some (gv+1,gv+1+2*(s.kids.flatMap (allA (slA S.D.sl) r)).length+1))) r):=flat_congr fun y hy=>wrd_congr r y fun z hz=>(hsame z (fun e=>by subst e;exact hnn (List.mem_flatMap.2 ⟨y,hy,hz⟩))).symm
    have hen:eN (updE E5 n (some (gv+1,gv+1+2*(s.kids.flatMap (allA (slA S.D.sl) r)).length+1))) n=(gv+1,gv+1+2*(s.kids.flatMap (allA (slA S.D.sl) r)).length+1):=by unfold eN;rw [hself];rfl
    have:=hK w9 o8 (updE E5 n (some (gv+1,gv+1+2*(s.kids.flatMap (allA (slA S.D.sl) r)).length+1))) ?_ ((ev8.trans (EvL.below hdr)).trans ev9) (fun y hy=>?_) (fun y hy=>?_)
    ·rw [hen] at this;exact this
    ·rw [wrd_some hs,hen,←hcg,show gv+2*((s.kids.flatMap (allA (slA S.D.sl) r)).length+1)=gv+1+2*(s.kids.flatMap (allA (slA S.D.sl) r)).length+1 by omega]
     exact⟨bs8,lbs8,mb8,wr8,some eb,h9⟩
    ·rw [List.mem_cons,not_or] at hy
     rw [hsame y hy.1];exact q1 y hy.2
    ·rcases List.mem_cons.1 hy with rfl | hy
     ·rw [hself];simp
     ·by_cases e:y=n
      ·rw [e,hself];simp
      ·rw [hsame y e];exact q2 y hy
   ·obtain⟨bs7,lbs7,mb7,wr7,em7,h7⟩:=h7
    obtain⟨nv,rv,hd⟩:=h7.pm.doc
    have cm:w7.cell? ⟨g,9,none⟩=some (.map em7):=by rw [hd.blk.cell];rfl
    simp only [NonNil_some,Addr.add_mk,Nat.zero_add,cm,lds]
    cases em7 with
    | none =>
     simp only [Option.isNone_none,Br_t]
     refine h7.made fun w8 o8 eb h8 ev8=>⟨o8,bs7,lbs7,mb7,wr7,eb,h8,ev7.trans ev8,ev8.old g7 b77.lt o76,ev8.fm.blk b77 (fun e=>by omega)⟩
    | some eb =>
     simp only [Option.isNone_some,Br_f]
     exact⟨o6,bs7,lbs7,mb7,wr7,eb,h7,ev7,o76,b77⟩
end
set_option maxRecDepth 100000
def aheadF (D:Im) (E:Nat→Option (Nat × Nat)) (n:Nat):Nat:=match slA D.sl n with
 | some s=>if (lstI D s.parent).idxOf n=0 then (eN E s.parent).1 else (eN E ((lstI D s.parent).getD ((lstI D s.parent).idxOf n-1) 0)).2
 | none=>0
section
variable {w w1 w2:World}{o o1 o2:Nat→Nat}{g:Nat}{ty:TypeId}{S:PS}{bs nms lbs:List Nat}{mb gv:Nat}{wr:Int}{em:Option Nat}{E:Nat→Option (Nat × Nat)}{M:Nat→Prop}{R:Ending→World→Prop}{θ:Th}{loose:List Nat}
theorem ahead_calls (h:LX w o g ty S nms gv E) (hA:WfA (slA S.D.sl) S.D.roots []) {n:Nat}{s:Sl} (hn:slA S.D.sl n=some s) (hK:∀w',Below w.heap.size w w'→R (.returned (.int .u64 (aheadF S.D E n:Nat))) w') :
  Calls Tryz.prog 50 #[.pointer (some ⟨g,0,none⟩),.int .u64 (n:Nat)] w R:=by
 refine ok50 (some ⟨g,0,none⟩) n ?_
 unfold F50
 obtain⟨tl,-,hpm⟩:=h.pm
 have hfew:=hpm.few
 rw [NonNil_some]
 refine Parent_calls (θ:=⟨g,ty,tl⟩) hpm hA hn fun w1 B1=>⟨_,_,rfl,?_⟩
 rw [NonNil_some]
 refine Roots_calls (θ:=⟨g,ty,tl⟩) (hpm.below B1) hA fun v w2 hb2 ov=>⟨_,_,_,rfl,?_⟩
 have B2:=btr B1 B1.size hb2
 have hpar:=hA.par n s hn
 have hmem:n∈lstI S.D s.parent:=hA.mem n s hn (by simp)
 have hahead:aheadF S.D E n=if (lstI S.D s.parent).idxOf n=0 then (eN E s.parent).1 else (eN E ((lstI S.D s.parent).getD ((lstI S.D s.parent).idxOf n-1) 0)).2:=by unfold aheadF;rw [hn]
 have hlf:(lstI S.D s.parent).length≤4096:=Nat.le_trans (live_few (fun y hy=>by obtain⟨_,t,ht,_⟩:=(hA.lst s.parent).2 y hy;exact⟨t,ht⟩) (hA.lst s.parent).1) hfew
 refine⟨fun A N C w'=>Below w.heap.size w w'∧∃B,Own LHn w' B 48 (.slice A N C) (lstI S.D s.parent),?_,?_⟩
 rotate_left
 ·refine brn (fun h0=>?_) (fun h0=>⟨B2,w1.heap.size,?_⟩)
  ·obtain⟨t,ht,_⟩:=hpar.resolve_left (by omega)
   rw [NonNil_some]
   refine Kids_calls (θ:=⟨g,ty,tl⟩) (hpm.below B2) hA hfew ht fun v' w3 hb3 ov3=>⟨_,_,_,_,rfl,btr B2 B2.size hb3,w2.heap.size,?_⟩
   have:lstI S.D s.parent=t.kids:=by unfold lstI;exact lstA_some (by omega) ht
   rw [this];exact ov3
  ·have:lstI S.D s.parent=S.D.roots:=by rw [show s.parent=0 by omega];unfold lstI;exact lstA_zero
   rw [this];exact ov
 rintro A N C w3 ⟨B3,B,ov3⟩
 unfold F50_j5
 obtain⟨em,cm,he⟩:=(h.below B3).emc
 simp only [NonNil_some,Addr.add_mk,Nat.zero_add,cm,lds]
 refine lookE he s.parent ⟨_,_,rfl,?_⟩
 obtain⟨A',c',hvf,hrd⟩:=ov3.form
 cases hvf
 generalize lstI S.D s.parent=l at *
 have hlt:=List.idxOf_lt_length_iff.2 hmem
 refine⟨fun t w'=>w'=w3∧t=(aheadF S.D E n:Nat),?_,?_⟩
 ·rintro t _ ⟨rfl,rfl⟩
  unfold F50_j12
  exact hK _ B3
 refine⟨fun t j w'=>w'=w3∧∃k:Nat,j=k∧k≤l.idxOf n∧t=((if k=0 then (eN E s.parent).1 else (eN E (l.getD (k-1) 0)).2:Nat):Int),fun _ j _=>l.length-j.toNat,⟨rfl,0,rfl,Nat.zero_le _,by rw [if_pos rfl]⟩,?_⟩
 rintro t j _ ⟨rfl,k,rfl,hk,rfl⟩
 unfold F50_l7
 refine brd (fun h1=>?_) (fun h1=>absurd (by omega) h1)
 have hkl:k < l.length:=by omega
 refine hrd.hn rfl rfl hkl fun bb oo cx=>?_
 simp only [cx,lds]
 refine bre (fun h2=>?_) (fun h2=>?_)
 ·have h2:l[k]=n:=by omega
  have h3:l.idxOf n=k:=by
   have h4:¬k < l.idxOf n:=fun h5=>by
    have:=List.not_of_lt_findIdx (p:=fun y=>y == n) (xs:=l) h5
    rw [h2] at this;simp at this
   omega
  exact⟨by trivial,by rw [hahead,h3]⟩
 ·have h3:k≠l.idxOf n:=fun e=>h2 (by
   have:=List.getElem_idxOf hlt
   subst e;rw [this])
  simp only [NonNil_some,Addr.add_mk,Nat.zero_add,cm,lds]
  refine lookE he l[k] ⟨_,_,rfl,inR_i64 (by omega) (by omega),⟨by trivial,k+1,by omega,by omega,?_⟩,(by first | omega | (dsimp only;omega))⟩
  rw [if_neg (by omega),Nat.add_sub_cancel,List.getD_eq_getElem?_getD,List.getElem?_eq_getElem hkl];rfl
end
set_option maxRecDepth 100000
section
variable {w w1 w2:World}{o o1 o2:Nat→Nat}{g:Nat}{ty:TypeId}{S:PS}{bs nms lbs:List Nat}{mb gv:Nat}{wr:Int}{em:Option Nat}{E:Nat→Option (Nat × Nat)}{M:Nat→Prop}{R:Ending→World→Prop}{θ:Th}{loose:List Nat}
end
set_option maxRecDepth 100000
section
variable {A B:Nat→Option Sl}{E E':Nat→Option (Nat × Nat)}{roots loose:List Nat}
theorem wrd_congr2 (hA:WfA A roots loose):∀(r z:Nat) {s:Sl},A z=some s→(∀y∈allA A r z,B y=A y∧E' y=E y)→wrd B E' r z=wrd A E r z
 | 0,z,s,_,_=>rfl
 | r+1,z,s,hz,h=>by
  rw [allA_some hz] at h
  have h1:=h z (by simp)
  have hz':B z=some s:=by rw [h1.1];exact hz
  rw [wrd_some hz,wrd_some hz']
  have e1:eN E' z=eN E z:=by unfold eN;rw [h1.2]
  rw [e1,flat_congr fun y hy=>?_]
  obtain⟨t,ht,_⟩:=((hA.kid z s hz).2 y hy).2
  exact wrd_congr2 hA r y ht fun x hx=>h x (List.mem_cons_of_mem _ (List.mem_flatMap.2 ⟨y,hy,hx⟩))
theorem wrd_fuel (hA:WfA A roots loose):∀(r x c:Nat) {s:Sl},A x=some s→Ch A x c→65≤c+r→∀r',r≤r'→wrd A E r x=wrd A E r' x:=by
 intro r
 induction r with
 | zero =>
  intro x c s hx hc hr
  obtain⟨c',h1,h2⟩:=hA.chain x s hx
  have:=hc.fn h2;omega
 | succ r ih =>
  intro x c s hx hc hr r' hr'
  obtain ⟨r'', rfl⟩ : ∃ r'', r' = r'' + 1 := ⟨r' - 1, by omega⟩
  rw [wrd_some hx,wrd_some hx,flat_congr fun y hy=>?_]
  obtain⟨t,t1,t2⟩:=((hA.kid x s hx).2 y hy).2
  exact ih y (c + 1) t1 (.succ (hA.ne0 t1) t1 (by rw [t2]; exact hc)) (by omega) r'' (by omega)
theorem wrd_last {r y:Nat}{s:Sl} (hy:A y=some s):(wrd A E (r+1) y).getLast?=some (eN E y).2:=by
 rw [wrd_some hy,List.getLast?_append];rfl
theorem split_at {f f':Nat→List Nat}{l:List Nat}{n:Nat} (hn:n∈l) (hd:l.Nodup) (hf:∀y∈l,y≠n→f' y=f y) :
  l.flatMap f=(l.take (l.idxOf n)).flatMap f++f n++(l.drop (l.idxOf n+1)).flatMap f∧(l.erase n).flatMap f'=(l.take (l.idxOf n)).flatMap f++(l.drop (l.idxOf n+1)).flatMap f:=by
 have hlt:=List.idxOf_lt_length_iff.2 hn
 have hg:=List.getElem_idxOf hlt
 have e:l=l.take (l.idxOf n)++n :: l.drop (l.idxOf n+1):=by
  conv=>lhs;rw [←List.take_append_drop (l.idxOf n) l,List.drop_eq_getElem_cons hlt,hg]
 constructor
 ·conv=>lhs;rw [e]
  rw [List.flatMap_append,List.flatMap_cons,List.append_assoc]
 ·have e2:(l.erase n).flatMap f'=(l.erase n).flatMap f:=flat_congr fun y hy=>hf y (List.mem_of_mem_erase hy) fun e=>by
   subst e;exact hd.not_mem_erase hy
  rw [e2,←take_drop_erase hn,List.flatMap_append]
def Slot (A B:Nat→Option Sl) (E E':Nat→Option (Nat × Nat)) (wn:List Nat) (ah:Nat) (a b:List Nat):Prop:=∃X Y,a=X++wn++Y∧b=X++Y∧X.getLast?=some ah
theorem Slot.up {wn a b:List Nat}{ah:Nat} (h:Slot A B E E' wn ah a b) (P Q:List Nat):Slot A B E E' wn ah (P++a++Q) (P++b++Q):=by
 obtain⟨X,Y,rfl,rfl,h3⟩:=h
 refine⟨P++X,Y++Q,by simp,by simp,?_⟩
 rw [List.getLast?_append,h3];rfl
end
section
variable {D:Im}{E E':Nat→Option (Nat × Nat)}
theorem slot_list {A B:Nat→Option Sl}{wn:List Nat}{ah y:Nat}{f f':Nat→List Nat}{l:List Nat} (hy:y∈l) (hd:l.Nodup) (hs:Slot A B E E' wn ah (f y) (f' y)) (hf:∀z∈l,z≠y→f' z=f z):Slot A B E E' wn ah (l.flatMap f) (l.flatMap f'):=by
 have hlt:=List.idxOf_lt_length_iff.2 hy
 have hg:=List.getElem_idxOf hlt
 have e:l=l.take (l.idxOf y)++y :: l.drop (l.idxOf y+1):=by
  conv=>lhs;rw [←List.take_append_drop (l.idxOf y) l,List.drop_eq_getElem_cons hlt,hg]
 have hnd:=hd
 rw [e] at hnd
 obtain⟨n1,n2,n3⟩:=List.nodup_append.1 hnd
 obtain⟨n4,n5⟩:=List.nodup_cons.1 n2
 have e1:(l.take (l.idxOf y)).flatMap f'=(l.take (l.idxOf y)).flatMap f:=flat_congr fun z hz=>hf z (List.mem_of_mem_take hz) fun e=>n3 z hz y (by simp) e
 have e2:(l.drop (l.idxOf y+1)).flatMap f'=(l.drop (l.idxOf y+1)).flatMap f:=flat_congr fun z hz=>hf z (List.mem_of_mem_drop hz) fun e=>by subst e;exact n4 hz
 have a1:l.flatMap f=(l.take (l.idxOf y)).flatMap f++f y++(l.drop (l.idxOf y+1)).flatMap f:=by
  conv=>lhs;rw [e]
  rw [List.flatMap_append,List.flatMap_cons,List.append_assoc]
 have a2:l.flatMap f'=(l.take (l.idxOf y)).flatMap f++f' y++(l.drop (l.idxOf y+1)).flatMap f:=by
  conv=>lhs;rw [e]
  rw [List.flatMap_append,List.flatMap_cons,←List.append_assoc,e1,e2]
 rw [a1,a2]
 exact hs.up _ _
end
set_option maxRecDepth 100000
section
variable {A B:Nat→Option Sl}{E E':Nat→Option (Nat × Nat)}{roots:List Nat}
theorem Wi.tr {a b c:Nat} (h1:Wi A a b) (h2:Wi A b c):Wi A a c:=by
 induction h2 with
 | self=>exact h1
 | up hs _ ih=>exact .up hs ih
theorem wi_sib (h0:A 0=none) {z n y c:Nat} (hz:Ch A z c) (hn:Ch A n c) (h1:Wi A z y) (h2:Wi A n y):z=n:=by
 obtain⟨d1,e1⟩:=h1.de
 obtain⟨d2,e2⟩:=h2.de
 have c1:=e1.ch h0 hz
 have c2:=e2.ch h0 hn
 have:=c1.fn c2
 have:d1=d2:=by omega
 subst this
 exact e1.fn e2
theorem all_wi (hA:WfA A roots []) {r x y:Nat}{s:Sl} (hx:A x=some s) (hy:y∈allA A r x):Wi A x y:=by
 obtain⟨d,_,hd⟩:=(mem_allA hA r x y ⟨s,hx⟩ (fun z hz=>by simp at hz)).1 hy
 exact hd.wi
theorem last_flat {f:Nat→List Nat}{h:Nat→Nat}{b:Nat}{l:List Nat}:∀(k:Nat),k≤l.length→(∀y∈l,(f y).getLast?=some (h y))→(b :: (l.take k).flatMap f).getLast?=some (if k=0 then b else h (l.getD (k-1) 0))
 | 0,_,_=>by simp
 | k+1,hk,hf=>by
  have hk2:k < l.length:=by omega
  rw [List.take_succ_eq_append_getElem hk2,List.flatMap_append,←List.cons_append,List.getLast?_append]
  have:(([l[k]]:List Nat).flatMap f).getLast?=some (h l[k]):=by simp [hf l[k] (List.getElem_mem hk2)]
  rw [this,if_neg (by omega),Nat.add_sub_cancel,List.getD_eq_getElem?_getD,List.getElem?_eq_getElem hk2];rfl
theorem up_root (hA:WfA A roots []) {n p:Nat}{s:Sl} (hn:A n=some s) (hp:s.parent=p) (hB:∀y,y≠p→B y=A y) (hE:∀y,¬Wi A n y→E' y=E y) {wn:List Nat}{ah:Nat} :
  ∀(c y r:Nat) {t:Sl},A y=some t→Ch A y c→Wi A y p→r+c=66→Slot A B E E' wn ah (wrd A E' r y) (wrd B E r y)→Slot A B E E' wn ah (0 :: roots.flatMap (wrd A E' 65)) (0 :: roots.flatMap (wrd B E 65))
 | 0,y,r,t,hy,hc,_,_,_=>by cases hc;exact absurd rfl (hA.ne0 hy)
 | c+1,y,r,t,hy,hc,hw,hr,hs=>by
  have hyn:Wi A y n:=.up hn (by rw [hp];exact hw)
  have hch':Ch A t.parent c:=by
   cases hc with
   | succ h0 ha h3=>rw [hy] at ha;cases ha;exact h3
  have hmem:=hA.mem y t hy (by simp)
  have hcong:∀(l:List Nat),(∀z∈l,∃u,A z=some u∧Ch A z (c+1))→∀r',∀z∈l,z≠y→wrd B E r' z=wrd A E' r' z:=fun l hl r' z hz hzy=>by
   obtain⟨u,u1,u2⟩:=hl z hz
   refine wrd_congr2 hA r' z u1 fun x hx=>?_
   have hwx:=all_wi hA u1 hx
   refine⟨hB x fun e=>?_,(hE x fun e=>?_).symm⟩
   ·subst e;exact hzy (wi_sib hA.zero u2 hc hwx hw)
   ·exact hzy (wi_sib hA.zero u2 hc hwx (hyn.tr e))
  rcases hA.par y t hy with h0 | ⟨u,hu,_⟩
  ·rw [h0] at hch' hmem
   have hc0:c=0:=hch'.fn .zero
   subst hc0
   have hr65:r=65:=by omega
   subst hr65
   rw [lstA_zero] at hmem
   have:=slot_list hmem hA.root.1 hs (hcong roots (fun z hz=>by
    obtain⟨_,u,u1,u2⟩:=hA.root.2 z hz
    exact⟨u,u1,.succ (hA.ne0 u1) u1 (by rw [u2];exact .zero)⟩) 65)
   have:=this.up [0] []
   simpa using this
  ·have hq0:=hA.ne0 hu
   rw [lstA_some hq0 hu] at hmem
   have hqp:t.parent≠p:=fun e=>by
    rw [←e] at hw
    exact wi_par hA hy hw
   have hBq:B t.parent=some u:=by rw [hB _ hqp];exact hu
   have hEq:E' t.parent=E t.parent:=hE _ fun e=>by
    have:=hyn.tr e
    exact wi_par hA hy this
   refine up_root hA hn hp hB hE c t.parent (r+1) hu hch' (.tr (.up hy .self) hw) (by omega) ?_
   rw [wrd_some hu,wrd_some hBq]
   have e1:eN E' t.parent=eN E t.parent:=by unfold eN;rw [hEq]
   rw [e1]
   have:=slot_list hmem (hA.kid _ u hu).1 hs (hcong u.kids (fun z hz=>by
    obtain⟨_,x,x1,x2⟩:=(hA.kid _ u hu).2 z hz
    exact⟨x,x1,.succ (hA.ne0 x1) x1 (by rw [x2];exact hch')⟩) r)
   exact this.up [(eN E t.parent).1] [(eN E t.parent).2]
theorem attach (hA:WfA A roots []) {n:Nat}{s:Sl} (hn:A n=some s) (hE0:E 0=none) (hE:∀y,¬Wi A n y→E' y=E y) :
  Slot A (setA A s.parent ((lstA A roots s.parent).erase n)) E E' (wrd A E' 65 n) (if (lstA A roots s.parent).idxOf n=0 then (eN E s.parent).1 else (eN E ((lstA A roots s.parent).getD ((lstA A roots s.parent).idxOf n-1) 0)).2)
   (0 :: roots.flatMap (wrd A E' 65)) (0 :: (setR roots s.parent ((lstA A roots s.parent).erase n)).flatMap (wrd (setA A s.parent ((lstA A roots s.parent).erase n)) E 65)):=by
 have hmem:=hA.mem n s hn (by simp)
 obtain⟨hnd,hall⟩:=hA.lst s.parent
 obtain⟨cn,cn1,cn2⟩:=hA.chain n s hn
 obtain⟨cp,hcn,hcp⟩:∃cp,cn=cp+1∧Ch A s.parent cp:=by
  cases cn2 with
  | zero=>exact absurd rfl (hA.ne0 hn)
  | succ h0 ha h3=>rw [hn] at ha;cases ha;exact⟨_,rfl,h3⟩
 subst hcn
 have hch:∀z∈lstA A roots s.parent,∃u,A z=some u∧u.parent=s.parent∧Ch A z (cp+1):=fun z hz=>by
  obtain⟨_,u,u1,u2⟩:=hall z hz
  exact⟨u,u1,u2,.succ (hA.ne0 u1) u1 (by rw [u2];exact hcp)⟩
 generalize hL:lstA A roots s.parent=l at *
 have hB:∀y,y≠s.parent∨s.parent=0→setA A s.parent (l.erase n) y=A y:=fun y hy=>by
  unfold setA
  rw [if_neg (fun e=>by rcases hy with h | h;exact h e.1;exact e.2 h)]
 have hEl:∀z∈l,z≠n→E' z=E z:=fun z hz hzn=>hE z fun e=>by
  obtain⟨u,u1,u2,u3⟩:=hch z hz
  exact hzn (wi_sib hA.zero u3 cn2 .self e)
 have hcong:∀r,∀z∈l,z≠n→wrd (setA A s.parent (l.erase n)) E r z=wrd A E' r z:=fun r z hz hzn=>by
  obtain⟨u,u1,u2,u3⟩:=hch z hz
  refine wrd_congr2 hA r z u1 fun x hx=>?_
  have hwx:=all_wi hA u1 hx
  refine⟨hB x (.inl fun e=>?_),(hE x fun e=>hzn (wi_sib hA.zero u3 cn2 hwx e)).symm⟩
  subst e
  rw [←u2] at hwx
  exact wi_par hA u1 hwx
 have hlt:=List.idxOf_lt_length_iff.2 hmem
 have key:∀r b,(b :: (l.take (l.idxOf n)).flatMap (wrd A E' (r+1))).getLast?=some (if l.idxOf n=0 then b else (eN E (l.getD (l.idxOf n-1) 0)).2):=fun r b=>by
  rw [last_flat (h:=fun y=>(eN E' y).2) (l.idxOf n) (by omega) fun y hy=>by
   obtain⟨u,u1,_⟩:=hch y hy
   exact wrd_last u1]
  by_cases h0:l.idxOf n=0
  ·rw [if_pos h0,if_pos h0]
  ·rw [if_neg h0,if_neg h0]
   have hk:l.idxOf n-1 < l.length:=by omega
   have hg:l.getD (l.idxOf n-1) 0=l[l.idxOf n-1]:=by rw [List.getD_eq_getElem?_getD,List.getElem?_eq_getElem hk];rfl
   have hne:l[l.idxOf n-1]≠n:=fun e=>by
    have:=nd_get hnd (List.getElem?_eq_getElem hk) (show l[l.idxOf n]?=some l[l.idxOf n-1] by rw [List.getElem?_eq_getElem hlt,List.getElem_idxOf hlt,e])
    omega
   rw [hg]
   unfold eN
   rw [hEl _ (List.getElem_mem hk) hne]
 by_cases hp0:s.parent=0
 ·have hr:l=roots:=by rw [←hL,hp0,lstA_zero]
  subst hr
  obtain⟨a1,a2⟩:=split_at (f:=wrd A E' 65) (f':=wrd (setA A s.parent (l.erase n)) E 65) hmem hnd (hcong 65)
  refine⟨0 :: (l.take (l.idxOf n)).flatMap (wrd A E' 65),(l.drop (l.idxOf n+1)).flatMap (wrd A E' 65),?_,?_,?_⟩
  ·rw [a1];simp
  ·have e:setR l s.parent (l.erase n)=l.erase n:=by unfold setR;rw [if_pos hp0]
   rw [e,a2];simp
  ·have e:(eN E s.parent).1=0:=by unfold eN;rw [hp0,hE0];rfl
   rw [e];exact key 64 0
 ·obtain⟨u,hu,_⟩:=(hA.par n s hn).resolve_left hp0
  have hkids:l=u.kids:=by rw [←hL];exact lstA_some hp0 hu
  have hcp64:cp+1≤64:=cn1
  obtain⟨r,hr⟩:∃r,r+1+cp=65:=⟨64-cp,by omega⟩
  have hEp:E' s.parent=E s.parent:=hE _ (wi_par hA hn)
  have hBp:setA A s.parent (l.erase n) s.parent=some { u with kids:=l.erase n }:=by
   unfold setA
   rw [if_pos ⟨rfl,hp0⟩,hu];rfl
  have hroots:setR roots s.parent (l.erase n)=roots:=by unfold setR;rw [if_neg hp0]
  rw [hroots]
  refine up_root hA hn rfl (fun y hy=>hB y (.inl hy)) hE cp s.parent (r+1+1) hu hcp .self (by omega) ?_
  rw [wrd_some hu,wrd_some hBp]
  dsimp only
  obtain⟨a1,a2⟩:=split_at (f:=wrd A E' (r+1)) (f':=wrd (setA A s.parent (l.erase n)) E (r+1)) hmem hnd (hcong (r+1))
  have hwn:wrd A E' (r+1) n=wrd A E' 65 n:=wrd_fuel hA (r+1) n (cp+1) hn cn2 (by omega) 65 (by omega)
  rw [←hkids,a1,a2,hwn]
  have e1:eN E' s.parent=eN E s.parent:=by unfold eN;rw [hEp]
  rw [e1]
  refine⟨(eN E s.parent).1 :: (l.take (l.idxOf n)).flatMap (wrd A E' (r+1)),(l.drop (l.idxOf n+1)).flatMap (wrd A E' (r+1))++[(eN E s.parent).2],by simp,by simp,key r _⟩
end
set_option maxRecDepth 100000
section
variable {w w1 w2:World}{o o1 o2:Nat→Nat}{g:Nat}{ty:TypeId}{S:PS}{bs nms lbs:List Nat}{mb gv:Nat}{wr:Int}{em:Option Nat}{E:Nat→Option (Nat × Nat)}{M:Nat→Prop}{R:Ending→World→Prop}{θ:Th}
theorem LX.tree (h:LX w o g ty S nms gv E):∃tl,PM w o ⟨g,ty,tl⟩ S∧∀w' o' S',PM w' o' ⟨g,ty,tl⟩ S'→EvP w o w' o'→LX w' o' g ty S' nms gv E:=by
 rcases h with ⟨bs,lbs,mb,wr,em,h⟩ | ⟨h,h2⟩
 ·refine⟨_,h.pm,fun w' o' S' hp ev=>.inl ⟨bs,lbs,mb,wr,em,hp,?_,h.i,h.len,?_⟩⟩
  ·have hn:∀b,(o b=4∨o b=5)→¬pc (o b):=fun b hb hp=>by unfold pc at hp;omega
   have hr:=h.r.fm ev.fm hn
   exact⟨hr.blk,fun b hb=>by rw [ev.same b (by rw [hr.col b hb];decide)];exact hr.col b hb,hr.nd,hr.mp,by rw [ev.same mb (by rw [hr.mcol];decide)];exact hr.mcol⟩
  ·exact h.e.fm ev.fm (fun b hb hp=>by unfold pc at hp;omega) ev.same
 ·exact⟨_,h.pm,fun w' o' S' hp ev=>.inr ⟨⟨hp⟩,h2⟩⟩
end
section
variable {A:Nat→Option Sl}{roots:List Nat}{D:Im}{E E':Nat→Option (Nat × Nat)}
theorem rootsAll_nodup (hA:WfA A roots []):(roots.flatMap (allA A 65)).Nodup:=by
 have hr:∀z∈roots,∃u,A z=some u∧Ch A z 1:=fun z hz=>by
  obtain⟨_,u,u1,u2⟩:=hA.root.2 z hz
  exact⟨u,u1,.succ (hA.ne0 u1) u1 (by rw [u2];exact .zero)⟩
 refine flatMap_nodup _ _ hA.root.1 (fun z hz=>?_) fun a ha b hb hab y hy hy2=>?_
 ·obtain⟨u,u1,_⟩:=hr z hz
  exact all_nodup hA 65 z ⟨u,u1⟩ fun z hz=>by simp at hz
 ·obtain⟨u,u1,u2⟩:=hr a ha
  obtain⟨v,v1,v2⟩:=hr b hb
  exact hab (wi_sib hA.zero u2 v2 (all_wi hA u1 hy) (all_wi hA v1 hy2))
theorem mem_roots (hA:WfA A roots []):∀(c y:Nat) {s:Sl},A y=some s→Ch A y c→∃z∈roots,Wi A z y
 | 0,y,s,hy,hc=>by cases hc;exact absurd rfl (hA.ne0 hy)
 | c+1,y,s,hy,hc=>by
  have hmem:=hA.mem y s hy (by simp)
  rcases hA.par y s hy with h0 | ⟨u,hu,_⟩
  ·rw [h0,lstA_zero] at hmem
   exact⟨y,hmem,.self⟩
  ·have hch:Ch A s.parent c:=by
    cases hc with
    | succ _ ha h3=>rw [hy] at ha;cases ha;exact h3
   obtain⟨z,hz,hw⟩:=mem_roots hA c s.parent hu hch
   exact⟨z,hz,.up hy hw⟩
theorem mem_all_roots (hA:WfA A roots []) {y:Nat}:y∈roots.flatMap (allA A 65)↔∃s,A y=some s:=by
 constructor
 ·intro h
  obtain⟨z,hz,hy⟩:=List.mem_flatMap.1 h
  obtain⟨_,u,u1,u2⟩:=hA.root.2 z hz
  exact all_live hA ⟨u,u1⟩ (fun z hz=>by simp at hz) hy
 ·rintro ⟨s,hs⟩
  obtain⟨c,c1,c2⟩:=hA.chain y s hs
  obtain⟨z,hz,hw⟩:=mem_roots hA c y hs c2
  obtain⟨_,u,u1,u2⟩:=hA.root.2 z hz
  exact List.mem_flatMap.2 ⟨z,hz,(mem_all hA ⟨u,u1⟩ (fun z hz=>by simp at hz) (.succ (hA.ne0 u1) u1 (by rw [u2];exact .zero)) (by omega)).2 hw⟩
end
set_option maxRecDepth 100000
section
variable {A A0:Nat→Option Sl}{roots roots0:List Nat}{D:Im}{E E':Nat→Option (Nat × Nat)}
structure Att (A0:Nat→Option Sl) (roots0:List Nat) (A:Nat→Option Sl) (roots:List Nat) (n:Nat) (s:Sl):Prop where
 w0:WfA A0 roots0 []
 w:WfA A roots []
 at_:A n=some s
 new:A0 n=none
 rt:setR roots s.parent ((lstA A roots s.parent).erase n)=roots0
 old:∀y t,A0 y=some t→setA A s.parent ((lstA A roots s.parent).erase n) y=some t
variable {n:Nat}{s:Sl}
theorem setA_live {A:Nat→Option Sl}{p y:Nat}{l:List Nat}{t:Sl} (h:setA A p l y=some t):∃u,A y=some u∧u.parent=t.parent:=by
 obtain⟨u,h1,h2⟩:=setA_some h
 refine⟨u,h1,?_⟩
 rw [h2];split <;> rfl
theorem Att.live (h:Att A0 roots0 A roots n s) {y:Nat}{t:Sl} (hy:A0 y=some t):∃u,A y=some u∧u.parent=t.parent:=setA_live (h.old y t hy)
theorem Att.apart (h:Att A0 roots0 A roots n s) {y:Nat} (hw:Wi A n y):A0 y=none:=by
 induction hw with
 | self=>exact h.new
 | @up x u hx hw ih =>
  cases ha:A0 x with
  | none=>rfl
  | some t =>
   obtain⟨u',u1,u2⟩:=h.live ha
   rw [hx] at u1;cases u1
   rcases h.w0.par x t ha with e | ⟨v,hv,_⟩
   ·exfalso
    rw [u2,e] at hw
    cases hw with
    | self=>exact h.w.ne0 h.at_ rfl
    | up h0 _=>rw [h.w.zero] at h0;cases h0
   ·rw [u2,hv] at ih;cases ih
theorem Att.split (h:Att A0 roots0 A roots n s):∀(c y:Nat) {t:Sl},Ch A y c→A y=some t→¬Wi A n y→∃u,A0 y=some u
 | 0,y,t,hc,hy,_=>by cases hc;exact absurd rfl (h.w.ne0 hy)
 | c+1,y,t,hc,hy,hw=>by
  have hmem:=h.w.mem y t hy (by simp)
  have hyn:y≠n:=fun e=>hw (by rw [e];exact .self)
  have hch:Ch A t.parent c:=by
   cases hc with
   | succ _ ha h3=>rw [hy] at ha;cases ha;exact h3
  rcases h.w.par y t hy with h0 | ⟨v,hv,_⟩
  ·rw [h0,lstA_zero] at hmem
   have:y∈roots0:=by
    rw [←h.rt]
    unfold setR
    split
    ·rename_i hp
     rw [hp,lstA_zero]
     exact (List.mem_erase_of_ne hyn).2 hmem
    ·exact hmem
   obtain⟨_,u,u1,_⟩:=h.w0.root.2 y this
   exact⟨u,u1⟩
  ·have hq0:=h.w.ne0 hv
   obtain⟨u,hu⟩:=h.split c t.parent hch hv fun e=>hw (.up hy e)
   have hB:=h.old _ u hu
   rw [lstA_some hq0 hv] at hmem
   have:y∈u.kids:=by
    unfold setA at hB
    by_cases e:t.parent=s.parent∧s.parent≠0
    ·rw [if_pos e,hv] at hB
     cases hB
     show y∈(lstA A roots s.parent).erase n
     rw [←e.1,lstA_some hq0 hv]
     exact (List.mem_erase_of_ne hyn).2 hmem
    ·rw [if_neg e,hv] at hB
     cases hB;exact hmem
   obtain⟨_,x,x1,_⟩:=(h.w0.kid _ u hu).2 y this
   exact⟨x,x1⟩
theorem Att.word (h:Att A0 roots0 A roots n s):(setR roots s.parent ((lstA A roots s.parent).erase n)).flatMap (wrd (setA A s.parent ((lstA A roots s.parent).erase n)) E 65)=roots0.flatMap (wrd A0 E 65):=by
 rw [h.rt]
 refine flat_congr fun z hz=>?_
 obtain⟨_,u,u1,_⟩:=h.w0.root.2 z hz
 refine wrd_congr2 h.w0 65 z u1 fun y hy=>⟨?_,rfl⟩
 obtain⟨t,ht⟩:=all_live h.w0 ⟨u,u1⟩ (fun z hz=>by simp at hz) hy
 rw [h.old y t ht,ht]
theorem Att.few (h:Att (slA D.sl) D.roots A roots n s) {D':Im} (hS:WfS D'.sl) (hA':A=slA D'.sl):(D.roots.flatMap (allA (slA D.sl) 65)).length+(allA A 65 n).length≤4096:=by
 rw [←List.length_append]
 refine Nat.le_trans (live_few (sl:=D'.sl) (fun y hy=>?_) (List.nodup_append.2 ⟨rootsAll_nodup h.w0,all_nodup h.w 65 n ⟨s,h.at_⟩ (fun z hz=>by simp at hz),fun y hy z hz e=>?_⟩)) hS.few
 ·rw [←hA']
  rcases List.mem_append.1 hy with hy | hy
  ·obtain⟨t,ht⟩:=(mem_all_roots h.w0).1 hy
   obtain⟨u,hu,_⟩:=h.live ht
   exact⟨u,hu⟩
  ·exact all_live h.w ⟨s,h.at_⟩ (fun z hz=>by simp at hz) hy
 ·subst e
  obtain⟨t,ht⟩:=(mem_all_roots h.w0).1 hy
  rw [h.apart (all_wi h.w h.at_ hz)] at ht;cases ht
theorem insAt_erase {l:List Nat}{k n:Nat} (hn:n∉l):(insAt l k n).erase n=l:=by
 unfold insAt
 rw [List.erase_append_right _ (fun e=>hn (List.mem_of_mem_take e)),List.erase_cons_head,List.take_append_drop]
theorem ins_att (hw:Wf D) {wh:Int}{a:Nat}{x:Tr} (h0:(insF D wh a x).2.2=0):∃s,Att (slA D.sl) D.roots (slA (insF D wh a x).1.sl) (insF D wh a x).1.roots (insF D wh a x).2.1 s:=by
 have hwf:=ins_wf hw wh a x
 unfold insF at h0 hwf ⊢
 by_cases h1:(placeF D wh a).2=1
 ·rw [if_pos h1] at h0;cases h0
 rw [if_neg h1] at h0 hwf ⊢
 by_cases h2:(lookF x 1 0).2≠0
 ·rw [if_pos h2] at h0;exact absurd h0 h2
 rw [if_neg h2] at h0 hwf ⊢
 by_cases h3:(placeF D wh a).2≠0
 ·rw [if_pos h3] at h0;exact absurd h0 h3
 rw [if_neg h3] at h0 hwf ⊢
 by_cases h4:64 < cntI D (placeF D wh a).1+dpT x
 ·rw [if_pos h4] at h0;cases h0
 rw [if_neg h4] at h0 hwf ⊢
 by_cases h5:4096 < tk D.sl+szT x
 ·rw [if_pos h5] at h0;cases h0
 rw [if_neg h5] at hwf ⊢
 obtain⟨p1,p2,p3,p4,p5,p6⟩:=place_ok hw (by simpa using h3)
 obtain⟨k1,k2,k3,k4⟩:=look_ok x 1 0 (by simpa using h2)
 obtain⟨c1,c2⟩:=hw.cnt (p1.imp id fun⟨t,h,_⟩=>⟨t,h⟩)
 have M:=make_wf x k1 hw.s hw.a p1 c2 (by omega) (by omega)
 obtain⟨st,st1,st2⟩:=M.top
 generalize placeF D wh a=pr at *
 obtain⟨p,pe⟩:=pr
 dsimp only at *
 have hne0:freshH D.sl≠0:=by unfold freshH hnd;omega
 have hpe:p=0∨∃t,slA (makeF x p D.sl) p=some t:=p1.imp id fun⟨t,ht,_⟩=>⟨t,M.ext _ _ ht⟩
 have hnp:freshH D.sl≠p:=fun e=>by
  rcases p1 with e1 | ⟨t,ht,_⟩
  ·exact hne0 (e.trans e1)
  ·rw [←e,M.new] at ht;cases ht
 have hlst:lstI { D with sl:=makeF x p D.sl } p=lstI D p:=by
  unfold lstI lstA
  by_cases h0:p=0
  ·rw [if_pos h0,if_pos h0]
  ·rw [if_neg h0,if_neg h0]
   obtain⟨t,ht,_⟩:=p1.resolve_left h0
   rw [ht]
   dsimp only
   rw [M.ext _ _ ht]
 have hnl:freshH D.sl∉lstI D p:=fun hm=>by
  obtain⟨_,t,ht,_⟩:=(hw.a.lst p).2 _ hm
  rw [M.new] at ht;cases ht
 obtain⟨X,hX⟩:∃X,X=insAt (lstI D p) (posF wh a (lstI D p)) (freshH D.sl):=⟨_,rfl⟩
 have hput:putI { D with sl:=makeF x p D.sl } (freshH D.sl) p wh a=setI { D with sl:=makeF x p D.sl } p X:=by unfold putI;rw [hlst,←hX]
 rw [hput] at hwf ⊢
 obtain⟨e1,e2⟩:=setI_A (D:={ D with sl:=makeF x p D.sl }) (l:=X) hpe
 have e1:slA (setI { D with sl:=makeF x p D.sl } p X).sl=setA (slA (makeF x p D.sl)) p X:=e1
 have e2:(setI { D with sl:=makeF x p D.sl } p X).roots=setR D.roots p X:=e2
 have hXe:X.erase (freshH D.sl)=lstI D p:=by rw [hX];exact insAt_erase hnl
 have hL:lstA (setA (slA (makeF x p D.sl)) p X) (setR D.roots p X) p=X:=by
  rw [lst_setA hpe M.wf.zero,if_pos rfl]
 refine⟨st,hw.a,hwf.a,?_,M.new,?_,fun y t hy=>?_⟩
 ·rw [e1,setA_of st1,if_neg (fun e=>hnp e.1)]
 ·rw [e1,e2,st2,hL,hXe]
  unfold setR
  by_cases h0:p=0
  ·rw [if_pos h0,h0];unfold lstI;exact lstA_zero
  ·rw [if_neg h0,if_neg h0]
 ·rw [e1,e2,st2,hL,hXe]
  have hy':=M.ext y t hy
  unfold setA
  by_cases hc:y=p∧p≠0
  ·rw [if_pos hc,if_pos hc,hy']
   have:lstI D p=t.kids:=by unfold lstI;rw [←hc.1] ;exact lstA_some (by rw [hc.1];exact hc.2) hy
   simp only [Option.map_some,this]
  ·rw [if_neg hc,if_neg hc];exact hy'
end
set_option maxRecDepth 100000
structure LIv (k:Nat) (w:World) (o:Nat→Nat) (g:Nat) (ty:TypeId) (S:PS) (nms:List Nat) (gv:Nat) (E:Nat→Option (Nat × Nat)):Prop where
 x:LX w o g ty S nms gv E
 pi:PI S
 word:nms=0 :: S.D.roots.flatMap (wrd (slA S.D.sl) E 65)
 def1:∀y,E y≠none→∃s,slA S.D.sl y=some s
 def2:∀y s,slA S.D.sl y=some s→E y≠none
 gv_:gv≤8192*k
def LD (k:Nat) (g:Nat) (ty:TypeId) (w:World) (o:Nat→Nat) (D:Im):Prop:=∃S nms gv E,S.D=D∧LIv k w o g ty S nms gv E
section
variable {w w1 w2:World}{o o1 o2:Nat→Nat}{g k:Nat}{ty:TypeId}{S:PS}{bs nms lbs:List Nat}{mb gv:Nat}{wr:Int}{em:Option Nat}{E E':Nat→Option (Nat × Nat)}{M:Nat→Prop}{R:Ending→World→Prop}{θ:Th}{D:Im}
theorem EvL.a (h:EvL w o w1 o1):EvA w o w1 o1:=⟨h.fm.mono fun b _ e=>by omega,h.old⟩
theorem EvC.a (h:EvP w o w1 o1):EvA w o w1 o1:=⟨h.fm.mono fun b _ e=>by unfold pc at e;omega,h.old⟩
theorem EvA.tr (h:EvA w o w1 o1) (k:EvA w1 o1 w2 o2):EvA w o w2 o2 :=
 ⟨⟨k.fm.os.trans h.fm.os,k.fm.tape.trans h.fm.tape,k.fm.output.trans h.fm.output,Nat.le_trans h.fm.size k.fm.size,fun b hb hn=>by
  have h0:o b=0:=Classical.byContradiction fun e=>hn e
  rw [k.fm.block b (Nat.lt_of_lt_of_le hb h.fm.size) (fun e=>e (h.old b hb h0)),h.fm.block b hb hn]⟩,fun b hb h0=>k.old b (Nat.lt_of_lt_of_le hb h.fm.size) (h.old b hb h0)⟩
theorem EvA.below (hb:Below w.heap.size w w1):EvA w o w1 o:=⟨.below hb,fun _ _ h=>h⟩
theorem last_eq {X Y X' Y':List Nat}{ah:Nat} (hn:(X++Y).Nodup) (he:X++Y=X'++Y') (h1:X.getLast?=some ah) (h2:X'.getLast?=some ah):X=X'∧Y=Y':=by
 have p1:X≠[]:=fun e=>by rw [e] at h1;cases h1
 have p2:X'≠[]:=fun e=>by rw [e] at h2;cases h2
 have l1:0 < X.length:=List.length_pos_iff.2 p1
 have l2:0 < X'.length:=List.length_pos_iff.2 p2
 have g1:(X++Y)[X.length-1]?=some ah:=by rw [List.getElem?_append_left (by omega),←List.getLast?_eq_getElem?];exact h1
 have g2:(X++Y)[X'.length-1]?=some ah:=by rw [he,List.getElem?_append_left (by omega),←List.getLast?_eq_getElem?];exact h2
 have:=nd_get hn g1 g2
 exact List.append_inj he (by omega)
theorem ins_err {wh:Int}{a:Nat}{x:Tr} (h:(insF D wh a x).2.2≠0):(insF D wh a x).1=D:=by
 unfold insF at h ⊢
 split
 ·rfl
 split
 ·rfl
 split
 ·rfl
 split
 ·rfl
 split
 ·rfl
 ·exfalso
  rename_i h1 h2 h3 h4 h5
  rw [if_neg h1,if_neg h2,if_neg h3,if_neg h4,if_neg h5] at h
  exact h rfl
theorem retag {n:Nat}{s:Sl}{A0:Nat→Option Sl}{roots0:List Nat} (h:LX w o g ty S nms gv E) (hS:WfS S.D.sl) (hAt:Att A0 roots0 (slA S.D.sl) S.D.roots n s) (hword:nms=0 :: roots0.flatMap (wrd A0 E 65)) (hE1:∀y,E y≠none→∃t,A0 y=some t) (hE2:∀y t,A0 y=some t→E y≠none)
  (hfew:(roots0.flatMap (allA A0 65)).length+(allA (slA S.D.sl) 65 n).length≤4096) (hgv:gv < 9007199254740992)
  (hK:∀w' o' nms' E' v,LX w' o' g ty S nms' (gv+2*(allA (slA S.D.sl) 65 n).length) E'→nms'=0 :: S.D.roots.flatMap (wrd (slA S.D.sl) E' 65)→(∀y,E' y≠none→∃t,slA S.D.sl y=some t)→(∀y t,slA S.D.sl y=some t→E' y≠none)→EvA w o w' o'→R (.returned (.int .u64 (v:Nat))) w') :
  Calls Tryz.prog 49 #[.pointer (some ⟨g,0,none⟩),.int .u64 (n:Nat),.int .u64 (aheadF S.D E n:Nat)] w R:=by
 have hn:=hAt.at_
 have hE0:E 0=none:=Classical.byContradiction fun e=>by
  obtain⟨t,ht⟩:=hE1 0 e
  rw [hAt.w0.zero] at ht;cases ht
 have hah:aheadF S.D E n=if (lstA (slA S.D.sl) S.D.roots s.parent).idxOf n=0 then (eN E s.parent).1 else (eN E ((lstA (slA S.D.sl) S.D.roots s.parent).getD ((lstA (slA S.D.sl) S.D.roots s.parent).idxOf n-1) 0)).2:=by
  unfold aheadF;rw [hn];rfl
 obtain⟨X,Y,-,b1,l1⟩:=attach (E:=E) (E':=E) hAt.w hn hE0 (fun _ _=>rfl)
 rw [←hah] at l1
 rw [hAt.word,←hword] at b1
 obtain⟨lbs,hI⟩:=h.I
 have hnd:(X++Y).Nodup:=by rw [←b1];exact hI.nd
 have p1:X≠[]:=fun e=>by rw [e] at l1;cases l1
 have lx:0 < X.length:=List.length_pos_iff.2 p1
 have hi:nms[X.length-1]?=some (aheadF S.D E n):=by rw [b1,List.getElem?_append_left (by omega),←List.getLast?_eq_getElem?];exact l1
 obtain⟨c,c1,c2⟩:=hAt.w.chain n s hn
 have hlen:nms.length=1+2*(roots0.flatMap (allA A0 65)).length:=by
  rw [hword,List.length_cons,flat_len2 (h:=allA A0 65) fun y hy=>by
   obtain⟨_,u,u1,u2⟩:=hAt.w0.root.2 y hy
   exact wrd_len hAt.w0 65 y 1 u1 (.succ (hAt.w0.ne0 u1) u1 (by rw [u2];exact .zero)) (by omega)]
  omega
 refine tag_calls hAt.w 65 n c hn c2 (by omega) h hi (by omega) (by omega) fun w' o' E' h' ev z1 z2=>?_
 have hmem:∀y,y∈allA (slA S.D.sl) 65 n↔Wi (slA S.D.sl) n y:=fun y=>mem_all hAt.w ⟨s,hn⟩ (fun z hz=>by simp at hz) c2 (by omega)
 have hEE:∀y,¬Wi (slA S.D.sl) n y→E' y=E y:=fun y hy=>z1 y fun e=>hy ((hmem y).1 e)
 obtain⟨X',Y',a2,b2,l2⟩:=attach (E:=E) (E':=E') hAt.w hn hE0 hEE
 rw [←hah] at l2
 rw [hAt.word,←hword] at b2
 obtain⟨q1,q2⟩:=last_eq hnd (by rw [←b1,b2]) l1 l2
 subst q1 q2
 have e1:nms.take (X.length-1+1)=X:=by rw [b1,show X.length-1+1=X.length by omega,List.take_left]
 have e2:nms.drop (X.length-1+1)=Y:=by rw [b1,show X.length-1+1=X.length by omega,List.drop_left]
 rw [e1,e2] at h'
 refine hK w' o' _ E' _ h'.x a2.symm (fun y hy=>?_) (fun y t ht=>?_) ev.a
 ·by_cases hwy:Wi (slA S.D.sl) n y
  ·exact all_live hAt.w ⟨s,hn⟩ (fun z hz=>by simp at hz) ((hmem y).2 hwy)
  ·rw [hEE y hwy] at hy
   obtain⟨t,ht⟩:=hE1 y hy
   obtain⟨u,hu,_⟩:=hAt.live ht
   exact⟨u,hu⟩
 ·by_cases hwy:Wi (slA S.D.sl) n y
  ·exact z2 y ((hmem y).2 hwy)
  ·rw [hEE y hwy]
   obtain⟨cy,cy1,cy2⟩:=hAt.w.chain y t ht
   obtain⟨u,hu⟩:=hAt.split cy y cy2 ht hwy
   exact hE2 y u hu
end
set_option maxRecDepth 100000
section
variable {w w1:World}{o:Nat→Nat}{R:Ending→World→Prop}
theorem TreeU_calls {k g:Nat}{ty:TypeId}{D:Im} (h:LD k g ty w o D) (hK:∀gc bs o' w' S',Below w.heap.size w w'→S'.D=D→PM w' o' ⟨gc,75,[]⟩ S'→S'.bs=bs→(∀b,o' b≠0→w.heap.size≤b)→PI S'→R (.returned (.pointer (some ⟨gc,0,none⟩))) w') :
  Calls Tryz.prog 24 #[.pointer (some ⟨g,0,none⟩)] w R:=by
 obtain⟨S,nms,gv,E,rfl,h⟩:=h
 obtain⟨tl,-,hp⟩:=h.x.pm
 refine ok24 (some ⟨g,0,none⟩) ?_
 unfold F24
 simp only [NonNil_some]
 refine Clone_calls (θ:=⟨g,ty,tl⟩) hp ?_
 intro gc bs o' w' hb hq ho
 refine⟨some ⟨gc,0,none⟩,rfl,?_⟩
 exact hK gc bs o' w' ⟨S.D,bs,S.lv,S.wn,S.lo⟩ hb rfl hq rfl ho ⟨h.pi.lv,h.pi.wn,h.pi.lo,h.pi.lo2⟩
end
set_option maxRecDepth 100000
section
variable {w w1 w2:World}{o o1 o2:Nat→Nat}{g k:Nat}{ty:TypeId}{M:Nat→Prop}{R:Ending→World→Prop}{D:Im}
theorem insertL_calls (h:LD k g ty w o D) (hk:k < 1099511627776) (hw:Wf D) (hT:Tabs (wc o w)) {x:Tr}{e:E5} (hx:RTr (wc o w) x e) {wh:Int}{a:Nat} (ha:a < 18446744073709551616)
  (hK:∀w' o',LD (k+1) g ty w' o' (insF D wh a x).1→EvA w o w' o'→R (.returned (.tuple #[.int .u64 ((insF D wh a x).2.1:Nat),.int .i64 (insF D wh a x).2.2])) w') :
  Calls Tryz.prog 21 #[.pointer (some ⟨g,0,none⟩),.int .i64 wh,.int .u64 (a:Nat),.agg #[.int .i64 e.kind,.string e.nm,slV e.ats,.string e.text,slV e.kids]] w R:=by
 refine ok21 (some ⟨g,0,none⟩) wh a e.kind e.nm e.ats.1 e.ats.2.1 e.ats.2.2 e.text e.kids.1 e.kids.2.1 e.kids.2.2 ?_
 unfold F21
 obtain⟨S,nms,gv,E,rfl,hL⟩:=h
 refine al fun g7 w1 hb1 b7 hge7=>?_
 have hdr:Below w1.heap.size w1 w1.drew:=(Below.refl _ _).drew
 have B1:=btr hb1 hb1.size hdr
 refine⟨fun w'=>Below w1.heap.size w1 w',hdr,?_⟩
 simp only [NonNil_some,Addr.add_mk,Nat.zero_add]
 refine⟨_,fun w' hb=>by rw [(b7.keep hb).cell];rfl,?_⟩
 refine⟨_,fun w' hb=>by rw [(b7.keep hb).cell];rfl,?_⟩
 refine⟨_,_,_,fun w' hb=>by rw [(b7.keep hb).cell];rfl,?_⟩
 refine⟨_,fun w' hb=>by rw [(b7.keep hb).cell];rfl,?_⟩
 refine⟨_,_,_,fun w' hb=>by rw [(b7.keep hb).cell];rfl,?_⟩
 obtain⟨tl,hp,hback⟩:=(hL.x.below B1).tree
 have hsub:Sub (wc o w) (wc o w1.drew):=EvP.sub (EvC.below B1)
 refine insert_calls (e:=e) hp hL.pi hw (hT.sub hsub) (RTr.sub hsub _ _ hx) ha fun w2 o2 S2 p2 i2 d2 ev2=>⟨_,_,rfl,?_⟩
 have hx2:=hback w2 o2 S2 p2 ev2
 have E2:EvA w o w2 o2:=(EvA.below B1).tr (EvC.a ev2)
 have hgv:=hL.gv_
 refine⟨fun w'=>∃o',LD (k+1) g ty w' o' (insF S.D wh a x).1∧EvA w o w' o',?_,?_⟩
 ·rintro w3 ⟨o3,h3,e3⟩
  unfold F21_j4
  exact hK w3 o3 h3 e3
 ·refine bre (fun h0=>?_) (fun h0=>?_)
  ·obtain⟨s,hAt⟩:=ins_att hw (wh:=wh) (a:=a) (x:=x) h0
   have hw2:=ins_wf hw wh a x
   rw [←d2] at hAt hw2 ⊢
   have hfew:=hAt.few (D':=S2.D) hw2.s rfl
   generalize (insF S.D wh a x).2.1=n at *
   refine ahead_calls hx2 hAt.w hAt.at_ fun w3 hb3=>⟨_,rfl,?_⟩
   refine retag (hx2.below hb3) hw2.s hAt hL.word hL.def1 hL.def2 hfew (by omega) fun w4 o4 nms' E' v h4 q1 q2 q3 ev4=>⟨_,rfl,o4,⟨S2,nms',_,E',rfl,h4,i2,q1,q2,q3,?_⟩,(E2.tr (EvA.below hb3)).tr ev4⟩
   omega
  ·have hD:S2.D=S.D:=by rw [d2];exact ins_err h0
   refine⟨o2,⟨S2,nms,gv,E,d2,hx2,i2,by rw [hD];exact hL.word,by rw [hD];exact hL.def1,by rw [hD];exact hL.def2,by omega⟩,E2⟩
end
set_option maxRecDepth 100000
section
variable {A:Nat→Option Sl}{E E':Nat→Option (Nat × Nat)}{roots loose:List Nat}
end
set_option maxRecDepth 100000
section
variable {w w1 w2:World}{o o1 o2:Nat→Nat}{g k:Nat}{ty:TypeId}{M:Nat→Prop}{R:Ending→World→Prop}{D:Im}{E:Nat→Option (Nat × Nat)}{S:PS}{θ:Th}
end
set_option maxRecDepth 100000
section
variable {D:Im}{E:Nat→Option (Nat × Nat)}
end
set_option maxRecDepth 100000
section
variable {w w1 w2:World}{o o1 o2:Nat→Nat}{g k:Nat}{ty:TypeId}{M:Nat→Prop}{R:Ending→World→Prop}{D:Im}{E:Nat→Option (Nat × Nat)}{S:PS}{θ:Th}
end
set_option maxRecDepth 100000
section
variable {w w1 w2:World}{o o1 o2:Nat→Nat}{g k:Nat}{ty:TypeId}{M:Nat→Prop}{R:Ending→World→Prop}{D:Im}{E:Nat→Option (Nat × Nat)}{S:PS}{θ:Th}{nms:List Nat}{gv:Nat}
end
set_option maxRecDepth 100000
section
variable {g:Nat}
end
set_option maxRecDepth 100000
section
variable {w:World}{g:Nat}
def S0:PS:=⟨⟨[],[]⟩,[],0,0,0⟩
theorem pm_zero {ty:TypeId}{tl:List Value} (hB:Blk w g (docC (none,0,0) (none,0,0) 0 0 0 tl) ty):PM w (fun b=>if b=g then 1 else 0) ⟨g,ty,tl⟩ S0:=by
 refine⟨if_pos rfl,fun b hb=>?_,rfl,by decide,fun i b hb=>(by cases hb),⟨(none,0,0),(none,0,0),hB,.inl ⟨rfl,rfl⟩,fun x hx=>(by cases hx),.inl ⟨rfl,rfl⟩,fun x hx=>(by cases hx)⟩,fun i b s hb=>(by cases hb),fun s hs=>(by cases hs),⟨fun h hh=>(by cases hh),by decide⟩,by decide⟩
 have hb:(if b=g then 1 else 0)≠0:=hb
 by_cases e:b=g
 ·rw [e];exact hB.lt
 ·rw [if_neg e] at hb;exact absurd rfl hb
theorem pi_zero:PI S0:=⟨rfl,rfl,by decide,fun j t hj ht=>(by cases ht)⟩
theorem ld_zero (hB:Blk w g #[.slice none 0 0,.slice none 0 0,.int .i64 0,.int .i64 0,.int .i64 0,.map none,.pointer none,.int .u64 0,.int .u64 0,.map none] 82):LD 0 g 82 w (fun b=>if b=g then 1 else 0) ⟨[],[]⟩:=by
 have hn:∀y,slA ([]:List Sl) y=none:=fun y=>by
  cases h:slA ([]:List Sl) y with
  | none=>rfl
  | some s =>
   obtain⟨k,_,h2,_⟩:=slA_iff.1 h
   cases h2
 refine⟨S0,[0],0,fun _=>none,rfl,⟨.inr ⟨⟨pm_zero hB⟩,rfl,rfl,fun _=>rfl⟩,pi_zero,rfl,fun y hy=>absurd rfl hy,fun y s hs=>?_,by decide⟩⟩
 have hs:slA ([]:List Sl) y=some s:=hs
 rw [hn] at hs;cases hs
end
set_option maxRecDepth 100000
def exA:Tr:=.mk 1 (ByteArray.mk #[97]) [] noB []
def exO:O1:=⟨1,0,0,2,noB,noB,exA⟩
def exE11:E11:=⟨exO,⟨1,ByteArray.mk #[97],(none,0,0),noB,(none,0,0)⟩⟩
theorem ex_chk:checkF [exO]=(0,0):=by decide +kernel
theorem ex_plan:planF [exO] 5=[0]:=by decide +kernel
theorem ex_put:(insF ⟨[],[]⟩ 2 0 exA).2=(4294967297,0):=by decide +kernel
theorem exA_rd (w:World):RTr w exA ⟨1,ByteArray.mk #[97],(none,0,0),noB,(none,0,0)⟩:=by
 unfold exA
 simp only [RTr]
 exact⟨by trivial,by trivial,by trivial,rr_nil,by simp,[],rfl,Rd.nil _ _,by simp [RTl]⟩
theorem mapPut:Tryz.prog.underlying 140=some (.map 3 48):=by kernel_rfl
theorem keyInt:Tryz.prog.underlying 3=some (.int .i64):=by kernel_rfl
theorem zeroHn (w:World):(zeroValue 48).run Tryz.prog w=.ok (.int .u64 0) w:=by kernel_rfl
theorem ld_keep {k g:Nat}{ty:TypeId}{w w1:World}{o:Nat→Nat}{D:Im}{M:Nat→Prop} (h:LD k g ty w o D) (hf:Fm M w w1) (hm:∀b,b < w.heap.size→M b→o b=0):LD k g ty w1 o D:=by
 obtain⟨S,nms,gv,E,rfl,h⟩:=h
 exact⟨S,nms,gv,E,rfl,h.x.fm hf hm,h.pi,h.word,h.def1,h.def2,h.gv_⟩
theorem cmInsU {g : Nat} (w : World) (a b c : Value) : (callMethod (.iface 34 (.pointer (some ⟨g, 0, none⟩))) "Insert" #[a, b, c]).run Tryz.prog w = .ok (.enter 21 #[.pointer (some ⟨g, 0, none⟩), a, b, c]) w := by kernel_rfl
section
variable {w:World}{R:Ending→World→Prop}
theorem exR {g:Nat} (h:Blk w g (opC exE11) 64):Rd LOp w (some ⟨g,0,none⟩) 1 [exE11]:=rd_row (xs:=[exE11]) h rfl (by simp [maxLen])
theorem exOk (w:World):∀x∈[exE11],ROp w x:=fun x hx=>by
 rw [List.mem_singleton.1 hx]
 exact⟨⟨by decide,by decide⟩,exA_rd w⟩
theorem exPlan {g:Nat} (h:Blk w g (opC exE11) 64) (hT:Tabs w) (hK:∀v w',Below w.heap.size w w'→Own LI w' w.heap.size 3 (slV v) [0]→R (.returned (.tuple #[slV v,.int .i64 0])) w') :
  Calls Tryz.prog 9 #[.slice (some ⟨g,0,none⟩) 1 1] w R:=by
 refine planP_calls [exE11] (exR h) (exOk w) hT (by decide) fun w' hb=>?_
 unfold PlanK
 have e:checkF ([exE11].map (·.o))=(0,0):=ex_chk
 rw [e,if_neg (by decide)]
 intro v hv
 rw [show planF ([exE11].map (·.o)) 5=[0] from ex_plan] at hv
 exact hK v w' hb hv
theorem do_calls {gm gd r:Nat}{w0:World}{o:Nat→Nat}{S:PS} (hm:Blk w gm #[.pointer (some ⟨gd,0,none⟩),.map (some r)] 139) (hp:PM w o ⟨gd,75,[]⟩ S) (hi:PI S) (hD:S.D=⟨[],[]⟩) (hb0:Below w0.heap.size w0 w) (ho:∀b,o b≠0→w0.heap.size≤b) (hT:Tabs w0)
  (hK:∀w',Below w0.heap.size w0 w'→Fm (fun b=>o b≠0) w w'→R (.returned (.tuple #[.int .u64 4294967297,.int .i64 0])) w') :
  Calls Tryz.prog 74 #[.pointer (some ⟨gm,0,none⟩),opV exE11] w R:=by
 refine ok74 (some ⟨gm,0,none⟩) 1 ((0:Nat):Int) ((0:Nat):Int) 2 noB noB 1 (ByteArray.mk #[97]) none 0 0 noB none 0 0 ?_
 unfold F74
 refine al fun go w1 hb1 bo hgo=>?_
 have hdr:Below w1.heap.size w1 w1.drew:=(Below.refl _ _).drew
 have D1:=btr hb1 hb1.size hdr
 refine⟨fun w'=>w1.drew=w',?_,?_⟩
 rotate_left
 ·refine⟨fun w'=>Below w1.drew.heap.size w1.drew w',.refl _ _,_,fun w' hw=>by rw [((bo.keep hdr).keep hw).cell];rfl,?_⟩
  exact brn (fun h=>absurd rfl h) fun _=>rfl
 rintro _ rfl
 unfold F74_j3
 have bo2:=bo.keep hdr
 simp only [Addr.add_mk,Nat.zero_add,bo2.cell,lds]
 refine bre (fun h=>absurd h (by decide)) fun _=>?_
 refine bre (fun h=>absurd h (by decide)) fun _=>?_
 refine bre (fun h=>absurd h (by decide)) fun _=>?_
 refine bre (fun h=>absurd h (by decide)) fun _=>?_
 refine bre (fun _=>?_) fun h=>absurd rfl h
 have hdr2:Below w1.drew.heap.size w1.drew w1.drew.drew:=(Below.refl _ _).drew
 have D2:=btr D1 D1.size hdr2
 have bo3:=bo2.keep hdr2
 have hm3:=hm.keep D2
 refine⟨fun w'=>Below w1.drew.drew.heap.size w1.drew.drew w',.refl _ _,?_⟩
 simp only [Addr.add_mk,Nat.zero_add,NonNil_some]
 have hc:∀(i:Nat) (u:Value),(opC exE11)[i]?=some u→Held (fun w'=>Below w1.drew.drew.heap.size w1.drew.drew w') ⟨go,i,none⟩ u:=fun i u hu w' hw=>by rw [(bo3.keep hw).cell];exact hu
 refine⟨_,fun w' hw=>by rw [(hm3.keep hw).cell];rfl,_,hc 3 _ rfl,_,hc 2 _ rfl,_,hc 6 _ rfl,_,hc 7 _ rfl,_,_,_,hc 8 _ rfl,_,hc 9 _ rfl,_,_,_,hc 10 _ rfl,?_⟩
 have hp3:=hp.below D2
 have B3:=btr hb0 hb0.size D2
 have hsub:Sub w0 (wc o w1.drew.drew):=fun b c t fr hb=>by
  have hlt:=(Array.getElem?_eq_some_iff.1 hb).1
  refine cells_only (ok:=fun b=>Nat.beq (o b) 0) ?_ ?_
  ·have:o b=0:=Classical.byContradiction fun e=>by have:=ho b e;omega
   show Nat.beq (o b) 0=true
   rw [this];rfl
  ·rw [B3.block b hlt];exact hb
 refine insert_calls (x:=exA) (e:=⟨1,ByteArray.mk #[97],(none,0,0),noB,(none,0,0)⟩) (wh:=2) (a:=0) hp3 hi (by rw [hD];exact nil_wf) (hT.sub hsub) (exA_rd _) (by decide) fun w4 o4 S4 _ _ _ ev=>⟨_,_,rfl,?_⟩
 rw [hD,ex_put]
 have F4:Fm (fun b=>o b≠0) w1.drew.drew w4:=ev.fm.mono fun b _ e e0=>by
  have e:pc (o b):=e
  rw [e0] at e;exact not_pc0 e
 exact hK w4 (B3.trans (F4.toBelow B3.size fun b hb e=>by have:=ho b e;omega)) ((Fm.below D2).trans F4)
theorem try_calls {gd g:Nat}{o:Nat→Nat}{S:PS}{w0:World} (hg:Blk w g (opC exE11) 64) (hp:PM w o ⟨gd,75,[]⟩ S) (hi:PI S) (hD:S.D=⟨[],[]⟩) (hb0:Below w0.heap.size w0 w) (ho:∀b,o b≠0→w0.heap.size≤b) (hT:Tabs w0) (hgl:g < w0.heap.size)
  (hK:∀v w',Below w0.heap.size w0 w'→Own LHn w' w.heap.size 48 (slV v) [4294967297]→R (.returned (.tuple #[slV v,.int .i64 0,.int .i64 0])) w') :
  Calls Tryz.prog 39 #[.pointer (some ⟨gd,0,none⟩),.slice (some ⟨g,0,none⟩) 1 1] w R:=by
 have hTw:Tabs w:=hT.sub (sub_below hb0)
 refine ok39 (some ⟨gd,0,none⟩) (some ⟨g,0,none⟩) 1 1 ?_
 unfold F39
 refine checkP_calls [exE11] (exR hg) (exOk w) hTw (by decide) fun w1 hb1=>?_
 rw [show checkF ([exE11].map (·.o))=(0,0) from ex_chk]
 refine⟨_,_,rfl,?_⟩
 refine brn (fun h=>absurd rfl h) fun _=>?_
 have hg1:=hg.keep hb1
 refine exPlan hg1 (hTw.sub (sub_below hb1)) fun vp w2 hb2 op=>⟨_,_,_,_,rfl,?_⟩
 have B2:=btr hb1 hb1.size hb2
 refine almM fun r36 w3 hb3 hge3 hlt3 hm3=>?_
 have B3:=btr B2 B2.size hb3
 refine al fun gm w4 hb4 b4 hge4=>?_
 have B4:=btr B3 B3.size hb4
 refine almM fun r39 w5 hb5 hge5 hlt5 hm5=>?_
 have B5:=btr B4 B4.size hb5
 have hs1:=hb1.size
 have hs2:=hb2.size
 have hs3:=hb3.size
 have hs4:=hb4.size
 have hs5:=hb5.size
 have op5:=((op.keep hb3).keep hb4).keep hb5
 obtain⟨z1,z2⟩:vp.2.1=1∧Rd LI w5 vp.1 vp.2.2 [0]:=op5.rd
 have b45:=b4.keep hb5
 have hp5:=hp.below B5
 have hg5:=hg.keep B5
 have hmp:=mp_new .i64 hm5
 have hol:∀b,o b≠0→b < w.heap.size:=fun b hb=>hp.lt b hb
 refine⟨fun i w'=>(i=0∧w'=w5)∨(i=1∧Mp .i64 w' r39 (upd (fun _=>none) 0 (some (.int .u64 4294967297)))∧Below w0.heap.size w0 w'∧w.heap.size≤w'.heap.size),fun i _=>1-i.toNat,.inl ⟨rfl,rfl⟩,?_⟩
 rintro _ w6 (⟨rfl,rfl⟩ | ⟨rfl,hmp6,B6,hs6⟩)
 ·unfold F39_l8
  refine brd (fun _=>?_) fun h=>absurd (by rw [z1];decide) h
  refine⟨fun w'=>Mp .i64 w' r39 (upd (fun _=>none) 0 (some (.int .u64 4294967297)))∧Below w0.heap.size w0 w'∧w.heap.size≤w'.heap.size,?_,?_⟩
  ·rintro w' ⟨q1,q2,q3⟩
   unfold F39_j15
   exact⟨inR_i64 (by omega) (by omega),.inr ⟨rfl,q1,q2,q3⟩,by simp⟩
  refine z2.idx z1 (by omega) (by omega) rfl fun b oo cc=>?_
  have c0:=cc 0 _ rfl
  simp only [Nat.add_zero] at c0
  rw [show ([0]:List Int)[(0:Int).toNat]'(by decide)=0 from rfl] at c0
  simp only [c0,lds]
  refine (exR hg5).idx (n:=1) (i:=0) rfl (by decide) (by decide) rfl fun b2 oo2 cc2=>?_
  have cc2:∀j u,(LOp.cells exE11)[j]?=some u→w6.cell? ⟨b2,oo2+j,none⟩=some u:=cc2
  have l0:=cc2 0 _ rfl
  have l1:=cc2 1 _ rfl
  have l2:=cc2 2 _ rfl
  have l3:=cc2 3 _ rfl
  have l4:=cc2 4 _ rfl
  have l5:=cc2 5 _ rfl
  have l6:=cc2 6 _ rfl
  have l7:=cc2 7 _ rfl
  have l8:=cc2 8 _ rfl
  have l9:=cc2 9 _ rfl
  have l10:=cc2 10 _ rfl
  simp only [Nat.add_zero] at l0
  simp only [Addr.add_mk,l0,l1,l2,l3,l4,l5,l6,l7,l8,l9,l10,lds]
  refine do_calls b45 hp5 hi hD (hb0.trans (B5.mono hb0.size)) ho hT fun w7 hb7 F7=>⟨_,_,rfl,?_⟩
  refine brn (fun h=>absurd rfl h) fun _=>?_
  refine brn (fun _=>?_) fun h=>absurd h (by decide)
  have hs7:=F7.size
  refine (hmp.fm F7 fun e=>by have:=hol r39 e;omega).update mapPut keyInt 0 (.int .u64 4294967297) fun w8 h8 F8=>⟨h8,hb7.trans (F8.toBelow hb7.size fun b hb e=>by have e:b=r39:=e;have:=hb0.size;omega),by have:=F8.size;omega⟩
 ·unfold F39_l8
  refine brd (fun h=>absurd h (by rw [z1];decide)) fun _=>?_
  refine⟨fun A n c i w'=>(i=0∧w'=w6∧A=none∧n=0∧c=0)∨(i=1∧Below w0.heap.size w0 w'∧Own LHn w' w.heap.size 48 (.slice A n c) [4294967297]),fun _ _ _ i _=>1-i.toNat,.inl ⟨rfl,rfl,rfl,rfl,rfl⟩,?_⟩
  rintro A n c _ w7 (⟨rfl,rfl,rfl,rfl,rfl⟩ | ⟨rfl,B7,o7⟩)
  ·unfold F39_l18
   refine brd (fun _=>?_) fun h=>absurd (by decide) h
   refine⟨fun A n c w'=>Below w0.heap.size w0 w'∧Own LHn w' w.heap.size 48 (.slice A n c) [4294967297],?_,?_⟩
   ·rintro A n c w' ⟨q1,q2⟩
    unfold F39_j23
    exact⟨inR_i64 (by omega) (by omega),.inr ⟨rfl,q1,q2⟩,by simp⟩
   refine hmp6.look mapPut keyInt (zeroHn w7) 0 true ?_
   rw [if_pos rfl]
   refine⟨4294967297,true,rfl,?_⟩
   rw [Br_t]
   refine ap1 (L:=LHn) (x:=4294967297) (base:=w.heap.size) (.int .u64 0) 8 rfl (by kernel_rfl) (by kernel_rfl) (by kernel_rfl) (Own.nil _ _ _ _) hs6 (by decide) (by decide) fun A' c' w8 o8 g8=>⟨A',_,c',rfl,?_,o8⟩
   exact B6.trans (g8.below.mono hb0.size)
  ·unfold F39_l18
   refine brd (fun h=>absurd h (by decide)) fun _=>?_
   exact hK (A,n,c) w7 B7 o7
theorem livesU_calls (hT:Tabs w) (hK:∀w',Below w.heap.size w w'→R (.returned (.bool true)) w'):Calls Tryz.prog 12 #[] w R:=by
 refine ok12 ?_
 unfold F12
 refine al fun gp w1 hb1 b1 hge1=>al fun g w2 hb2 b2 hge2=>?_
 have B2:=btr hb1 hb1.size hb2
 have b12:=b1.keep hb2
 have hs1:=hb1.size
 have hs2:=hb2.size
 have hgl:=b2.lt
 have hgpl:=b1.lt
 have hg2:Blk w2 g (opC exE11) 64:=b2
 have hL:=ld_zero b12
 generalize ho:(fun b=>if b=gp then 1 else 0)=o at hL
 have hoc:∀b,b≠gp→o b=0:=fun b hb=>by rw [←ho];exact if_neg hb
 refine ok17 (some ⟨gp,0,none⟩) (some ⟨g,0,none⟩) 1 1 ?_
 unfold F17
 refine ok15 (some ⟨gp,0,none⟩) (some ⟨g,0,none⟩) 1 1 ?_
 unfold F15
 rw [Option.isNone_some,Br_f]
 have hT2:=hT.sub (sub_below B2)
 refine TreeU_calls hL ?_
 intro gc bs o3 w3 S3 hb3 hSD hp3 _ ho3 hi3
 refine⟨_,rfl,?_⟩
 refine try_calls (w0:=w2) (hg2.keep hb3) hp3 hi3 hSD hb3 ho3 hT2 hgl fun v w4 hb4 ov=>⟨_,_,_,_,_,rfl,?_⟩
 refine⟨_,_,_,_,_,rfl,?_⟩
 refine brn (fun h=>absurd rfl h) fun _=>?_
 have hg4:=hg2.keep hb4
 have hT4:=hT2.sub (sub_below hb4)
 refine exPlan hg4 hT4 fun vp w5 hb5 op=>⟨_,_,_,_,rfl,?_⟩
 refine almM fun r31 w6 hb6 hge6 hlt6 hm6=>?_
 have B5:=btr hb4 hb4.size hb5
 have B6:=btr B5 B5.size hb6
 have hs3:=hb3.size
 have hs4:=hb4.size
 have hs5:=hb5.size
 have hs6:=hb6.size
 have op6:=op.keep hb6
 obtain⟨z1,z2⟩:vp.2.1=1∧Rd LI w6 vp.1 vp.2.2 [0]:=op6.rd
 have ov6:=(ov.keep hb5).keep hb6
 have hL6:LD 0 gp 82 w6 o ⟨[],[]⟩:=ld_keep (M:=fun _=>False) hL (.below B6) fun _ _ h=>h.elim
 have hg6:=hg2.keep B6
 refine⟨fun i w'=>(i=0∧w'=w6)∨(i=1∧Below w.heap.size w w'∧Own LHn w' w3.heap.size 48 (slV v) [4294967297]),fun i _=>1-i.toNat,.inl ⟨rfl,rfl⟩,?_⟩
 rintro _ w7 (⟨rfl,rfl⟩ | ⟨rfl,B7,o7⟩)
 ·unfold F17_l7
  refine brd (fun _=>?_) fun h=>absurd (by rw [z1];decide) h
  refine z2.idx z1 (by omega) (by omega) rfl fun b oo cc=>?_
  have c0:=cc 0 _ rfl
  simp only [Nat.add_zero] at c0
  rw [show ([0]:List Int)[(0:Int).toNat]'(by decide)=0 from rfl] at c0
  simp only [c0,lds]
  refine (exR hg6).idx (n:=1) (i:=0) rfl (by decide) (by decide) rfl fun b2 oo2 cc2=>?_
  have cc2:∀j u,(LOp.cells exE11)[j]?=some u→w7.cell? ⟨b2,oo2+j,none⟩=some u:=cc2
  have l0:=cc2 0 _ rfl
  have l1:=cc2 1 _ rfl
  have l2:=cc2 2 _ rfl
  have l3:=cc2 3 _ rfl
  have l4:=cc2 4 _ rfl
  have l5:=cc2 5 _ rfl
  have l6:=cc2 6 _ rfl
  have l7:=cc2 7 _ rfl
  have l8:=cc2 8 _ rfl
  have l9:=cc2 9 _ rfl
  have l10:=cc2 10 _ rfl
  simp only [Nat.add_zero] at l0
  simp only [Addr.add_mk,l0,l1,l2,l3,l4,l5,l6,l7,l8,l9,l10,lds]
  refine ok43 (.iface 34 (.pointer (some ⟨gp,0,none⟩))) (.func (.func 24) #[.pointer (some ⟨gp,0,none⟩)] #[]) (some r31) 1 ((0:Nat):Int) ((0:Nat):Int) 2 noB noB 1 (ByteArray.mk #[97]) none 0 0 noB none 0 0 ?_
  unfold F43
  refine al fun go w8 hb8 bo hgo=>?_
  have D8:=btr B6 B6.size hb8
  simp only [bo.cell,lds]
  refine⟨fun w'=>w8=w',?_,brn (fun h=>absurd rfl h) fun _=>rfl⟩
  rintro _ rfl
  unfold F43_j2
  simp only [Addr.add_mk,Nat.zero_add,bo.cell,lds]
  refine bre (fun h=>absurd h (by decide)) fun _=>?_
  refine bre (fun h=>absurd h (by decide)) fun _=>?_
  refine bre (fun h=>absurd h (by decide)) fun _=>?_
  refine bre (fun h=>absurd h (by decide)) fun _=>?_
  refine bre (fun _=>?_) fun h=>absurd rfl h
  have hL8:LD 0 gp 82 w8 o ⟨[],[]⟩:=ld_keep (M:=fun _=>False) hL6 (.below hb8) fun _ _ h=>h.elim
  have hsub:Sub w (wc o w8):=fun b c t fr hb=>by
   have hlt:=(Array.getElem?_eq_some_iff.1 hb).1
   refine cells_only (ok:=fun b=>Nat.beq (o b) 0) ?_ ?_
   ·show Nat.beq (o b) 0=true
    rw [hoc b (by omega)];rfl
   ·rw [D8.block b (by omega),B2.block b hlt];exact hb
  refine⟨_,_,cmInsU w8 _ _ _,insertL_calls (x:=exA) (e:=⟨1,ByteArray.mk #[97],(none,0,0),noB,(none,0,0)⟩) (wh:=2) (a:=0) hL8 (by decide) nil_wf (hT.sub hsub) (exA_rd _) (by decide) fun w9 o9 hL9 ev=>⟨_,_,rfl,?_⟩⟩
  refine⟨rfl,inR_i64 (by omega) (by omega),.inr ⟨rfl,?_,?_⟩,by simp⟩
  ·exact (B2.trans (D8.mono B2.size)).trans (ev.fm.toBelow (by have:=D8.size;omega) fun b hb e=>e (hoc b (by omega)))
  ·refine own_fm (ov6.keep hb8) ev.fm fun b hb e=>e (hoc b ?_)
   have:=(ov.lt b hb).1
   omega
 ·unfold F17_l7
  refine brd (fun h=>absurd h (by rw [z1];decide)) fun _=>?_
  refine⟨_,_,_,_,_,rfl,?_⟩
  obtain⟨y1,y2⟩:v.2.1=1∧Rd LHn w7 v.1 v.2.2 [4294967297]:=o7.rd
  refine bre (fun _=>?_) fun h=>absurd rfl h
  refine bre (fun _=>?_) fun h=>absurd (by rw [y1];rfl) h
  refine y2.idx y1 (by omega) (by omega) rfl fun b oo cc=>?_
  have c0:=cc 0 _ rfl
  simp only [Nat.add_zero] at c0
  rw [show ([4294967297]:List Nat)[(0:Int).toNat]'(by decide)=4294967297 from rfl] at c0
  simp only [c0,lds]
  exact hK w7 B7
end
set_option maxRecDepth 100000
section
variable {w:World}{R:Ending→World→Prop}
theorem checksU_calls (xs:List E11) {A:Option Addr}{c:Nat} (hr:Rd LOp w A c xs) (hx:∀x∈xs,ROp w x) (hT:Tabs w) (hl:xs.length≤1048576) (hK:∀w',Below w.heap.size w w'→R (.returned (.bool true)) w') :
  Calls Tryz.prog 3 #[.slice A xs.length c] w R:=by
 refine ok3 A xs.length c ?_
 unfold F3
 refine copiedO_calls xs hr hx hl fun w1 v ys hb1 oy hmo hy=>?_
 obtain⟨va,vn,vc⟩:=v
 obtain⟨rfl,hry⟩:vn=ys.length∧Rd LOp w1 va vc ys:=oy.rd
 refine⟨_,_,_,rfl,?_⟩
 have hyl:ys.length=xs.length:=by
  have:=congrArg List.length hmo
  rwa [List.length_map,List.length_map] at this
 have hT1:=hT.sub (sub_below hb1)
 refine checkP_calls ys hry hy hT1 (by omega) fun w2 hb2=>⟨_,_,rfl,?_⟩
 have B2:=btr hb1 hb1.size hb2
 refine checkR_calls xs (hr.keep B2) (fun x h=>(hx x h).sub (sub_below B2)) hl fun w3 hb3=>⟨_,_,rfl,?_⟩
 rw [hmo]
 have B3:=btr B2 B2.size hb3
 have C3:=btr hb2 hb2.size hb3
 have fin:∀{vp vq:Sv}{l:List Int}{f:Int}{w5:World},l.length≤1048576→vp.2.1=l.length→Rd LI w5 vp.1 vp.2.2 l→vq.2.1=l.length→Rd LI w5 vq.1 vq.2.2 l→Below w.heap.size w w5 →
   Br (((checkF (xs.map (·.o))).1:Int) == ((checkF (xs.map (·.o))).1:Int))
   (Br ((checkF (xs.map (·.o))).2 == (checkF (xs.map (·.o))).2)
   (Calls Tryz.prog 11 #[(.slice vp.1 vp.2.1 vp.2.2),(.slice vq.1 vq.2.1 vq.2.2)] w5 (post R fun v6 w1_6 =>
   ∃(x45:Bool),v6=(.bool x45) ∧
   Br x45
   (Br (f == f)
   (Calls Tryz.prog 12 #[] w1_6 (post R fun v7 w1_7 =>
   ∃(x53:Bool),v7=(.bool x53) ∧
   R (.returned (.bool x53)) w1_7))
   (R (.returned (.bool false)) w1_6))
   (R (.returned (.bool false)) w1_6)))
   (R (.returned (.bool false)) w5))
   (R (.returned (.bool false)) w5):=fun {vp vq l f w5} h0 h1 h2 h3 h4 hb5=>by
  refine bre (fun _=>?_) fun h=>absurd rfl h
  refine bre (fun _=>?_) fun h=>absurd rfl h
  refine numbers_calls h0 h1 h2 h3 h4 fun w6 hb6=>⟨_,rfl,?_⟩
  rw [Br_t]
  refine bre (fun _=>?_) fun h=>absurd rfl h
  have B6:=btr hb5 hb5.size hb6
  exact livesU_calls (hT.sub (sub_below B6)) fun w7 hb7=>⟨_,rfl,hK w7 (btr B6 B6.size hb7)⟩
 refine planP_calls ys (hry.keep C3) (fun y h=>(hy y h).sub (sub_below C3)) (hT1.sub (sub_below C3)) (by omega) fun w4 hb4=>?_
 have B4:=btr B3 B3.size hb4
 rw [hmo]
 unfold PlanK
 by_cases he:(checkF (xs.map (·.o))).2=0
 ·rw [if_neg (by rw [he];simp)]
  intro vp op
  refine⟨_,_,_,_,rfl,?_⟩
  refine planR_calls xs (hr.keep B4) (fun x h=>(hx x h).sub (sub_below B4)) hl fun w5 hb5=>?_
  unfold PlanK
  rw [if_neg (by rw [he];simp)]
  intro vq oq
  refine⟨_,_,_,_,rfl,?_⟩
  have hfew:=check_few he
  have hpl:(planF (xs.map (·.o)) 5).length≤20480:=Nat.le_trans (plan_len _ 5) (Nat.mul_le_mul (Nat.le_refl 5) hfew)
  obtain⟨p1,p2⟩:vp.2.1=_∧Rd LI w5 vp.1 vp.2.2 _:=(op.keep hb5).rd
  obtain⟨q1,q2⟩:vq.2.1=_∧Rd LI w5 vq.1 vq.2.2 _:=oq.rd
  exact fin (by omega) p1 p2 q1 q2 (btr B4 B4.size hb5)
 ·rw [if_pos he]
  refine⟨_,_,_,_,rfl,?_⟩
  refine planR_calls xs (hr.keep B4) (fun x h=>(hx x h).sub (sub_below B4)) hl fun w5 hb5=>?_
  unfold PlanK
  rw [if_pos he]
  refine⟨_,_,_,_,rfl,?_⟩
  exact fin (vp:=(none,0,0)) (vq:=(none,0,0)) (l:=[]) (by decide) rfl (Rd.nil _ _) rfl (Rd.nil _ _) (btr B4 B4.size hb5)
end
end Go.Proofs.YtncbjdgcgclnnaaGreatDoor
/- UpdateChecks: Check and Plan of any list of edits are as the document has them. -/
namespace Go.Proofs.YtncbjdgcgclnnaaGreatDoor.updateChecks
open Go.ChangeShapes Go.WideShapes Go.ChangeAt Go.RowKit Go.Joins Go.Lib Go.Vc
open Go.ChangeMaps (open_string shut_string)
set_option maxRecDepth 100000
set_option linter.unusedVariables false
set_option linter.unusedSimpArgs false
theorem own : ownKnob Tryz.prog.godebug = none := by kernel_rfl
theorem laidOut : laidOutB Tryz.prog = true := by kernel_rfl
/-- A world in which the tables are laid. -/
noncomputable def laidWorld (os : Os) : World :=
  let w0 := World.holding Tryz.prog os ⟨#[], #[], []⟩
  let put (h : Array Obj) (g : Nat) (cs : Array Value) : Array Obj := h.modify g fun
    | .cells _ t frozen => .cells cs t frozen
    | o => o
  let h1 := put w0.heap 1 (Lib.firstTab.map fun z => Value.int .u8 z).toArray
  let h2 := put h1 2 ((List.range 16).flatMap fun i => [Value.int .u8 (Lib.accLo i), Value.int .u8 (Lib.accHi i)]).toArray
  { w0 with heap := h2 }
theorem laid_met (os : Os) : laidMet Tryz.prog Rows.updateChecksUptoRow.laid ((laidWorld os).forCall (fun _ _ => 0) ⟨#[], #[.slice none 0 0], []⟩).memory :=
  (LaidIn.of_run (l := Rows.updateChecksUptoRow.laid) [2, 1] 8 (by kernel_rfl) (by kernel_rfl) (by kernel_rfl) (by kernel_rfl)).met
theorem u8Types : U8Types Tryz.prog decRen := { decLays with }
theorem tabs_of {W : World} (h : laidMet Tryz.prog Rows.updateChecksUptoRow.laid W) : Tabs W :=
  utf8Tabs_of_readsT (ρ := decRen) u8Types ⟨by kernel_rfl, by kernel_rfl, by kernel_rfl, by kernel_rfl, by kernel_rfl, by kernel_rfl, by kernel_rfl⟩
    (by rw [← Pinned.utf8First_eq]; exact Lib.laidMet.reads h (.tail _ (.head _))) (Lib.laidMet.reads h (.head _))
theorem reads (os : Os) {H : Type} (enc : TypeId × Value → H) : ∃ places, DataW.whole enc Tryz.prog ((laidWorld os).forCall (fun _ _ => 0) ⟨#[], #[.slice none 0 0], []⟩).memory Tryz.f3.params.toList Rows.updateChecksSpec.vars false (#[.slice none 0 0] : Array Value).toList 8 = some ([.nil], [], places) :=
  ⟨[], by kernel_rfl⟩
theorem lifted (os : Os) (started : os.Started) (H : Type) (enc : TypeId × Value → H) (F : Stop.Interp) :
    ReturnsInHanded {} Tryz.checked os 3 .any ((Rows.OpenSpec.upto Rows.updateChecksSpec).preRow enc Tryz.prog Tryz.f3 Rows.updateChecksUptoRow.domain false Rows.updateChecksUptoRow.laid) (((Rows.OpenSpec.upto Rows.updateChecksSpec).at F).post enc Tryz.prog Tryz.f3 false true false false) := by
  obtain ⟨places, hx⟩ := reads os enc
  refine returnsInHanded_of_row (C := Tryz.checked) (s := Rows.OpenSpec.upto Rows.updateChecksSpec) own started (by kernel_rfl) Tryz.func3
    (witness_row_at (enc := enc) (C := Tryz.checked) false (laidWorld os) #[.slice none 0 0] rfl (by kernel_rfl) (by kernel_rfl) (by kernel_rfl)
      (OpenSpec.preRow_of_cond 8 hx (by kernel_rfl) (fun k hk => by cases hk; kernel_rfl) (by kernel_rfl) (laid_met os))) ?_
  intro W base args ds gs before hval0 hW _ hcond hsz0 hL _ _
  rw [MakeChecks.laidMetH_plain _ _ _ (by kernel_rfl)] at hL
  have hT : Tabs W := tabs_of hL
  have hk : Rows.uptoSmall H (ds ++ gs) = true := hcond _ rfl
  have hval : ∀ (j : Nat) t v, Tryz.f3.params[j]? = some t → args[j]? = some v → Value.okWide Tryz.prog W .any base t v := hval0
  have hWw : DataW.Whole enc Tryz.prog Tryz.f3.params.toList Rows.updateChecksSpec.vars false W args.toList ds gs before := hW
  clear hW
  have hW := hWw
  obtain ⟨p, q, hA0, hV, rfl, hfz, hnd⟩ := hW
  have hW' := hWw
  have hA : DataW.TrodAll enc Tryz.prog W 0 (fun _ => true) true Tryz.f3.params.toList args.toList ds p := hA0
  rw [Tryz.params3] at hA hval
  obtain ⟨v0, vs0, d0, ds0, p0, q0, hargs, rfl, rfl, h0, r0⟩ := trodAll_cons hA
  obtain ⟨rfl, rfl, rfl⟩ := trodAll_nil r0
  obtain rfl : args = #[v0] := by cases args; simp_all
  obtain ⟨rfl, rfl⟩ := trodVars_none hV
  have k0 := h0
  have lt0 : ∀ x ∈ p0, x.block < W.heap.size := by obtain ⟨m, hm⟩ := k0; exact DataW.trod_lt m _ _ _ hm
  clear hA0 hval0
  obtain ⟨la, ln, lc, rfl⟩ := okWide_slice Tryz.underlying22 (hval 0 22 _ rfl rfl)
  obtain ⟨fl, hfl⟩ := h0
  obtain ⟨A, c, xs, hle, hR, hQ, hlen⟩ := ops_open hfl (upto_small hk (by simp))
  simp [Value.cells] at hle
  obtain ⟨rfl, rfl, rfl⟩ := hle
  refine (checksU_calls (R := fun e W' => e = .returned (.bool true) ∧ Below W.heap.size W W') xs hR hQ hT hlen fun w' hb => ⟨rfl, hb⟩).mono fun e W' ⟨he, bel⟩ => ?_
  subst he
  exact ⟨_, rfl, _, _, _, [], _, [], hW', trodAll_mk1 (shut_bool Tryz.underlying4 _), (trodAll_cons_mk (Below.trod laidOut (by kernel_rfl) (of_decide_eq_true (by kernel_rfl)) k0 bel lt0) trodAll_mk0), rfl, bel.frame _, fun h => by cases h⟩
theorem said : Rows.UpdateChecksUptoSaid :=
  OpenClaim.holds_of_cond 3 Tryz.f3 rfl rfl rfl rfl rfl rfl rfl ⟨rfl, rfl, rfl, rfl, rfl⟩ rfl rfl rfl rfl rfl (by kernel_rfl) Tryz.func3 (by kernel_rfl)
    (of_decide_eq_true (by kernel_rfl)) (by unfold Func.isWrapper; first | (rw [if_neg (of_decide_eq_false (by kernel_rfl))]; exact ⟨rfl, rfl⟩) | (rw [if_pos (of_decide_eq_true (by kernel_rfl))]; kernel_rfl))
    (fun os started H enc _ F => by rw [OpenClaim.pre_eq_preRow]; exact lifted os started H enc F)
theorem plain (f : FuncId) (fn : Func) (hf : Tryz.pinned.checked.prog.funcNamed "espalier/espalierlaw17.UpdateChecks" = some f) (hfn : Tryz.pinned.checked.prog.funcs[f]? = some fn) :
    false = Tryz.pinned.checked.prog.looks [] ∧ ∀ (j : Nat) t, fn.params[j]? = some t → Tryz.pinned.checked.prog.wantsStandIn t = false := by
  obtain rfl : f = 3 := Option.some.inj ((show Tryz.prog.funcNamed "espalier/espalierlaw17.UpdateChecks" = some 3 by kernel_rfl).symm.trans hf) |>.symm
  obtain rfl : fn = Tryz.f3 := (Option.some.inj (Tryz.func3.symm.trans hfn)).symm
  refine ⟨by kernel_rfl, fun j t ht => ?_⟩
  have hm : t ∈ Tryz.f3.params.toList := by simpa using Array.mem_of_getElem? ht
  have hall : (Tryz.f3.params.toList.all fun u => !Tryz.prog.wantsStandIn u) = true := by kernel_rfl
  exact (show Tryz.prog.wantsStandIn t = false by simpa using List.all_eq_true.1 hall t hm)
end Go.Proofs.YtncbjdgcgclnnaaGreatDoor.updateChecks
namespace Go.Proofs.YtncbjdgcgclnnaaGreatDoor
open Go.ChangeShapes Go.WideShapes Go.ChangeAt Go.RowKit Go.Joins Go.Lib
theorem updateChecks_holds : Rows.UpdateChecksUptoCardSaid :=
  Claim7.holds_tied_plain_at .later [] _ _ _ _ updateChecks.said (fun _ h => by cases h) (by kernel_rfl) (fun _ h => by cases h) updateChecksUpto_row_tie rfl ⟨rfl, rfl⟩ (by kernel_rfl) rfl updateChecks.plain (by kernel_rfl)
#print axioms updateChecks_holds
end Go.Proofs.YtncbjdgcgclnnaaGreatDoor
