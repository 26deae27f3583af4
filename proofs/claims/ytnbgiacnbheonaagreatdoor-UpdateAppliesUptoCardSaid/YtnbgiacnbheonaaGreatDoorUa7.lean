/- UpdateApplies: a list of edits made on a document, all of it or none, as the document has it, and all that it tells behind it. -/
import Derived.Test.YtnbgiacnbheonaaGreatDoorProg
import Derived.Test.YtnbgiacnbheonaaGreatDoorRows
import Derived.Test.YtnbgiacnbheonaaGreatDoorCards
import Derived.Test.YtnbgiacnbheonaaGreatDoorTie
import Derived.WalkKit
import Derived.Lib.SmallJoins
import Derived.RowKit3
import Derived.ProofKit
import Derived.OpenShut
import Derived.ShutString
import Derived.ChangeOld
import Derived.Below
import Derived.Carry
import Derived.SizedLaws
import Derived.LaidMore
import Derived.PinnedBridge
import Derived.Lib.LaidIn
import Derived.Lib.LaidU8T
import Derived.SevenTiedAt
import Derived.Stop.Joined
import Derived.Deep.DeepHandedRow
import Derived.JoinedCond
import Derived.Deep.CondSized
import Derived.Test.YtnbgiacnbheonaaGreatDoorUa6
set_option linter.unusedVariables false
set_option maxRecDepth 100000
namespace Go.Proofs.YtnbgiacnbheonaaGreatDoor
open Go.Vc
def F15_j5 (L4:Int->World->Prop)(i:Int)(a:World)(R:RT):Prop :=
 InR .i64 (i+(1:Int))/\L4 (i+(1:Int)) a
def F15_j7 (J5:World->Prop)(s t:Addr)(aa:World)(R:RT):Prop :=
 LdI .u32 (aa.cell? s) fun n =>
 LdI .u32 (aa.cell? t) fun ba =>
 Br (n != ba)
 (R (.returned (.bool false)) aa)
 (LdB (aa.cell? (s.add 1)) fun m =>
 LdB (aa.cell? (t.add 1)) fun ca =>
 Br (!(m == ca))
 (R (.returned (.bool false)) aa)
 (LdI .i64 (aa.cell? (s.add 2)) fun y =>
 LdI .i64 (aa.cell? (t.add 2)) fun ja =>
 Br (y != ja)
 (R (.returned (.bool false)) aa)
 (LdStr (aa.cell? (s.add 3)) fun ga =>
 LdStr (aa.cell? (t.add 3)) fun p =>
 Br (!(ga.toList == p.toList))
 (R (.returned (.bool false)) aa)
 (LdStr (aa.cell? (s.add 5)) fun q =>
 LdStr (aa.cell? (t.add 5)) fun ea =>
 Br (!(q.toList == ea.toList))
 (R (.returned (.bool false)) aa)
 (LdI .u64 (aa.cell? (s.add 6)) fun u =>
 LdI .u64 (aa.cell? (t.add 6)) fun ia =>
 Br (u != ia)
 (R (.returned (.bool false)) aa)
 (LdSl (aa.cell? (s.add 4)) fun da j f =>
 LdSl (aa.cell? (t.add 4)) fun ha a e =>
 Calls P0 52 #[.slice da j f,.slice ha a e] aa (post R fun v i =>
 ∃r,v=(.bool r) /\
 Br (!r)
 (R (.returned (.bool false)) i)
 (LdSl (i.cell? (s.add 7)) fun k d g =>
 LdSl (i.cell? (t.add 7)) fun z b c =>
 Calls P0 25 #[.slice k d g,.slice z b c] i (post R fun v2 h =>
 ∃fa,v2=(.bool fa) /\
 Br (!fa)
 (R (.returned (.bool false)) h)
 (J5 h))))))))))
def F15_l4 (a b:Addr)(L4:Int->World->Prop)(i:Int)(nb:World)(R:RT):Prop :=
 LdSl (nb.cell? a) fun rb fb ib =>
 Br (decide (i < ((fb:Nat):Int)))
 (∃J5:World->Prop,(∀jb,J5 jb->F15_j5 L4 i jb R) /\
 (∃J7:Addr->Addr->World->Prop,(∀s t jb,J7 s t jb->F15_j7 J5 s t jb R) /\
 (∃S:World->Prop,S nb.drew/\∃kb za gb,Held S a (.slice kb za gb)/\IdxA kb za i 8 fun pb =>
 ∃ba,Held S pb (.int .u32 ba)/\∃q,Held S (pb.add 1) (.bool q)/\∃r,Held S (pb.add 2) (.int .i64 r)/\∃da,Held S (pb.add 3) (.string da)/\∃ea k g,Held S (pb.add 4) (.slice ea k g)/\∃ka,Held S (pb.add 5) (.string ka)/\∃aa,Held S (pb.add 6) (.int .u64 aa)/\∃ja f d,Held S (pb.add 7) (.slice ja f d)/\∃mb bb ab,Held S b (.slice mb bb ab)/\IdxA mb bb i 8 fun qb =>
 ∃sa,Held S qb (.int .u32 sa)/\∃ha,Held S (qb.add 1) (.bool ha)/\∃u,Held S (qb.add 2) (.int .i64 u)/\∃pa,Held S (qb.add 3) (.string pa)/\∃fa c e,Held S (qb.add 4) (.slice fa c e)/\∃ca,Held S (qb.add 5) (.string ca)/\∃qa,Held S (qb.add 6) (.int .u64 qa)/\∃ta h j,Held S (qb.add 7) (.slice ta h j)/\(Al nb.drew #[.int .u32 0,.bool false,.int .i64 0,(.string (ByteArray.mk #[])),.slice none 0 0,(.string (ByteArray.mk #[])),.int .u64 0,.slice none 0 0] 88 fun s hb =>
 S hb/\Al hb #[.int .u32 0,.bool false,.int .i64 0,(.string (ByteArray.mk #[])),.slice none 0 0,(.string (ByteArray.mk #[])),.int .u64 0,.slice none 0 0] 88 fun t va =>
 S va/\St va s (.int .u32 ba) fun db =>
 St db (s.add 1) (.bool q) fun cb =>
 St cb (s.add 2) (.int .i64 r) fun eb =>
 St eb (s.add 3) (.string da) fun ya =>
 St ya (s.add 4) (.slice ea k g) fun n =>
 St n (s.add 5) (.string ka) fun m =>
 St m (s.add 6) (.int .u64 aa) fun ua =>
 St ua (s.add 7) (.slice ja f d) fun y =>
 S y/\St y t (.int .u32 sa) fun p =>
 St p (t.add 1) (.bool ha) fun ra =>
 St ra (t.add 2) (.int .i64 u) fun ia =>
 St ia (t.add 3) (.string pa) fun z =>
 St z (t.add 4) (.slice fa c e) fun v =>
 St v (t.add 5) (.string ca) fun ga =>
 St ga (t.add 6) (.int .u64 qa) fun ma =>
 St ma (t.add 7) (.slice ta h j) fun na =>
 J7 s t na)
 /\ (Al nb.drew #[.int .u32 0,.bool false,.int .i64 0,(.string (ByteArray.mk #[])),.slice none 0 0,(.string (ByteArray.mk #[])),.int .u64 0,.slice none 0 0] 88 fun t hb =>
 S hb/\Al hb #[.int .u32 0,.bool false,.int .i64 0,(.string (ByteArray.mk #[])),.slice none 0 0,(.string (ByteArray.mk #[])),.int .u64 0,.slice none 0 0] 88 fun s va =>
 S va/\St va s (.int .u32 ba) fun db =>
 St db (s.add 1) (.bool q) fun cb =>
 St cb (s.add 2) (.int .i64 r) fun eb =>
 St eb (s.add 3) (.string da) fun ya =>
 St ya (s.add 4) (.slice ea k g) fun n =>
 St n (s.add 5) (.string ka) fun m =>
 St m (s.add 6) (.int .u64 aa) fun ua =>
 St ua (s.add 7) (.slice ja f d) fun y =>
 S y/\St y t (.int .u32 sa) fun p =>
 St p (t.add 1) (.bool ha) fun ra =>
 St ra (t.add 2) (.int .i64 u) fun ia =>
 St ia (t.add 3) (.string pa) fun z =>
 St z (t.add 4) (.slice fa c e) fun v =>
 St v (t.add 5) (.string ca) fun ga =>
 St ga (t.add 6) (.int .u64 qa) fun ma =>
 St ma (t.add 7) (.slice ta h j) fun na =>
 J7 s t na))))
 (R (.returned (.bool true)) nb)
def F15_j3 (a b:Addr)(d:World)(R:RT):Prop :=
 ∃(I:Int->World->Prop)(m:Int->World->Nat),I (0:Int) d /\
 ∀i c,I i c->F15_l4 a b (fun i' w2=>I i' w2/\m i' w2 < m i c) i c R
def F15 (u:OA)(y z:Nat)(aa:OA)(ab ac:Nat)(ad:OA)(ae af:Nat)(ag:OA)(ah ai:Nat)(s:World)(R:RT):Prop :=
 Al s #[.slice u y z,.slice aa ab ac] 25 fun a w1 =>
 Al w1 #[.slice ad ae af,.slice ag ah ai] 25 fun b j =>
 ∃J3:World->Prop,(∀e,J3 e->F15_j3 a b e R) /\
 (LdSl (j.cell? a) fun t m n =>
 LdSl (j.cell? b) fun p i c =>
 Br (((m:Nat):Int) != ((i:Nat):Int))
 (R (.returned (.bool false)) j)
 (LdSl (j.cell? (a.add 1)) fun r g d =>
 LdSl (j.cell? (b.add 1)) fun q h f =>
 Calls P0 25 #[.slice r g d,.slice q h f] j (post R fun v e =>
 ∃k,v=(.bool k) /\
 Br (!k)
 (R (.returned (.bool false)) e)
 (J3 e))))
theorem ok15 (a:OA)(b c:Nat)(d:OA)(e f:Nat)(g:OA)(i j:Nat)(k:OA)(m n:Nat){w:World}{R:RT} (h:F15 a b c d e f g i j k m n w R):Calls P0 15 #[.agg #[.slice a b c,.slice d e f],.agg #[.slice g i j,.slice k m n]] w R :=
 vk ⟨96,⟨[]⟩,[(7,⟨[(6,(.s .addr)),(7,(.s .addr))],[(6,40)]⟩),(5,⟨[],[(4,5),(6,96)]⟩),(3,⟨[],[(4,23)]⟩)],[(4,⟨[(5,(.s (.int .i64)))],[(4,96)]⟩)]⟩ Tryz.func15 h
def F106_l5 (g1:Addr)(L2:Int->World->Prop)(i:Int)(L5:Int->World->Prop)(k:Int)(ia:World)(R:RT):Prop :=
 LdSl (ia.cell? g1) fun pa z e =>
 IdxA pa z i 8 fun na =>
 LdSl (ia.cell? (na.add 4)) fun ra s n =>
 Br (decide (k < ((s:Nat):Int)))
 (LdSl (ia.cell? g1) fun qa y r =>
 IdxA qa y i 8 fun fa =>
 LdSl (ia.cell? (fa.add 4)) fun ea ca da =>
 IdxA ea ca k 2 fun ja =>
 St ia ja (.string (ByteArray.mk #[])) fun m =>
 St m (ja.add 1) (.string (ByteArray.mk #[])) fun ba =>
 InR .i64 (k+(1:Int))/\L5 (k+(1:Int)) ba)
 (LdSl (ia.cell? g1) fun ga t u =>
 IdxA ga t i 8 fun ka =>
 LdSl (ia.cell? (ka.add 7)) fun ha h f =>
 Calls P0 162 #[.slice ha h f] ia (post R fun v m =>
 v=(.tuple #[]) /\
 LdSl (m.cell? g1) fun ma g d =>
 IdxA ma g i 8 fun sa =>
 St m sa (.int .u32 0) fun ba =>
 St ba (sa.add 1) (.bool false) fun aa =>
 St aa (sa.add 2) (.int .i64 0) fun b =>
 St b (sa.add 3) (.string (ByteArray.mk #[])) fun p =>
 St p (sa.add 4) (.slice none 0 0) fun j =>
 St j (sa.add 5) (.string (ByteArray.mk #[])) fun q =>
 St q (sa.add 6) (.int .u64 0) fun c =>
 St c (sa.add 7) (.slice none 0 0) fun a =>
 InR .i64 (i+(1:Int))/\L2 (i+(1:Int)) a))
def F106_l2 (g1:Addr)(L2:Int->World->Prop)(i:Int)(d:World)(R:RT):Prop :=
 LdSl (d.cell? g1) fun h f g =>
 Br (decide (i < ((f:Nat):Int)))
 (∃(I:Int->World->Prop)(m:Int->World->Nat),I (0:Int) d /\
 ∀k c,I k c->F106_l5 g1 L2 i (fun k' w2=>I k' w2/\m k' w2 < m k c) k c R)
 (LdSl (d.cell? (g1.add 1)) fun e b a =>
 Calls P0 162 #[.slice e b a] d (post R fun v c =>
 v=(.tuple #[]) /\
 R (.returned (.tuple #[])) c))
def F106 (c:OA)(d e:Nat)(f:OA)(g h:Nat)(b:World)(R:RT):Prop :=
 Al b #[.slice c d e,.slice f g h] 25 fun g1 w1 =>
 ∃(I:Int->World->Prop)(m:Int->World->Nat),I (0:Int) w1 /\
 ∀i a,I i a->F106_l2 g1 (fun i' w2=>I i' w2/\m i' w2 < m i a) i a R
theorem ok106 (a:OA)(b c:Nat)(d:OA)(e f:Nat){w:World}{R:RT} (h:F106 a b c d e f w R):Calls P0 106 #[.agg #[.slice a b c,.slice d e f]] w R :=
 vk ⟨46,⟨[]⟩,[],[(5,⟨[(3,(.s (.int .i64)))],[(3,31)]⟩),(2,⟨[(2,(.s (.int .i64)))],[(2,43)]⟩)]⟩ Tryz.func106 h
def F57_l9 (p d ia:OA)(fa:Nat)(L9:Int->World->Prop)(i:Int)(ha:World)(R:RT):Prop :=
 Br (decide (i < ((fa:Nat):Int)))
 (IdxA ia fa i 5 fun ga =>
 LdI .i64 (ha.cell? ga) fun aa =>
 LdStr (ha.cell? (ga.add 1)) fun da =>
 LdSl (ha.cell? (ga.add 2)) fun ba c q =>
 LdStr (ha.cell? (ga.add 3)) fun ca =>
 LdSl (ha.cell? (ga.add 4)) fun y g a =>
 Calls P0 60 #[.agg #[.int .i64 aa,.string da,.slice ba c q,.string ca,.slice y g a]] ha (post R fun v6 ea =>
 v6=(.tuple #[]) /\
 InR .i64 (i+(1:Int))/\L9 (i+(1:Int)) ea))
 (Calls P0 31 #[.pointer p] ha (post R fun v6 ea =>
 ∃u n k t m j,v6=(.agg #[.slice u n k,.slice t m j]) /\
 Calls P0 16 #[.pointer d] ea (post R fun v7 s =>
 ∃z e f v h b,v7=(.agg #[.slice z e f,.slice v h b]) /\
 Calls P0 15 #[.agg #[.slice u n k,.slice t m j],.agg #[.slice z e f,.slice v h b]] s (post R fun v8 r =>
 ∃ja,v8=(.bool ja) /\
 R (.returned (.bool ja)) r))))
def F57_j4 (p d:OA)(g5:Addr)(y:World)(R:RT):Prop :=
 LdSl (y.cell? g5) fun g a c =>
 LdSl (y.cell? (g5.add 1)) fun f e b =>
 Calls P0 106 #[.agg #[.slice g a c,.slice f e b]] y (post R fun v2 h =>
 v2=(.tuple #[]) /\
 Calls P0 107 #[.pointer p] h (post R fun v3 r =>
 ∃aa u n,v3=(.slice aa u n) /\
 Calls P0 109 #[.pointer d] r (post R fun v4 q =>
 ∃z k t,v4=(.slice z k t) /\
 Calls P0 108 #[.slice aa u n,.slice z k t] q (post R fun v5 s =>
 ∃v,v5=(.bool v) /\
 Br (!v)
 (R (.returned (.bool false)) s)
 (∃(I:Int->World->Prop)(m:Int->World->Nat),I (0:Int) s /\
 ∀i j,I i j->F57_l9 p d aa u (fun i' w2=>I i' w2/\m i' w2 < m i j) i j R)))))
def F57 (p d:OA)(w_:World)(R:RT):Prop :=
 Calls P0 31 #[.pointer p] w_ (post R fun v w1 =>
 ∃na q s ma t r,v=(.agg #[.slice na q s,.slice ma t r]) /\
 Al w1 #[.slice none 0 0,.slice none 0 0] 25 fun g5 ea =>
 St ea g5 (.slice na q s) fun ka =>
 St ka (g5.add 1) (.slice ma t r) fun ia =>
 ∃J4:World->Prop,(∀z,J4 z->F57_j4 p d g5 z R) /\
 (∃S:World->Prop,S ia.drew/\∃y c f,Held S g5 (.slice y c f)/\∃j e h,Held S (g5.add 1) (.slice j e h)/\Calls P0 16 #[.pointer d] ia.drew (post R fun v2 fa =>
 ∃n a b u g i,v2=(.agg #[.slice n a b,.slice u g i]) /\
 S fa/\Calls P0 15 #[.agg #[.slice y c f,.slice j e h],.agg #[.slice n a b,.slice u g i]] fa (post R fun v3 da =>
 ∃ta,v3=(.bool ta) /\
 S da/\Br (!ta)
 (R (.returned (.bool false)) da)
 (Calls P0 105 #[.pointer p] da (post R fun v4 ga =>
 ∃ua,v4=(.int .i64 ua) /\
 S ga/\Calls P0 41 #[.pointer d] ga (post R fun v5 aa =>
 ∃qa,v5=(.int .i64 qa) /\
 S aa/\Br (ua != qa)
 (R (.returned (.bool false)) aa)
 (NonNil d fun p26 =>
 ∃pa ha ca,Held S (p26.add 1) (.slice pa ha ca)/\Calls P0 77 #[.pointer p] aa (post R fun v6 m =>
 ∃sa ja ba,v6=(.slice sa ja ba) /\
 S m/\Calls P0 25 #[.slice sa ja ba,.slice pa ha ca] m (post R fun v7 k =>
 ∃ra,v7=(.bool ra) /\
 Br (!ra)
 (R (.returned (.bool false)) k)
 (J4 k)))))))))))
theorem ok57 (p d:OA){w:World}{R:RT} (h:F57 p d w R):Calls P0 57 #[.pointer p,.pointer d] w R :=
 vk ⟨57,⟨[]⟩,[(4,⟨[],[(4,5),(10,32)]⟩)],[(9,⟨[(7,(.s (.int .i64)))],[(7,52)]⟩)]⟩ Tryz.func57 h
def F162_l1 (l:OA)(lN:Nat)(L1:Int->World->Prop)(i:Int)(a:World)(R:RT):Prop :=
 Br (decide (i < ((lN:Nat):Int)))
 (IdxA l lN i 1 fun b =>
 St a b (.int .u64 4711) fun w1 =>
 InR .i64 (i+(1:Int))/\L1 (i+(1:Int)) w1)
 (R (.returned (.tuple #[])) a)
def F162 (l:OA)(lN lC:Nat)(a:World)(R:RT):Prop :=
 ∃(I:Int->World->Prop)(m:Int->World->Nat),I (0:Int) a /\
 ∀i w1,I i w1->F162_l1 l lN (fun i' w2=>I i' w2/\m i' w2 < m i w1) i w1 R
theorem ok162 (l:OA)(a b:Nat){w:World}{R:RT} (h:F162 l a b w R):Calls P0 162 #[.slice l a b] w R :=
 vk ⟨12,⟨[]⟩,[],[(1,⟨[(2,(.s (.int .i64)))],[(2,12)]⟩)]⟩ Tryz.func162 h
def F52_l4 (a:OA)(aN:Nat)(b:OA)(bN:Nat)(L4:Int->World->Prop)(i:Int)(g:World)(R:RT):Prop :=
 Br (decide (i < ((aN:Nat):Int)))
 (Dr g fun w1 =>
 IdxA a aN i 2 fun h =>
 LdStr (w1.cell? h) fun e =>
 LdStr (w1.cell? (h.add 1)) fun c =>
 IdxA b bN i 2 fun j =>
 LdStr (w1.cell? j) fun f =>
 LdStr (w1.cell? (j.add 1)) fun d =>
 Br (!((e == f) && ((c == d) && true)))
 (R (.returned (.bool false)) w1)
 (InR .i64 (i+(1:Int))/\L4 (i+(1:Int)) w1))
 (R (.returned (.bool true)) g)
def F52 (a:OA)(aN aC:Nat)(b:OA)(bN bC:Nat)(c:World)(R:RT):Prop :=
 Br (((aN:Nat):Int) != ((bN:Nat):Int))
 (R (.returned (.bool false)) c)
 (∃(I:Int->World->Prop)(m:Int->World->Nat),I (0:Int) c /\
 ∀i w1,I i w1->F52_l4 a aN b bN (fun i' w2=>I i' w2/\m i' w2 < m i w1) i w1 R)
theorem ok52 (a:OA)(c d:Nat)(b:OA)(e f:Nat){w:World}{R:RT} (h:F52 a c d b e f w R):Calls P0 52 #[.slice a c d,.slice b e f] w R :=
 vk ⟨26,⟨[]⟩,[],[(4,⟨[(5,(.s (.int .i64)))],[(4,26)]⟩)]⟩ Tryz.func52 h
def F108_l4 (a:OA)(aN:Nat)(b:OA)(bN:Nat)(L4:Int->World->Prop)(i:Int)(ca:World)(R:RT):Prop :=
 Br (decide (i < ((aN:Nat):Int)))
 (∃S:World->Prop,S ca.drew/\IdxA a aN i 5 fun ba =>
 ∃z,Held S ba (.int .i64 z)/\∃q,Held S (ba.add 1) (.string q)/\∃r d g,Held S (ba.add 2) (.slice r d g)/\∃t,Held S (ba.add 3) (.string t)/\∃y k e,Held S (ba.add 4) (.slice y k e)/\IdxA b bN i 5 fun da =>
 ∃m,Held S da (.int .i64 m)/\∃p,Held S (da.add 1) (.string p)/\∃u f h,Held S (da.add 2) (.slice u f h)/\∃s,Held S (da.add 3) (.string s)/\∃n c j,Held S (da.add 4) (.slice n c j)/\Calls P0 164 #[.agg #[.int .i64 z,.string q,.slice r d g,.string t,.slice y k e],.agg #[.int .i64 m,.string p,.slice u f h,.string s,.slice n c j]] ca.drew (post R fun v aa =>
 ∃ea,v=(.bool ea) /\
 Br (!ea)
 (R (.returned (.bool false)) aa)
 (InR .i64 (i+(1:Int))/\L4 (i+(1:Int)) aa)))
 (R (.returned (.bool true)) ca)
def F108 (a:OA)(aN aC:Nat)(b:OA)(bN bC:Nat)(c:World)(R:RT):Prop :=
 Br (((aN:Nat):Int) != ((bN:Nat):Int))
 (R (.returned (.bool false)) c)
 (∃(I:Int->World->Prop)(m:Int->World->Nat),I (0:Int) c /\
 ∀i w1,I i w1->F108_l4 a aN b bN (fun i' w2=>I i' w2/\m i' w2 < m i w1) i w1 R)
theorem ok108 (a:OA)(c d:Nat)(b:OA)(e f:Nat){w:World}{R:RT} (h:F108 a c d b e f w R):Calls P0 108 #[.slice a c d,.slice b e f] w R :=
 vk ⟨27,⟨[]⟩,[],[(4,⟨[(5,(.s (.int .i64)))],[(4,27)]⟩)]⟩ Tryz.func108 h
def F164 (ab:Int)(ac:ByteArray)(ad:OA)(ae af:Nat)(ag:ByteArray)(ah:OA)(ai aj:Nat)(ak:Int)(am:ByteArray)(an:OA)(aq ar:Nat)(au:ByteArray)(av:OA)(ay az:Nat)(w_:World)(R:RT):Prop :=
 Al w_ #[.int .i64 ab,.string ac,.slice ad ae af,.string ag,.slice ah ai aj] 48 fun a w1 =>
 Al w1 #[.int .i64 ak,.string am,.slice an aq ar,.string au,.slice av ay az] 48 fun b d =>
 LdI .i64 (d.cell? a) fun x6 =>
 LdI .i64 (d.cell? b) fun x8 =>
 Br (x6 != x8)
 (R (.returned (.bool false)) d)
 (LdI .i64 (d.cell? a) fun ca =>
 Br (ca == (2:Int))
 (LdStr (d.cell? (a.add 3)) fun ba =>
 LdStr (d.cell? (b.add 3)) fun y =>
 R (.returned (.bool (ba.toList == y.toList))) d)
 (LdStr (d.cell? (a.add 1)) fun u =>
 LdStr (d.cell? (b.add 1)) fun q =>
 Br (u.toList == q.toList)
 (LdSl (d.cell? (a.add 2)) fun z f j =>
 LdSl (d.cell? (b.add 2)) fun p m n =>
 Calls P0 52 #[.slice z f j,.slice p m n] d (post R fun v k =>
 ∃r,v=(.bool r) /\
 Br r
 (LdSl (k.cell? (a.add 4)) fun t g h =>
 LdSl (k.cell? (b.add 4)) fun s e c =>
 Calls P0 108 #[.slice t g h,.slice s e c] k (post R fun v2 i =>
 ∃aa,v2=(.bool aa) /\
 R (.returned (.bool aa)) i))
 (R (.returned (.bool false)) k)))
 (R (.returned (.bool false)) d)))
theorem ok164 (a:Int)(b:ByteArray)(c:OA)(d e:Nat)(f:ByteArray)(g:OA)(i j:Nat)(k:Int)(m:ByteArray)(n:OA)(p q:Nat)(r:ByteArray)(s:OA)(t u:Nat){w:World}{R:RT} (h:F164 a b c d e f g i j k m n p q r s t u w R):Calls P0 164 #[.agg #[.int .i64 a,.string b,.slice c d e,.string f,.slice g i j],.agg #[.int .i64 k,.string m,.slice n p q,.string r,.slice s t u]] w R :=
 vk ⟨37,⟨[]⟩,[],[]⟩ Tryz.func164 h
end Go.Proofs.YtnbgiacnbheonaaGreatDoor
namespace Go.Proofs.YtnbgiacnbheonaaGreatDoor
open Go.RowKit Go.Vc
set_option linter.unusedVariables false
set_option linter.unusedSimpArgs false
set_option maxRecDepth 100000
section
variable {w w1:World}{R:RT}{v u:Sv}
theorem at_same {a b:ByteArray}:(!((a == a) && ((b == b) && true)))=false:=by
 have h:∀a:ByteArray,(a == a)=true:=fun a=>by
  show (a.data == a.data)=true
  simp
 rw [h,h];rfl
theorem attrsE_calls {l:List At} (h:RR LAt w l v) (k:RR LAt w l u) (hK:∀w',Below w.heap.size w w'->R (.returned (.bool true)) w'):Calls P0 52 #[.slice v.1 v.2.1 v.2.2,.slice u.1 u.2.1 u.2.2] w R:=by
 obtain⟨z0,z1,z2⟩:=h
 obtain⟨y0,y1,y2⟩:=k
 refine ok52 v.1 v.2.1 v.2.2 u.1 u.2.1 u.2.2 ?_
 unfold F52
 refine brn (fun hne=>absurd (by rw [z1,y1]) hne) (fun _=>?_)
 refine⟨fun i w'=>∃k:Nat,i=k/\k<=l.length/\Below w.heap.size w w',fun i _=>l.length-i.toNat,⟨0,rfl,om,.refl _ _⟩,?_⟩
 rintro _ w1 ⟨k,rfl,hk,hb1⟩
 unfold F52_l4
 refine brd (fun hlt=>?_) (fun hge=>hK w1 hb1)
 have hk2:k < l.length:=by omega
 refine dr fun w2 hb2 _=>?_
 have B2:=btr hb1 hb1.size hb2
 refine (z2.keep B2).at2 z1 rfl hk2 fun b o c0 c1=>?_
 simp only [c0,c1,lds]
 refine (y2.keep B2).at2 y1 rfl hk2 fun b2 o2 d0 d1=>?_
 simp only [d0,d1,lds]
 rw [at_same,Br_f]
 exact⟨inR_i64 om om,⟨k+1,sm,om,B2⟩,(by first | omega | (dsimp only;omega))⟩
theorem handlesE_calls {l:List Nat} (h:RR LHn w l v) (k:RR LHn w l u) (hK:∀w',Below w.heap.size w w'->R (.returned (.bool true)) w'):Calls P0 25 #[.slice v.1 v.2.1 v.2.2,.slice u.1 u.2.1 u.2.2] w R:=by
 obtain⟨z0,z1,z2⟩:=h
 obtain⟨y0,y1,y2⟩:=k
 refine ok25 v.1 v.2.1 v.2.2 u.1 u.2.1 u.2.2 ?_
 unfold F25
 refine brn (fun hne=>absurd (by rw [z1,y1]) hne) (fun _=>?_)
 refine⟨fun i w'=>∃k:Nat,i=k/\k<=l.length/\Below w.heap.size w w',fun i _=>l.length-i.toNat,⟨0,rfl,om,.refl _ _⟩,?_⟩
 rintro _ w1 ⟨k,rfl,hk,hb1⟩
 unfold F25_l4
 refine brd (fun hlt=>?_) (fun hge=>hK w1 hb1)
 have hk2:k < l.length:=by omega
 refine dr fun w2 hb2 _=>?_
 have B2:=btr hb1 hb1.size hb2
 refine (z2.keep B2).hn z1 rfl hk2 fun b o c0=>?_
 simp only [c0,lds]
 refine (y2.keep B2).hn y1 rfl hk2 fun b2 o2 d0=>?_
 simp only [d0,lds]
 exact brn (fun hne=>absurd rfl hne) fun _=>⟨inR_i64 om om,⟨k+1,sm,om,B2⟩,(by first | omega | (dsimp only;omega))⟩
def SameP (x:Tr):Prop:=∀{w:World}{e e':E5}{R:RT},RTr w x e->RTr w x e'->(∀w',Below w.heap.size w w'->R (.returned (.bool true)) w') ->
  Calls P0 164 #[.agg #[.int .i64 e.kind,.string e.nm,slV e.ats,.string e.text,slV e.kids],.agg #[.int .i64 e'.kind,.string e'.nm,slV e'.ats,.string e'.text,slV e'.kids]] w R
theorem forests_of {ts:List Tr} (ih:∀t∈ts,SameP t) {es es':List E5} (hl:ts.length<=1048576) (h:RTl w ts es) (h':RTl w ts es') (hv:v.2.1=es.length) (hu:u.2.1=es'.length) (r:Rd LE5 w v.1 v.2.2 es) (r':Rd LE5 w u.1 u.2.2 es') (hK:∀w',Below w.heap.size w w'->R (.returned (.bool true)) w') :
  Calls P0 108 #[.slice v.1 v.2.1 v.2.2,.slice u.1 u.2.1 u.2.2] w R:=by
 refine ok108 v.1 v.2.1 v.2.2 u.1 u.2.1 u.2.2 ?_
 unfold F108
 have e1:=h.len
 have e2:=h'.len
 refine brn (fun hne=>absurd om hne) (fun _=>?_)
 refine⟨fun i w'=>∃k:Nat,i=k/\k<=ts.length/\Below w.heap.size w w',fun i _=>ts.length-i.toNat,⟨0,rfl,om,.refl _ _⟩,?_⟩
 rintro _ w1 ⟨k,rfl,hk,hb1⟩
 unfold F108_l4
 refine brd (fun hlt=>?_) (fun hge=>hK w1 hb1)
 have hk2:k < ts.length:=by omega
 have hdr:Below w1.heap.size w1 w1.drew:=(Below.refl _ _).drew
 have B2:=btr hb1 hb1.size hdr
 refine⟨fun w'=>Below w1.drew.heap.size w1.drew w',.refl _ _,?_⟩
 refine (r.keep B2).held (S:=fun w'=>Below w1.drew.heap.size w1.drew w') (fun _ h=>h) hv om om rfl fun b o c=>?_
 simp only [tnc] at c
 simp only [Addr.add_mk]
 refine⟨_,c 0 _ rfl,_,c 1 _ rfl,_,_,_,c 2 _ rfl,_,c 3 _ rfl,_,_,_,c 4 _ rfl,?_⟩
 refine (r'.keep B2).held (S:=fun w'=>Below w1.drew.heap.size w1.drew w') (fun _ h=>h) hu om om rfl fun b2 o2 d=>?_
 simp only [tnc] at d
 simp only [Addr.add_mk]
 refine⟨_,d 0 _ rfl,_,d 1 _ rfl,_,_,_,d 2 _ rfl,_,d 3 _ rfl,_,_,_,d 4 _ rfl,?_⟩
 refine ih ts[k] (gem hk2) (e:=es[k]) (e':=es'[k]) ((h.get k hk2 om).keep B2) ((h'.get k hk2 om).keep B2) fun w3 hb3=>⟨_,rfl,?_⟩
 rw [show (!true)=false from rfl,Br_f]
 exact⟨inR_i64 om om,⟨k+1,sm,om,btr B2 B2.size hb3⟩,(by first | omega | (dsimp only;omega))⟩
theorem same_calls:∀x:Tr,SameP x:=by
 refine Tr.ind fun kind nm attrs text kids ih=>?_
 intro w e e' R h h' hK
 simp only [RTr] at h h'
 obtain⟨t1,t2,t3,t4,t5,et,t6,t7,t8⟩:=h
 obtain⟨s1,s2,s3,s4,s5,es,s6,s7,s8⟩:=h'
 refine ok164 e.kind e.nm e.ats.1 e.ats.2.1 e.ats.2.2 e.text e.kids.1 e.kids.2.1 e.kids.2.2 e'.kind e'.nm e'.ats.1 e'.ats.2.1 e'.ats.2.2 e'.text e'.kids.1 e'.kids.2.1 e'.kids.2.2 ?_
 unfold F164
 refine al fun g1 w1 hb1 b1 hge1=>al fun g2 w2 hb2 b2 hge2=>?_
 have B2:=btr hb1 hb1.size hb2
 have b12:=b1.keep hb2
 simp only [b12.cell,b2.cell,lds]
 refine brn (fun hne=>absurd (by rw [t1,s1]) hne) (fun _=>?_)
 refine bre (fun _=>?_) (fun _=>?_)
 ·rw [t3,s3,bytes_eq,decide_eq_true rfl];exact hK w2 B2
 ·rw [t2,s2,bytes_eq,decide_eq_true rfl,Br_t]
  refine attrsE_calls (v:=e.ats) (u:=e'.ats) (t4.keep B2) (s4.keep B2) fun w3 hb3=>⟨_,rfl,?_⟩
  rw [Br_t]
  have B3:=btr B2 B2.size hb3
  have b13:=b12.keep hb3
  have b23:=b2.keep hb3
  simp only [b13.cell,b23.cell,lds]
  have k8:=t8.len
  exact forests_of (v:=e.kids) (u:=e'.kids) ih t5 (t8.keep B3) (s8.keep B3) t6 s6 (t7.keep B3) (s7.keep B3) fun w4 hb4=>⟨_,rfl,hK w4 (btr B3 B3.size hb4)⟩
theorem forests_calls {ts:List Tr}{es es':List E5} (hl:ts.length<=1048576) (h:RTl w ts es) (h':RTl w ts es') (hv:v.2.1=es.length) (hu:u.2.1=es'.length) (r:Rd LE5 w v.1 v.2.2 es) (r':Rd LE5 w u.1 u.2.2 es') (hK:∀w',Below w.heap.size w w'->R (.returned (.bool true)) w') :
  Calls P0 108 #[.slice v.1 v.2.1 v.2.2,.slice u.1 u.2.1 u.2.2] w R:=forests_of (fun t _=>same_calls t) hl h h' hv hu r r' hK
end
set_option maxRecDepth 100000
abbrev slC (e:S8):Array Value:=#[.int .u32 (e.gen:Nat),.bool e.live,.int .i64 e.kind,.string e.nm,.slice e.ats.1 e.ats.2.1 e.ats.2.2,.string e.text,.int .u64 (e.parent:Nat),.slice e.kids.1 e.kids.2.1 e.kids.2.2]
section
variable {w w1:World}{R:RT}{vs vr us ur:Sv}{X:Im}
theorem st8_blk {w:World}{g:Nat}{c0 c1 c2 c3 c4 c5 c6 c7:Value} (h:Blk w g #[c0,c1,c2,c3,c4,c5,c6,c7] 88) {a0 a1 a2 a3 a4 a5 a6 a7:Value}{K:World->Prop} (hK:∀w',Blk w' g #[a0,a1,a2,a3,a4,a5,a6,a7] 88->Fm (·=g) w w'->K w') :
  St w ⟨g,0,none⟩ a0 fun w1=>St w1 ⟨g,0+1,none⟩ a1 fun w2=>St w2 ⟨g,0+2,none⟩ a2 fun w3=>St w3 ⟨g,0+3,none⟩ a3 fun w4=>St w4 ⟨g,0+4,none⟩ a4 fun w5=>St w5 ⟨g,0+5,none⟩ a5 fun w6=>St w6 ⟨g,0+6,none⟩ a6 fun w7=>St w7 ⟨g,0+7,none⟩ a7 K:=by
 refine st_blk h sm fun u1 q1 f1=>st_blk q1 sm fun u2 q2 f2=>st_blk q2 sm fun u3 q3 f3=>st_blk q3 sm fun u4 q4 f4=>st_blk q4 sm fun u5 q5 f5=>st_blk q5 sm fun u6 q6 f6=>st_blk q6 sm fun u7 q7 f7=>st_blk q7 sm fun w8 q8 f8=>hK w8 ?_ (((((((f1.trans f2).trans f3).trans f4).trans f5).trans f6).trans f7).trans f8)
 simp only [List.setIfInBounds_toArray,Nat.zero_add,List.set_cons_zero,List.set_cons_succ] at q8
 exact q8
theorem rd8H {S:World->Prop}{A:OA}{c:Nat}{es:List S8} (h:Rd LS8 w A c es) (hS:∀w1,S w1->Below w.heap.size w w1) {n:Nat} (hn:n=es.length) {i:Int}{k:Nat} (hi:i=k) (hk:k < es.length) {K:Addr->Prop}
  (hK:∀b o,Held S ⟨b,o,none⟩ (.int .u32 (es[k].gen:Nat))->Held S ⟨b,o+1,none⟩ (.bool es[k].live)->Held S ⟨b,o+2,none⟩ (.int .i64 es[k].kind)->Held S ⟨b,o+3,none⟩ (.string es[k].nm)->Held S ⟨b,o+4,none⟩ (.slice es[k].ats.1 es[k].ats.2.1 es[k].ats.2.2)->Held S ⟨b,o+5,none⟩ (.string es[k].text) ->
   Held S ⟨b,o+6,none⟩ (.int .u64 (es[k].parent:Nat))->Held S ⟨b,o+7,none⟩ (.slice es[k].kids.1 es[k].kids.2.1 es[k].kids.2.2)->K ⟨b,o,none⟩):IdxA A n i 8 K:=by
 subst hi
 refine h.held hS hn om om rfl fun b o hc=>?_
 simp only [tnc] at hc
 exact hK b o (hc 0 _ rfl) (hc 1 _ rfl) (hc 2 _ rfl) (hc 3 _ rfl) (hc 4 _ rfl) (hc 5 _ rfl) (hc 6 _ rfl) (hc 7 _ rfl)
theorem imagesE_calls (h:RIm w X vs vr) (k:RIm w X us ur) (hK:∀w',Below w.heap.size w w'->R (.returned (.bool true)) w') :
  Calls P0 15 #[.agg #[.slice vs.1 vs.2.1 vs.2.2,.slice vr.1 vr.2.1 vr.2.2],.agg #[.slice us.1 us.2.1 us.2.2,.slice ur.1 ur.2.1 ur.2.2]] w R:=by
 obtain⟨es,hn,hr,hes⟩:=h.row
 obtain⟨fs,kn,kr,kes⟩:=k.row
 have hel:=hes.len
 have kel:=kes.len
 have hXl:=h.len
 refine ok15 vs.1 vs.2.1 vs.2.2 vr.1 vr.2.1 vr.2.2 us.1 us.2.1 us.2.2 ur.1 ur.2.1 ur.2.2 ?_
 unfold F15
 refine al fun ga w1 hb1 ba hge1=>al fun gb w2 hb2 bb hge2=>?_
 have B2:=btr hb1 hb1.size hb2
 have ba2:=ba.keep hb2
 have hgl:=ba.lt
 refine⟨fun w'=>Below w2.heap.size w2 w',?_,?_⟩
 rotate_left
 ·simp only [ba2.cell,bb.cell,lds]
  refine brn (fun hne=>absurd om hne) (fun _=>?_)
  refine handlesE_calls (v:=vr) (u:=ur) (h.roots.keep B2) (k.roots.keep B2) fun w3 hb3=>⟨_,rfl,?_⟩
  rw [show (!true)=false from rfl,Br_f]
  exact hb3
 intro w3 hb3
 unfold F15_j3
 refine⟨fun i w'=>∃m:Nat,i=m/\m<=X.sl.length/\Below w2.heap.size w2 w',fun i _=>X.sl.length-i.toNat,⟨0,rfl,om,hb3⟩,?_⟩
 rintro _ w4 ⟨m,rfl,hm,hb4⟩
 have B4:=btr B2 B2.size hb4
 unfold F15_l4
 have ba4:=ba2.keep hb4
 have bb4:=bb.keep hb4
 simp only [ba4.cell,lds]
 refine brd (fun hlt=>?_) (fun hge=>hK w4 B4)
 have hm2:m < X.sl.length:=by omega
 have hme:m < es.length:=by omega
 have hmf:m < fs.length:=by omega
 have hs:=hes.get m hm2 hme
 have ks:=kes.get m hm2 hmf
 refine⟨fun w'=>Below w4.heap.size w4 w',?_,?_⟩
 ·intro w' hb
  exact⟨inR_i64 om om,⟨m+1,sm,om,btr hb4 hb4.size hb⟩,(by first | omega | (dsimp only;omega))⟩
 refine⟨fun s t w'=>∃gs gt,s=⟨gs,0,none⟩/\t=⟨gt,0,none⟩/\Blk w' gs (slC es[m]) 88/\Blk w' gt (slC fs[m]) 88/\Below w4.heap.size w4 w',?_,?_⟩
 ·rintro _ _ w5 ⟨gs,gt,rfl,rfl,bs,bt,hb5⟩
  unfold F15_j7
  have B5:=btr B4 B4.size hb5
  have bs':Blk w5 gs (slC es[m]) 88:=bs
  simp only [bs.cell,bt.cell,slC,lds]
  refine brn (fun hne=>absurd (by rw [hs.gen,ks.gen]) hne) fun _=>?_
  rw [hs.live,ks.live,beq_self_eq_true,show (!true)=false from rfl,Br_f]
  refine brn (fun hne=>absurd (by rw [hs.kind,ks.kind]) hne) fun _=>?_
  rw [bytes_eq,hs.nm,ks.nm,decide_eq_true rfl,show (!true)=false from rfl,Br_f]
  rw [bytes_eq,hs.text,ks.text,decide_eq_true rfl,show (!true)=false from rfl,Br_f]
  refine brn (fun hne=>absurd (by rw [hs.parent,ks.parent]) hne) fun _=>?_
  refine attrsE_calls (v:=es[m].ats) (u:=fs[m].ats) (hs.ats.keep B5) (ks.ats.keep B5) fun w6 hb6=>⟨_,rfl,?_⟩
  rw [show (!true)=false from rfl,Br_f]
  have bs6:=bs'.keep hb6
  have bt6:Blk w6 gt (slC fs[m]) 88:=bt.keep hb6
  simp only [bs6.cell,bt6.cell,slC,lds]
  refine handlesE_calls (v:=es[m].kids) (u:=fs[m].kids) (hs.kids.keep (btr B5 B5.size hb6)) (ks.kids.keep (btr B5 B5.size hb6)) fun w7 hb7=>⟨_,rfl,?_⟩
  rw [show (!true)=false from rfl,Br_f]
  exact btr (btr hb5 hb5.size hb6) (btr hb5 hb5.size hb6).size hb7
 have hdr:Below w4.heap.size w4 w4.drew:=(Below.refl _ _).drew
 have B5:=btr B4 B4.size hdr
 have ba5:=ba4.keep hdr
 have bb5:=bb4.keep hdr
 refine⟨fun w'=>Below w4.drew.heap.size w4.drew w',.refl _ _,?_⟩
 refine⟨vs.1,vs.2.1,vs.2.2,fun w' hw=>by rw [(ba5.keep hw).cell];rfl,?_⟩
 refine rd8H (S:=fun w'=>Below w4.drew.heap.size w4.drew w') (hr.keep B5) (fun _ h=>h) hn rfl hme fun b1 o1 c0 c1 c2 c3 c4 c5 c6 c7=>?_
 simp only [Addr.add_mk]
 refine⟨_,c0,_,c1,_,c2,_,c3,_,_,_,c4,_,c5,_,c6,_,_,_,c7,?_⟩
 refine⟨us.1,us.2.1,us.2.2,fun w' hw=>by rw [(bb5.keep hw).cell];rfl,?_⟩
 refine rd8H (S:=fun w'=>Below w4.drew.heap.size w4.drew w') (kr.keep B5) (fun _ h=>h) kn rfl hmf fun b2 o2 d0 d1 d2 d3 d4 d5 d6 d7=>?_
 refine⟨_,d0,_,d1,_,d2,_,d3,_,_,_,d4,_,d5,_,d6,_,_,_,d7,?_⟩
 have h45:=hdr.size
 constructor
 ·refine al fun gs w6 hb6 bs hge6=>⟨hb6,al fun gt w7 hb7 bt hge7=>⟨btr hb6 hb6.size hb7,?_⟩⟩
  have D7:=btr hb6 hb6.size hb7
  have hs6:=hb6.size
  have hgs:=bs.lt
  refine st8_blk (bs.keep hb7) fun w8 bs8 f8=>?_
  have D8:Below w4.drew.heap.size w4.drew w8:=D7.trans (f8.toBelow D7.size fun b hb e=>by have e:b=gs:=e;omega)
  refine⟨D8,?_⟩
  refine st8_blk (f8.blk bt fun e=>by have e:gt=gs:=e;omega) fun w9 bt9 f9=>?_
  refine⟨gs,gt,rfl,rfl,f9.blk bs8 fun e=>by have e:gs=gt:=e;omega,bt9,hdr.trans ((D8.trans (f9.toBelow D8.size fun b hb e=>by have e:b=gt:=e;omega)).mono h45)⟩
 ·refine al fun gt w6 hb6 bt hge6=>⟨hb6,al fun gs w7 hb7 bs hge7=>⟨btr hb6 hb6.size hb7,?_⟩⟩
  have D7:=btr hb6 hb6.size hb7
  have hs6:=hb6.size
  have hgt:=bt.lt
  refine st8_blk bs fun w8 bs8 f8=>?_
  have D8:Below w4.drew.heap.size w4.drew w8:=D7.trans (f8.toBelow D7.size fun b hb e=>by have e:b=gs:=e;omega)
  refine⟨D8,?_⟩
  refine st8_blk (f8.blk (bt.keep hb7) fun e=>by have e:gt=gs:=e;omega) fun w9 bt9 f9=>?_
  refine⟨gs,gt,rfl,rfl,f9.blk bs8 fun e=>by have e:gs=gt:=e;omega,bt9,hdr.trans ((D8.trans (f9.toBelow D8.size fun b hb e=>by have e:b=gt:=e;omega)).mono h45)⟩
end
set_option maxRecDepth 100000
section
variable {w w1:World}{o:Nat->Nat}{R:RT}
theorem TreeU_calls {k g:Nat}{ty:TypeId}{D:Im} (h:LD k g ty w o D) (hK:∀gc bs o' w' S',Below w.heap.size w w'->S'.D=D->PM w' o' ⟨gc,106,[]⟩ S'->S'.bs=bs->(∀b,o' b≠0->w.heap.size<=b)->PI S'->R (.returned (.pointer (some ⟨gc,0,none⟩))) w') :
  Calls P0 30 #[.pointer (some ⟨g,0,none⟩)] w R:=by
 obtain⟨S,nms,gv,E,rfl,h⟩:=h
 obtain⟨tl,-,hp⟩:=h.x.pm
 refine ok30 (some ⟨g,0,none⟩) ?_
 unfold F30
 simp only [NonNil_some]
 refine Clone_calls (θ:=⟨g,ty,tl⟩) hp ?_
 intro gc bs o' w' hb hq ho
 refine⟨some ⟨gc,0,none⟩,rfl,?_⟩
 exact hK gc bs o' w' ⟨S.D,bs,S.lv,S.wn,S.lo⟩ hb rfl hq rfl ho ⟨h.pi.lv,h.pi.wn,h.pi.lo,h.pi.lo2⟩
end
set_option maxRecDepth 100000
theorem own_types {α β:Type}{L:Lay α}{L2:Lay β}{w:World}{B B2:Nat}{e e2:TypeId}{v u:Value}{xs:List α}{ys:List β} (h:Own L w B e v xs) (k:Own L2 w B2 e2 u ys) (he:e≠e2):Apart v u:=by
 rcases h with ⟨rfl,_⟩ | ⟨⟨a,rfl⟩,_⟩ | ⟨g,c,cur,rfl,_,h1,_⟩
 ·exact .inl rfl
 ·exact .inl rfl
 ·rcases k with ⟨rfl,_⟩ | ⟨⟨a,rfl⟩,_⟩ | ⟨g',c',cur',rfl,_,h2,_⟩
  ·exact .inr fun e=>by cases e
  ·exact .inr fun e=>by cases e
  ·refine .inr fun e=>?_
   have e:some g=some g':=e
   obtain rfl:=osi e
   rw [h1] at h2
   simp only [Option.some.injEq,Obj.cells.injEq] at h2
   exact he h2.2.1
theorem ap_symm {v u:Value} (h:Apart v u):Apart u v:=by
 rcases h with h | h
 ·cases hu:rowOf u with
  | none=>exact .inl hu
  | some x=>exact .inr (by rw [h,hu];exact fun e=>by cases e)
 ·exact .inr fun e=>h e.symm
structure OSl (w:World) (B:Nat) (s:Sl) (e:S8):Prop where
 gen:e.gen=s.gen
 live:e.live=s.live
 kind:e.kind=s.kind
 nm:e.nm=s.nm
 text:e.text=s.text
 parent:e.parent=s.parent
 ats:Own LAt w B 145 (slV e.ats) s.attrs
 kids:Own LHn w B 42 (slV e.kids) s.kids
structure OIm (w:World) (B:Nat) (l:List Sl) (vs:Sv) (es:List S8):Prop where
 own:Own LS8 w B 88 (slV vs) es
 len:es.length=l.length
 el:∀(i:Nat) (s:Sl) (e:S8),l[i]?=some s->es[i]?=some e->OSl w B s e
 ap:∀(i j:Nat) (e f:S8),i≠j->es[i]?=some e->es[j]?=some f->Apart (slV e.ats) (slV f.ats)/\Apart (slV e.kids) (slV f.kids)
section
variable {w w0 w1:World}{o:Nat->Nat}{θ:Th}{S:PS}{R:RT}{B:Nat}{s:Sl}{e:S8}{l:List Sl}{vs:Sv}{es:List S8}
theorem OSl.keep (h:OSl w B s e) (hb:Below w.heap.size w w1):OSl w1 B s e:=⟨h.gen,h.live,h.kind,h.nm,h.text,h.parent,h.ats.keep hb,h.kids.keep hb⟩
theorem OSl.fm {M:Nat->Prop} (h:OSl w B s e) (hf:Fm M w w1) (h1:∀b,rowOf (slV e.ats)=some b->¬M b) (h2:∀b,rowOf (slV e.kids)=some b->¬M b):OSl w1 B s e :=
 ⟨h.gen,h.live,h.kind,h.nm,h.text,h.parent,own_fm h.ats hf h1,own_fm h.kids hf h2⟩
theorem OIm.keep (h:OIm w B l vs es) (hb:Below w.heap.size w w1):OIm w1 B l vs es:=⟨h.own.keep hb,h.len,fun i s e h1 h2=>(h.el i s e h1 h2).keep hb,h.ap⟩
theorem tyAS:145≠88:=by decide
theorem tyHS:42≠88:=by decide
theorem tyAH:145≠42:=by decide
theorem tySA:88≠145:=by decide
theorem tySH:88≠42:=by decide
theorem tyHA:42≠145:=by decide
theorem OIm.push (h:OIm w B l vs es) (hs:OSl w B s e) (hap:∀(i:Nat) (f:S8),es[i]?=some f->Apart (slV f.ats) (slV e.ats)/\Apart (slV f.kids) (slV e.kids)) {vs':Sv} (ho:Own LS8 w1 B 88 (slV vs') (es++[e])) {B':Nat} (hg:Grew B' w w1 (slV vs) (slV vs')):OIm w1 B (l++[s]) vs' (es++[e]):=by
 have hl:=h.len
 have get:∀(i:Nat) (f:S8),(es++[e])[i]?=some f->es[i]?=some f\/i=es.length/\f=e:=fun i f hf=>by
  rcases Nat.lt_or_ge i es.length with h1 | h1
  ·rw [gal h1] at hf;exact .inl hf
  ·rw [gar h1] at hf
   cases hj:i-es.length with
   | zero=>rw [hj] at hf;exact .inr ⟨om,by simpa using hf.symm⟩
   | succ j=>rw [hj] at hf;simp at hf
 have keep:∀{s':Sl}{f:S8},OSl w B s' f->OSl w1 B s' f:=fun {s' f} q=>⟨q.gen,q.live,q.kind,q.nm,q.text,q.parent,(hg.own q.ats (own_types q.ats h.own tyAS)).1,(hg.own q.kids (own_types q.kids h.own tyHS)).1⟩
 refine⟨ho,by simp [hl],fun i s' f h1 h2=>?_,fun i j f f' hij h1 h2=>?_⟩
 ·rcases get i f h2 with q | ⟨q1,q2⟩
  ·have hi:=(gsi.1 q).1
   rw [gal om] at h1
   exact keep (h.el i s' f h1 q)
  ·subst q2
   rw [gar om,q1,hl,Nat.sub_self] at h1
   obtain rfl:s=s':=by simpa using h1
   exact keep hs
 ·rcases get i f h1 with q | ⟨q1,q2⟩
  ·rcases get j f' h2 with r | ⟨r1,r2⟩
   ·exact h.ap i j f f' hij q r
   ·subst r2;exact hap i f q
  ·rcases get j f' h2 with r | ⟨r1,r2⟩
   ·subst q2
    have:=hap j f' r
    exact⟨ap_symm this.1,ap_symm this.2⟩
   ·omega
theorem z2_get:∀(l:List Sl) (es:List S8),es.length=l.length->(∀(i:Nat) (s:Sl) (e:S8),l[i]?=some s->es[i]?=some e->RSl w s e)->Z2 (RSl w) l es
 | [],es,h,_=>List.length_eq_zero_iff.1 h
 | s :: l,[],h,_=>by simp at h
 | s :: l,e :: es,h,k=>⟨e,es,rfl,k 0 s e rfl rfl,z2_get l es (by simpa using h) fun i s' e' h1 h2=>k (i+1) s' e' h1 h2⟩
theorem OIm.rim (h:OIm w B l vs es) {roots:List Nat}{vr:Sv} (hr:RR LHn w roots vr) (hl:l.length<=1048576) (hat:∀s∈l,s.attrs.length<=1048576) (hk:∀s∈l,s.kids.length<=1048576) (hok:∀s∈l,SlOk s) (hrok:∀h∈roots,h < 18446744073709551616):RIm w ⟨l,roots⟩ vs vr:=by
 obtain⟨q1,q2⟩:=rdO h.own
 refine⟨hl,⟨es,q1,q2,z2_get l es h.len fun i s e h1 h2=>?_⟩,hr,hok,hrok⟩
 have hs:=mog h1
 obtain⟨a1,a2,a3,a4,a5,a6,a7,a8⟩:=h.el i s e h1 h2
 exact⟨a1,a2,a3,a4,a5,a6,⟨hat s hs,rdO a7⟩,⟨hk s hs,rdO a8⟩⟩
end
set_option maxRecDepth 100000
section
variable {w w0 w1:World}{o:Nat->Nat}{θ:Th}{S:PS}{R:RT}{B:Nat}{s:Sl}{e:S8}{l:List Sl}{vs:Sv}{es:List S8}
theorem hnd0_calls (hK:R (.returned (.int .u64 0)) w):Calls P0 79 #[.pointer none] w R:=by
 refine ok79 none ?_
 unfold F79
 rw [show (none:OA).isNone=true from rfl,Br_t]
 exact hK
theorem hndH_calls {t:Option Sl} (h:PM w o θ S) {x:Nat} (hx:x=0\/∃s,slA S.D.sl x=some s) (hK:∀w',Below w.heap.size w w'->R (.returned (.int .u64 (x:Nat))) w'):Calls P0 79 #[.pointer (ptrH S.bs x)] w R:=by
 unfold ptrH
 by_cases e:x=0
 ·subst e
  rw [if_pos rfl]
  exact hnd0_calls (hK w (.refl _ _))
 ·rw [if_neg e]
  obtain⟨s,hs⟩:=hx.resolve_left e
  exact hnd_calls h hs hK
theorem Image_calls (h:PM w o θ S) (hw:Wf S.D) (hK:∀vs vr es w' B1,Below w.heap.size w w'->w.heap.size<=B1->OIm w' B1 S.D.sl vs es->Own LHn w' w.heap.size 42 (slV vr) S.D.roots->(∀b,rowOf (slV vr)=some b->b < B1)->R (.returned (.agg #[slV vs,slV vr])) w') :
  Calls P0 31 #[.pointer (some ⟨θ.g,0,none⟩)] w R:=by
 have hA:=hw.a
 have hfew:=h.few
 refine ok31 (some ⟨θ.g,0,none⟩) ?_
 unfold F31
 refine al fun g2 w1 hb1 b1 hge1=>?_
 have h1:=h.below hb1
 refine Roots_calls h1 hA fun vr w2 hb2 or_=>⟨_,_,_,rfl,?_⟩
 have B2:=btr hb1 hb1.size hb2
 refine al fun g3 w3 hb3 b3 hge3=>?_
 have B3:=btr B2 B2.size hb3
 have hs1:=hb1.size
 have hs2:=hb2.size
 have hs3:=hb3.size
 have hg2:=b1.lt
 have hg3:=b3.lt
 refine st_blk b3 sm fun u1 q1 f1=>st_blk q1 sm fun w4 b4 f4=>?_
 simp only [sls] at b4
 have F4:Fm (·=g3) w3 w4:=f1.trans f4
 have hs34:=F4.size
 have B4:Below w.heap.size w w4:=B3.trans (F4.toBelow B3.size fun b hb e=>by have e:b=g3:=e;omega)
 have h4:=h.below B4
 have b14:Blk w4 g2 #[.slice none 0 0,.slice none 0 0] 25:=F4.blk ((b1.keep hb2).keep hb3) fun e=>by have e:g2=g3:=e;omega
 have or4:Own LHn w4 w1.heap.size 42 (slV vr) S.D.roots:=own_fm (or_.keep hb3) F4 fun b hb e=>by have e:b=g3:=e;have:=(or_.lt b hb).2;omega
 obtain⟨nv,rv,hd⟩:=h4.doc
 obtain⟨n1,n2⟩:=rdO hd.n1
 have cv:w4.cell? ⟨θ.g,0,none⟩=some (.slice nv.1 nv.2.1 nv.2.2):=by rw [hd.blk.cell];rfl
 simp only [NonNil_some,cv,lds]
 have hlen:=h.len
 have hs4:=B4.size
 have hgd:θ.g < w.heap.size:=h.lt θ.g (by rw [h.col];decide)
 refine⟨fun i w'=>∃(k:Nat) (vs:Sv) (es:List S8),i=k/\k<=S.D.sl.length/\Below w.heap.size w w'/\w4.heap.size<=w'.heap.size/\Blk w' g3 #[slV vs,slV vr] 25/\Blk w' g2 #[.slice none 0 0,.slice none 0 0] 25/\Own LHn w' w1.heap.size 42 (slV vr) S.D.roots/\OIm w' w4.heap.size (S.D.sl.take k) vs es,fun i _=>S.D.sl.length-i.toNat,
  ⟨0,(none,0,0),[],rfl,om,B4,Nat.le_refl _,b4,b14,or4,Own.nil _ _ _ _,rfl,fun i s e h=>by simp at h,fun i j e f _ h=>by simp at h⟩,?_⟩
 rintro _ w5 ⟨k,vs,es,rfl,hk,B5,hsz5,b35,b25,or5,oi5⟩
 unfold F31_l3
 refine brd (fun hlt=>?_) (fun hge=>?_)
 rotate_left
 ·have hk2:k=S.D.sl.length:=by omega
  subst hk2
  rw [tkl] at oi5
  simp only [b35.cell,slV,lds]
  refine st_blk b25 sm fun u1 q1 f1=>st_blk q1 sm fun w6 b6 f6=>?_
  simp only [sls] at b6
  have F6:Fm (·=g2) w5 w6:=f1.trans f6
  simp only [b6.cell,slV,lds]
  refine hK vs vr es w6 w4.heap.size (B5.trans (F6.toBelow B5.size fun b hb e=>by have e:b=g2:=e;omega)) hs4 ?_ ((own_fm or5 F6 fun b hb e=>by have e:b=g2:=e;have:=(or5.lt b hb).1;omega).rebase fun b hb=>by have:=(or5.lt b hb).1;omega) fun b hb=>by have:=(or_.lt b hb).2;omega
  have ne:∀{b},w4.heap.size<=b->¬b=g2:=fun {b} hb e=>by omega
  refine⟨own_fm oi5.own F6 fun b hb e=>ne ((oi5.own.lt b hb).1) e,oi5.len,fun i s e a1 a2=>?_,oi5.ap⟩
  have q:=oi5.el i s e a1 a2
  exact q.fm F6 (fun b hb e=>ne ((q.ats.lt b hb).1) e) fun b hb e=>ne ((q.kids.lt b hb).1) e
 have hk2:k < S.D.sl.length:=by omega
 have hkb:k < S.bs.length:=by omega
 have h5:=h.below B5
 have hbk:S.bs[k]?=some S.bs[k]:=gge hkb
 have hsk:S.D.sl[k]?=some S.D.sl[k]:=gge hk2
 have hd5:Rd LPt w5 nv.1 nv.2.2 S.bs:=by
  obtain⟨nv',rv',hd'⟩:=h5.doc
  have e1:nv'=nv:=by
   have c1:w5.cell? ⟨θ.g,0,none⟩=some (slV nv'):=by rw [hd'.blk.cell];rfl
   have c2:w5.cell? ⟨θ.g,0,none⟩=some (slV nv):=by
    obtain⟨nv0,rv0,hd0⟩:=h.doc
    have c3:w.cell? ⟨θ.g,0,none⟩=some (slV nv0):=by rw [hd0.blk.cell];rfl
    have c4:=(sub_below B4).cell c3
    have c5:w4.cell? ⟨θ.g,0,none⟩=some (slV nv):=cv
    rw [c5] at c4
    rw [c4];exact (sub_below B5).cell c3
   rw [c1] at c2
   have:=osi c2
   exact slvF (by rw [this];rfl)
  subst e1
  exact (rdO hd'.n1).2
 have hNode:=h5.nodes k _ _ hbk hsk
 obtain⟨av,kv,hN⟩:=hNode
 refine hd5.pt n1 rfl hkb fun b o cc=>?_
 simp only [cc,lds]
 generalize hbn:S.bs[k]=bn at *
 generalize hss:S.D.sl[k]=s at *
 have hdr:Below w5.heap.size w5 w5.drew:=(Below.refl _ _).drew
 have cellN:∀{w'}{j:Nat}{v:Value},Below w5.heap.size w5 w'->(nodeC k s av (ptrH S.bs s.parent) kv)[j]?=some v->w'.cell? ⟨bn,j,none⟩=some v:=fun hb hv=>by rw [(hN.blk.keep hb).cell];exact hv
 refine⟨fun w'=>Below w5.heap.size w5 w',hdr,?_⟩
 simp only [nds]
 refine⟨_,fun w' hw=>cellN hw rfl,_,fun w' hw=>cellN hw rfl,?_⟩
 refine al fun gs w6 hb6 bs6 hge6=>⟨btr hdr hdr.size hb6,?_⟩
 have C6:=btr hdr hdr.size hb6
 have hds:w5.drew.heap.size=w5.heap.size:=rfl
 have hgs:=bs6.lt
 refine st8_blk bs6 fun w7 bs7 f7=>?_
 have C7:Below w5.heap.size w5 w7:=C6.trans (f7.toBelow C6.size fun b hb e=>by have e:b=gs:=e;omega)
 have hsr:s∈S.D.sl:=mog hsk
 refine⟨fun w'=>∃e:S8,Blk w' gs (slC e) 88/\OSl w' w5.heap.size s e/\Below w5.heap.size w5 w'/\gs < w'.heap.size,?_,?_⟩
 ·rintro w8 ⟨e,bs8,oe8,C8,hgs8⟩
  unfold F31_j9
  have b38:=b35.keep C8
  simp only [b38.cell,bs8.cell,slV,slC,lds]
  have oi8:=oi5.keep C8
  have hs8:=C8.size
  have hlt:=oi5.len
  rw [ltk] at hlt
  refine ap1 (L:=LS8) (x:=e) (base:=w4.heap.size) (v:=slV vs) (.agg #[.int .u32 0,.bool false,.int .i64 0,.string (ByteArray.mk #[]),.slice none 0 0,.string (ByteArray.mk #[]),.int .u64 0,.slice none 0 0]) 104 rfl kr kr kr oi8.own om om (by unfold maxLen;omega) fun A' c' w9 o9 g9=>⟨A',_,c',rfl,?_⟩
  have FG:Fm (fun b=>rowOf (slV vs)=some b) w8 w9:=Fm.grown g9.grown fun b hb=>hb
  have hrv:∀b,rowOf (slV vs)=some b->w4.heap.size<=b/\b < w5.heap.size:=fun b hb=>oi5.own.lt b hb
  have oi9:OIm w9 w4.heap.size (S.D.sl.take k++[s]) (A',es.length+1,c') (es++[e]):=oi8.push ⟨oe8.gen,oe8.live,oe8.kind,oe8.nm,oe8.text,oe8.parent,oe8.ats.rebase fun b hb=>by have:=(oe8.ats.lt b hb).1;omega,oe8.kids.rebase fun b hb=>by have:=(oe8.kids.lt b hb).1;omega⟩ (fun i f hf=>by
   have hi:i < (S.D.sl.take k).length:=by rw [<-oi5.len];exact (gsi.1 hf).1
   have q:=oi5.el i _ f (gge hi) hf
   refine⟨ap_symm ?_,ap_symm ?_⟩
   ·cases hr:rowOf (slV e.ats) with
    | none=>exact .inl hr
    | some b=>exact .inr (by rw [hr];intro e2;have h1:=(oe8.ats.lt b hr).1;have h2:=(q.ats.lt b e2.symm).2;omega)
   ·cases hr:rowOf (slV e.kids) with
    | none=>exact .inl hr
    | some b=>exact .inr (by rw [hr];intro e2;have h1:=(oe8.kids.lt b hr).1;have h2:=(q.kids.lt b e2.symm).2;omega)) o9 g9
  have b39:Blk w9 g3 #[slV vs,slV vr] 25:=FG.blk b38 fun e2=>by have:=hrv _ e2;omega
  have b29:Blk w9 g2 #[.slice none 0 0,.slice none 0 0] 25:=FG.blk (b25.keep C8) fun e2=>by have:=hrv _ e2;omega
  have hrr:∀b,rowOf (slV vr)=some b->w1.heap.size<=b/\b < w2.heap.size:=fun b hb=>or_.lt b hb
  have or9:Own LHn w9 w1.heap.size 42 (slV vr) S.D.roots:=own_fm (or5.keep C8) FG fun b hb e2=>by have:=hrv b e2;have:=hrr b hb;omega
  refine st_blk b39 sm fun w10 b310 f10=>?_
  simp only [sls] at b310
  have ne:∀{b},w4.heap.size<=b->¬b=g3:=fun {b} hb e=>by omega
  have hs9:=FG.size
  have B9:Below w.heap.size w w9:=(B5.trans (C8.mono B5.size)).trans (FG.toBelow om fun b hb e2=>by have:=hrv b e2;omega)
  refine⟨inR_i64 om om,⟨k+1,(A',es.length+1,c'),es++[e],sm,om,B9.trans (f10.toBelow B9.size fun b hb e2=>by have e2:b=g3:=e2;omega),by have:=f10.size;omega,b310,f10.blk b29 (fun e2=>by have e2:g2=g3:=e2;omega),own_fm or9 f10 (fun b hb e2=>by have e2:b=g3:=e2;have:=hrr b hb;omega),?_⟩,(by first | omega | (dsimp only;omega))⟩
  have htk:S.D.sl.take (k+1)=S.D.sl.take k++[s]:=by rw [tsa hk2,hss]
  rw [htk]
  refine⟨own_fm oi9.own f10 fun b hb e2=>ne ((oi9.own.lt b hb).1) e2,oi9.len,fun i t f a1 a2=>?_,oi9.ap⟩
  have q:=oi9.el i t f a1 a2
  exact q.fm f10 (fun b hb e2=>ne ((q.ats.lt b hb).1) e2) fun b hb e2=>ne ((q.kids.lt b hb).1) e2
 ·have c2:w7.cell? ⟨bn,2,none⟩=some (.bool s.live):=cellN C7 rfl
  simp only [c2,lds]
  have hr:=h.rng s hsr
  refine br (fun hlv=>?_) (fun hdd=>?_)
  rotate_left
  ·have hs0:s=deadS s.gen:=hw.s.dead s hsr hdd
   refine⟨⟨s.gen,s.live,0,ByteArray.mk #[],(none,0,0),ByteArray.mk #[],0,(none,0,0)⟩,bs7,⟨rfl,rfl,by rw [hs0];rfl,by rw [hs0];rfl,by rw [hs0];rfl,by rw [hs0];rfl,by rw [hs0];exact Own.nil _ _ _ _,by rw [hs0];exact Own.nil _ _ _ _⟩,C7,bs7.lt⟩
  have hx:slA S.D.sl (hnd s.gen k)=some s:=slA_iff.2 ⟨k,by
   have:=hr.gen
   unfold hnd;omega,hsk,hlv,rfl⟩
  have hd7:Below w7.heap.size w7 w7.drew:=(Below.refl _ _).drew
  have C7d:=btr C7 C7.size hd7
  refine⟨fun w'=>Below w5.heap.size w5 w',C7d,?_⟩
  refine⟨_,fun w' hw=>cellN hw rfl,_,fun w' hw=>cellN hw rfl,_,_,_,fun w' hw=>cellN hw rfl,_,fun w' hw=>cellN hw rfl,?_⟩
  refine cloneOwn_calls s.attrs av ((rr_own hN.at1 hr.atf).keep C7d) fun va w8 hb8 oa=>⟨_,_,_,rfl,?_⟩
  have C8:=btr C7d C7d.size hb8
  have h7s:w7.drew.heap.size=w7.heap.size:=rfl
  have hs7:=C7.size
  have bs8:=(bs7.keep hd7).keep hb8
  have hg8:gs < w7.heap.size:=bs7.lt
  have cst:∀{u u':World},Below w5.heap.size w5 u->Fm (·=gs) u u'->Below w5.heap.size w5 u':=fun hb hf=>hb.trans (hf.toBelow hb.size fun b hb2 e=>by have e:b=gs:=e;omega)
  refine⟨C8,?_⟩
  refine st_blk bs8 sm fun u1 q1 f1=>⟨cst C8 f1,?_⟩
  refine st_blk q1 sm fun u2 q2 f2=>⟨cst (cst C8 f1) f2,?_⟩
  refine st_blk q2 sm fun u3 q3 f3=>⟨cst (cst (cst C8 f1) f2) f3,?_⟩
  refine st_blk q3 sm fun u4 q4 f4=>?_
  simp only [sls] at q4
  have C9:=cst (cst (cst (cst C8 f1) f2) f3) f4
  have F9:Fm (·=gs) w8 u4:=((f1.trans f2).trans f3).trans f4
  have hd9:Below u4.heap.size u4 u4.drew:=(Below.refl _ _).drew
  have C9d:=btr C9 C9.size hd9
  refine⟨fun w'=>Below w5.heap.size w5 w',C9d,?_⟩
  refine⟨_,fun w' hw=>cellN hw rfl,_,_,_,fun w' hw=>cellN hw rfl,?_⟩
  refine hndH_calls (t:=none) (h5.below C9d) (by
   rcases hA.par _ s hx with e | ⟨t,ht,_⟩
   ·exact .inl e
   ·exact .inr ⟨t,ht⟩) fun w10 hb10=>⟨_,rfl,?_⟩
  have C10:=btr C9d C9d.size hb10
  refine⟨C10,?_⟩
  obtain⟨A,c,hvf,hrd⟩:=hN.kd1.form
  have e1:=slvF hvf
  refine handles_calls (h5.below C10) (v:=kv) (l:=s.kids) (by rw [e1];simp) (by rw [e1];exact hrd.keep C10) hr.few (fun y hy=>by obtain⟨_,t,ht,_⟩:=(hA.kid _ s hx).2 y hy;exact⟨t,ht⟩) fun vk w11 hb11 ok_=>⟨_,_,_,rfl,?_⟩
  have C11:=btr C10 C10.size hb11
  have q11:=(q4.keep hd9).keep (btr hb10 hb10.size hb11)
  refine st_blk q11 sm fun u5 q5 f5=>st_blk q5 sm fun w12 q12 f6=>?_
  simp only [sls] at q12
  have F12:Fm (·=gs) w11 w12:=f5.trans f6
  have hs8:=hb8.size
  have hsf9:=F9.size
  have hs10:=hb10.size
  have hs11:=hb11.size
  have h9s:u4.drew.heap.size=u4.heap.size:=rfl
  have oa12:Own LAt w12 w7.drew.heap.size 145 (slV va) s.attrs:=own_fm (((own_fm oa F9 fun b hb e=>by have e:b=gs:=e;have:=(oa.lt b hb).1;omega).keep hd9).keep (btr hb10 hb10.size hb11)) F12 fun b hb e=>by have e:b=gs:=e;have:=(oa.lt b hb).1;omega
  have ok12:Own LHn w12 w10.heap.size 42 (slV vk) s.kids:=own_fm ok_ F12 fun b hb e=>by have e:b=gs:=e;have:=(ok_.lt b hb).1;omega
  refine⟨⟨s.gen,s.live,s.kind,s.nm,va,s.text,s.parent,vk⟩,q12,⟨rfl,rfl,rfl,rfl,rfl,rfl,oa12.rebase fun b hb=>by have:=(oa.lt b hb).1;omega,ok12.rebase fun b hb=>by have:=(ok_.lt b hb).1;omega⟩,cst C11 F12,q12.lt⟩
end
set_option maxRecDepth 100000
section
variable {w w0 w1:World}{R:RT}{B:Nat}{l:List Sl}{vs vr v:Sv}{es:List S8}
theorem rowFm {v:Sv}{w1 w2 w3:World} (h:Fm (fun b=>rowOf (slV v)=some b) w1 w2) (k:Fm (fun b=>rowOf (slV v)=some b) w2 w3):Fm (fun b=>rowOf (slV v)=some b) w1 w3:=h.trans k
theorem spoilH_calls {l:List Nat} (h:Own LHn w B 42 (slV v) l) (hl:l.length<=1048576) (hK:∀w',Fm (fun b=>rowOf (slV v)=some b) w w'->R (.returned (.tuple #[])) w'):Calls P0 162 #[.slice v.1 v.2.1 v.2.2] w R:=by
 refine ok162 v.1 v.2.1 v.2.2 ?_
 unfold F162
 refine⟨fun i w'=>∃(k:Nat) (l':List Nat),i=k/\k<=l.length/\l'.length=l.length/\Own LHn w' B 42 (slV v) l'/\Fm (fun b=>rowOf (slV v)=some b) w w',fun i _=>l.length-i.toNat,⟨0,l,rfl,om,rfl,h,.refl _ _⟩,?_⟩
 rintro _ w1 ⟨k,l',rfl,hk,hl',o1,f1⟩
 obtain⟨a1,_⟩:=rdO o1
 unfold F162_l1
 refine brd (fun hlt=>?_) (fun hge=>hK w1 f1)
 have hk2:k < l'.length:=by omega
 refine o1.elA (v:=v) rfl hk2 rfl fun b hb=>?_
 refine o1.stc (j:=0) (x':=4711) hk2 dc rfl hb fun w2 o2 f2=>?_
 exact⟨inR_i64 om om,⟨k+1,_,sm,om,by simpa using hl',o2,rowFm f1 f2⟩,(by first | omega | (dsimp only;omega))⟩
end
set_option maxRecDepth 100000
section
variable {w w0 w1:World}{o:Nat->Nat}{θ:Th}{S:PS}{R:RT}
def plV (s:Sl) (v:Sv):Value:=.agg #[.int .i64 s.kind,.string s.nm,.slice v.1 v.2.1 v.2.2,.string s.text,.slice none 0 0]
theorem plain_calls (h:PM w o θ S) {x:Nat}{s:Sl} (hx:slA S.D.sl x=some s) (hK:∀v w',Below w.heap.size w w'->Own LAt w' w.heap.size 145 (slV v) s.attrs->R (.returned (plV s v)) w'):Calls P0 203 #[.pointer (some ⟨pb S.bs x,0,none⟩)] w R:=by
 refine ok203 (some ⟨pb S.bs x,0,none⟩) ?_
 unfold F203
 obtain⟨i,i1,i2,i3,i4⟩:=h.of hx
 obtain⟨a,kv,hN⟩:=h.nodes i _ s i2 i3
 have hr:=h.rng s (mog i3)
 refine al fun g w1 hb1 b1 hge1=>?_
 have hdr:Below w1.heap.size w1 w1.drew:=(Below.refl _ _).drew
 have bN:=hN.blk.keep hb1
 refine⟨fun w'=>Below w1.heap.size w1 w',hdr,?_⟩
 simp only [nds]
 refine⟨_,fun w' hw=>by rw [(bN.keep hw).cell];rfl,_,fun w' hw=>by rw [(bN.keep hw).cell];rfl,_,_,_,fun w' hw=>by rw [(bN.keep hw).cell];rfl,_,fun w' hw=>by rw [(bN.keep hw).cell];rfl,?_⟩
 have B1d:=btr hb1 hb1.size hdr
 refine cloneOwn_calls s.attrs a ((rr_own hN.at1 hr.atf).keep B1d) fun v w2 hb2 ov=>⟨_,_,_,rfl,?_⟩
 have D2:=btr hdr hdr.size hb2
 refine⟨D2,?_⟩
 refine st_blk (b1.keep D2) sm fun u1 q1 f1=>st_blk q1 sm fun u2 q2 f2=>st_blk q2 sm fun u3 q3 f3=>st_blk q3 sm fun u4 q4 f4=>st_blk q4 sm fun w3 b3 f5=>?_
 simp only [sls] at b3
 have F3:Fm (·=g) w2 w3:=(((f1.trans f2).trans f3).trans f4).trans f5
 have B2:=btr B1d B1d.size hb2
 have hs1:=hb1.size
 have hds:w1.drew.heap.size=w1.heap.size:=rfl
 have hgl:=b1.lt
 simp only [b3.cell,lds]
 refine hK v w3 (B2.trans (F3.toBelow B2.size fun b hb e=>by have e:b=g:=e;omega)) ((own_fm ov F3 fun x hx e=>by have e:x=g:=e;have:=(ov.lt x hx).1;omega).rebase fun x hx=>by have:=(ov.lt x hx).1;omega)
end
set_option maxRecDepth 100000
theorem rd_e5 {w:World}{g:Nat}{e:E5} (h:Blk w g #[.int .i64 e.kind,.string e.nm,slV e.ats,.string e.text,slV e.kids] 48):Rd LE5 w (some ⟨g,0,none⟩) 1 [e]:=by
 refine⟨sm,by simp [maxLen],fun h0=>(by cases h0),fun _=>⟨g,0,rfl,fun j u hj=>?_⟩⟩
 rw [LE5.all_one] at hj
 rw [h.cell];simpa [LE5,E5.cells,slV] using hj
section
variable {w w0 w1:World}{o:Nat->Nat}{θ:Th}{S:PS}{R:RT}{loose:List Nat}
theorem whole_calls (h:PM w0 o θ S) (hA:WfA (slA S.D.sl) S.D.roots loose):∀(r x c:Nat) {s:Sl}{w:World}{R:RT},slA S.D.sl x=some s->Ch (slA S.D.sl) x c->65<=c+r->Below w0.heap.size w0 w ->
  (∀w' e',Below w.heap.size w w'->OTr w' (trF (slA S.D.sl) r x) e' w.heap.size w'.heap.size->R (.returned (.agg #[.int .i64 e'.kind,.string e'.nm,slV e'.ats,.string e'.text,slV e'.kids])) w') ->
  Calls P0 163 #[.pointer (some ⟨pb S.bs x,0,none⟩)] w R:=by
 intro r
 induction r with
 | zero =>
  intro x c s w R hx hc hr
  obtain⟨c',h1,h2⟩:=hA.chain x s hx
  have:=hc.fn h2
  omega
 | succ r ih =>
  intro x c s w R hx hc hr hb0 hK
  obtain⟨i,i1,i2,i3,i4⟩:=h.of hx
  obtain⟨kv,ckv,okv,_⟩:=h.cKids i2 i3
  obtain⟨z1,z2⟩:=rdO okv
  have hrng:=h.rng s (mog i3)
  have hkid:∀y∈s.kids,∃t,slA S.D.sl y=some t/\t.parent=x:=fun y hy=>((hA.kid x s hx).2 y hy).2
  refine ok163 (some ⟨pb S.bs x,0,none⟩) ?_
  unfold F163
  refine al fun g2 w1 hb1 b2 hge2=>?_
  have B1:=btr hb0 hb0.size hb1
  refine plain_calls (h.below B1) hx fun av w2 hb2 oav=>⟨s.kind,s.nm,av.1,av.2.1,av.2.2,s.text,none,0,0,by rw [plV],?_⟩
  refine al fun g3 w3 hb3 b3 hge3=>?_
  refine st_blk b3 sm fun u1 q1 f1=>st_blk q1 sm fun u2 q2 f2=>st_blk q2 sm fun u3 q3 f3=>st_blk q3 sm fun u4 q4 f4=>st_blk q4 sm fun w4 b34 f5=>?_
  simp only [sls] at b34
  have F4:Fm (·=g3) w3 w4:=(((f1.trans f2).trans f3).trans f4).trans f5
  have hs1:=hb1.size
  have hs2:=hb2.size
  have hs3:=hb3.size
  have hs4:=F4.size
  have hg2:=b2.lt
  have hg3:=b3.lt
  have C2:Below w.heap.size w w2:=btr hb1 hb1.size hb2
  have C3:=btr C2 C2.size hb3
  have C4:Below w.heap.size w w4:=C3.trans (F4.toBelow C3.size fun b hb e=>by have e:b=g3:=e;omega)
  have D4:Below w0.heap.size w0 w4:=hb0.trans (C4.mono hb0.size)
  have ck4:w4.cell? ⟨pb S.bs x,8,none⟩=some (.slice kv.1 kv.2.1 kv.2.2):=(sub_below D4).cell ckv
  simp only [NonNil_some,ck4,lds]
  have b24:Blk w4 g2 #[.int .i64 0,.string (ByteArray.mk #[]),.slice none 0 0,.string (ByteArray.mk #[]),.slice none 0 0] 48:=F4.blk ((b2.keep hb2).keep hb3) fun e=>by have e:g2=g3:=e;omega
  have oa4:Own LAt w4 w1.heap.size 145 (slV av) s.attrs:=own_fm (oav.keep hb3) F4 fun b hb e=>by have e:b=g3:=e;have:=(oav.lt b hb).2;omega
  have hatr:∀b,rowOf (slV av)=some b->w1.heap.size<=b/\b < w4.heap.size:=fun b hb=>oa4.lt b hb
  refine⟨fun j w'=>∃(k:Nat) (kvs:Sv) (es':List E5),j=k/\k<=s.kids.length/\Below w.heap.size w w'/\w4.heap.size<=w'.heap.size/\Blk w' g3 #[.int .i64 s.kind,.string s.nm,slV av,.string s.text,slV kvs] 48/\Blk w' g2 #[.int .i64 0,.string (ByteArray.mk #[]),.slice none 0 0,.string (ByteArray.mk #[]),.slice none 0 0] 48 /\
    Own LAt w' w1.heap.size 145 (slV av) s.attrs/\Own LE5 w' w4.heap.size 48 (slV kvs) es'/\OTl w' ((s.kids.take k).map (trF (slA S.D.sl) r)) es' w4.heap.size w'.heap.size (rowOf (slV kvs)),fun j _=>s.kids.length-j.toNat,
   ⟨0,(none,0,0),[],rfl,om,C4,Nat.le_refl _,b34,b24,oa4,Own.nil _ _ _ _,by simp [OTl]⟩,?_⟩
  rintro j w5 ⟨k,kvs,es5,rfl,hk5,C5,hs5,b35,b25,oa5,ol,hot⟩
  unfold F163_l3
  have hel:=hot.len
  rw [lmp,ltk] at hel
  have hlr:∀b,rowOf (slV kvs)=some b->w4.heap.size<=b/\b < w5.heap.size:=fun b hb=>ol.lt b hb
  have D5:Below w0.heap.size w0 w5:=hb0.trans (C5.mono hb0.size)
  rw [lmp] at z1
  refine brd (fun hlt=>?_) (fun hge=>?_)
  ·have hk2:k < s.kids.length:=by omega
   refine (z2.keep D5).pt (by rw [lmp];exact z1) rfl (by rw [lmp];exact hk2) fun bb oo cc=>?_
   rw [gmp] at cc
   simp only [cc,lds]
   obtain⟨t,t1,t2⟩:=hkid s.kids[k] (gem hk2)
   have hdr:Below w5.heap.size w5 w5.drew:=(Below.refl _ _).drew
   have hds:w5.drew.heap.size=w5.heap.size:=rfl
   refine⟨fun w'=>Below w5.heap.size w5 w',hdr,?_⟩
   refine⟨_,_,_,fun w' hw=>by rw [(b35.keep hw).cell];rfl,?_⟩
   refine ih s.kids[k] (c+1) t1 (.succ (hA.ne0 t1) t1 (by rw [t2];exact hc)) om (btr D5 D5.size hdr) fun w6 e6 hb6 hot6=>⟨_,_,_,_,_,_,_,_,_,rfl,?_⟩
   have E6:=btr hdr hdr.size hb6
   have hs6:=hb6.size
   refine⟨E6,?_⟩
   refine al fun g21 w7 hb7 b7 hge7=>?_
   have hs7:=hb7.size
   have E7:=btr E6 E6.size hb7
   refine⟨E7,?_⟩
   refine ap (L:=LE5) (e:=48) (xs:=es5) (ys:=[e6]) (base:=w4.heap.size) (v:=slV kvs) (.agg #[.int .i64 0,.string (ByteArray.mk #[]),.slice none 0 0,.string (ByteArray.mk #[]),.slice none 0 0]) 88 rfl kr kr kr (ol.keep E7) (rd_e5 b7) om (by have:=hrng.few;simp;omega) (by have:=hrng.few;simp [maxLen];omega) fun A' c' w8 o8 g8=>⟨A',_,c',rfl,?_⟩
   have F8:Fm (fun b=>rowOf (slV kvs)=some b) w7 w8:=Fm.grown g8.grown fun x hx=>hx
   have hs8:=F8.size
   generalize hkv':((A',es5.length+[e6].length,c'):Sv)=kv' at *
   have hkv2:Value.slice A' (es5.length+[e6].length) c'=slV kv':=by rw [<-hkv'];rfl
   rw [hkv2] at o8 g8 |-
   have hrow:∀b,rowOf (slV kv')=some b->rowOf (slV kvs)=some b\/w7.heap.size<=b:=fun b hb=>by
    rcases g8.row with e | e | ⟨g,e,hge⟩
    ·left;rw [<-e];exact hb
    ·rw [e] at hb;cases hb
    ·right;rw [e] at hb;cases hb;exact hge
   have hg35:=b35.lt
   have hn3:∀b,rowOf (slV kvs)=some b->b≠g3:=fun b hb e=>by have:=(hlr b hb).1;omega
   have b38:=F8.blk (b35.keep E7) fun e=>hn3 _ e rfl
   refine st_blk b38 sm fun w9 b39 f9=>?_
   simp only [sls] at b39
   have hs9:=f9.size
   have FF:Fm (fun b=>rowOf (slV kvs)=some b\/b=g3) w7 w9:=(F8.mono fun b _ e=>.inl e).trans (f9.mono fun b _ e=>.inr e)
   have C7:=C5.trans (E7.mono C5.size)
   have C9:Below w.heap.size w w9:=C7.trans (FF.toBelow C7.size fun b hb e=>by rcases e with e | e;have:=(hlr b e).1;omega;omega)
   refine⟨inR_i64 (by have:=hrng.few;omega) (by have:=hrng.few;omega),⟨k+1,kv',es5++[e6],sm,om,C9,om,b39,FF.blk (b25.keep E7) (fun e=>by rcases e with e | e;have:=(hlr _ e).1;omega;omega),own_fm (oa5.keep E7) FF (fun b hb e=>by rcases e with e | e;have:=(hlr b e).1;have:=(hatr b hb).2;omega;have:=(oa4.lt b hb).1;have:=(oav.lt b hb).2;omega),own_fm o8 f9 (fun b hb e=>by have e:b=g3:=e;rcases hrow b hb with e2 | e2;exact hn3 b e2 e;omega),?_⟩,(by first | omega | (dsimp only;omega))⟩
   rw [tsa hk2,List.map_append]
   refine OTl.snoc (a:=w5.drew.heap.size) (b:=w6.heap.size) ?_ om om (fun r hr h9=>?_) (hi:=w5.heap.size) ?_ om om
   ·exact OTr.fm ((Fm.below (M:=fun b=>rowOf (slV kvs)=some b\/b=g3) hb7).trans FF) _ _ _ _ (fun b h1 h2 e=>by rcases e with e | e;have:=(hlr b e).2;omega;omega) hot6
   ·rcases hrow r hr with e | e
    ·have:=(hlr r e).2;omega
    ·omega
   ·refine OTl.other (OTl.fm ((Fm.below (M:=fun b=>rowOf (slV kvs)=some b\/b=g3) E7).trans FF) _ _ _ _ _ (fun b h1 _ h3 h4=>by rcases h4 with h4 | h4;exact h3 h4;omega) hot) fun r hr=>?_
    rcases hrow r hr with e | e
    ·exact .inl e
    ·right;omega
  ·have hk2:k=s.kids.length:=by omega
   subst hk2
   rw [tkl] at hot
   simp only [b35.cell,slV,lds]
   refine st_blk b25 sm fun u1 q1 f1=>st_blk q1 sm fun u2 q2 f2=>st_blk q2 sm fun u3 q3 f3=>st_blk q3 sm fun u4 q4 f4=>st_blk q4 sm fun w6 b26 f5=>?_
   simp only [sls] at b26
   have F6:Fm (·=g2) w5 w6:=(((f1.trans f2).trans f3).trans f4).trans f5
   simp only [b26.cell,lds]
   have hs6:=F6.size
   refine hK w6 ⟨s.kind,s.nm,av,s.text,kvs⟩ (C5.trans (F6.toBelow C5.size fun b hb e=>by have e:b=g2:=e;omega)) ?_
   rw [trF_some hx]
   simp only [OTr]
   refine⟨trivial,trivial,trivial,hrng.atf,by rw [lmp];exact hrng.few,(own_fm oa5 F6 fun b hb e=>by have e:b=g2:=e;have:=(hatr b hb).1;omega).rebase fun k _=>Nat.zero_le _,w4.heap.size,es5,om,om,fun b hb=>?_,(own_fm ol F6 fun b hb e=>by have e:b=g2:=e;have:=(hlr b hb).1;omega).rebase fun k _=>Nat.zero_le _,fun b hb=>?_,?_⟩
   ·have:=hatr b hb;omega
   ·have:=hlr b hb;omega
   ·exact (OTl.fm F6 _ _ _ _ _ (fun b h1 h2 h3 h4=>by have e:b=g2:=h4;omega) hot).wide hs6
theorem ForestP_calls (h:PM w o θ S) (hw:Wf S.D) (hK:∀v es w',Below w.heap.size w w'->Own LE5 w' w.heap.size 48 (slV v) es->OTl w' (S.D.roots.map (trF (slA S.D.sl) 65)) es w.heap.size w'.heap.size (rowOf (slV v))->R (.returned (slV v)) w') :
  Calls P0 107 #[.pointer (some ⟨θ.g,0,none⟩)] w R:=by
 have hA:=hw.a
 obtain⟨nv,rv,hd⟩:=h.doc
 obtain⟨z1,z2⟩:=rdO hd.r1
 have cr:w.cell? ⟨θ.g,1,none⟩=some (.slice rv.1 rv.2.1 rv.2.2):=by rw [hd.blk.cell];rfl
 have hrl:=h.rts.2
 refine ok107 (some ⟨θ.g,0,none⟩) ?_
 unfold F107
 simp only [NonNil_some,cr,lds]
 refine⟨fun l lN lC j w'=>∃(k:Nat) (es':List E5),j=k/\k<=S.D.roots.length/\Below w.heap.size w w'/\Own LE5 w' w.heap.size 48 (.slice l lN lC) es'/\OTl w' ((S.D.roots.take k).map (trF (slA S.D.sl) 65)) es' w.heap.size w'.heap.size (rowOf (.slice l lN lC)),fun _ _ _ j _=>S.D.roots.length-j.toNat,
  ⟨0,[],rfl,om,.refl _ _,Own.nil _ _ _ _,by simp [OTl]⟩,?_⟩
 rintro l lN lC j w1 ⟨k,es1,rfl,hk,B1,ol,hot⟩
 unfold F107_l3
 have hel:=hot.len
 rw [lmp,ltk] at hel
 rw [lmp] at z1
 have hlr:∀b,rowOf (.slice l lN lC)=some b->w.heap.size<=b/\b < w1.heap.size:=fun b hb=>ol.lt b hb
 refine brd (fun hlt=>?_) (fun hge=>?_)
 ·have hk2:k < S.D.roots.length:=by omega
  refine (z2.keep B1).pt (by rw [lmp];exact z1) rfl (by rw [lmp];exact hk2) fun bb oo cc=>?_
  rw [gmp] at cc
  simp only [cc,lds]
  obtain⟨_,t,t1,t2⟩:=hA.root.2 S.D.roots[k] (gem hk2)
  refine whole_calls h hA 65 S.D.roots[k] 1 t1 (.succ (hA.ne0 t1) t1 (by rw [t2];exact .zero)) om B1 fun w2 e2 hb2 hot2=>⟨_,_,_,_,_,_,_,_,_,rfl,?_⟩
  have hs2:=hb2.size
  refine al fun g3 w3 hb3 b3 hge3=>?_
  have hs3:=hb3.size
  have D3:=btr hb2 hb2.size hb3
  have hs1:=B1.size
  refine ap (L:=LE5) (e:=48) (xs:=es1) (ys:=[e2]) (base:=w.heap.size) (v:=.slice l lN lC) (.agg #[.int .i64 0,.string (ByteArray.mk #[]),.slice none 0 0,.string (ByteArray.mk #[]),.slice none 0 0]) 88 rfl kr kr kr (ol.keep D3) (rd_e5 b3) om (by simp;omega) (by simp [maxLen];omega) fun A' c' w4 o4 g4=>⟨A',_,c',rfl,?_⟩
  have F4:Fm (fun b=>rowOf (.slice l lN lC)=some b) w3 w4:=Fm.grown g4.grown fun x hx=>hx
  have hs4:=F4.size
  have hrow:∀b,rowOf (.slice A' (es1.length+[e2].length) c')=some b->rowOf (.slice l lN lC)=some b\/w3.heap.size<=b:=fun b hb=>by
   rcases g4.row with e | e | ⟨g,e,hge⟩
   ·left;rw [<-e];exact hb
   ·rw [e] at hb;cases hb
   ·right;rw [e] at hb;cases hb;exact hge
  refine⟨inR_i64 om om,⟨k+1,es1++[e2],sm,om,(B1.trans (D3.mono B1.size)).trans (F4.toBelow om fun b hb e=>by have:=(hlr b e).1;omega),o4,?_⟩,(by first | omega | (dsimp only;omega))⟩
  rw [tsa hk2,List.map_append]
  refine OTl.snoc (a:=w1.heap.size) (b:=w2.heap.size) ?_ om om (fun r hr h9=>?_) (hi:=w1.heap.size) ?_ om om
  ·exact OTr.fm ((Fm.below (M:=fun b=>rowOf (.slice l lN lC)=some b) hb3).trans F4) _ _ _ _ (fun b h1 h2 e=>by have:=(hlr b e).2;omega) hot2
  ·rcases hrow r hr with e | e
   ·have:=(hlr r e).2;omega
   ·omega
  ·refine OTl.other (OTl.fm ((Fm.below (M:=fun b=>rowOf (.slice l lN lC)=some b) D3).trans F4) _ _ _ _ _ (fun b h1 _ h3 h4=>h3 h4) hot) fun r hr=>?_
   rcases hrow r hr with e | e
   ·exact .inl e
   ·right;omega
 ·have hk2:k=S.D.roots.length:=by omega
  subst hk2
  rw [tkl] at hot
  exact hK (l,lN,lC) es1 w1 B1 ol hot
end
section
variable {w w0:World}{g:Nat}{D:Im}{vs vr:Sv}{ok:Nat->Bool}{R:RT}
theorem sub_old (w:World):Sub w (wOnly (fun b=>Nat.blt b w.heap.size) w):=fun b c t fr h=>cells_only (by
 have:=(agi.1 h).1
 exact Nat.ble_eq_true_of_le this) h
def noRow (r:Option Nat) (w:World):World:=wOnly (fun b=>decide (r≠some b)) w
theorem ForestR_calls (h:RM ok w g D vs vr) (hw:Wf D) (hK:∀v es w',Below w.heap.size w w'->v.2.1=es.length->Rd LE5 w' v.1 v.2.2 es->RTl w' (D.roots.map (trF (slA D.sl) 65)) es->R (.returned (slV v)) w') :
  Calls P0 109 #[.pointer (some ⟨g,0,none⟩)] w R:=by
 have hA:=hw.a
 obtain⟨es,hR,_⟩:=h.re2
 obtain⟨z0,z1,z2⟩:=hR.roots
 refine ok109 (some ⟨g,0,none⟩) ?_
 unfold F109
 refine al fun g7 w1 hb1 b7 hge7=>?_
 have hs1:=hb1.size
 refine⟨fun l lN lC j w'=>∃(k:Nat) (es':List E5),j=k/\k<=D.roots.length/\Below w.heap.size w w'/\w1.heap.size<=w'.heap.size/\Own LE5 w' w1.heap.size 48 (.slice l lN lC) es'/\RTl (noRow (rowOf (.slice l lN lC)) w') ((D.roots.take k).map (trF (slA D.sl) 65)) es',fun _ _ _ j _=>D.roots.length-j.toNat,
  ⟨0,[],rfl,om,hb1,Nat.le_refl _,Own.bare _ _ _ _ _,by simp [RTl]⟩,?_⟩
 rintro l lN lC j w2 ⟨k,es2,rfl,hk,B2,hs2,ol,hrt⟩
 unfold F109_l3
 have hel:=hrt.len
 rw [lmp,ltk] at hel
 have hlr:∀b,rowOf (.slice l lN lC)=some b->w1.heap.size<=b/\b < w2.heap.size:=fun b hb=>ol.lt b hb
 have c1:=(hR.keep B2).c1
 simp only [NonNil_some,c1,lds]
 refine brd (fun hlt=>?_) (fun hge=>?_)
 ·have hk2:k < D.roots.length:=by omega
  refine (z2.keep B2).hn z1 rfl hk2 fun bb oo cc=>?_
  simp only [cc,lds]
  obtain⟨_,t,t1,t2⟩:=hA.root.2 D.roots[k] (gem hk2)
  refine subtreeR_calls (ok:=fun b=>Nat.blt b w.heap.size) hR (fun i s e h1 h2=>((hR.el i s e h1 h2).1.ats).sub (sub_old w)) (fun b hb=>nbl hb) hw.s hA 65 D.roots[k] 1 t1 (.succ (hA.ne0 t1) t1 (by rw [t2];exact .zero)) om B2 fun w3 a3 kv3 hb3 hrt3=>⟨_,_,_,_,_,_,_,_,_,_,rfl,?_⟩
  have hs3:=hb3.size
  refine al fun g5 w4 hb4 b4 hge4=>?_
  have hs4:=hb4.size
  refine st_blk b4 sm fun u1 q1 f1=>st_blk q1 sm fun u2 q2 f2=>st_blk q2 sm fun u3 q3 f3=>st_blk q3 sm fun u4 q4 f4=>st_blk q4 sm fun w5 b5 f5=>?_
  simp only [sls] at b5
  have F5:Fm (·=g5) w4 w5:=(((f1.trans f2).trans f3).trans f4).trans f5
  have hs5:=F5.size
  simp only [Addr.add_mk,Nat.zero_add,b5.cell,List.getElem?_toArray,List.getElem?_cons_zero,List.getElem?_cons_succ,slV,lds]
  refine al fun g31 w6 hb6 b6 hge6=>?_
  have hs6:=hb6.size
  have D5:Below w3.heap.size w3 w5:=hb4.trans (F5.toBelow hs4 fun b hb e=>by have e:b=g5:=e;omega)
  have D6:=btr D5 D5.size hb6
  have C6:Below w2.heap.size w2 w6:=btr hb3 hb3.size D6
  refine ap (L:=LE5) (e:=48) (xs:=es2) (ys:=[⟨t.kind,t.nm,a3,t.text,kv3⟩]) (base:=w1.heap.size) (v:=.slice l lN lC) (.agg #[.int .i64 0,.string (ByteArray.mk #[]),.slice none 0 0,.string (ByteArray.mk #[]),.slice none 0 0]) 88 rfl kr kr kr (ol.keep C6) (rd_e5 b6) om (by simp;omega) (by simp [maxLen];omega) fun A' c' w7 o7 g7'=>⟨A',_,c',rfl,?_⟩
  have F7:Fm (fun b=>rowOf (.slice l lN lC)=some b) w6 w7:=Fm.grown g7'.grown fun x hx=>hx
  have hs7:=F7.size
  have hrow:∀b,rowOf (.slice A' (es2.length+[(⟨t.kind,t.nm,a3,t.text,kv3⟩:E5)].length) c')=some b->rowOf (.slice l lN lC)=some b\/w6.heap.size<=b:=fun b hb=>by
   rcases g7'.row with e | e | ⟨g,e,hge⟩
   ·left;rw [<-e];exact hb
   ·rw [e] at hb;cases hb
   ·right;rw [e] at hb;cases hb;exact hge
  refine⟨inR_i64 om om,⟨k+1,es2++[⟨t.kind,t.nm,a3,t.text,kv3⟩],sm,om,(B2.trans (C6.mono B2.size)).trans (F7.toBelow om fun b hb e=>by have:=(hlr b e).1;omega),om,o7,?_⟩,(by first | omega | (dsimp only;omega))⟩
  rw [tsa hk2,List.map_append]
  refine RTl.snoc (RTr.sub ?_ _ _ hrt3) (RTl.sub ?_ _ _ hrt)
  ·refine sub_only (fun b hb h9=>decide_eq_true fun e=>?_) fun b hb h9=>?_
   ·rcases hrow b e with e | e
    ·have:=hlr b e
     rcases (newOr_iff (ok:=fun b=>Nat.blt b w.heap.size)).1 h9 with h9 | h9
     ·have:=nbl h9;omega
     ·omega
    ·omega
   ·rw [F7.block b om fun e=>?_,D6.block b hb]
    have:=hlr b e
    rcases (newOr_iff (ok:=fun b=>Nat.blt b w.heap.size)).1 h9 with h9 | h9
    ·have:=nbl h9;omega
    ·omega
  ·refine sub_only (fun b hb h9=>decide_eq_true fun e=>?_) fun b hb h9=>?_
   ·rcases hrow b e with e | e
    ·exact of_decide_eq_true h9 e
    ·omega
   ·rw [F7.block b om fun e=>of_decide_eq_true h9 e,C6.block b hb]
 ·have hk2:k=D.roots.length:=by omega
  subst hk2
  rw [tkl] at hrt
  obtain⟨q1,q2⟩:=rdO (v:=(l,lN,lC)) ol
  exact hK (l,lN,lC) es2 w2 B2 q1 q2 (RTl.sub sub_of_only _ _ hrt)
theorem ImageR_calls (h:RM ok w g D vs vr) (hK:∀w',Below w.heap.size w w'->RIm w' D vs vr->R (.returned (.agg #[.slice vs.1 vs.2.1 vs.2.2,.slice vr.1 vr.2.1 vr.2.2])) w') :
  Calls P0 16 #[.pointer (some ⟨g,0,none⟩)] w R:=by
 have hR:=h.rdr
 refine ok16 (some ⟨g,0,none⟩) ?_
 unfold F16
 refine al fun g2 w1 hb1 b2 hge2=>?_
 have hdr:Below w1.heap.size w1 w1.drew:=(Below.refl _ _).drew
 have B1:=btr hb1 hb1.size hdr
 refine⟨fun w'=>Below w1.heap.size w1 w',hdr,?_⟩
 simp only [nds]
 refine⟨_,_,_,fun w' hw=>(hR.keep (btr hb1 hb1.size hw)).c0,_,_,_,fun w' hw=>(hR.keep (btr hb1 hb1.size hw)).c1,?_⟩
 refine st_blk (b2.keep hdr) sm fun u1 q1 f1=>st_blk q1 sm fun w2 b22 f2=>?_
 simp only [sls] at b22
 simp only [b22.cell,lds]
 have F2:Fm (·=g2) w1.drew w2:=f1.trans f2
 have hs1:=hb1.size
 have B2:Below w.heap.size w w2:=B1.trans (F2.toBelow B1.size fun b hb e=>by have e:b=g2:=e;omega)
 exact hK w2 B2 (hR.im.keep B2)
end
set_option maxRecDepth 100000
section
variable {w w1:World}{g:Nat}{D:Im}{vs vr:Sv}
theorem len_calls (h:RDr w g D vs vr) {R:RT} (hK:R (.returned (.int .i64 (liveN D.sl:Nat))) w):Calls P0 41 #[.pointer (some ⟨g,0,none⟩)] w R:=by
 have hlen:=h.im.len
 have hn:=h.n
 refine ok41 (some ⟨g,0,none⟩) ?_
 unfold F41
 refine⟨fun n i w'=>∃k:Nat,i=k/\k<=D.sl.length/\w'=w/\n=(liveN (D.sl.take k):Nat),fun _ i _=>D.sl.length-i.toNat,⟨0,rfl,om,rfl,by simp [liveN]⟩,?_⟩
 rintro n i w' ⟨k,rfl,hk,rfl,rfl⟩
 unfold F41_l3
 simp only [NonNil_some,h.c0,lds]
 have hle:∀j,liveN (D.sl.take j)<=D.sl.length:=fun j=>by
  unfold liveN
  exact Nat.le_trans (List.length_filter_le _ _) (by rw [ltk];omega)
 have hle2:=hle k
 refine brd (fun hlt=>?_) (fun hge=>?_)
 ·have hk2:k < D.sl.length:=by omega
  refine⟨fun n2 w2=>w2=w'/\n2=(liveN (D.sl.take (k+1)):Nat),?_,?_⟩
  ·rintro n2 w2 ⟨rfl,rfl⟩
   unfold F41_j4
   exact⟨inR_i64 om om,⟨k+1,sm,om,rfl,rfl⟩,(by first | omega | (dsimp only;omega))⟩
  ·refine h.slot rfl hk2 fun b o e he c0 c1 c2 c6 c7=>?_
   simp only [c1,lds]
   have hs:=liveN_take D.sl hk2
   refine br (fun hl=>?_) (fun hl=>?_)
   ·rw [if_pos hl] at hs
    exact⟨inR_i64 om om,trivial,om⟩
   ·rw [if_neg (by rw [hl];decide)] at hs
    exact⟨trivial,om⟩
 ·have hk2:k=D.sl.length:=by omega
  subst hk2
  rw [tkl];exact hK
end
set_option maxRecDepth 100000
section
variable {w w0 w1:World}{R:RT}{B0 B1:Nat}{l:List Sl}{roots:List Nat}{vs vr:Sv}{es:List S8}
structure Spo (w:World) (B:Nat) (vs:Sv) (es:List S8) (k:Nat):Prop where
 own:∃es',Own LS8 w B 88 (slV vs) es'/\es'.length=es.length/\∀j,k<=j->es'[j]?=es[j]?
 ats:∀(j:Nat) (e:S8),k<=j->es[j]?=some e->∃la,Own LAt w B 145 (slV e.ats) la/\la.length<=1048576
 kids:∀(j:Nat) (e:S8),k<=j->es[j]?=some e->∃lk,Own LHn w B 42 (slV e.kids) lk/\lk.length<=1048576
theorem own_ne {α β:Type}{L:Lay α}{L2:Lay β}{w:World}{B B2 b:Nat}{e e2:TypeId}{v u:Value}{xs:List α}{ys:List β} (h:Own L w B e v xs) (k:Own L2 w B2 e2 u ys) (he:e≠e2) (hb:rowOf v=some b):rowOf u≠some b:=fun hu=>by
 rcases own_types h k he with q | q
 ·rw [q] at hb;cases hb
 ·rw [hb,hu] at q;exact q rfl
theorem Spo.fmA {k:Nat}{e:S8} (h:Spo w B1 vs es k) (hap:∀(i j:Nat) (e f:S8),i≠j->es[i]?=some e->es[j]?=some f->Apart (slV e.ats) (slV f.ats)/\Apart (slV e.kids) (slV f.kids)) (he:es[k]?=some e) {la:List At} (hf:Fm (fun b=>rowOf (slV e.ats)=some b) w w1) (hla:Own LAt w1 B1 145 (slV e.ats) la) (hl:la.length<=1048576):Spo w1 B1 vs es k:=by
 obtain⟨la0,a0,_⟩:=h.ats k e (Nat.le_refl _) he
 obtain⟨es',o1,o2,o3⟩:=h.own
 refine⟨⟨es',own_fm o1 hf fun b hb hm=>own_ne o1 a0 tySA hb hm,o2,o3⟩,fun j f hj hf2=>?_,fun j f hj hf2=>?_⟩
 ·by_cases hjk:j=k
  ·subst hjk
   rw [he] at hf2
   obtain rfl:=osi hf2
   exact⟨la,hla,hl⟩
  ·obtain⟨lb,b1,b2⟩:=h.ats j f hj hf2
   refine⟨lb,own_fm b1 hf fun b hb hm=>?_,b2⟩
   rcases (hap j k f e hjk hf2 he).1 with q | q
   ·rw [q] at hb;cases hb
   ·rw [hb,hm] at q;exact q rfl
 ·obtain⟨lb,b1,b2⟩:=h.kids j f hj hf2
  exact⟨lb,own_fm b1 hf fun b hb hm=>own_ne b1 a0 tyHA hb hm,b2⟩
theorem Spo.fmK {k:Nat}{e:S8} (h:Spo w B1 vs es k) (hap:∀(i j:Nat) (e f:S8),i≠j->es[i]?=some e->es[j]?=some f->Apart (slV e.ats) (slV f.ats)/\Apart (slV e.kids) (slV f.kids)) (he:es[k]?=some e) (hf:Fm (fun b=>rowOf (slV e.kids)=some b) w w1):Spo w1 B1 vs es (k+1)/\∃es',Own LS8 w1 B1 88 (slV vs) es'/\es'.length=es.length/\∀j,k<=j->es'[j]?=es[j]?:=by
 obtain⟨lk0,k0,_⟩:=h.kids k e (Nat.le_refl _) he
 obtain⟨es',o1,o2,o3⟩:=h.own
 have o4:=own_fm o1 hf fun b hb hm=>own_ne o1 k0 tySH hb hm
 refine⟨⟨⟨es',o4,o2,fun j hj=>o3 j om⟩,fun j f hj hf2=>?_,fun j f hj hf2=>?_⟩,es',o4,o2,o3⟩
 ·obtain⟨lb,b1,b2⟩:=h.ats j f om hf2
  exact⟨lb,own_fm b1 hf fun b hb hm=>own_ne b1 k0 tyAH hb hm,b2⟩
 ·obtain⟨lb,b1,b2⟩:=h.kids j f om hf2
  refine⟨lb,own_fm b1 hf fun b hb hm=>?_,b2⟩
  rcases (hap j k f e om hf2 he).2 with q | q
  ·rw [q] at hb;cases hb
  ·rw [hb,hm] at q;exact q rfl
theorem Spo.fmS {k:Nat} (h:Spo w B1 vs es k) (hf:Fm (fun b=>rowOf (slV vs)=some b) w w1) {es':List S8} (ho:Own LS8 w1 B1 88 (slV vs) es') (hl:es'.length=es.length) (hg:∀j,k<=j->es'[j]?=es[j]?):Spo w1 B1 vs es k:=by
 obtain⟨es0,o1,_⟩:=h.own
 refine⟨⟨es',ho,hl,hg⟩,fun j f hj hf2=>?_,fun j f hj hf2=>?_⟩
 ·obtain⟨lb,b1,b2⟩:=h.ats j f hj hf2
  exact⟨lb,own_fm b1 hf fun b hb hm=>own_ne b1 o1 tyAS hb hm,b2⟩
 ·obtain⟨lb,b1,b2⟩:=h.kids j f hj hf2
  exact⟨lb,own_fm b1 hf fun b hb hm=>own_ne b1 o1 tyHS hb hm,b2⟩
theorem spoilImg_calls (h:OIm w B1 l vs es) (hr:Own LHn w B0 42 (slV vr) roots) (hB:B0<=B1) (hrow:∀b,rowOf (slV vr)=some b->b < B1) (hl:l.length<=4096) (hrl:roots.length<=1048576) (hat:∀s∈l,s.attrs.length<=1048576) (hkd:∀s∈l,s.kids.length<=1048576)
  (hK:∀w',Fm (fun b=>B0<=b/\b < w.heap.size) w w'->R (.returned (.tuple #[])) w') :
  Calls P0 106 #[.agg #[.slice vs.1 vs.2.1 vs.2.2,.slice vr.1 vr.2.1 vr.2.2]] w R:=by
 have hap:=h.ap
 have hlen:=h.len
 obtain⟨q1,_⟩:=rdO h.own
 refine ok106 vs.1 vs.2.1 vs.2.2 vr.1 vr.2.1 vr.2.2 ?_
 unfold F106
 refine al fun g1 w1 hb1 b1 hge1=>?_
 have hs1:=hb1.size
 have hg1:=b1.lt
 have rS:∀b,rowOf (slV vs)=some b->B1<=b/\b < w.heap.size:=fun b hb=>h.own.lt b hb
 have elem:∀(j:Nat) (e:S8),es[j]?=some e->∃s∈l,OSl w B1 s e:=fun j e he=>by
  have hj:=(gsi.1 he).1
  exact⟨l[j],gem om,h.el j _ e (gge om) he⟩
 have rA:∀(j:Nat) (e:S8),es[j]?=some e->∀b,rowOf (slV e.ats)=some b->B1<=b/\b < w.heap.size:=fun j e he b hb=>by
  obtain⟨s,_,q⟩:=elem j e he
  exact q.ats.lt b hb
 have rK:∀(j:Nat) (e:S8),es[j]?=some e->∀b,rowOf (slV e.kids)=some b->B1<=b/\b < w.heap.size:=fun j e he b hb=>by
  obtain⟨s,_,q⟩:=elem j e he
  exact q.kids.lt b hb
 have sp0:Spo w1 B1 vs es 0:=⟨⟨es,h.own.keep hb1,rfl,fun _ _=>rfl⟩,fun j e _ he=>by
   obtain⟨s,hs,q⟩:=elem j e he
   exact⟨_,q.ats.keep hb1,hat s hs⟩,fun j e _ he=>by
   obtain⟨s,hs,q⟩:=elem j e he
   exact⟨_,q.kids.keep hb1,hkd s hs⟩⟩
 have bx:∀{u u':World}{M:Nat->Prop},Blk u g1 #[.slice vs.1 vs.2.1 vs.2.2,.slice vr.1 vr.2.1 vr.2.2] 25->Fm M u u'->(∀b,M b->b < w.heap.size)->Blk u' g1 #[.slice vs.1 vs.2.1 vs.2.2,.slice vr.1 vr.2.1 vr.2.2] 25:=fun hb hf hm=>hf.blk hb fun e=>by have:=hm _ e;omega
 refine⟨fun i w'=>∃k:Nat,i=k/\k<=es.length/\Spo w' B1 vs es k/\Own LHn w' B0 42 (slV vr) roots/\Blk w' g1 #[.slice vs.1 vs.2.1 vs.2.2,.slice vr.1 vr.2.1 vr.2.2] 25/\Fm (fun b=>B0<=b/\b < w.heap.size) w w',fun i _=>es.length-i.toNat,
  ⟨0,rfl,om,sp0,hr.keep hb1,b1,.below hb1⟩,?_⟩
 rintro _ w2 ⟨k,rfl,hk,sp2,hr2,b2,F2⟩
 unfold F106_l2
 simp only [b2.cell,lds]
 refine brd (fun hlt=>?_) (fun hge=>?_)
 rotate_left
 ·refine spoilH_calls (v:=vr) hr2 hrl fun w3 f3=>⟨rfl,hK w3 (F2.trans (f3.mono fun b _ e=>?_))⟩
  have hb:=hr2.lt b e
  have:=hr.lt b e
  exact⟨this.1,this.2⟩
 have hk2:k < es.length:=by omega
 have hek:es[k]?=some es[k]:=gge hk2
 generalize hee:es[k]=e at hek
 obtain⟨la,oa,hla⟩:=sp2.ats k e (Nat.le_refl _) hek
 obtain⟨qa,_⟩:=rdO oa
 refine⟨fun j w'=>∃(m:Nat) (la':List At),j=m/\m<=la.length/\la'.length=la.length/\Own LAt w' B1 145 (slV e.ats) la'/\Spo w' B1 vs es k/\Own LHn w' B0 42 (slV vr) roots/\Blk w' g1 #[.slice vs.1 vs.2.1 vs.2.2,.slice vr.1 vr.2.1 vr.2.2] 25/\Fm (fun b=>B0<=b/\b < w.heap.size) w w',fun j _=>la.length-j.toNat,
  ⟨0,la,rfl,om,rfl,oa,sp2,hr2,b2,F2⟩,?_⟩
 rintro _ w3 ⟨m,la',rfl,hm,hla',oa3,sp3,hr3,b3,F3⟩
 unfold F106_l5
 simp only [b3.cell,lds]
 obtain⟨es3,o3,o3l,o3g⟩:=sp3.own
 have hk3:k < es3.length:=by omega
 have he3:es3[k]=e:=by
  have:=o3g k (Nat.le_refl _)
  rw [hek,gge hk3] at this
  exact osi this
 obtain⟨p1,p2⟩:=rdO o3
 refine p2.s8 p1 rfl hk3 fun bb oo c0 c1 c2 c3 c4 c5 c6 c7=>?_
 rw [he3] at c4 c7
 simp only [c4,lds]
 refine brd (fun hlt2=>?_) (fun hge2=>?_)
 ·have hm2:m < la'.length:=by omega
  refine p2.s8 p1 rfl hk3 fun bb oo d0 d1 d2 d3 d4 d5 d6 d7=>?_
  rw [he3] at d4
  simp only [d4,lds]
  refine oa3.elA (v:=e.ats) rfl hm2 (show 2=LAt.n from rfl) fun br hbr=>?_
  simp only [Addr.add_mk]
  refine oa3.stc (j:=0) (x':=⟨ByteArray.mk #[],la'[m].val⟩) hm2 dc rfl hbr fun w4 o4 f4=>?_
  refine o4.stc (j:=1) (x':=⟨ByteArray.mk #[],ByteArray.mk #[]⟩) (by simpa using hm2) dc (by simp [LAt]) hbr fun w5 o5 f5=>?_
  have F5:Fm (fun b=>rowOf (slV e.ats)=some b) w3 w5:=f4.trans f5
  have hrr:∀b,rowOf (slV e.ats)=some b->B1<=b/\b < w.heap.size:=rA k e hek
  refine⟨inR_i64 om om,⟨m+1,_,sm,om,by simpa using hla',o5,sp3.fmA hap hek F5 o5 (by simp;omega),own_fm hr3 F5 fun b hb hm3=>by have:=hrow b hb;have:=hrr b hm3;omega,bx b3 F5 fun b hb=>(hrr b hb).2,F3.trans (F5.mono fun b _ hb=>by have:=hrr b hb;exact⟨om,this.2⟩)⟩,(by first | omega | (dsimp only;omega))⟩
 ·refine p2.s8 p1 rfl hk3 fun bb oo d0 d1 d2 d3 d4 d5 d6 d7=>?_
  rw [he3] at d7
  simp only [d7,lds]
  obtain⟨lk,ok_,hlk⟩:=sp3.kids k e (Nat.le_refl _) hek
  refine spoilH_calls (v:=e.kids) ok_ hlk fun w4 f4=>⟨rfl,?_⟩
  have hrr:∀b,rowOf (slV e.kids)=some b->B1<=b/\b < w.heap.size:=rK k e hek
  have b4:=bx b3 f4 fun b hb=>(hrr b hb).2
  simp only [b4.cell,lds]
  obtain⟨sp4,es4,o4,o4l,o4g⟩:=sp3.fmK hap hek f4
  have hk4:k < es4.length:=by omega
  refine o4.elA (v:=vs) rfl hk4 (show 8=LS8.n from rfl) fun bw hbw=>?_
  simp only [Addr.add_mk]
  refine o4.st8 ⟨0,false,0,ByteArray.mk #[],(none,0,0),ByteArray.mk #[],0,(none,0,0)⟩ hk4 hbw fun w5 o5 f5=>?_
  refine⟨inR_i64 om om,⟨k+1,sm,om,sp4.fmS f5 o5 (by simpa using o4l) fun j hj=>?_,own_fm (own_fm hr3 f4 fun b hb hm3=>by have:=hrow b hb;have:=hrr b hm3;omega) f5 fun b hb hm3=>by have:=hrow b hb;have:=rS b hm3;omega,bx b4 f5 fun b hb=>(rS b hb).2,(F3.trans (f4.mono fun b _ hb=>by have:=hrr b hb;exact⟨om,this.2⟩)).trans (f5.mono fun b _ hb=>by have:=rS b hb;exact⟨om,this.2⟩)⟩,(by first | omega | (dsimp only;omega))⟩
  rw [gsn om]
  exact o4g j om
end
section
variable {w:World}{o:Nat->Nat}{θ:Th}{S:PS}{R:RT}
theorem LenP_calls (h:PM w o θ S) (hK:R (.returned (.int .i64 (S.lv:Nat))) w):Calls P0 105 #[.pointer (some ⟨θ.g,0,none⟩)] w R:=by
 refine ok105 (some ⟨θ.g,0,none⟩) ?_
 unfold F105
 obtain⟨nv,rv,hd⟩:=h.doc
 have c:w.cell? ⟨θ.g,2,none⟩=some (.int .i64 (S.lv:Nat)):=by rw [hd.blk.cell];rfl
 simp only [NonNil_some,c,lds]
 exact hK
theorem rr_live {D:Im} (hw:Wf D):D.roots.length<=4096:=by
 refine Nat.le_trans (live_few (fun y hy=>?_) hw.a.root.1) hw.s.few
 obtain⟨_,t,t1,_⟩:=hw.a.root.2 y hy
 exact⟨t,t1⟩
theorem tells_calls (h:PM w o θ S) (hi:PI S) (hw:Wf S.D) {ok:Nat->Bool}{g:Nat}{us ur:Sv} (hR:RM ok w g S.D us ur) (hK:∀w',Below w.heap.size w w'->R (.returned (.bool true)) w') :
  Calls P0 57 #[.pointer (some ⟨θ.g,0,none⟩),.pointer (some ⟨g,0,none⟩)] w R:=by
 have hRd:=hR.rdr
 have hrl:=rr_live hw
 have hok:=hRd.im.ok
 have hrok:=hRd.im.rok
 have hat:∀s∈S.D.sl,s.attrs.length<=1048576:=fun s hs=>(h.rng s hs).atf
 have hkd:∀s∈S.D.sl,s.kids.length<=1048576:=fun s hs=>(h.rng s hs).few
 have hfew:=h.few
 refine ok57 (some ⟨θ.g,0,none⟩) (some ⟨g,0,none⟩) ?_
 unfold F57
 refine Image_calls h hw fun vs vr es w1 B1 hb1 hB1 oi1 or1 hrow=>⟨_,_,_,_,_,_,rfl,?_⟩
 have hs1:=hb1.size
 refine al fun g5 w2 hb2 b2 hge2=>?_
 have hs2:=hb2.size
 have hg5:=b2.lt
 refine st_blk b2 sm fun u1 q1 f1=>st_blk q1 sm fun w3 b3 f3=>?_
 simp only [sls] at b3
 have F3:Fm (·=g5) w2 w3:=f1.trans f3
 have hs3:=F3.size
 have D3:Below w1.heap.size w1 w3:=hb2.trans (F3.toBelow hb2.size fun b hb e=>by have e:b=g5:=e;omega)
 have B3:Below w.heap.size w w3:=btr hb1 hs1 D3
 refine⟨fun w'=>Below w3.heap.size w3 w',fun w4 B34=>?_,?_⟩
 ·unfold F57_j4
  have b4:=b3.keep B34
  simp only [b4.cell,slV,lds]
  have D4:=btr D3 D3.size B34
  have hs4:=D4.size
  refine spoilImg_calls (oi1.keep D4) (or1.keep D4) hB1 hrow hfew om hat hkd fun w5 f5=>⟨rfl,?_⟩
  have B4:=btr B3 B3.size B34
  have B5:Below w.heap.size w w5:=B4.trans (f5.toBelow B4.size fun b hb e=>by omega)
  have h5:=h.below B5
  refine ForestP_calls h5 hw fun vf ef w6 hb6 of6 ot6=>⟨_,_,_,rfl,?_⟩
  have B6:=btr B5 B5.size hb6
  refine ForestR_calls (hR.keep B6) hw fun vg eg w7 hb7 e7 r7 t7=>⟨_,_,_,rfl,?_⟩
  have B7:=btr B6 B6.size hb7
  obtain⟨p1,p2⟩:=rdO of6
  have tf6:RTl w6 (S.D.roots.map (trF (slA S.D.sl) 65)) ef:=RTl.sub sub_of_only _ _ (OTl.rtl (ok:=fun _=>true) _ _ _ _ _ (fun _ _ _=>rfl) ot6)
  refine forests_calls (v:=vf) (u:=vg) (by rw [lmp];omega) (tf6.keep hb7) t7 p1 e7 (p2.keep hb7) r7 fun w8 hb8=>⟨_,rfl,?_⟩
  rw [show (!true)=false from rfl,Br_f]
  have C8:Below w6.heap.size w6 w8:=btr hb7 hb7.size hb8
  have hs5:=f5.size
  have hs6:=hb6.size
  have hs8:=C8.size
  have B8:=B6.trans (C8.mono B6.size)
  have hel:=ot6.len
  rw [lmp] at hel
  have hfr:∀b,rowOf (slV vf)=some b->w5.heap.size<=b/\b < w6.heap.size:=fun b hb=>of6.lt b hb
  refine⟨fun j w'=>∃(m lo':Nat),j=m/\m<=S.D.roots.length/\w5.heap.size<=lo'/\Own LE5 w' w5.heap.size 48 (slV vf) ef/\OTl w' ((S.D.roots.map (trF (slA S.D.sl) 65)).drop m) (ef.drop m) lo' w6.heap.size (rowOf (slV vf))/\Below w.heap.size w w'/\w6.heap.size<=w'.heap.size,fun j _=>S.D.roots.length-j.toNat,
   ⟨0,w5.heap.size,rfl,Nat.zero_le _,Nat.le_refl _,of6.keep C8,by rw [List.drop_zero,List.drop_zero];exact OTl.fm (Fm.below (M:=fun _=>False) C8) _ _ _ _ _ (fun _ _ _ _ h=>h) ot6,B8,hs8⟩,?_⟩
  rintro _ w9 ⟨m,lo',rfl,hm,hlo,o9,ot9,B9,hs9⟩
  unfold F57_l9
  refine brd (fun hlt=>?_) (fun hge=>?_)
  ·have hm2:m < S.D.roots.length:=by omega
   have hm3:m < ef.length:=by omega
   have hm4:m < (S.D.roots.map (trF (slA S.D.sl) 65)).length:=by rw [lmp];exact hm2
   rw [dgc hm4,dgc hm3] at ot9
   simp only [OTl] at ot9
   obtain⟨e9,es9,a,b,heq,k1,k2,k3,k4,k5,k6⟩:=ot9
   obtain⟨x1,x2⟩:=List.cons.inj heq
   subst x1 x2
   obtain⟨y1,y2⟩:=rdO o9
   refine y2.e5 y1 rfl hm3 fun bb oo c0 c1 c2 c3 c4=>?_
   simp only [c0,c1,c2,c3,c4,lds]
   refine spoil_calls _ (e:=ef[m]) k5 om fun w10 f10=>⟨rfl,?_⟩
   refine⟨inR_i64 om om,⟨m+1,b,sm,om,om,own_fm o9 f10 fun r hr hm9=>k4 r hr hm9,OTl.fm f10 _ _ _ _ _ (fun r h1 h2 _ h9=>by omega) k6,B9.trans (f10.toBelow B9.size fun r hr h9=>by have:=B5.size;omega),by have:=f10.size;omega⟩,(by first | omega | (dsimp only;omega))⟩
  ·refine Image_calls (h.below B9) hw fun vs' vr' es' w10 B1' hb10 _ oi10 or10 _=>⟨_,_,_,_,_,_,rfl,?_⟩
   have B10:=btr B9 B9.size hb10
   refine ImageR_calls (hR.keep B10) fun w11 hb11 him=>⟨_,_,_,_,_,_,rfl,?_⟩
   have B11:=btr B10 B10.size hb11
   refine imagesE_calls (vs:=vs') (vr:=vr') (us:=us) (ur:=ur) (X:=S.D) ((oi10.keep hb11).rim (roots:=S.D.roots) (rr_own (or10.keep hb11) om) om hat hkd hok hrok) him fun w12 hb12=>⟨_,rfl,?_⟩
   exact hK w12 (btr B11 B11.size hb12)
 ·have hdr:Below w3.heap.size w3 w3.drew:=(Below.refl _ _).drew
  refine⟨fun w'=>Below w3.heap.size w3 w',hdr,?_⟩
  refine⟨_,_,_,fun w' hw'=>by rw [(b3.keep hw').cell];rfl,_,_,_,fun w' hw'=>by rw [Addr.add_mk,(b3.keep hw').cell];rfl,?_⟩
  have B3d:=btr B3 B3.size hdr
  refine ImageR_calls (hR.keep B3d) fun w4 hb4 him=>⟨_,_,_,_,_,_,rfl,?_⟩
  have E4:=btr hdr hdr.size hb4
  refine⟨E4,?_⟩
  have D4:=btr D3 D3.size E4
  have B4:=btr B3 B3.size E4
  refine imagesE_calls (vs:=vs) (vr:=vr) (us:=us) (ur:=ur) (X:=S.D) ((oi1.keep D4).rim (roots:=S.D.roots) (rr_own (or1.keep D4) om) om hat hkd hok hrok) him fun w5 hb5=>⟨_,rfl,?_⟩
  have E5:=btr E4 E4.size hb5
  have B5:=btr B3 B3.size E5
  refine⟨E5,?_⟩
  rw [show (!true)=false from rfl,Br_f]
  refine LenP_calls (h.below B5) ⟨_,rfl,E5,?_⟩
  refine len_calls (hRd.keep B5) ⟨_,rfl,E5,?_⟩
  refine brn (fun hne=>absurd (by rw [hi.lv]) hne) fun _=>?_
  simp only [nds]
  refine⟨_,_,_,fun w' hw'=>(hRd.keep (btr B3 B3.size hw')).c1,?_⟩
  refine Roots_calls (h.below B5) hw.a fun vq w6 hb6 oq=>⟨_,_,_,rfl,?_⟩
  have E6:=btr E5 E5.size hb6
  have B6:=btr B3 B3.size E6
  refine⟨E6,?_⟩
  refine handlesE_calls (v:=vq) (u:=ur) (rr_own oq om) (hRd.im.roots.keep B6) fun w7 hb7=>⟨_,rfl,?_⟩
  rw [show (!true)=false from rfl,Br_f]
  exact btr E6 E6.size hb7
end
set_option maxRecDepth 100000
section
variable {A:Nat->Option Sl}{E:Nat->Option (Nat × Nat)}{roots loose:List Nat}
theorem wrd_mem (hA:WfA A roots loose):∀(r x y:Nat) {s:Sl},A x=some s->y∈allA A r x->(eN E y).1∈wrd A E r x/\(eN E y).2∈wrd A E r x
 | 0,x,y,s,hs,hy=>by simp [allA] at hy
 | r+1,x,y,s,hs,hy=>by
  rw [allA_some hs,List.mem_cons] at hy
  rw [wrd_some hs]
  rcases hy with rfl | hy
  ·simp
  ·obtain⟨k,hk,hy⟩:=mfm.1 hy
   obtain⟨t,t1,_⟩:=((hA.kid x s hs).2 k hk).2
   obtain⟨h1,h2⟩:=wrd_mem hA r k y t1 hy
   have g1:=mfm.2 ⟨k,hk,h1⟩
   have g2:=mfm.2 ⟨k,hk,h2⟩
   simp [g1,g2]
def Cut (A:Nat->Option Sl) (E:Nat->Option (Nat × Nat)) (L W:List Nat) (i x:Nat):Prop :=
 ∃(P Q PW QW:List Nat) (r c:Nat) (s:Sl),A x=some s/\Ch A x c/\c+r=66/\L=P++allA A r x++Q/\P.length=i/\W=PW++wrd A E r x++QW/\∀y∈Q,(eN E y).1∈QW/\(eN E y).2∈QW
theorem flat_mem (hA:WfA A roots loose) {r:Nat}{l:List Nat} (hl:∀y∈l,∃t,A y=some t):∀y∈l.flatMap (allA A r),(eN E y).1∈l.flatMap (wrd A E r)/\(eN E y).2∈l.flatMap (wrd A E r):=fun y hy=>by
 obtain⟨k,hk,hy⟩:=mfm.1 hy
 obtain⟨t,t1⟩:=hl k hk
 obtain⟨h1,h2⟩:=wrd_mem (E:=E) hA r k y t1 hy
 exact⟨mfm.2 ⟨k,hk,h1⟩,mfm.2 ⟨k,hk,h2⟩⟩
end
def lab (nms lbs:List Nat) (x:Nat):Nat:=lbs.getD (nms.idxOf x) 0
section
variable {D:Im}{E:Nat->Option (Nat × Nat)}{nms lbs:List Nat}{gv:Nat}
def bg (E:Nat->Option (Nat × Nat)) (nms lbs:List Nat) (x:Nat):Nat:=lab nms lbs (eN E x).1
def en (E:Nat->Option (Nat × Nat)) (nms lbs:List Nat) (x:Nat):Nat:=lab nms lbs (eN E x).2
abbrev allD' (D:Im):List Nat:=D.roots.flatMap (allA (slA D.sl) 65)
end
abbrev Sp3:=Int × Int × Int
def sp3 (a:Sp3):Value:=.agg #[.int .u64 a.1,.int .u64 a.2.1,.int .i64 a.2.2]
set_option linter.unusedSimpArgs false
set_option maxRecDepth 100000
def spn (E:Nat->Option (Nat × Nat)) (nms lbs:List Nat) (x c:Nat):Sp3:=((bg E nms lbs x:Nat),(en E nms lbs x:Nat),(c:Int)-1)
section
variable {D:Im}{E:Nat->Option (Nat × Nat)}{nms lbs:List Nat}{gv:Nat}{i k x y cx cy:Nat}{sx sy:Sl}
end
set_option maxRecDepth 100000
structure Asks (w:World) (gp gd:Nat) (D:Im) (E:Nat->Option (Nat × Nat)) (nms lbs:List Nat) (gv:Nat) (vs vr:Sv) (es:List S8):Prop where
 wf:Wf D
 i:TgI nms lbs gv
 word:nms=0 :: D.roots.flatMap (wrd (slA D.sl) E 65)
 r:RW [] w gd D vs vr es
 span:∀{x c:Nat}{s:Sl}{w1:World}{R:RT},slA D.sl x=some s->Ch (slA D.sl) x c->c<=64->Below w.heap.size w w1 ->
  (∀w',Below w1.heap.size w1 w'->R (.returned (.tuple #[sp3 (spn E nms lbs x c),.int .i64 0])) w')->Calls P0 110 #[.pointer (some ⟨gp,0,none⟩),.int .u64 (x:Nat)] w1 R
theorem Asks.of {k g gd:Nat}{w:World}{o:Nat->Nat}{D:Im}{vs vr:Sv}{es:List S8} (hL:LD k g 113 w o D) (hw:Wf D) (hr:RW [] w gd D vs vr es):∃E nms lbs gv,Asks w g gd D E nms lbs gv vs vr es:=by
 obtain⟨S,nms,gv,E,rfl,h⟩:=hL
 have hword:=h.word
 have hd2:=h.def2
 obtain⟨lbs,hI,hM⟩:∃lbs,TgI nms lbs gv/\∀y,E y≠none->∃bs mb wr em,LM w o g 113 S bs nms lbs mb gv wr em E:=by
  rcases h.x with ⟨bs,lbs,mb,wr,em,h⟩ | ⟨h,rfl,rfl,h2⟩
  ·exact⟨lbs,h.i,fun _ _=>⟨bs,mb,wr,em,h⟩⟩
  ·exact⟨_,one_I,fun y hy=>absurd (h2 y) hy⟩
 refine⟨E,nms,lbs,gv,hw,hI,hword,hr,?_⟩
 intro x c s w1 R hs hc hc2 hb hK
 have hE:=hd2 x s hs
 obtain⟨bs,mb,wr,em,hm⟩:=hM x hE
 obtain⟨⟨b,e⟩,hbe⟩:=Option.ne_none_iff_exists'.1 hE
 have heN:eN E x=(b,e):=by unfold eN;rw [hbe];rfl
 have hin:x∈S.D.roots.flatMap (allA (slA S.D.sl) 65):=(mem_all_roots hw.a).2 ⟨s,hs⟩
 obtain⟨m1,m2⟩:=flat_mem (E:=E) (r:=65) hw.a (fun y hy=>by obtain⟨_,t,t1,_⟩:=hw.a.root.2 y hy;exact⟨t,t1⟩) x hin
 rw [heN] at m1 m2
 have n1:b∈nms:=by rw [hword];exact mcm _ m1
 have n2:e∈nms:=by rw [hword];exact mcm _ m2
 have l1:=ioi.2 n1
 have l2:=ioi.2 n2
 have hl:=hI.len
 refine Span_calls (hm.below hb) hw.a hs hc hc2 hbe (i:=nms.idxOf b) (j:=nms.idxOf e) (l:=lbs.getD (nms.idxOf b) 0) (m:=lbs.getD (nms.idxOf e) 0) ((idx_iff hI.nd).2 ⟨n1,rfl⟩) ((idx_iff hI.nd).2 ⟨n2,rfl⟩)
  (by rw [gdd,gge om];rfl) (by rw [gdd,gge om];rfl) fun w' hb'=>?_
 have:=hK w' hb'
 unfold sp3 spn bg en lab at this
 rw [heN] at this
 exact this
set_option maxRecDepth 100000
theorem nodup_len {α:Type} [DecidableEq α]:∀{l m:List α},l.Nodup->(∀x∈l,x∈m)->l.length<=m.length
 | [],m,_,_=>Nat.zero_le _
 | a :: l,m,hn,hm=>by
  obtain⟨h1,h2⟩:=List.nodup_cons.1 hn
  have ha:=hm a sm
  have:=nodup_len (l:=l) (m:=m.erase a) h2 fun x hx=>(List.mem_erase_of_ne (fun e=>h1 (by rw [<-e];exact hx))).2 (hm x (by simp [hx]))
  rw [List.length_erase_of_mem ha] at this
  have:=List.length_pos_of_mem ha
  simp;omega
def liveH (sl:List Sl):List Nat:=(List.range sl.length).filterMap fun i=>match sl[i]? with
 | some s=>if s.live=true then some (hnd s.gen i) else none
 | none=>none
theorem liveH_len (sl:List Sl):(liveH sl).length=liveN sl:=by
 have key:∀k,k<=sl.length->((List.range k).filterMap fun i=>match sl[i]? with
   | some s=>if s.live=true then some (hnd s.gen i) else none
   | none=>none).length=liveN (sl.take k):=fun k=>by
  induction k with
  | zero=>intro _;simp [liveN]
  | succ k ih =>
   intro hk
   have hk2:k < sl.length:=by omega
   rw [List.range_succ,List.filterMap_append,lap,ih om,liveN_take sl hk2]
   congr 1
   simp only [List.filterMap_cons,List.filterMap_nil,gge hk2]
   by_cases e:sl[k].live=true
   ·simp [e]
   ·simp [e]
 have:=key sl.length (Nat.le_refl _)
 rw [tkl] at this
 exact this
theorem mem_liveH {sl:List Sl} (hf:sl.length<=4096) {x:Nat}:x∈liveH sl↔∃s,slA sl x=some s:=by
 unfold liveH
 rw [List.mem_filterMap]
 constructor
 ·rintro ⟨i,hi,h⟩
  have hi:=List.mem_range.1 hi
  rw [gge hi] at h
  by_cases e:sl[i].live=true
  ·have h:some (hnd sl[i].gen i)=some x:=by simpa [e] using h
   obtain rfl:=osi h
   exact⟨sl[i],slA_hnd om (gge hi) e⟩
  ·simp [e] at h
 ·rintro ⟨s,hs⟩
  obtain⟨k,k1,k2,k3,k4⟩:=slA_iff.1 hs
  refine⟨k,List.mem_range.2 (gsi.1 k2).1,?_⟩
  rw [k2]
  simp [k3,k4]
theorem liveH_nodup {sl:List Sl} (hf:sl.length<=4096):(liveH sl).Nodup:=by
 unfold liveH List.Nodup
 rw [List.pairwise_filterMap]
 refine List.pairwise_lt_range.imp_of_mem fun {i j} hi hj hij=>?_
 intro x hx y hy e
 have hi:=List.mem_range.1 hi
 have hj:=List.mem_range.1 hj
 rw [gge hi] at hx
 rw [gge hj] at hy
 subst e
 by_cases e1:sl[i].live=true <;> by_cases e2:sl[j].live=true
 ·have hx:some (hnd sl[i].gen i)=some x:=by simpa [e1] using hx
  have hy:some (hnd sl[j].gen j)=some x:=by simpa [e2] using hy
  have:=(hnd_inj om om (osi (hx.trans hy.symm))).2
  omega
 ·simp [e2] at hy
 ·simp [e1] at hx
 ·simp [e1] at hx
theorem all_live_len {D:Im} (hw:Wf D):(allD' D).length=liveN D.sl:=by
 have hf:=hw.s.few
 have hnd:(allD' D).Nodup:=rootsAll_nodup hw.a
 rw [<-liveH_len]
 refine Nat.le_antisymm (nodup_len hnd fun x hx=>(mem_liveH hf).2 ((mem_all_roots hw.a).1 hx)) (nodup_len (liveH_nodup hf) fun x hx=>(mem_all_roots hw.a).2 ((mem_liveH hf).1 hx))
def LPl:Lay (Nat × Sp3):=⟨4,fun p=>[.int .u64 (p.1:Nat),.int .u64 p.2.1,.int .u64 p.2.2.1,.int .i64 p.2.2.2],fun _=>rfl,fun _=>by simp [Value.oneCell'],dc⟩
def plcF (D:Im) (E:Nat->Option (Nat × Nat)) (nms lbs:List Nat):List (Nat × Sp3):=(allD' D).map fun x=>(x,spn E nms lbs x (cntI D x))
section
variable {w:World}{o:Nat->Nat}{θ:Th}{S:PS}{R:RT}{k g gd:Nat}{D:Im}{E:Nat->Option (Nat × Nat)}{nms lbs:List Nat}{gv:Nat}{vs vr:Sv}{es:List S8}
theorem AllT1_calls (h:PM w o θ S) (hS:WfS S.D.sl) (hA:WfA (slA S.D.sl) S.D.roots [])
  (hK:∀v' w',Below w.heap.size w w'->Own LHn w' w.heap.size 42 (slV v') (allD' S.D)->R (.returned (.tuple #[slV v',.int .i64 0])) w'):Calls P0 90 #[.pointer (some ⟨θ.g,0,none⟩),.int .u64 0] w R:=by
 refine ok90 (some ⟨θ.g,0,none⟩) 0 ?_
 unfold F90
 refine bre (fun _=>?_) (fun e=>absurd rfl e)
 obtain⟨nv,rv,hd⟩:=h.doc
 obtain⟨A,c,hvf,hrd⟩:=hd.r1.form
 have e1:=slvF hvf
 have cv':w.cell? ⟨θ.g,1,none⟩=some (.slice rv.1 rv.2.1 rv.2.2):=by rw [hd.blk.cell];rfl
 simp only [NonNil_some,cv',lds]
 have hf:=rootsAll_few hS hA
 refine allP_calls h hA 65 (l:=S.D.roots) (v:=rv) (cc:=1) (xs:=[]) (by rw [e1];simp) (by rw [e1];exact hrd) h.rts.2 (fun y hy=>by
  obtain⟨_,t,ht,tp⟩:=hA.root.2 y hy
  exact⟨t,ht,.succ (hA.ne0 ht) ht (by rw [tp];exact .zero)⟩) om (Below.refl _ _) (.inl ⟨rfl,rfl⟩) (by simp only [List.length_nil];omega) fun A' n' c' w' hb' ho'=>⟨A',n',c',rfl,?_⟩
 rw [List.nil_append] at ho'
 exact hK (A',n',c') w' hb' ho'
theorem Spans_calls (hL:LD k g 113 w o D) (hw:Wf D) (hQ:Asks w g gd D E nms lbs gv vs vr es)
  (hK:∀v w',Below w.heap.size w w'->Own LPl w' w.heap.size 199 (slV v) (plcF D E nms lbs)->R (.returned (slV v)) w') :
  Calls P0 58 #[.pointer (some ⟨g,0,none⟩)] w R:=by
 refine ok58 (some ⟨g,0,none⟩) ?_
 unfold F58
 simp only [NonNil_some]
 obtain⟨S,nms',gv',E',hSD,hi⟩:=hL
 obtain⟨tl,_,hp⟩:=hi.x.pm
 have hwS:Wf S.D:=by rw [hSD];exact hw
 refine AllT1_calls (θ:=⟨g,113,tl⟩) hp hwS.s hwS.a fun v w1 hb1 ov=>⟨v.1,v.2.1,v.2.2,0,rfl,?_⟩
 rw [hSD] at ov
 obtain⟨y1,y2⟩:=rdO ov
 have hfew:(allD' D).length<=4096:=rootsAll_few hw.s hw.a
 have hs1:=hb1.size
 refine⟨om,om,om,?_⟩
 refine al fun g19 w2 hb2 b2 hge2=>?_
 have B2:=btr hb1 hs1 hb2
 have hs2:=hb2.size
 have hz:((v.2.1:Nat):Int).toNat=v.2.1:=by omega
 rw [hz] at b2 |-
 have hz0:((0:Int)).toNat=0:=rfl
 rw [hz0]
 have o0:Own LPl w2 w1.heap.size 199 (.slice (some ⟨g19,0,none⟩) 0 v.2.1) []:=Own.made (L:=LPl) b2 hge2 (by unfold zrow;simp [LPl]) (by unfold maxLen;omega)
 refine⟨fun oA oN oC i w'=>∃j:Nat,i=j/\j<=(allD' D).length/\Below w1.heap.size w1 w'/\Own LPl w' w1.heap.size 199 (.slice oA oN oC) ((plcF D E nms lbs).take j),fun _ _ _ i _=>(allD' D).length-i.toNat,
  ⟨0,rfl,om,hb2,by rw [List.take_zero];exact o0⟩,?_⟩
 rintro oA oN oC _ w3 ⟨j,rfl,hj,B3,o3⟩
 unfold F58_l4
 have hpl:(plcF D E nms lbs).length=(allD' D).length:=by unfold plcF;rw [lmp]
 have hs3:=B3.size
 refine brd (fun hlt=>?_) (fun hge=>?_)
 ·have hj2:j < (allD' D).length:=by omega
  refine (y2.keep B3).hn y1 rfl hj2 fun b oo cc=>?_
  simp only [cc,lds]
  obtain⟨s,hs⟩:=(mem_all_roots hw.a).1 (gem hj2)
  obtain⟨c1,c2⟩:=hw.cnt (p:=(allD' D)[j]) (.inr ⟨s,hs⟩)
  refine hQ.span hs c2 c1 (btr hb1 hs1 B3) fun w4 hb4=>⟨_,_,_,_,rfl,?_⟩
  refine al fun gs w5 hb5 b5 hge5=>?_
  refine st_blk b5 sm fun u1 q1 f1=>st_blk q1 sm fun u2 q2 f2=>st_blk q2 sm fun w6 b6 f6=>?_
  simp only [sls] at b6
  simp only [b6.cell,lds]
  have hs4:=hb4.size
  have hs5:=hb5.size
  have F6:Fm (·=gs) w5 w6:=(f1.trans f2).trans f6
  have D5:=btr hb4 hs4 hb5
  have D6:Below w3.heap.size w3 w6:=D5.trans (F6.toBelow D5.size fun b hb e=>by have e:b=gs:=e;omega)
  have hs6:=D6.size
  have htl:((plcF D E nms lbs).take j).length=j:=by rw [ltk];omega
  refine ap1 (L:=LPl) (x:=((allD' D)[j],spn E nms lbs (allD' D)[j] (cntI D (allD' D)[j]))) (base:=w1.heap.size) (.agg #[.int .u64 0,.int .u64 0,.int .u64 0,.int .i64 0]) 32 rfl kr kr kr (o3.keep D6) om om (by unfold maxLen;omega) fun A' c' w7 o7 g7=>⟨A',_,c',rfl,?_⟩
  refine⟨inR_i64 om om,⟨j+1,sm,om,(B3.trans (D6.mono hs3)).trans g7.below,?_⟩,(by first | omega | (dsimp only;omega))⟩
  rw [tsa om]
  have:(plcF D E nms lbs)[j]'om=((allD' D)[j],spn E nms lbs (allD' D)[j] (cntI D (allD' D)[j])):=by simp [plcF]
  rw [this]
  exact o7
 ·have hj2:j=(allD' D).length:=by omega
  subst hj2
  rw [<-hpl,tkl] at o3
  exact hK (oA,oN,oC) w3 (btr hb1 hs1 B3) (o3.rebase fun b hb=>by have:=(o3.lt b hb).1;omega)
theorem isU_calls {ok:Nat->Bool} (hL:LD k g 113 w o D) (hw:Wf D) (hR:RM ok w gd D vs vr) (hK:∀w',Below w.heap.size w w'->R (.returned (.bool true)) w') :
  Calls P0 21 #[.pointer (some ⟨g,0,none⟩),.pointer (some ⟨gd,0,none⟩)] w R:=by
 refine ok21 (some ⟨g,0,none⟩) (some ⟨gd,0,none⟩) ?_
 unfold F21
 refine TreeU_calls hL ?_
 intro gc bs o1 w1 S1 hb1 hD1 hp1 _ ho1 hi1
 refine⟨_,rfl,?_⟩
 rw [Option.isNone_some,show (!false)=true from rfl,Br_t]
 refine tells_calls (θ:=⟨gc,106,[]⟩) hp1 hi1 (by rw [hD1];exact hw) (by rw [hD1];exact hR.keep hb1) fun w2 hb2=>⟨_,rfl,?_⟩
 rw [Br_t]
 have B2:=btr hb1 hb1.size hb2
 have hL2:LD k g 113 w2 o D:=(label_edr (g:=g)).keep (M:=fun _=>False) hL (.below B2) fun _ _ h=>h.elim
 have hR2:=hR.keep B2
 obtain⟨es2,hRW⟩:=hR2.re
 obtain⟨E,nms,lbs,gv,hQ⟩:=Asks.of hL2 hw hRW
 refine Spans_calls hL2 hw hQ fun v w3 hb3 ov=>⟨_,_,_,rfl,?_⟩
 have B3:=btr B2 B2.size hb3
 refine len_calls (hR2.rdr.keep hb3) ⟨_,rfl,?_⟩
 obtain⟨y1,_⟩:=rdO ov
 have hpl:(plcF D E nms lbs).length=(allD' D).length:=by unfold plcF;rw [lmp]
 have:((v.2.1:Nat):Int) == ((liveN D.sl:Nat):Int):=by rw [y1,hpl,all_live_len hw];simp
 rw [this]
 exact hK w3 B3
end
set_option maxRecDepth 100000
def exA:Tr:=.mk 1 (ByteArray.mk #[97]) [] noB []
def exO:O1:=⟨1,0,0,2,noB,noB,exA⟩
def exE11:E11:=⟨exO,⟨1,ByteArray.mk #[97],(none,0,0),noB,(none,0,0)⟩⟩
theorem ex_chk:checkF [exO]=(0,0):=by decide +kernel
theorem ex_plan:planF [exO] 5=[0]:=by decide +kernel
theorem ex_put:(insF ⟨[],[]⟩ 2 0 exA).2=(4294967297,0):=by decide +kernel
theorem exA_rd (w:World):RTr w exA ⟨1,ByteArray.mk #[97],(none,0,0),noB,(none,0,0)⟩:=by
 unfold exA
 simp only [RTr]
 exact⟨by trivial,by trivial,by trivial,rr_nil,sm,[],rfl,Rd.nil _ _,by simp [RTl]⟩
theorem mapGone:Tryz.prog.underlying 122=some (.map 42 4):=by kernel_rfl
theorem mapPut:Tryz.prog.underlying 188=some (.map 3 42):=by kernel_rfl
theorem keyInt:Tryz.prog.underlying 3=some (.int .i64):=by kernel_rfl
theorem zeroHn (w:World):(zeroValue 42).run P0 w=.ok (.int .u64 0) w:=by kernel_rfl
theorem ld_keep {k g:Nat}{ty:TypeId}{w w1:World}{o:Nat->Nat}{D:Im}{M:Nat->Prop} (h:LD k g ty w o D) (hf:Fm M w w1) (hm:∀b,b < w.heap.size->M b->o b=0):LD k g ty w1 o D:=by
 obtain⟨S,nms,gv,E,rfl,h⟩:=h
 exact⟨S,nms,gv,E,rfl,h.x.fm hf hm,h.pi,h.word,h.def1,h.def2,h.gv_⟩
theorem cmInsU {g : Nat} (w : World) (a b c : Value) : (callMethod (.iface 58 (.pointer (some ⟨g, 0, none⟩))) "Insert" #[a, b, c]).run P0 w = .ok (.enter 26 #[.pointer (some ⟨g, 0, none⟩), a, b, c]) w := by kernel_rfl
section
variable {w:World}{R:RT}
theorem exR {g:Nat} (h:Blk w g (opC exE11) 50):Rd LOp w (some ⟨g,0,none⟩) 1 [exE11]:=rd_row (xs:=[exE11]) h rfl (by simp [maxLen])
theorem exOk (w:World):∀x∈[exE11],ROp w x:=fun x hx=>by
 rw [List.mem_singleton.1 hx]
 exact⟨⟨dc,dc⟩,exA_rd w⟩
theorem exPlan {g:Nat} (h:Blk w g (opC exE11) 50) (hT:Tabs w) (hK:∀v w',Below w.heap.size w w'->Own LI w' w.heap.size 3 (slV v) [0]->R (.returned (.tuple #[slV v,.int .i64 0])) w') :
  Calls P0 29 #[.slice (some ⟨g,0,none⟩) 1 1] w R:=by
 refine planP_calls [exE11] (exR h) (exOk w) hT dc fun w' hb=>?_
 unfold PlanK
 have e:checkF ([exE11].map (·.o))=(0,0):=ex_chk
 rw [e,if_neg dc]
 intro v hv
 rw [show planF ([exE11].map (·.o)) 5=[0] from ex_plan] at hv
 exact hK v w' hb hv
theorem do_calls {gm gd r:Nat}{w0:World}{o:Nat->Nat}{S:PS} (hm:Blk w gm #[.pointer (some ⟨gd,0,none⟩),.map (some r)] 187) (hp:PM w o ⟨gd,106,[]⟩ S) (hi:PI S) (hD:S.D=⟨[],[]⟩) (hb0:Below w0.heap.size w0 w) (ho:∀b,o b≠0->w0.heap.size<=b) (hT:Tabs w0)
  (hK:∀w',Below w0.heap.size w0 w'->Fm (fun b=>o b≠0) w w'->R (.returned (.tuple #[.int .u64 4294967297,.int .i64 0])) w') :
  Calls P0 104 #[.pointer (some ⟨gm,0,none⟩),opV exE11] w R:=by
 refine ok104 (some ⟨gm,0,none⟩) 1 ((0:Nat):Int) ((0:Nat):Int) 2 noB noB 1 (ByteArray.mk #[97]) none 0 0 noB none 0 0 ?_
 unfold F104
 refine al fun go w1 hb1 bo hgo=>?_
 have hdr:Below w1.heap.size w1 w1.drew:=(Below.refl _ _).drew
 have D1:=btr hb1 hb1.size hdr
 refine⟨fun w'=>w1.drew=w',?_,?_⟩
 rotate_left
 ·refine⟨fun w'=>Below w1.drew.heap.size w1.drew w',.refl _ _,_,fun w' hw=>by rw [((bo.keep hdr).keep hw).cell];rfl,?_⟩
  exact brn (fun h=>absurd rfl h) fun _=>rfl
 rintro _ rfl
 unfold F104_j3
 have bo2:=bo.keep hdr
 simp only [bo2.cell,lds]
 refine bre (fun h=>absurd h dc) fun _=>?_
 refine bre (fun h=>absurd h dc) fun _=>?_
 refine bre (fun h=>absurd h dc) fun _=>?_
 refine bre (fun h=>absurd h dc) fun _=>?_
 refine bre (fun _=>?_) fun h=>absurd rfl h
 have hdr2:Below w1.drew.heap.size w1.drew w1.drew.drew:=(Below.refl _ _).drew
 have D2:=btr D1 D1.size hdr2
 have bo3:=bo2.keep hdr2
 have hm3:=hm.keep D2
 refine⟨fun w'=>Below w1.drew.drew.heap.size w1.drew.drew w',.refl _ _,?_⟩
 simp only [nds]
 have hc:∀(i:Nat) (u:Value),(opC exE11)[i]?=some u->Held (fun w'=>Below w1.drew.drew.heap.size w1.drew.drew w') ⟨go,i,none⟩ u:=fun i u hu w' hw=>by rw [(bo3.keep hw).cell];exact hu
 refine⟨_,fun w' hw=>by rw [(hm3.keep hw).cell];rfl,_,hc 3 _ rfl,_,hc 2 _ rfl,_,hc 6 _ rfl,_,hc 7 _ rfl,_,_,_,hc 8 _ rfl,_,hc 9 _ rfl,_,_,_,hc 10 _ rfl,?_⟩
 have hp3:=hp.below D2
 have B3:=btr hb0 hb0.size D2
 have hsub:Sub w0 (wc o w1.drew.drew):=fun b c t fr hb=>by
  have hlt:=(agi.1 hb).1
  refine cells_only (ok:=fun b=>Nat.beq (o b) 0) ?_ ?_
  ·have:o b=0:=byc fun e=>by have:=ho b e;omega
   show Nat.beq (o b) 0=true
   rw [this];rfl
  ·rw [B3.block b hlt];exact hb
 refine insert_calls (x:=exA) (e:=⟨1,ByteArray.mk #[97],(none,0,0),noB,(none,0,0)⟩) (wh:=2) (a:=0) hp3 hi (by rw [hD];exact nil_wf) (hT.sub hsub) (exA_rd _) dc fun w4 o4 S4 _ _ _ ev=>⟨_,_,rfl,?_⟩
 rw [hD,ex_put]
 have F4:Fm (fun b=>o b≠0) w1.drew.drew w4:=ev.fm.mono fun b _ e e0=>by
  have e:pc (o b):=e
  rw [e0] at e;exact not_pc0 e
 exact hK w4 (B3.trans (F4.toBelow B3.size fun b hb e=>by have:=ho b e;omega)) ((Fm.below D2).trans F4)
theorem try_calls {gd g:Nat}{o:Nat->Nat}{S:PS}{w0:World} (hg:Blk w g (opC exE11) 50) (hp:PM w o ⟨gd,106,[]⟩ S) (hi:PI S) (hD:S.D=⟨[],[]⟩) (hb0:Below w0.heap.size w0 w) (ho:∀b,o b≠0->w0.heap.size<=b) (hT:Tabs w0) (hgl:g < w0.heap.size)
  (hK:∀v w',Below w0.heap.size w0 w'->Own LHn w' w.heap.size 42 (slV v) [4294967297]->R (.returned (.tuple #[slV v,.int .i64 0,.int .i64 0])) w') :
  Calls P0 56 #[.pointer (some ⟨gd,0,none⟩),.slice (some ⟨g,0,none⟩) 1 1] w R:=by
 have hTw:Tabs w:=hT.sub (sub_below hb0)
 refine ok56 (some ⟨gd,0,none⟩) (some ⟨g,0,none⟩) 1 1 ?_
 unfold F56
 refine checkP_calls [exE11] (exR hg) (exOk w) hTw dc fun w1 hb1=>?_
 rw [show checkF ([exE11].map (·.o))=(0,0) from ex_chk]
 refine⟨_,_,rfl,?_⟩
 refine brn (fun h=>absurd rfl h) fun _=>?_
 have hg1:=hg.keep hb1
 refine exPlan hg1 (hTw.sub (sub_below hb1)) fun vp w2 hb2 op=>⟨_,_,_,_,rfl,?_⟩
 have B2:=btr hb1 hb1.size hb2
 refine almM fun r36 w3 hb3 hge3 hlt3 hm3=>?_
 have B3:=btr B2 B2.size hb3
 refine al fun gm w4 hb4 b4 hge4=>?_
 have B4:=btr B3 B3.size hb4
 refine almM fun r39 w5 hb5 hge5 hlt5 hm5=>?_
 have B5:=btr B4 B4.size hb5
 have hs1:=hb1.size
 have hs2:=hb2.size
 have hs3:=hb3.size
 have hs4:=hb4.size
 have hs5:=hb5.size
 have op5:=((op.keep hb3).keep hb4).keep hb5
 obtain⟨z1,z2⟩:vp.2.1=1/\Rd LI w5 vp.1 vp.2.2 [0]:=op5.rd
 have b45:=b4.keep hb5
 have hp5:=hp.below B5
 have hg5:=hg.keep B5
 have hmp:=mp_new .i64 hm5
 have hol:∀b,o b≠0->b < w.heap.size:=fun b hb=>hp.lt b hb
 refine⟨fun i w'=>(i=0/\w'=w5)\/(i=1/\Mp .i64 w' r39 (upd (fun _=>none) 0 (some (.int .u64 4294967297)))/\Below w0.heap.size w0 w'/\w.heap.size<=w'.heap.size),fun i _=>1-i.toNat,.inl ⟨rfl,rfl⟩,?_⟩
 rintro _ w6 (⟨rfl,rfl⟩ | ⟨rfl,hmp6,B6,hs6⟩)
 ·unfold F56_l8
  refine brd (fun _=>?_) fun h=>absurd (by rw [z1];decide) h
  refine⟨fun w'=>Mp .i64 w' r39 (upd (fun _=>none) 0 (some (.int .u64 4294967297)))/\Below w0.heap.size w0 w'/\w.heap.size<=w'.heap.size,?_,?_⟩
  ·rintro w' ⟨q1,q2,q3⟩
   unfold F56_j15
   exact⟨inR_i64 om om,.inr ⟨rfl,q1,q2,q3⟩,sm⟩
  refine z2.idx z1 om om rfl fun b oo cc=>?_
  have c0:=cc 0 _ rfl
  simp only [Nat.add_zero] at c0
  rw [show ([0]:List Int)[(0:Int).toNat]'dc=0 from rfl] at c0
  simp only [c0,lds]
  refine (exR hg5).idx (n:=1) (i:=0) rfl dc dc rfl fun b2 oo2 cc2=>?_
  have cc2:∀j u,(LOp.cells exE11)[j]?=some u->w6.cell? ⟨b2,oo2+j,none⟩=some u:=cc2
  have l0:=cc2 0 _ rfl
  have l1:=cc2 1 _ rfl
  have l2:=cc2 2 _ rfl
  have l3:=cc2 3 _ rfl
  have l4:=cc2 4 _ rfl
  have l5:=cc2 5 _ rfl
  have l6:=cc2 6 _ rfl
  have l7:=cc2 7 _ rfl
  have l8:=cc2 8 _ rfl
  have l9:=cc2 9 _ rfl
  have l10:=cc2 10 _ rfl
  simp only [Nat.add_zero] at l0
  simp only [l0,l1,l2,l3,l4,l5,l6,l7,l8,l9,l10,lds]
  refine do_calls b45 hp5 hi hD (hb0.trans (B5.mono hb0.size)) ho hT fun w7 hb7 F7=>⟨_,_,rfl,?_⟩
  refine brn (fun h=>absurd rfl h) fun _=>?_
  refine brn (fun _=>?_) fun h=>absurd h dc
  have hs7:=F7.size
  refine (hmp.fm F7 fun e=>by have:=hol r39 e;omega).update mapPut keyInt 0 (.int .u64 4294967297) fun w8 h8 F8=>⟨h8,hb7.trans (F8.toBelow hb7.size fun b hb e=>by have e:b=r39:=e;have:=hb0.size;omega),by have:=F8.size;omega⟩
 ·unfold F56_l8
  refine brd (fun h=>absurd h (by rw [z1];decide)) fun _=>?_
  refine⟨fun A n c i w'=>(i=0/\w'=w6/\A=none/\n=0/\c=0)\/(i=1/\Below w0.heap.size w0 w'/\Own LHn w' w.heap.size 42 (.slice A n c) [4294967297]),fun _ _ _ i _=>1-i.toNat,.inl ⟨rfl,rfl,rfl,rfl,rfl⟩,?_⟩
  rintro A n c _ w7 (⟨rfl,rfl,rfl,rfl,rfl⟩ | ⟨rfl,B7,o7⟩)
  ·unfold F56_l18
   refine brd (fun _=>?_) fun h=>absurd dc h
   refine⟨fun A n c w'=>Below w0.heap.size w0 w'/\Own LHn w' w.heap.size 42 (.slice A n c) [4294967297],?_,?_⟩
   ·rintro A n c w' ⟨q1,q2⟩
    unfold F56_j23
    exact⟨inR_i64 om om,.inr ⟨rfl,q1,q2⟩,sm⟩
   refine hmp6.look mapPut keyInt (zeroHn w7) 0 true ?_
   rw [if_pos rfl]
   refine⟨4294967297,true,rfl,?_⟩
   rw [Br_t]
   refine ap1 (L:=LHn) (x:=4294967297) (base:=w.heap.size) (.int .u64 0) 8 rfl kr kr kr (Own.nil _ _ _ _) hs6 dc dc fun A' c' w8 o8 g8=>⟨A',_,c',rfl,?_,o8⟩
   exact B6.trans (g8.below.mono hb0.size)
  ·unfold F56_l18
   refine brd (fun h=>absurd h dc) fun _=>?_
   exact hK (A,n,c) w7 B7 o7
theorem livesU_calls (hT:Tabs w) (hK:∀w',Below w.heap.size w w'->R (.returned (.bool true)) w'):Calls P0 28 #[] w R:=by
 refine ok28 ?_
 unfold F28
 refine al fun gp w1 hb1 b1 hge1=>al fun g w2 hb2 b2 hge2=>?_
 have B2:=btr hb1 hb1.size hb2
 have b12:=b1.keep hb2
 have hs1:=hb1.size
 have hs2:=hb2.size
 have hgl:=b2.lt
 have hgpl:=b1.lt
 have hg2:Blk w2 g (opC exE11) 50:=b2
 have hL:=ld_zero b12
 generalize ho:(fun b=>if b=gp then 1 else 0)=o at hL
 have hoc:∀b,b≠gp->o b=0:=fun b hb=>by rw [<-ho];exact if_neg hb
 refine ok22 (some ⟨gp,0,none⟩) (some ⟨g,0,none⟩) 1 1 ?_
 unfold F22
 refine ok20 (some ⟨gp,0,none⟩) (some ⟨g,0,none⟩) 1 1 ?_
 unfold F20
 rw [Option.isNone_some,Br_f]
 have hT2:=hT.sub (sub_below B2)
 refine TreeU_calls hL ?_
 intro gc bs o3 w3 S3 hb3 hSD hp3 _ ho3 hi3
 refine⟨_,rfl,?_⟩
 refine try_calls (w0:=w2) (hg2.keep hb3) hp3 hi3 hSD hb3 ho3 hT2 hgl fun v w4 hb4 ov=>⟨_,_,_,_,_,rfl,?_⟩
 refine⟨_,_,_,_,_,rfl,?_⟩
 refine brn (fun h=>absurd rfl h) fun _=>?_
 have hg4:=hg2.keep hb4
 have hT4:=hT2.sub (sub_below hb4)
 refine exPlan hg4 hT4 fun vp w5 hb5 op=>⟨_,_,_,_,rfl,?_⟩
 refine almM fun r31 w6 hb6 hge6 hlt6 hm6=>?_
 have B5:=btr hb4 hb4.size hb5
 have B6:=btr B5 B5.size hb6
 have hs3:=hb3.size
 have hs4:=hb4.size
 have hs5:=hb5.size
 have hs6:=hb6.size
 have op6:=op.keep hb6
 obtain⟨z1,z2⟩:vp.2.1=1/\Rd LI w6 vp.1 vp.2.2 [0]:=op6.rd
 have ov6:=(ov.keep hb5).keep hb6
 have hL6:LD 0 gp 113 w6 o ⟨[],[]⟩:=ld_keep (M:=fun _=>False) hL (.below B6) fun _ _ h=>h.elim
 have hg6:=hg2.keep B6
 refine⟨fun i w'=>(i=0/\w'=w6)\/(i=1/\Below w.heap.size w w'/\Own LHn w' w3.heap.size 42 (slV v) [4294967297]),fun i _=>1-i.toNat,.inl ⟨rfl,rfl⟩,?_⟩
 rintro _ w7 (⟨rfl,rfl⟩ | ⟨rfl,B7,o7⟩)
 ·unfold F22_l7
  refine brd (fun _=>?_) fun h=>absurd (by rw [z1];decide) h
  refine z2.idx z1 om om rfl fun b oo cc=>?_
  have c0:=cc 0 _ rfl
  simp only [Nat.add_zero] at c0
  rw [show ([0]:List Int)[(0:Int).toNat]'dc=0 from rfl] at c0
  simp only [c0,lds]
  refine (exR hg6).idx (n:=1) (i:=0) rfl dc dc rfl fun b2 oo2 cc2=>?_
  have cc2:∀j u,(LOp.cells exE11)[j]?=some u->w7.cell? ⟨b2,oo2+j,none⟩=some u:=cc2
  have l0:=cc2 0 _ rfl
  have l1:=cc2 1 _ rfl
  have l2:=cc2 2 _ rfl
  have l3:=cc2 3 _ rfl
  have l4:=cc2 4 _ rfl
  have l5:=cc2 5 _ rfl
  have l6:=cc2 6 _ rfl
  have l7:=cc2 7 _ rfl
  have l8:=cc2 8 _ rfl
  have l9:=cc2 9 _ rfl
  have l10:=cc2 10 _ rfl
  simp only [Nat.add_zero] at l0
  simp only [l0,l1,l2,l3,l4,l5,l6,l7,l8,l9,l10,lds]
  refine ok59 (.iface 58 (.pointer (some ⟨gp,0,none⟩))) (.func (.func 30) #[.pointer (some ⟨gp,0,none⟩)] #[]) (some r31) 1 ((0:Nat):Int) ((0:Nat):Int) 2 noB noB 1 (ByteArray.mk #[97]) none 0 0 noB none 0 0 ?_
  unfold F59
  refine al fun go w8 hb8 bo hgo=>?_
  have D8:=btr B6 B6.size hb8
  simp only [bo.cell,lds]
  refine⟨fun w'=>w8=w',?_,brn (fun h=>absurd rfl h) fun _=>rfl⟩
  rintro _ rfl
  unfold F59_j2
  simp only [bo.cell,lds]
  refine bre (fun h=>absurd h dc) fun _=>?_
  refine bre (fun h=>absurd h dc) fun _=>?_
  refine bre (fun h=>absurd h dc) fun _=>?_
  refine bre (fun h=>absurd h dc) fun _=>?_
  refine bre (fun _=>?_) fun h=>absurd rfl h
  have hL8:LD 0 gp 113 w8 o ⟨[],[]⟩:=ld_keep (M:=fun _=>False) hL6 (.below hb8) fun _ _ h=>h.elim
  have hsub:Sub w (wc o w8):=fun b c t fr hb=>by
   have hlt:=(agi.1 hb).1
   refine cells_only (ok:=fun b=>Nat.beq (o b) 0) ?_ ?_
   ·show Nat.beq (o b) 0=true
    rw [hoc b om];rfl
   ·rw [D8.block b om,B2.block b hlt];exact hb
  refine⟨_,_,cmInsU w8 _ _ _,insertL_calls (x:=exA) (e:=⟨1,ByteArray.mk #[97],(none,0,0),noB,(none,0,0)⟩) (wh:=2) (a:=0) hL8 dc nil_wf (hT.sub hsub) (exA_rd _) dc fun w9 o9 hL9 ev=>⟨_,_,rfl,?_⟩⟩
  refine⟨rfl,inR_i64 om om,.inr ⟨rfl,?_,?_⟩,sm⟩
  ·exact (B2.trans (D8.mono B2.size)).trans (ev.fm.toBelow (by have:=D8.size;omega) fun b hb e=>e (hoc b om))
  ·refine own_fm (ov6.keep hb8) ev.fm fun b hb e=>e (hoc b ?_)
   have:=(ov.lt b hb).1
   omega
 ·unfold F22_l7
  refine brd (fun h=>absurd h (by rw [z1];decide)) fun _=>?_
  refine⟨_,_,_,_,_,rfl,?_⟩
  obtain⟨y1,y2⟩:v.2.1=1/\Rd LHn w7 v.1 v.2.2 [4294967297]:=o7.rd
  refine bre (fun _=>?_) fun h=>absurd rfl h
  refine bre (fun _=>?_) fun h=>absurd (by rw [y1];rfl) h
  refine y2.idx y1 om om rfl fun b oo cc=>?_
  have c0:=cc 0 _ rfl
  simp only [Nat.add_zero] at c0
  rw [show ([4294967297]:List Nat)[(0:Int).toNat]'dc=4294967297 from rfl] at c0
  simp only [c0,lds]
  exact hK w7 B7
end
set_option maxRecDepth 100000
def gnF (gone:List Nat):Int->Option Value:=fun k=>if (gone.any fun h=>decide ((h:Int)=k))=true then some (.bool true) else none
theorem gn_nil:gnF []=fun _=>none:=by funext k;simp [gnF]
theorem gn_snoc (gone:List Nat) (x:Nat):upd (gnF gone) (x:Nat) (some (.bool true))=gnF (gone++[x]):=by
 funext k
 unfold upd gnF
 rw [List.any_append]
 by_cases e:k=(x:Int)
 ·subst e;simp
 ·rw [if_neg e]
  have:(([x]:List Nat).any fun h=>decide ((h:Int)=k))=false:=by simp;exact fun h=>e h.symm
  rw [this,Bool.or_false]
theorem gn_look (gone:List Nat) (n:Nat):((gnF gone) (n:Nat)).getD (.bool false)=.bool (decide (n∈gone)):=by
 unfold gnF
 by_cases h:n∈gone
 ·have:(gone.any fun h=>decide ((h:Int)=(n:Int)))=true:=List.any_eq_true.2 ⟨n,h,sm⟩
  rw [if_pos this,decide_eq_true h];rfl
 ·have:¬(gone.any fun h=>decide ((h:Int)=(n:Int)))=true:=fun hh=>by
   obtain⟨x,hx,he⟩:=List.any_eq_true.1 hh
   have he:=of_decide_eq_true he
   exact h (by rw [show n=x by omega];exact hx)
  rw [if_neg this,decide_eq_false h];rfl
theorem zeroBool (w:World):(zeroValue 4).run P0 w=.ok (.bool false) w:=by kernel_rfl
structure EvR (r:Nat) (w:World) (o:Nat->Nat) (w1:World) (o1:Nat->Nat):Prop where
 fm:Fm (fun b=>o b≠0\/b=r) w w1
 old:∀b,b < w.heap.size->o b=0->o1 b=0
theorem EvR.trans {r:Nat}{w w1 w2:World}{o o1 o2:Nat->Nat} (h:EvR r w o w1 o1) (k:EvR r w1 o1 w2 o2):EvR r w o w2 o2 :=
 ⟨⟨k.fm.os.trans h.fm.os,k.fm.tape.trans h.fm.tape,k.fm.output.trans h.fm.output,Nat.le_trans h.fm.size k.fm.size,fun b hb hm=>(k.fm.block b (nll hb h.fm.size) fun hk=>hm (by
  rcases hk with hk | hk
  ·exact .inl fun e=>hk (h.old b hb e)
  ·exact .inr hk)).trans (h.fm.block b hb hm)⟩,fun b hb e=>k.old b (nll hb h.fm.size) (h.old b hb e)⟩
theorem EvR.below {r:Nat}{w w1:World}{o:Nat->Nat} (h:Below w.heap.size w w1):EvR r w o w1 o:=⟨.below h,fun _ _ e=>e⟩
theorem EvR.p {r:Nat}{w w1:World}{o o1:Nat->Nat} (h:EvP w o w1 o1):EvR r w o w1 o1:=⟨h.fm.mono fun b _ e=>.inl fun e0=>by
 have e:pc (o b):=e
 rw [e0] at e;exact not_pc0 e,h.old⟩
theorem EvR.a {r:Nat}{w w1:World}{o o1:Nat->Nat} (h:EvA w o w1 o1):EvR r w o w1 o1:=⟨h.fm.mono fun b _ e=>.inl e,h.old⟩
theorem EvR.one {r:Nat}{w w1:World}{o:Nat->Nat} (h:Fm (·=r) w w1):EvR r w o w1 o:=⟨h.mono fun b _ e=>.inr e,fun _ _ e=>e⟩
theorem EvR.blk {r b:Nat}{w w1:World}{o o1:Nat->Nat}{c:Array Value}{t:TypeId} (h:EvR r w o w1 o1) (hb:Blk w b c t) (h0:o b=0) (hr:b≠r):Blk w1 b c t:=h.fm.blk hb fun e=>by
 rcases e with e | e
 ·exact e h0
 ·exact hr e
theorem EvR.sub {r:Nat}{w w1:World}{o o1:Nat->Nat} (h:EvR r w o w1 o1) (hr:∃es cl,w.heap[r]?=some (.map es cl)):Sub (wc o w) (wc o1 w1):=fun b c t fr hb=>by
 obtain⟨h1,h2⟩:=only_cells hb
 have h1:o b=0:=nbe h1
 have hlt:=(agi.1 h2).1
 refine cells_only (ok:=fun b=>Nat.beq (o1 b) 0) ?_ ?_
 ·show Nat.beq (o1 b) 0=true
  rw [h.old b hlt h1];rfl
 ·rw [h.fm.block b hlt fun e=>?_]
  ·exact h2
  ·rcases e with e | e
   ·exact e h1
   ·subst e
    obtain⟨es,cl,hm⟩:=hr
    rw [hm] at h2;cases h2
theorem Mp.ob {q:IntKind}{w:World}{r:Nat}{f:Int->Option Value} (h:Mp q w r f):∃es cl,w.heap[r]?=some (.map es cl):=by
 obtain⟨es,cl,h1,_⟩:=h
 exact⟨es,cl,h1⟩
section
variable {w w1:World}{o:Nat->Nat}{θ:Th}{S:PS}{R:RT}{gone:List Nat}{gm r:Nat}
theorem mark_step {l:List Nat}{v:Sv}{i:Int}{k:Nat}{gone:List Nat} (hv:v.2.1=l.length) (hr:Rd LHn w v.1 v.2.2 l) (hi:i=k) (hk:k < l.length) (hm:Mp .u64 w r (gnF gone)) {K:World->Prop} (hK:∀w',Mp .u64 w' r (gnF (gone++[l[k]]))->Fm (·=r) w w'->K w') :
  IdxA v.1 v.2.1 i 1 fun q=>LdI .u64 (w.cell? q) fun x=>Raw P0 (Instr.mapUpdate 122 (.map (some r)) (.int .u64 x) (.bool true)) w fun _ w'=>K w':=by
 refine hr.hn hv hi hk fun b oo cc=>?_
 simp only [cc,lds]
 refine hm.update mapGone opKey _ _ fun w' h1 h2=>hK w' ?_ h2
 rw [gn_snoc] at h1
 exact h1
theorem delM_calls (hm:Blk w gm #[.pointer (some ⟨θ.g,0,none⟩),.map (some r)] 187) (hp:PM w o θ S) (hi:PI S) (hw:Wf S.D) (hM:Mp .u64 w r (gnF gone)) (h0:o gm=0) (h1:o r=0) (hne:gm≠r) {n:Nat} (hn:n < 18446744073709551616)
  (hK:∀w' o' S',PM w' o' θ S'->PI S'->S'.D=(delF S.D n).1->EvR r w o w' o'->((delF S.D n).2=0->Mp .u64 w' r (gnF (gone++allI S.D n)))->R (.returned (.int .i64 (delF S.D n).2)) w') :
  Calls P0 161 #[.pointer (some ⟨gm,0,none⟩),.int .u64 (n:Nat)] w R:=by
 refine ok161 (some ⟨gm,0,none⟩) (n:Nat) ?_
 unfold F161
 simp only [NonNil_some,hm.cell,lds]
 by_cases e0:n=0
 ·subst e0
  have hd:delF S.D 0=(S.D,8):=by unfold delF;rw [slA_zero]
  refine AllT0_calls hp hw.s hw.a fun v w1 hb1=>⟨_,_,_,_,rfl,fun w'=>False,fun _ h=>h.elim,?_⟩
  refine brn (fun h=>absurd rfl h) fun _=>?_
  refine bre (fun _=>?_) fun h=>absurd rfl h
  rw [hd] at hK
  exact hK w1 o S (hp.below hb1) hi rfl (.below hb1) fun h=>(by cases h)
 refine AllT_calls hp hw.s hw.a hn e0 fun v w1 hb1 ov=>⟨_,_,_,_,rfl,fun w'=>w'=w1/\∃s,slA S.D.sl n=some s,?_,?_⟩
 rotate_left
 ·cases hs:slA S.D.sl n with
  | none =>
   have hd:delF S.D n=(S.D,8):=by unfold delF;rw [hs]
   refine brn (fun _=>?_) fun h=>absurd h (by rw [show (none:Option Sl).isSome=false from rfl];decide)
   rw [hd] at hK
   exact hK w1 o S (hp.below hb1) hi rfl (.below hb1) fun h=>(by cases h)
  | some s =>
   refine brn (fun h=>absurd (by rw [show (some s).isSome=true from rfl];rfl) h) fun _=>?_
   refine bre (fun h=>absurd h om) fun _=>⟨by first | exact rfl | trivial,s,rfl⟩
 rintro w1 ⟨rfl,s,hs⟩
 have ov:=ov s hs
 obtain⟨y1,y2⟩:=rdO ov
 have hal:allI S.D n=allA (slA S.D.sl) 65 n:=by unfold allI;rw [if_neg e0]
 rw [<-hal] at ov y1 y2
 have hfew:(allI S.D n).length<=4096:=by rw [hal];exact all_few hw.s hw.a ⟨s,hs⟩
 have hrl:=hM.lt
 have hgml:=hm.lt
 unfold F161_j4
 refine⟨fun i w'=>∃k:Nat,i=k/\k<=(allI S.D n).length/\Fm (·=r) w1 w'/\Mp .u64 w' r (gnF (gone++(allI S.D n).take k)),fun i _=>(allI S.D n).length-i.toNat,
  ⟨0,rfl,om,.refl _ _,by rw [List.take_zero,List.append_nil];exact hM.fm (M:=fun _=>False) (.below hb1) (fun h=>h)⟩,?_⟩
 rintro _ w2 ⟨k,rfl,hk,f2,hM2⟩
 unfold F161_l5
 have bm2:Blk w2 gm _ 187:=f2.blk (hm.keep hb1) hne
 have ev2:EvR r w o w2 o:=(EvR.below hb1).trans (.one f2)
 have hs1:=hb1.size
 refine brd (fun hlt=>?_) (fun hge=>?_)
 ·have hk2:k < (allI S.D n).length:=by omega
  have y3:Rd LHn w2 v.1 v.2.2 (allI S.D n):=(rdO (own_fm ov f2 fun b hb e=>by have e:b=r:=e;have:=(ov.lt b hb).1;omega)).2
  simp only [NonNil_some,bm2.cell,lds]
  refine mark_step (v:=v) y1 y3 rfl hk2 hM2 fun w3 h3 f3=>?_
  refine⟨inR_i64 om om,⟨k+1,sm,om,f2.trans f3,?_⟩,(by first | omega | (dsimp only;omega))⟩
  rw [tsa hk2,<-laa];exact h3
 ·have hk2:k=(allI S.D n).length:=by omega
  subst hk2
  rw [tkl] at hM2
  simp only [NonNil_some,bm2.cell,lds]
  have hp2:PM w2 o θ S:=(hp.below hb1).keep f2 (fun b hb e=>by have e:b=r:=e;subst e;rw [h1] at hb;exact not_pc0 hb) (fun _ _=>rfl) fun b hb=>by have:=hp.lt b hb;have:=f2.size;omega
  have hr2:=hM2.lt
  refine delete_calls hp2 hi hw hn fun w3 o3 S3 hp3 hi3 hD3 ev3=>⟨_,rfl,?_⟩
  refine hK w3 o3 S3 hp3 hi3 hD3 (ev2.trans (.p ev3)) fun _=>hM2.fm ev3.fm fun e=>?_
  have e:pc (o r):=e
  rw [h1] at e;exact not_pc0 e
theorem doP_calls (hm:Blk w gm #[.pointer (some ⟨θ.g,0,none⟩),.map (some r)] 187) (hp:PM w o θ S) (hi:PI S) (hw:Wf S.D) (hM:Mp .u64 w r (gnF gone)) (h0:o gm=0) (h1:o r=0) (hne:gm≠r) (hT:Tabs (wc o w)) {x:E11} (hx:ROp (wc o w) x) (hk1:1<=x.o.kind) (hk8:x.o.kind<=8)
  (hS:skipB gone x.o=true->∀w',Below w.heap.size w w'->R (.returned (.tuple #[.int .u64 0,.int .i64 0])) w')
  (hK:skipB gone x.o=false->∀w' o' S',PM w' o' θ S'->PI S'->S'.D=(oneF S.D x.o).1->EvR r w o w' o'->((oneF S.D x.o).2.2=0->Mp .u64 w' r (gnF (gone++takenF S.D x.o)))->R (.returned (.tuple #[.int .u64 ((oneF S.D x.o).2.1:Nat),.int .i64 (oneF S.D x.o).2.2])) w') :
  Calls P0 104 #[.pointer (some ⟨gm,0,none⟩),opV x] w R:=by
 obtain⟨⟨hn,ha⟩,ht⟩:=hx
 refine ok104 (some ⟨gm,0,none⟩) x.o.kind (x.o.node:Nat) (x.o.at_:Nat) x.o.wh x.o.nm x.o.val x.e.kind x.e.nm x.e.ats.1 x.e.ats.2.1 x.e.ats.2.2 x.e.text x.e.kids.1 x.e.kids.2.1 x.e.kids.2.2 ?_
 unfold F104
 refine al fun go w1 hb1 bo hgo=>?_
 have hdr:Below w1.heap.size w1 w1.drew:=(Below.refl _ _).drew
 have D1:=btr hb1 hb1.size hdr
 have hs1:=hb1.size
 have hgol:=bo.lt
 have hrl:=hM.lt
 have bo1:=bo.keep hdr
 have hMd:Mp .u64 w1.drew r (gnF gone):=hM.fm (M:=fun _=>False) (.below D1) (fun h=>h)
 refine⟨fun w'=>skipB gone x.o=false/\w'=w1.drew,?_,?_⟩
 rotate_left
 ·refine⟨fun w'=>Below w1.drew.heap.size w1.drew w',.refl _ _,_,fun w' hw'=>by rw [(bo1.keep hw').cell];rfl,?_⟩
  refine brn (fun hk=>?_) fun hk=>⟨by unfold skipB;simp [hk],by first | exact rfl | trivial⟩
  simp only [nds]
  refine⟨_,fun w' hw'=>by rw [((hm.keep D1).keep hw').cell];rfl,_,fun w' hw'=>by rw [(bo1.keep hw').cell];rfl,?_⟩
  refine hMd.look mapGone opKey (zeroBool _) _ false ?_
  rw [if_neg dc,gn_look]
  refine⟨_,rfl,?_⟩
  refine brd (fun hmem=>?_) fun hmem=>⟨by unfold skipB;simp [hmem],by first | exact rfl | trivial⟩
  exact hS (by unfold skipB;simp [hk,hmem]) _ D1
 rintro _ ⟨hsk,rfl⟩
 have hK:=hK hsk
 unfold F104_j3
 simp only [bo1.cell,lds]
 have hdr2:Below w1.drew.heap.size w1.drew w1.drew.drew:=(Below.refl _ _).drew
 have D2:=btr D1 D1.size hdr2
 have bo3:=bo1.keep hdr2
 have hm3:=hm.keep D2
 have hp3:=hp.below D2
 have hM3:Mp .u64 w1.drew.drew r (gnF gone):=hM.fm (M:=fun _=>False) (.below D2) (fun h=>h)
 have hsub:Sub (wc o w) (wc o w1.drew.drew):=sub_only (fun _ _ h=>h) fun b hb _=>D2.block b hb
 have hsub1:Sub (wc o w) (wc o w1.drew):=sub_only (fun _ _ h=>h) fun b hb _=>D1.block b hb
 have ht3:=RTr.sub hsub _ _ ht
 have hT3:=hT.sub hsub
 have ev3:EvR r w o w1.drew.drew o:=.below D2
 have hgo0:o go=0:=byc fun e=>by have:=hp.lt go e;omega
 have hc:∀(i:Nat) (u:Value),(opC x)[i]?=some u->Held (fun w'=>Below w1.drew.drew.heap.size w1.drew.drew w') ⟨go,i,none⟩ u:=fun i u hu w' hw'=>by rw [(bo3.keep hw').cell];exact hu
 have hcm:Held (fun w'=>Below w1.drew.drew.heap.size w1.drew.drew w') ⟨gm,0,none⟩ (.pointer (some ⟨θ.g,0,none⟩)):=fun w' hw'=>by rw [(hm3.keep hw').cell];rfl
 have stay:takenF S.D x.o=[]->∀{w':World}{o':Nat->Nat},EvP w1.drew.drew o w' o'->Mp .u64 w' r (gnF (gone++takenF S.D x.o)):=fun e {w' o'} hev=>by
  rw [e,List.append_nil]
  exact hM3.fm hev.fm fun e=>by
   have e:pc (o r):=e
   rw [h1] at e;exact not_pc0 e
 have nt:¬(x.o.kind=3\/x.o.kind=8)->takenF S.D x.o=[]:=fun h=>by unfold takenF;rw [if_neg h]
 unfold oneF at hK
 refine bre (fun e=>?_) fun e4=>?_
 ·rw [if_neg om,if_neg om,if_neg om,if_pos e] at hK
  refine⟨fun w'=>Below w1.drew.drew.heap.size w1.drew.drew w',.refl _ _,?_⟩
  simp only [nds]
  refine⟨_,hcm,_,hc 1 _ rfl,_,hc 4 _ rfl,?_⟩
  exact setName_calls hp3 hi hn fun w' S' q1 q2 q3 q4=>⟨_,rfl,hK w' o S' q1 q2 q3 (ev3.trans (.p q4)) fun _=>stay (nt om) q4⟩
 refine bre (fun e=>?_) fun e5=>?_
 ·rw [if_neg om,if_neg om,if_neg om,if_neg om,if_pos e] at hK
  refine⟨fun w'=>Below w1.drew.drew.heap.size w1.drew.drew w',.refl _ _,?_⟩
  simp only [nds]
  refine⟨_,hcm,_,hc 1 _ rfl,_,hc 5 _ rfl,?_⟩
  exact setText_calls hp3 hi hT3 hn fun w' S' q1 q2 q3 q4=>⟨_,rfl,hK w' o S' q1 q2 q3 (ev3.trans (.p q4)) fun _=>stay (nt om) q4⟩
 refine bre (fun e=>?_) fun e6=>?_
 ·rw [if_neg om,if_neg om,if_neg om,if_neg om,if_neg om,if_pos e] at hK
  refine⟨fun w'=>Below w1.drew.drew.heap.size w1.drew.drew w',.refl _ _,?_⟩
  simp only [nds]
  refine⟨_,hcm,_,hc 1 _ rfl,_,hc 4 _ rfl,_,hc 5 _ rfl,?_⟩
  exact setAttr_calls hp3 hi hw hT3 hn fun w' o' S' q1 q2 q3 q4=>⟨_,rfl,hK w' o' S' q1 q2 q3 (ev3.trans (.p q4)) fun _=>stay (nt om) q4⟩
 refine bre (fun e=>?_) fun e7=>?_
 ·rw [if_neg om,if_neg om,if_neg om,if_neg om,if_neg om,if_neg om,if_pos e] at hK
  refine⟨fun w'=>Below w1.drew.drew.heap.size w1.drew.drew w',.refl _ _,?_⟩
  simp only [nds]
  refine⟨_,hcm,_,hc 1 _ rfl,_,hc 4 _ rfl,?_⟩
  exact dropAttr_calls hp3 hi hw hn fun w' o' S' q1 q2 q3 q4=>⟨_,rfl,hK w' o' S' q1 q2 q3 (ev3.trans (.p q4)) fun _=>stay (nt om) q4⟩
 refine bre (fun e=>?_) fun e1=>?_
 ·rw [if_pos e] at hK
  refine⟨fun w'=>Below w1.drew.drew.heap.size w1.drew.drew w',.refl _ _,?_⟩
  simp only [nds]
  refine⟨_,hcm,_,hc 3 _ rfl,_,hc 2 _ rfl,_,hc 6 _ rfl,_,hc 7 _ rfl,_,_,_,hc 8 _ rfl,_,hc 9 _ rfl,_,_,_,hc 10 _ rfl,?_⟩
  exact insert_calls (e:=x.e) hp3 hi hw hT3 ht3 ha fun w' o' S' q1 q2 q3 q4=>⟨_,_,rfl,hK w' o' S' q1 q2 q3 (ev3.trans (.p q4)) fun _=>stay (nt om) q4⟩
 refine bre (fun e=>?_) fun e2=>?_
 ·rw [if_neg e1,if_pos e] at hK
  refine⟨fun w'=>Below w1.drew.drew.heap.size w1.drew.drew w',.refl _ _,?_⟩
  simp only [nds]
  refine⟨_,hcm,_,hc 1 _ rfl,_,hc 3 _ rfl,_,hc 2 _ rfl,?_⟩
  exact move_calls hp3 hi hw hn ha fun w' o' S' q1 q2 q3 q4=>⟨_,rfl,hK w' o' S' q1 q2 q3 (ev3.trans (.p q4)) fun _=>stay (nt om) q4⟩
 refine bre (fun e=>?_) fun e3=>?_
 ·rw [if_neg e1,if_neg e2,if_pos e] at hK
  have ht:takenF S.D x.o=allI S.D x.o.node:=by unfold takenF;rw [if_pos (.inl e)]
  rw [ht] at hK
  exact delM_calls (hm.keep D1) (hp.below D1) hi hw hMd h0 h1 hne hn fun w' o' S' q1 q2 q3 q4 q5=>⟨_,rfl,hK w' o' S' q1 q2 q3 ((EvR.below D1).trans q4) q5⟩
 have e8:x.o.kind=8:=by omega
 rw [if_neg e1,if_neg e2,if_neg e3,if_neg e4,if_neg e5,if_neg e6,if_neg e7] at hK
 refine⟨fun w'=>Below w1.drew.drew.heap.size w1.drew.drew w',.refl _ _,?_⟩
 simp only [nds]
 refine⟨_,hcm,_,hc 1 _ rfl,_,hc 6 _ rfl,_,hc 7 _ rfl,_,_,_,hc 8 _ rfl,_,hc 9 _ rfl,_,_,_,hc 10 _ rfl,?_⟩
 refine insert_calls (e:=x.e) (wh:=3) hp3 hi hw hT3 ht3 hn fun w4 o4 S4 q1 q2 q3 q4=>⟨_,_,rfl,?_⟩
 have ev4:EvR r w o w4 o4:=ev3.trans (.p q4)
 refine brn (fun hne9=>?_) fun heq9=>?_
 ·rw [if_pos hne9] at hK
  rw [ins_errD hne9] at q3
  exact hK w4 o4 S4 q1 q2 q3 ev4 fun h=>absurd h hne9
 rw [if_neg (by rw [heq9];simp)] at hK
 obtain⟨s,_,_,hal⟩:=ins_all hw heq9
 have hM4:Mp .u64 w4 r (gnF gone):=hM3.fm q4.fm fun e=>by
   have e:pc (o r):=e
   rw [h1] at e;exact not_pc0 e
 have np:∀b,o b=0->¬pc (o b):=fun b e h=>by rw [e] at h;exact not_pc0 h
 have bo4:Blk w4 go _ 50:=q4.fm.blk bo3 (np go hgo0)
 have hm4:Blk w4 gm _ 187:=q4.fm.blk hm3 (np gm h0)
 simp only [bo4.cell,lds]
 have hs2:=D2.size
 refine delM_calls hm4 q1 q2 (by rw [q3];exact ins_wf hw _ _ _) hM4 (q4.old gm (by have:=hm.lt;omega) h0) (q4.old r om h1) hne hn fun w5 o5 S5 r1 r2 r3 r4 r5=>⟨_,rfl,?_⟩
 rw [q3] at r3 r5 |-
 refine hK w5 o5 S5 r1 r2 r3 (ev4.trans r4) fun h=>?_
 have ht:takenF S.D x.o=allI S.D x.o.node:=by unfold takenF;rw [if_pos (.inr e8)]
 rw [ht,<-hal]
 exact r5 h
end
set_option maxRecDepth 100000
theorem zrowH (n:Nat):(zrow #[.int .u64 0] (n*1)).toList=LHn.all (List.replicate n 0):=by
 unfold zrow
 rw [Nat.mul_one]
 have e:∀k,LHn.all (List.replicate k 0)=List.replicate k (.int .u64 0):=by
  intro k
  induction k with
  | zero=>rfl
  | succ k ih =>
   simp only [Lay.all,List.replicate_succ,fmc] at *
   rw [ih];rfl
 rw [e]
 refine List.ext_getElem sm fun i h1 h2=>?_
 simp [Nat.mod_one]
theorem one_live {D:Im} (hw:Wf D) {o:O1} (h:(oneF D o).2.2=0) (hk:o.kind=3\/o.kind=8):∃s,slA D.sl o.node=some s:=by
 unfold oneF at h
 rcases hk with hk | hk
 ·rw [if_neg om,if_neg om,if_pos hk] at h
  unfold delF at h
  cases hs:slA D.sl o.node with
  | none=>rw [hs] at h;cases h
  | some s=>exact⟨s,rfl⟩
 ·rw [if_neg om,if_neg om,if_neg om,if_neg om,if_neg om,if_neg om,if_neg om] at h
  split at h
  ·rename_i h1;exact absurd h h1
  rename_i h1
  obtain⟨s,hs,_⟩:=ins_all hw (by simpa using h1)
  exact⟨s,hs⟩
theorem taken_len {D:Im} (hw:Wf D) {o:O1} (h:(oneF D o).2.2=0):(takenF D o).length<=4096:=by
 unfold takenF
 split
 ·rename_i hk
  obtain⟨s,hs⟩:=one_live hw h hk
  unfold allI
  rw [if_neg (fun e=>by rw [e,slA_zero] at hs;cases hs)]
  exact all_few hw.s hw.a ⟨s,hs⟩
 ·simp
def ApplyRK (R:RT) (ok:Nat->Bool) (w0:World) (r:Option (Im × List Nat) × Int × Int) (w:World):Prop:=match r.1 with
 | none=>R (.returned (.tuple #[.pointer none,.slice none 0 0,.int .i64 r.2.1,.int .i64 r.2.2])) w
 | some (D',l)=>∀(g':Nat) (vs' vr' v:Sv),RM ok w g' D' vs' vr'->w0.heap.size<=g'->Own LHn w w0.heap.size 42 (slV v) l->R (.returned (.tuple #[.pointer (some ⟨g',0,none⟩),slV v,.int .i64 0,.int .i64 0])) w
def putL (put:Int->Nat) (n:Nat):List Nat:=(List.range n).map fun i:Nat=>put (i:Int)
theorem putL_set {put:Int->Nat}{n i x:Nat}:(putL put n).set i x=putL (fun j=>if j=(i:Int) then x else put j) n:=by
 unfold putL
 refine List.ext_getElem sm fun k h1 h2=>?_
 rw [List.getElem_set]
 simp only [gmp,List.getElem_range]
 by_cases e:i=k
 ·subst e;simp
 ·rw [if_neg e,if_neg om]
theorem putL_get {put:Int->Nat}{n k:Nat} (h:k < (putL put n).length):(putL put n)[k]=put (k:Nat):=by
 simp [putL]
def exB (ok:Nat->Bool) (r1 r2:Option Nat) (b:Nat):Bool:=ok b && (decide (r1≠some b) && decide (r2≠some b))
theorem exB_iff {ok:Nat->Bool}{r1 r2:Option Nat}{b:Nat}:exB ok r1 r2 b=true↔ok b=true/\r1≠some b/\r2≠some b:=by
 unfold exB
 rw [bae,bae,decide_eq_true_eq,decide_eq_true_eq]
section
variable {w w1:World}{R:RT}{ok:Nat->Bool}{g:Nat}{D:Im}{vs vr:Sv}
theorem toldR_loop {xs:List E11}{A:OA}{c:Nat}{w0:World}{gc:Nat}{gA:OA}{gC:Nat}{put:Int->Nat} (hr:Rd LOp w A c xs) (hl:xs.length<=4096) (hb0:Below w0.heap.size w0 w)
  (hg:Own LHn w w0.heap.size 42 (.slice gA xs.length gC) (putL put xs.length))
  (hK:∀w' v,Below w.heap.size w w'->Own LHn w' w.heap.size 42 (slV v) (toldF (xs.map (·.o)) put xs.length)->R (.returned (.tuple #[.pointer (some ⟨gc,0,none⟩),slV v,.int .i64 0,.int .i64 0])) w') :
  Al w #[] 42 fun g103 w1_4 =>
  ∃(I:OA->Nat->Nat->Int->World->Prop) (m:OA->Nat->Nat->Int->World->Nat),I (some g103) 0 0 (0:Int) w1_4 /\
   ∀(r:OA) (rN:Nat) (rC:Nat) (i2:Int) (w1_5:World),I r rN rC i2 w1_5->F24_l22 A xs.length (some ⟨gc,0,none⟩) gA xs.length (fun r' rN' rC' i2' w2=>I r' rN' rC' i2' w2/\m r' rN' rC' i2' w2 < m r rN rC i2 w1_5) r rN rC i2 w1_5 R:=by
 refine al fun g3 w1 hb1 b1 hge1=>?_
 have hs1:=hb1.size
 refine⟨fun rA rN rC i w'=>∃k:Nat,i=k/\k<=xs.length/\Below w.heap.size w w'/\Own LHn w' w.heap.size 42 (.slice rA rN rC) (toldF (xs.map (·.o)) put k),fun _ _ _ i _=>xs.length-i.toNat,⟨0,rfl,om,hb1,Own.bare _ _ _ _ _⟩,?_⟩
 rintro rA rN rC _ w2 ⟨k,rfl,hk,B2,o2⟩
 unfold F24_l22
 refine brd (fun hlt=>?_) (fun hge=>?_)
 rotate_left
 ·have hk2:k=xs.length:=by omega
  subst hk2
  exact hK w2 (rA,rN,rC) B2 o2
 have hk2:k < xs.length:=by omega
 have hkm:k < (xs.map (·.o)).length:=by rw [lmp];exact hk2
 have hst:=told_step (put:=put) hkm
 rw [gmp] at hst
 have hg2:=hg.keep B2
 obtain⟨y1,y2⟩:=hg2.rd
 have hpl:(putL put xs.length).length=xs.length:=by unfold putL;simp
 have hpk:k < (putL put xs.length).length:=by omega
 have hpg:(putL put xs.length)[k]=put (k:Nat):=putL_get _
 have htl:(toldF (xs.map (·.o)) put k).length<=k:=by
  have:∀j,j<=k->(toldF (xs.map (·.o)) put j).length<=j:=fun j=>by
   induction j with
   | zero=>intro _;exact Nat.zero_le _
   | succ j ih =>
    intro hj
    have hjm:j < (xs.map (·.o)).length:=by rw [lmp];omega
    rw [told_step hjm,lap]
    have:=ih om
    split <;> simp <;> omega
  exact this k (Nat.le_refl _)
 refine⟨fun rA2 rN2 rC2 w'=>Below w.heap.size w w'/\Own LHn w' w.heap.size 42 (.slice rA2 rN2 rC2) (toldF (xs.map (·.o)) put (k+1)),?_,?_⟩
 ·rintro rA2 rN2 rC2 w3 ⟨B3,o3⟩
  unfold F24_j23
  exact⟨inR_i64 om om,⟨k+1,sm,om,B3,o3⟩,(by first | omega | (dsimp only;omega))⟩
 have put1:(xs[k].o.kind=1\/(xs[k].o.kind=8/\put (k:Nat)≠0))->IdxA gA xs.length (k:Nat) 1 fun q134 =>
   LdI .u64 (w2.cell? q134) fun x135=>Al w2 #[.int .u64 x135] 42 fun g136 w1_5 =>
   Raw P0 (Builtin.append_ #[23,23] 23 #[.slice rA rN rC,(.slice (some g136) 1 1)]) w1_5 fun v3 w1_6 =>
   ∃(x137:OA) (x137N:Nat) (x137C:Nat),v3=(.slice x137 x137N x137C)/\(Below w.heap.size w w1_6/\Own LHn w1_6 w.heap.size 42 (.slice x137 x137N x137C) (toldF (xs.map (·.o)) put (k+1))):=fun hc=>by
  refine y2.hn om rfl hpk fun b o cc=>?_
  rw [hpg] at cc
  simp only [cc,lds]
  refine ap1 (L:=LHn) (x:=put (k:Nat)) (base:=w.heap.size) (.int .u64 0) 8 rfl kr kr kr o2 B2.size om (by unfold maxLen;omega) fun A' c' w3 o3 g3=>⟨A',_,c',rfl,B2.trans g3.below,?_⟩
  rw [hst,if_pos hc]
  exact o3
 refine (hr.keep B2).op rfl rfl hk2 fun b o c0 c1 c2 c3 c4 c5 c6 c7 c8 c9 c10=>?_
 simp only [c0,lds]
 refine bre (fun e1=>put1 (.inl e1)) fun e1=>?_
 refine (hr.keep B2).op rfl rfl hk2 fun b o c0 c1 c2 c3 c4 c5 c6 c7 c8 c9 c10=>?_
 simp only [c0,lds]
 have no:¬(xs[k].o.kind=1\/(xs[k].o.kind=8/\put (k:Nat)≠0))->Below w.heap.size w w2/\Own LHn w2 w.heap.size 42 (.slice rA rN rC) (toldF (xs.map (·.o)) put (k+1)):=fun h=>by
  rw [hst,if_neg h,List.append_nil]
  exact⟨B2,o2⟩
 refine bre (fun e8=>?_) fun e8=>no (by rintro (h | h);exact e1 h;exact e8 h.1)
 refine y2.hn om rfl hpk fun b o cc=>?_
 rw [hpg] at cc
 simp only [cc,lds]
 exact brn (fun h0=>put1 (.inr ⟨e8,om⟩)) fun h0=>no (by rintro (h | h);exact e1 h;exact h.2 om)
theorem applyR_calls (h:RM ok w g D vs vr) (hok:∀b,w.heap.size<=b->ok b=true) (hw:Wf D) (xs:List E11) {A:OA}{c:Nat} (hr:Rd LOp w A c xs) (hx:∀x∈xs,ROp (vw ok g w) x) (hl:xs.length<=1048576)
  (hK:∀w',Below w.heap.size w w'->ApplyRK R ok w (applyF D (xs.map (·.o))) w') :
  Calls P0 24 #[.pointer (some ⟨g,0,none⟩),.slice A xs.length c] w R:=by
 have hxw:∀x∈xs,ROp w x:=fun x hm=>(hx x hm).sub sub_of_only
 generalize hLL:xs.map (·.o)=L at *
 have hLn:L.length=xs.length:=by rw [<-hLL,lmp]
 refine ok24 (some ⟨g,0,none⟩) A xs.length c ?_
 unfold F24
 refine checkR_calls xs hr hxw hl fun w1 hb1=>⟨_,_,rfl,?_⟩
 rw [hLL]
 refine brn (fun hne=>?_) fun heq=>?_
 ·have:=hK w1 hb1
  unfold ApplyRK applyF at this
  rw [if_pos hne] at this
  exact this
 have hne:¬(checkF L).2≠0:=by rw [heq];simp
 have hfew:xs.length<=4096:=by rw [<-hLn];exact check_few heq
 have hck:=check_kind L [] (check_ok heq).2
 refine planR_calls xs (hr.keep hb1) (fun x hm=>(hxw x hm).sub (sub_below hb1)) hl fun w2 hb2=>?_
 unfold PlanK
 rw [hLL,if_neg hne]
 intro vo oo
 refine⟨_,_,_,_,rfl,?_⟩
 have B2:=btr hb1 hb1.size hb2
 have hs2:=B2.size
 obtain⟨o1,o2⟩:=rdO oo
 generalize hor:planF L 5=order at *
 have hpl:order.length<=20480:=by
  rw [<-hor]
  have:=plan_len L 5
  omega
 have hrun:=hK
 unfold ApplyRK applyF at hrun
 simp only [if_neg hne,hor] at hrun
 refine⟨fun cc given gN gC w'=>∃(gc:Nat) (vs' vr':Sv),cc=some ⟨gc,0,none⟩/\gN=xs.length/\Below w2.heap.size w2 w'/\w2.heap.size<=gc/\RM (exB ok (rowOf (.slice given gN gC)) none) w' gc D vs' vr'/\Own LHn w' w2.heap.size 42 (.slice given gN gC) (List.replicate xs.length 0)/\rowOf (.slice given gN gC)≠some gc,?_,?_⟩
 rotate_left
 ·have hdr:Below w2.heap.size w2 w2.drew:=(Below.refl _ _).drew
  have hz:((xs.length:Nat):Int).toNat=xs.length:=by omega
  refine⟨fun w'=>True,trivial,?_,?_⟩
  ·refine copyRM_calls (h.keep (btr B2 hs2 hdr)) (fun b hb=>hok b (by have:w2.drew.heap.size=w2.heap.size:=rfl;omega)) fun gc vs' vr' w3 hb3 hge3 h3=>⟨_,rfl,?_⟩
   have D3:=btr hdr hdr.size hb3
   have hs3:=D3.size
   refine⟨om,om,om,?_⟩
   rw [hz]
   refine al fun g40 w4 hb4 b4 hge4=>?_
   have hgc:=h3.blk.lt
   have hrw:∀b,rowOf (.slice (some ⟨g40,0,none⟩) xs.length xs.length)=some b->b=g40:=fun b e=>by
    cases hn:xs.length with
    | zero=>rw [hn] at e;cases e
    | succ n=>rw [hn] at e;exact (osi e).symm
   refine⟨gc,vs',vr',rfl,rfl,btr D3 D3.size hb4,hge3,h3.fm2 (M:=fun _=>False) (.below hb4) (fun _ _ h=>h.elim) (fun b hb hh=>exB_iff.2 ⟨hh,fun e=>by have:=hrw b e;omega,fun e=>by cases e⟩),?_,fun e=>by have:=hrw _ e;omega⟩
   have:=Own.lit' (L:=LHn) (xs:=List.replicate xs.length 0) (base:=w2.heap.size) b4 om (zrowH _) (by rw [List.length_replicate];unfold maxLen;omega)
   rw [List.length_replicate] at this
   exact this
  ·refine⟨om,om,om,?_⟩
   rw [hz]
   refine al fun g40 w4 hb4 b4 hge4=>?_
   have D4:=btr hdr hdr.size hb4
   have hs4:=D4.size
   have hg40:=b4.lt
   have hrw:∀b,rowOf (.slice (some ⟨g40,0,none⟩) xs.length xs.length)=some b->b=g40:=fun b e=>by
    cases hn:xs.length with
    | zero=>rw [hn] at e;cases e
    | succ n=>rw [hn] at e;exact (osi e).symm
   have h2:=h.keep B2
   have hd2:w2.drew.heap.size=w2.heap.size:=rfl
   refine copyRM_calls (ok:=exB ok (rowOf (.slice (some ⟨g40,0,none⟩) xs.length xs.length)) none) (h2.fm2 (M:=fun _=>False) (.below D4) (fun _ _ h=>h.elim) (fun b hb hh=>exB_iff.2 ⟨hh,fun e=>by have:=hrw b e;omega,fun e=>by cases e⟩)) (fun b hb=>exB_iff.2 ⟨hok b om,fun e=>by have:=hrw b e;omega,fun e=>by cases e⟩) fun gc vs' vr' w3 hb3 hge3 h3=>⟨_,rfl,?_⟩
   refine⟨gc,vs',vr',rfl,rfl,btr D4 D4.size hb3,om,h3,?_,fun e=>by have:=hrw _ e;omega⟩
   have:=Own.lit' (L:=LHn) (xs:=List.replicate xs.length 0) (base:=w2.heap.size) (b4.keep hb3) hge4 (zrowH _) (by rw [List.length_replicate];unfold maxLen;omega)
   rw [List.length_replicate] at this
   exact this
 rintro _ gA gN gC w3 ⟨gc,vs3,vr3,rfl,rfl,C3,hgc,h3,og3,hgr⟩
 have B3:=btr B2 hs2 C3
 have hs3:=C3.size
 unfold F24_j6
 refine al fun g41 w4 hb4 b4 hge4=>?_
 have C4:=btr C3 hs3 hb4
 have hs4:=hb4.size
 have grow:∀b,rowOf (.slice gA xs.length gC)=some b->w2.heap.size<=b/\b < w3.heap.size:=fun b hb=>og3.lt b hb
 have hgcl:=h3.blk.lt
 have hput0:putL (fun _=>0) xs.length=List.replicate xs.length 0:=by
  unfold putL
  refine List.ext_getElem sm fun k h1 h2=>by simp
 refine⟨fun nA nN nC i w'=>∃(k:Nat) (Dk:Im) (gone:List Nat) (put:Int->Nat) (vs' vr':Sv),i=k/\k<=order.length/\Below w2.heap.size w2 w'/\w4.heap.size<=w'.heap.size/\runF L (order.drop k) Dk gone put=runF L order D [] (fun _=>0)/\Wf Dk/\RM (exB ok (rowOf (.slice gA xs.length gC)) (rowOf (.slice nA nN nC))) w' gc Dk vs' vr'/\gone.length<=k*4096 /\
   Own LHn w' w4.heap.size 42 (.slice nA nN nC) gone/\Own LHn w' w2.heap.size 42 (.slice gA xs.length gC) (putL put xs.length),fun _ _ _ i _=>order.length-i.toNat,
  ⟨0,D,[],fun _=>0,vs3,vr3,rfl,om,C4,Nat.le_refl _,by rw [List.drop_zero],hw,h3.keep hb4,Nat.zero_le _,Own.bare _ _ _ _ _,by rw [hput0];exact og3.keep hb4⟩,?_⟩
 rintro nA nN nC _ w5 ⟨k,Dk,gone,put,vs5,vr5,rfl,hk,C5,hs5,hrk,hwk,h5,hgl,on5,og5⟩
 unfold F24_l8
 have B5:=btr B2 hs2 C5
 have hs25:=C5.size
 have nrow:∀b,rowOf (.slice nA nN nC)=some b->w4.heap.size<=b/\b < w5.heap.size:=fun b hb=>on5.lt b hb
 obtain⟨nl,_⟩:=on5.rd
 refine brd (fun hlt=>?_) (fun hge=>?_)
 rotate_left
 ·have hk2:k=order.length:=by omega
  subst hk2
  rw [List.drop_length] at hrk
  refine toldR_loop (w:=w5) (w0:=w2) (gc:=gc) (put:=put) (hr.keep B5) hfew C5 og5 fun w6 v hb6 o6=>?_
  have B6:=btr B5 B5.size hb6
  have hrun:=hrun w6 B6
  rw [<-hrk] at hrun
  simp only [runF] at hrun
  have ht:toldF L put L.length=givenF put L.length:=told_given (D:=D) (D':=Dk) (a:=0) (b:=0) heq (by rw [hor,<-hrk];rfl) L.length (Nat.le_refl _)
  rw [hLL,<-hLn,ht] at o6
  exact hrun gc vs5 vr5 v (h5.fm2 (M:=fun _=>False) (.below hb6) (fun _ _ h=>h.elim) fun b _ hh=>(exB_iff.1 hh).1) om (o6.rebase fun b hb=>by have:=(o6.lt b hb).1;omega)
 have hk2:k < order.length:=by omega
 have hmem:order[k]∈planF L 5:=by rw [hor];exact gem hk2
 obtain⟨i,hi,hil⟩:=mem_plan.1 hmem
 have hix:i < xs.length:=by omega
 have hLi:L[i]?=some xs[i].o:=by rw [<-hLL,List.getElem?_map,gge hix];rfl
 have hLi2:L[(order[k]).toNat]?=some xs[i].o:=by rw [hi,tnc];exact hLi
 obtain⟨kd1,kd8,klook⟩:=hck xs[i].o (mog hLi)
 rw [dgc hk2,run_step hLi2] at hrk
 refine⟨fun nA2 nN2 nC2 w'=>∃(Dk:Im) (gone:List Nat) (put:Int->Nat) (vs' vr':Sv),Below w2.heap.size w2 w'/\w4.heap.size<=w'.heap.size/\runF L (order.drop (k+1)) Dk gone put=runF L order D [] (fun _=>0)/\Wf Dk/\RM (exB ok (rowOf (.slice gA xs.length gC)) (rowOf (.slice nA2 nN2 nC2))) w' gc Dk vs' vr'/\gone.length<=(k+1)*4096 /\
   Own LHn w' w4.heap.size 42 (.slice nA2 nN2 nC2) gone/\Own LHn w' w2.heap.size 42 (.slice gA xs.length gC) (putL put xs.length),?_,?_⟩
 ·rintro nA2 nN2 nC2 w' ⟨Dk,gone,put,vs',vr',q1,q2,q3,q4,q5,q6,q7,q8⟩
  unfold F24_j9
  exact⟨inR_i64 om om,⟨k+1,Dk,gone,put,vs',vr',sm,om,q1,q2,q3,q4,q5,q6,q7,q8⟩,(by first | omega | (dsimp only;omega))⟩
 have ro5:Rd LI w5 vo.1 vo.2.2 order:=o2.keep C5
 refine ro5.i64 o1 rfl hk2 fun b oo cc=>?_
 rw [hi] at cc
 simp only [cc,lds]
 refine (hr.keep B5).op rfl rfl hix fun b oo c0 c1 c2 c3 c4 c5 c6 c7 c8 c9 c10=>?_
 simp only [c0,c1,c2,c3,c4,c5,c6,c7,c8,c9,c10,lds]
 refine al11 fun go w6 hb6 bo hgo=>?_
 have hs6:=hb6.size
 have hgol:=bo.lt
 have C6:=btr C5 C5.size hb6
 have h6:=h5.keep hb6
 have on6:=on5.keep hb6
 have og6:=og5.keep hb6
 refine⟨fun w'=>skipB gone xs[i].o=false/\w'=w6,?_,?_⟩
 rotate_left
 ·simp only [bo.cell,lds]
  refine brn (fun hk1=>?_) fun hk1=>⟨by unfold skipB;simp [hk1],(by first | exact rfl | trivial)⟩
  obtain⟨p1,p2⟩:=on6.rd
  refine inR_calls (v:=(nA,nN,nC)) p1 p2 om ⟨_,rfl,?_⟩
  refine brd (fun hm=>?_) fun hm=>⟨by unfold skipB;simp [hm],(by first | exact rfl | trivial)⟩
  have hskip:skipB gone xs[i].o=true:=by unfold skipB;simp [hk1,hm]
  rw [if_pos hskip] at hrk
  exact⟨Dk,gone,put,vs5,vr5,C6,om,hrk,hwk,h6,om,on6,og6⟩
 rintro _ ⟨hskip,rfl⟩
 rw [hskip,if_neg dc] at hrk
 unfold F24_j12
 refine al fun g64 w7 hb7 b7 hge7=>?_
 have hs7:=hb7.size
 have C7:=btr C6 C6.size hb7
 have B7:=btr B2 hs2 C7
 have h7:=h6.keep hb7
 have on7:=on6.keep hb7
 have og7:=og6.keep hb7
 have bo7:=bo.keep hb7
 refine⟨fun tA tN tC w'=>∃T:List Nat,Below w7.heap.size w7 w'/\tN=T.length/\Own LHn w' w7.heap.size 42 (.slice tA tN tC) T/\((oneF Dk xs[i].o).2.2=0->T=takenF Dk xs[i].o),?_,?_⟩
 ·rintro tA tN tC w8 ⟨T,hb8,htn,ot8,hT⟩
  have hs8:=hb8.size
  have C8:=btr C7 C7.size hb8
  have B8:=btr B2 hs2 C8
  have h8:=h7.keep hb8
  have bo8:=bo7.keep hb8
  unfold F24_j15
  simp only [bo8.cell,lds]
  have hsub:Sub (vw ok g w) (vw (exB ok (rowOf (.slice gA xs.length gC)) (rowOf (.slice nA nN nC))) gc w8):=sub_only (fun b hb hh=>vw_iff.2 ⟨exB_iff.2 ⟨(vw_iff.1 hh).1,fun e=>by have:=(grow b e).1;omega,fun e=>by have:=(nrow b e).1;omega⟩,om⟩) fun b hb _=>B8.block b hb
  refine oneR_calls (x:=xs[i]) h8 (fun b hb=>exB_iff.2 ⟨hok b om,fun e=>by have:=(grow b e).2;omega,fun e=>by have:=(nrow b e).2;omega⟩) hwk ((hx _ (gem hix)).sub hsub) kd1 kd8 fun w9 vs9 vr9 h9 f9=>⟨_,_,rfl,?_⟩
  have hs9:=f9.size
  have C9:Below w2.heap.size w2 w9:=C8.trans (f9.toBelow C8.size fun b hb e=>by have e:b=gc:=e;omega)
  have ro9:Rd LI w9 vo.1 vo.2.2 order:=o2.keep C9
  refine brn (fun hne9=>?_) fun heq9=>?_
  ·refine dr fun w10 hb10 _=>?_
   have C10:=btr C9 C9.size hb10
   refine (o2.keep C10).i64 o1 rfl hk2 fun b oo cc=>?_
   simp only [cc,lds]
   rw [if_pos hne9] at hrk
   have hrun:=hrun w10 (btr B2 hs2 C10)
   rw [<-hrk] at hrun
   exact hrun
  ·rw [if_neg (by rw [heq9];simp)] at hrk
   refine ro9.i64 o1 rfl hk2 fun b oo cc=>?_
   rw [hi] at cc
   simp only [cc,lds]
   have og9:Own LHn w9 w2.heap.size 42 (.slice gA xs.length gC) (putL put xs.length):=own_fm (og7.keep hb8) f9 fun b hb e=>hgr (by have e:b=gc:=e;rw [<-e];exact hb)
   have hpll:(putL put xs.length).length=xs.length:=by unfold putL;simp
   refine og9.elA (v:=(gA,xs.length,gC)) rfl om rfl fun bg hbg=>?_
   refine og9.stc (v:=(gA,xs.length,gC)) (j:=0) (x':=(oneF Dk xs[i].o).2.1) om dc rfl hbg fun w10 og10 f10=>?_
   have hs10:=f10.size
   have on10:Own LHn w10 w4.heap.size 42 (.slice nA nN nC) gone:=own_fm (own_fm (on7.keep hb8) f9 fun b hb e=>by have e:b=gc:=e;have:=(nrow b hb).1;omega) f10 fun b hb e=>by have:=(nrow b hb).1;have:=(grow b e).2;omega
   have ot10:Own LHn w10 w7.heap.size 42 (.slice tA tN tC) T:=own_fm (own_fm ot8 f9 fun b hb e=>by have e:b=gc:=e;have:=(ot8.lt b hb).1;omega) f10 fun b hb e=>by have:=(ot8.lt b hb).1;have:=(grow b e).2;omega
   have h10:=h9.fm f10 fun b _ e=>⟨by
    cases hx:exB ok (rowOf (.slice gA xs.length gC)) (rowOf (.slice nA nN nC)) b with
    | false=>rfl
    | true=>exact absurd e (exB_iff.1 hx).2.1,fun e2=>hgr (by rw [<-e2];exact e)⟩
   obtain⟨_,rt⟩:=ot10.rd
   have hTe:=hT heq9
   have hTl:T.length<=4096:=by rw [hTe];exact taken_len hwk heq9
   refine ap (L:=LHn) (xs:=gone) (ys:=T) (base:=w4.heap.size) (v:=.slice nA nN nC) (.int .u64 0) 8 htn kr kr kr on10 rt om om (by unfold maxLen;omega) fun A' c' w11 o11 g11=>⟨A',_,c',rfl,?_⟩
   have F11:Fm (fun b=>rowOf (.slice nA nN nC)=some b) w10 w11:=Fm.grown g11.grown fun b hb=>hb
   have hs11:=F11.size
   have C10:Below w2.heap.size w2 w10:=C9.trans (f10.toBelow C9.size fun b hb e=>by have:=(grow b e).1;omega)
   have C11:Below w2.heap.size w2 w11:=C10.trans (F11.toBelow C10.size fun b hb e=>by have:=(nrow b e).1;omega)
   have hrow:∀b,rowOf (.slice A' (gone.length+T.length) c')=some b->rowOf (.slice nA nN nC)=some b\/w10.heap.size<=b:=fun b hb=>by
    rcases g11.row with e | e | ⟨q,e,hge⟩
    ·left;rw [<-e];exact hb
    ·rw [e] at hb;cases hb
    ·right;rw [e] at hb;cases hb;exact hge
   have hngc:∀b,rowOf (.slice nA nN nC)=some b->b≠gc:=fun b hb e=>by have:=(nrow b hb).1;omega
   have h11:RM (exB ok (rowOf (.slice gA xs.length gC)) (rowOf (.slice A' (gone.length+T.length) c'))) w11 gc (oneF Dk xs[i].o).1 vs9 vr9:=h10.fm2 F11 (fun b _ e=>⟨by
    cases hx:exB ok (rowOf (.slice gA xs.length gC)) (rowOf (.slice nA nN nC)) b with
    | false=>rfl
    | true=>exact absurd e (exB_iff.1 hx).2.2,hngc b e⟩) fun b hb hh=>by
     obtain⟨q1,q2,q3⟩:=exB_iff.1 hh
     exact exB_iff.2 ⟨q1,q2,fun e=>by rcases hrow b e with e | e;exact q3 e;omega⟩
   have og11:Own LHn w11 w2.heap.size 42 (.slice gA xs.length gC) (putL (fun j=>if j=(i:Int) then (oneF Dk xs[i].o).2.1 else put j) xs.length):=by
    rw [putL_set] at og10
    exact own_fm og10 F11 fun b hb e=>by have:=(nrow b e).1;have:=(grow b hb).2;omega
   rw [hTe] at o11 h11 |-
   rw [hi] at hrk
   refine⟨_,_,_,vs9,vr9,C11,om,hrk,one_wf' hwk _,h11,?_,o11,og11⟩
   rw [lap]
   rw [hTe] at hTl
   omega
 ·have hes:=h7.re
  obtain⟨es7,hw7⟩:=hes
  have all1:(xs[i].o.kind=3\/xs[i].o.kind=8)->Calls P0 55 #[.pointer (some ⟨gc,0,none⟩),.int .u64 (xs[i].o.node:Nat)] w7 (post R fun v3 w1_17 =>
    ∃(x77_0:OA) (x77_0N:Nat) (x77_0C:Nat) (x77_1:Int),v3=(.tuple #[.slice x77_0 x77_0N x77_0C,.int .i64 x77_1]) /\
    ∃T:List Nat,Below w7.heap.size w7 w1_17/\x77_0N=T.length/\Own LHn w1_17 w7.heap.size 42 (.slice x77_0 x77_0N x77_0C) T/\((oneF Dk xs[i].o).2.2=0->T=takenF Dk xs[i].o)):=fun hk38=>by
   refine AllW hw7 hwk (hxw _ (gem hix)).1.1 fun v w8 hb8 ov hnil=>⟨_,_,_,_,rfl,?_⟩
   have htk:takenF Dk xs[i].o=allI Dk xs[i].o.node:=by unfold takenF;rw [if_pos hk38]
   rw [htk]
   by_cases hlv:xs[i].o.node=0\/∃s,slA Dk.sl xs[i].o.node=some s
   ·have ov:=ov hlv
    exact⟨_,hb8,(rdO ov).1,ov,fun _=>rfl⟩
   ·rw [not_or] at hlv
    have hv:=hnil hlv.1 (by
     cases hs:slA Dk.sl xs[i].o.node with
     | none=>rfl
     | some s=>exact absurd ⟨s,hs⟩ hlv.2)
    rw [hv]
    refine⟨[],hb8,rfl,Own.nil _ _ _ _,fun he=>?_⟩
    exact absurd (one_live hwk he hk38) hlv.2
  simp only [bo7.cell,lds]
  refine bre (fun e3=>all1 (.inl e3)) fun e3=>?_
  refine bre (fun e8=>all1 (.inr e8)) fun e8=>?_
  refine⟨[],.refl _ _,rfl,Own.bare _ _ _ _ _,fun _=>?_⟩
  unfold takenF
  rw [if_neg (by rintro (h | h);exact e3 h;exact e8 h)]
end
set_option maxRecDepth 100000
def ptF (put:Int->Nat):Int->Option Value:=fun k=>if put k=0 then none else some (.int .u64 (put k:Nat))
theorem pt_zero:ptF (fun _=>0)=fun _=>none:=by funext k;simp [ptF]
theorem pt_upd {put:Int->Nat}{i:Int}{h:Nat} (hh:h≠0):upd (ptF put) i (some (.int .u64 (h:Nat)))=ptF fun j=>if j=i then h else put j:=by
 funext k
 unfold upd ptF
 by_cases e:k=i
 ·simp [e,hh]
 ·simp [e]
theorem pt_same {put:Int->Nat}{i:Int} (hh:put i=0):ptF (fun j=>if j=i then 0 else put j)=ptF put:=by
 congr 1
 funext k
 by_cases e:k=i
 ·rw [if_pos e,e,hh]
 ·rw [if_neg e]
theorem plan_nodup (l:List O1):(planF l 5).Nodup:=by
 unfold planF List.Nodup
 rw [List.pairwise_flatMap]
 refine⟨fun a _=>?_,?_⟩
 ·unfold phsF
  rw [List.pairwise_map]
  refine List.Pairwise.imp (fun {x y} h=>?_) (List.nodup_range.filter _)
  omega
 ·refine List.pairwise_lt_range.imp fun {a b} hab=>?_
  intro x hx y hy e
  obtain⟨i,p,e1,_,h1,h2⟩:=mem_phs.1 hx
  obtain⟨j,q,e2,_,h3,h4⟩:=mem_phs.1 hy
  have:i=j:=by omega
  subst this
  rw [h1] at h3
  obtain rfl:=osi h3
  omega
def TrialK (R:RT) (n0:Nat) (r:Option (Im × List Nat) × Int × Int) (w:World):Prop:=match r.1 with
 | none=>R (.returned (.tuple #[.slice none 0 0,.int .i64 r.2.1,.int .i64 r.2.2])) w
 | some (_,l)=>∀v:Sv,Own LHn w n0 42 (slV v) l->R (.returned (.tuple #[slV v,.int .i64 0,.int .i64 0])) w
section
variable {w w0:World}{o:Nat->Nat}{θ:Th}{S:PS}{R:RT}
theorem tryP_calls (xs:List E11) {A:OA}{c:Nat} (hr:Rd LOp w0 A c xs) (hx:∀x∈xs,ROp w0 x) (hl:xs.length<=1048576) (hT:Tabs w0) (hp:PM w o θ S) (hi:PI S) (hw:Wf S.D) (hb0:Below w0.heap.size w0 w) (ho:∀b,o b≠0->w0.heap.size<=b)
  (hK:∀w',Below w0.heap.size w0 w'->TrialK R w.heap.size (applyF S.D (xs.map (·.o))) w') :
  Calls P0 56 #[.pointer (some ⟨θ.g,0,none⟩),.slice A xs.length c] w R:=by
 have hrw:=hr.keep hb0
 have hxw:∀x∈xs,ROp w x:=fun x hm=>(hx x hm).sub (sub_below hb0)
 have hTw:=hT.sub (sub_below hb0)
 generalize hLL:xs.map (·.o)=L at *
 have hLn:L.length=xs.length:=by rw [<-hLL,lmp]
 refine ok56 (some ⟨θ.g,0,none⟩) A xs.length c ?_
 unfold F56
 refine checkP_calls xs hrw hxw hTw hl fun w1 hb1=>⟨_,_,rfl,?_⟩
 rw [hLL]
 have hs0:=hb0.size
 refine brn (fun hne=>?_) fun heq=>?_
 ·have:=hK w1 (btr hb0 hs0 hb1)
  unfold TrialK applyF at this
  rw [if_pos hne] at this
  exact this
 have hne:¬(checkF L).2≠0:=by rw [heq];simp
 have hfew:xs.length<=4096:=by rw [<-hLn];exact check_few heq
 have hck:=check_kind L [] (check_ok heq).2
 refine planP_calls xs (hrw.keep hb1) (fun x hm=>(hxw x hm).sub (sub_below hb1)) (hTw.sub (sub_below hb1)) hl fun w2 hb2=>?_
 unfold PlanK
 rw [hLL,if_neg hne]
 intro vo oo
 refine⟨_,_,_,_,rfl,?_⟩
 have B2:=btr hb1 hb1.size hb2
 have hs2:=B2.size
 obtain⟨o1,o2⟩:=rdO oo
 have hnd:=plan_nodup L
 generalize hor:planF L 5=order at *
 have hpl:order.length<=20480:=by
  rw [<-hor]
  have:=plan_len L 5
  omega
 have hrun:=hK
 unfold TrialK applyF at hrun
 simp only [if_neg hne,hor] at hrun
 refine almM fun r36 w3 hb3 hge3 hlt3 hm3=>?_
 have B3:=btr B2 hs2 hb3
 refine al fun gm w4 hb4 b4 hge4=>?_
 have B4:=btr B3 B3.size hb4
 refine almM fun r39 w5 hb5 hge5 hlt5 hm5=>?_
 have B5:=btr B4 B4.size hb5
 have hs3:=hb3.size
 have hs4:=hb4.size
 have hs5:=hb5.size
 have hgm:=b4.lt
 have b45:=b4.keep hb5
 have hMg:Mp .u64 w5 r36 (gnF []):=by
  rw [gn_nil]
  exact (mp_new .u64 hm3).fm (M:=fun _=>False) (.below (btr hb4 hs4 hb5)) (fun h=>h)
 have hMp:Mp .i64 w5 r39 (ptF fun _=>0):=by rw [pt_zero];exact mp_new .i64 hm5
 have hol:∀b,o b≠0->b < w.heap.size:=fun b hb=>hp.lt b hb
 have oz:∀b,w.heap.size<=b->o b=0:=fun b hb=>byc fun e=>by have:=hol b e;omega
 have oo5:Own LI w5 w1.heap.size 3 (slV vo) order:=(oo.keep hb3).keep (btr hb4 hs4 hb5)
 have hor5:∀b,rowOf (slV vo)=some b->w1.heap.size<=b/\b < w2.heap.size:=fun b hb=>oo.lt b hb
 have hs1:=hb1.size
 have h05:Below w0.heap.size w0 w5:=btr hb0 hs0 B5
 refine⟨fun i w'=>∃(k:Nat) (o':Nat->Nat) (S':PS) (gone:List Nat) (put:Int->Nat),i=k/\k<=order.length/\PM w' o' θ S'/\PI S'/\Wf S'.D/\runF L (order.drop k) S'.D gone put=runF L order S.D [] (fun _=>0)/\(∀z∈order.drop k,put z=0) /\
   Mp .u64 w' r36 (gnF gone)/\Mp .i64 w' r39 (ptF put)/\Fm (fun b=>o b≠0\/b=r36\/b=r39) w5 w'/\(∀b,b < w5.heap.size->o b=0->o' b=0),fun i _=>order.length-i.toNat,
  ⟨0,o,S,[],fun _=>0,rfl,om,hp.below B5,hi,hw,by rw [List.drop_zero],fun _ _=>rfl,hMg,hMp,.refl _ _,fun _ _ h=>h⟩,?_⟩
 rintro _ w6 ⟨k,o6,S6,gone,put,rfl,hk,hp6,hi6,hw6,hrk,hz6,hMg6,hMp6,f6,hold6⟩
 have hs6:=f6.size
 have B06:Below w0.heap.size w0 w6:=h05.trans (f6.toBelow h05.size fun b hb e=>by
  rcases e with e | e | e
  ·have:=ho b e;omega
  ·omega
  ·omega)
 have oo6:Own LI w6 w1.heap.size 3 (slV vo) order:=own_fm oo5 f6 fun b hb e=>by
  have:=hor5 b hb
  rcases e with e | e | e
  ·exact e (oz b om)
  ·omega
  ·omega
 unfold F56_l8
 refine brd (fun hlt=>?_) (fun hge=>?_)
 ·have hk2:k < order.length:=by omega
  have hmem:order[k]∈planF L 5:=by rw [hor];exact gem hk2
  obtain⟨i,hii,hil⟩:=mem_plan.1 hmem
  have hix:i < xs.length:=by omega
  have hLi:L[i]?=some xs[i].o:=by rw [<-hLL,List.getElem?_map,gge hix];rfl
  have hLi2:L[(order[k]).toNat]?=some xs[i].o:=by rw [hii,tnc];exact hLi
  obtain⟨kd1,kd8,klook⟩:=hck xs[i].o (mog hLi)
  rw [dgc hk2] at hrk hz6
  rw [run_step hLi2] at hrk
  have hnd2:(order.drop k).Nodup:=hnd.sublist (List.drop_sublist k order)
  rw [dgc hk2,List.nodup_cons] at hnd2
  refine⟨fun w'=>∃(o':Nat->Nat) (S':PS) (gone:List Nat) (put:Int->Nat),PM w' o' θ S'/\PI S'/\Wf S'.D/\runF L (order.drop (k+1)) S'.D gone put=runF L order S.D [] (fun _=>0)/\(∀z∈order.drop (k+1),put z=0) /\
   Mp .u64 w' r36 (gnF gone)/\Mp .i64 w' r39 (ptF put)/\Fm (fun b=>o b≠0\/b=r36\/b=r39) w5 w'/\(∀b,b < w5.heap.size->o b=0->o' b=0),?_,?_⟩
  ·rintro w' ⟨o',S',gone',put',q⟩
   unfold F56_j15
   exact⟨inR_i64 om om,⟨k+1,o',S',gone',put',sm,om,q⟩,(by first | omega | (dsimp only;omega))⟩
  refine (rdO oo6).2.i64 o1 rfl hk2 fun b oo cc=>?_
  rw [hii] at cc
  simp only [cc,lds]
  refine (hr.keep B06).op rfl rfl hix fun b oo c0 c1 c2 c3 c4 c5 c6 c7 c8 c9 c10=>?_
  simp only [c0,c1,c2,c3,c4,c5,c6,c7,c8,c9,c10,lds]
  have b46:Blk w6 gm _ 187:=f6.blk b45 fun e=>by
   rcases e with e | e | e
   ·exact e (oz gm om)
   ·omega
   ·omega
  have hsub:Sub w0 (wc o6 w6):=fun b c t fr hb=>by
   have hlt:=(agi.1 hb).1
   refine cells_only (ok:=fun b=>Nat.beq (o6 b) 0) ?_ ?_
   ·have:o b=0:=byc fun e=>by have:=ho b e;omega
    show Nat.beq (o6 b) 0=true
    rw [hold6 b (by have:=h05.size;omega) this];rfl
   ·rw [B06.block b hlt];exact hb
  have h6r:o6 r36=0:=hold6 r36 om (oz r36 om)
  have h6p:o6 r39=0:=hold6 r39 om (oz r39 om)
  have nd:order[k]∉order.drop (k+1):=hnd2.1
  refine doP_calls (x:=xs[i]) b46 hp6 hi6 hw6 hMg6 (hold6 gm om (oz gm om)) h6r om (hT.sub hsub) ((hx _ (gem hix)).sub hsub) kd1 kd8 (fun hsk w7 hb7=>⟨_,_,rfl,?_⟩) (fun hsk w7 o7 S7 hp7 hi7 hD7 ev7 hg7=>⟨_,_,rfl,?_⟩)
  ·refine brn (fun h=>absurd rfl h) fun _=>?_
   refine brn (fun h=>absurd rfl h) fun _=>?_
   rw [if_pos hsk] at hrk
   exact⟨o6,S6,gone,put,hp6.below hb7,hi6,hw6,hrk,fun z hz=>hz6 z (mcm _ hz),hMg6.fm (M:=fun _=>False) (.below hb7) (fun h=>h),hMp6.fm (M:=fun _=>False) (.below hb7) (fun h=>h),f6.trans (.below hb7),hold6⟩
  ·rw [hsk,if_neg dc] at hrk
   have hs7:=ev7.fm.size
   have B07:Below w0.heap.size w0 w7:=B06.trans (ev7.fm.toBelow B06.size fun b hb e=>by
    rcases e with e | e
    ·have h1:=h05.size
     by_cases e0:o b=0
     ·exact e (hold6 b om e0)
     ·have:=ho b e0;omega
    ·omega)
   refine brn (fun hne7=>?_) fun heq7=>?_
   ·rw [if_pos hne7] at hrk
    have hrun:=hrun w7 B07
    rw [<-hrk] at hrun
    rw [<-hii]
    exact hrun
   rw [if_neg (by rw [heq7];simp)] at hrk
   have f7:Fm (fun b=>o b≠0\/b=r36\/b=r39) w5 w7:=⟨ev7.fm.os.trans f6.os,ev7.fm.tape.trans f6.tape,ev7.fm.output.trans f6.output,om,fun b hb hm=>(ev7.fm.block b om fun e=>hm (by
    rcases e with e | e
    ·exact .inl fun e0=>e (hold6 b hb e0)
    ·exact .inr (.inl e))).trans (f6.block b hb hm)⟩
   have hold7:∀b,b < w5.heap.size->o b=0->o7 b=0:=fun b hb e=>ev7.old b om (hold6 b hb e)
   have hMp7:Mp .i64 w7 r39 (ptF put):=hMp6.fm ev7.fm fun e=>by
    rcases e with e | e
    ·exact e h6p
    ·omega
   have hw7:Wf S7.D:=by rw [hD7];exact one_wf' hw6 _
   rw [<-hD7] at hrk
   refine brn (fun hh=>?_) fun hh=>?_
   ·have hh:(oneF S6.D xs[i].o).2.1≠0:=fun e=>hh (by rw [e];rfl)
    refine hMp7.update mapPut keyInt _ _ fun w8 hM8 f8=>?_
    rw [pt_upd hh] at hM8
    rw [hii] at hrk nd
    have h7p:=hold7 r39 om (oz r39 om)
    have hs8:=f8.size
    refine⟨o7,S7,_,fun j=>if j=(i:Int) then (oneF S6.D xs[i].o).2.1 else put j,hp7.keep f8 (fun b hb e=>by have e:b=r39:=e;subst e;rw [h7p] at hb;exact not_pc0 hb) (fun _ _=>rfl) (fun b hb=>by have:=hp7.lt b hb;omega),hi7,hw7,hrk,fun z hz=>?_,(hg7 heq7).fm f8 (fun e=>by have e:r36=r39:=e;omega),hM8,f7.trans (f8.mono fun b _ e=>.inr (.inr e)),hold7⟩
    show (if z=(i:Int) then _ else put z)=0
    rw [if_neg (show ¬z=(i:Int) from fun e=>nd (e ▸ hz))]
    exact hz6 z (mcm _ hz)
   ·have hh:(oneF S6.D xs[i].o).2.1=0:=by omega
    rw [hh] at hrk
    have hzi:put order[k]=0:=hz6 _ List.mem_cons_self
    refine⟨o7,S7,_,fun j=>if j=order[k] then 0 else put j,hp7,hi7,hw7,hrk,fun z hz=>?_,hg7 heq7,?_,f7,hold7⟩
    ·show (if z=order[k] then _ else put z)=0
     rw [if_neg (show ¬z=order[k] from fun e=>nd (e ▸ hz))]
     exact hz6 z (mcm _ hz)
    ·rw [pt_same hzi];exact hMp7
 ·have hk2:k=order.length:=by omega
  subst hk2
  rw [List.drop_length] at hrk
  have hs05:=h05.size
  refine⟨fun rA rN rC j w'=>∃m:Nat,j=m/\m<=xs.length/\Below w6.heap.size w6 w'/\Own LHn w' w6.heap.size 42 (.slice rA rN rC) (givenF put m),fun _ _ _ j _=>xs.length-j.toNat,⟨0,rfl,om,.refl _ _,Own.nil _ _ _ _⟩,?_⟩
  rintro rA rN rC _ w7 ⟨m,rfl,hm,hb7,o7⟩
  unfold F56_l18
  have hs7:=hb7.size
  refine brd (fun hlt=>?_) (fun hge=>?_)
  ·have hm2:m < xs.length:=by omega
   refine⟨fun rA2 rN2 rC2 w'=>Below w6.heap.size w6 w'/\Own LHn w' w6.heap.size 42 (.slice rA2 rN2 rC2) (givenF put (m+1)),?_,?_⟩
   ·rintro rA2 rN2 rC2 w' ⟨q1,q2⟩
    unfold F56_j23
    exact⟨inR_i64 om om,⟨m+1,sm,om,q1,q2⟩,(by first | omega | (dsimp only;omega))⟩
   have hM7:Mp .i64 w7 r39 (ptF put):=hMp6.fm (M:=fun _=>False) (.below hb7) (fun h=>h)
   refine hM7.look mapPut keyInt (zeroHn w7) _ true ?_
   rw [if_pos rfl]
   have hgs:=given_step put m
   have hgl:=given_len put m
   by_cases hz:put (m:Nat)=0
   ·have e1:ptF put (m:Nat)=none:=by unfold ptF;rw [if_pos hz]
    rw [e1]
    refine⟨0,false,rfl,?_⟩
    rw [Br_f,hgs,if_neg (by rw [hz];simp),List.append_nil]
    exact⟨hb7,o7⟩
   ·have e1:ptF put (m:Nat)=some (.int .u64 (put (m:Nat):Nat)):=by unfold ptF;rw [if_neg hz]
    rw [e1]
    refine⟨_,true,rfl,?_⟩
    rw [Br_t]
    refine ap1 (L:=LHn) (x:=put (m:Nat)) (base:=w6.heap.size) (.int .u64 0) 8 rfl kr kr kr o7 hs7 om (by unfold maxLen;omega) fun A' c' w8 o8 g8=>⟨A',_,c',rfl,hb7.trans g8.below,?_⟩
    rw [hgs,if_pos hz];exact o8
  ·have hm2:m=xs.length:=by omega
   subst hm2
   have hrun:=hrun w7 (btr B06 B06.size hb7)
   rw [<-hrk] at hrun
   simp only [runF] at hrun
   rw [hLn] at hrun
   exact hrun (rA,rN,rC) (o7.rebase fun b hb=>by have:=(o7.lt b hb).1;omega)
end
section
variable {w:World}{o:Nat->Nat}{R:RT}{k g:Nat}{ty:TypeId}{D:Im}
theorem TrialP_calls (h:LD k g ty w o D) (hw:Wf D) (xs:List E11) {A:OA}{c:Nat} (hr:Rd LOp w A c xs) (hx:∀x∈xs,ROp w x) (hl:xs.length<=1048576) (hT:Tabs w)
  (hK:∀w',Below w.heap.size w w'->TrialK R w.heap.size (applyF D (xs.map (·.o))) w') :
  Calls P0 20 #[.pointer (some ⟨g,0,none⟩),.slice A xs.length c] w R:=by
 refine ok20 (some ⟨g,0,none⟩) A xs.length c ?_
 unfold F20
 rw [Option.isNone_some,Br_f]
 refine TreeU_calls h ?_
 intro gc bs o1 w1 S1 hb1 hD1 hp1 _ ho1 hi1
 refine⟨_,rfl,?_⟩
 rw [<-hD1] at hK hw
 have hs1:=hb1.size
 refine tryP_calls (θ:=⟨gc,106,[]⟩) (w0:=w) xs hr hx hl hT hp1 hi1 hw hb1 ho1 ?_
 intro w2 hb2
 have hK:=hK w2 hb2
 clear hb1 hp1 hi1 ho1 hr hx hT h hw
 revert hK
 unfold TrialK
 generalize applyF S1.D (xs.map (·.o))=q
 obtain⟨q1,q2,q3⟩:=q
 intro hK
 cases q1 with
 | none=>exact⟨none,0,0,q2,q3,rfl,hK⟩
 | some x =>
  intro v ov
  refine⟨v.1,v.2.1,v.2.2,0,0,rfl,?_⟩
  exact hK v (ov.rebase fun b hb=>by have:=(ov.lt b hb).1;omega)
theorem TrialN_calls {A:OA}{n c:Nat} (hK:R (.returned (.tuple #[.slice none 0 0,.int .i64 0,.int .i64 1])) w):Calls P0 20 #[.pointer none,.slice A n c] w R:=by
 refine ok20 none A n c ?_
 unfold F20
 rw [Option.isNone_none,Br_t]
 exact hK
end
set_option maxRecDepth 100000
section
variable {sl sl1 sl2:List Sl}
end
def runD:List O1->Im->List Nat->Option Im
 | [],D,_=>some D
 | o :: r,D,gone=>if skipB gone o=true then runD r D gone else if (oneF D o).2.2≠0 then none else runD r (oneF D o).1 (gone++takenF D o)
theorem run_runD {l:List O1}:∀(is:List Int) (D:Im) (gone:List Nat) (put:Int->Nat),(∀i∈is,∃o,l[i.toNat]?=some o)->(runF l is D gone put).1.map (·.1)=runD (is.filterMap fun z=>l[z.toNat]?) D gone
 | [],D,gone,put,_=>by simp [runF,runD]
 | i :: is,D,gone,put,h=>by
  obtain⟨o,ho⟩:=h i sm
  have h':∀j∈is,∃o,l[j.toNat]?=some o:=fun j hj=>h j (by simp [hj])
  rw [run_step ho,List.filterMap_cons,ho]
  show _=runD (o :: _) D gone
  unfold runD
  by_cases hs:skipB gone o=true
  ·rw [if_pos hs,if_pos hs];exact run_runD is D gone put h'
  rw [if_neg hs,if_neg hs]
  by_cases he:(oneF D o).2.2≠0
  ·rw [if_pos he,if_pos he];rfl
  rw [if_neg he,if_neg he]
  exact run_runD is _ _ _ h'
theorem plan_at {l:List O1}{i:Int} (h:i∈planF l 5):∃o,l[i.toNat]?=some o:=by
 obtain⟨k,rfl,hk⟩:=mem_plan.1 h
 exact⟨l[k],by rw [tnc];exact gge hk⟩
theorem run_err {l:List O1}:∀(is:List Int) (D:Im) (gone:List Nat) (put:Int->Nat),(∀i∈is,∃o,l[i.toNat]?=some o)->(runF l is D gone put).1=none->(runF l is D gone put).2.2≠0
 | [],D,gone,put,_=>by simp [runF]
 | i :: is,D,gone,put,h=>by
  obtain⟨o,ho⟩:=h i sm
  have h':∀j∈is,∃o,l[j.toNat]?=some o:=fun j hj=>h j (by simp [hj])
  rw [run_step ho]
  by_cases hs:skipB gone o=true
  ·rw [if_pos hs];exact run_err is _ _ _ h'
  rw [if_neg hs]
  by_cases he:(oneF D o).2.2≠0
  ·rw [if_pos he];exact fun _=>he
  rw [if_neg he]
  exact run_err is _ _ _ h'
theorem run_none {l:List O1}:∀(is:List Int) (D:Im) (gone:List Nat) (put:Int->Nat),(∀i∈is,∃o,l[i.toNat]?=some o)->(runF l is D gone put).1≠none->(runF l is D gone put).2=(0,0)
 | [],D,gone,put,_=>by simp [runF]
 | i :: is,D,gone,put,h=>by
  obtain⟨o,ho⟩:=h i sm
  have h':∀j∈is,∃o,l[j.toNat]?=some o:=fun j hj=>h j (by simp [hj])
  rw [run_step ho]
  by_cases hs:skipB gone o=true
  ·rw [if_pos hs];exact run_none is _ _ _ h'
  rw [if_neg hs]
  by_cases he:(oneF D o).2.2≠0
  ·rw [if_pos he];exact fun h=>absurd rfl h
  rw [if_neg he]
  exact run_none is _ _ _ h'
theorem apply_ok (D:Im) (l:List O1):(applyF D l).2.2=0↔∃x,(applyF D l).1=some x:=by
 unfold applyF
 by_cases hc:(checkF l).2≠0
 ·rw [if_pos hc]
  exact⟨fun h=>absurd h hc,fun⟨x,h⟩=>by cases h⟩
 rw [if_neg hc]
 have h1:=run_err (planF l 5) D [] (fun _=>0) fun i hi=>plan_at hi
 have h2:=run_none (planF l 5) D [] (fun _=>0) fun i hi=>plan_at hi
 generalize runF l (planF l 5) D [] (fun _=>0)=q at *
 obtain⟨x,i,e⟩:=q
 cases x with
 | none=>exact⟨fun h=>absurd h (h1 rfl),fun⟨x,h⟩=>by cases h⟩
 | some z=>exact⟨fun _=>⟨_,rfl⟩,fun _=>rfl⟩
set_option maxRecDepth 100000
section
variable {w w0:World}{o:Nat->Nat}{R:RT}{k g r:Nat}{D:Im}{gone:List Nat}
theorem ldK {k1:Nat}{w1 w2:World}{o1:Nat->Nat}{D1:Im} (h:LD k1 g 113 w1 o1 D1) (hb:Below w1.heap.size w1 w2):LD k1 g 113 w2 o1 D1:=(label_edr (g:=g)).keep (M:=fun _=>False) h (.below hb) fun _ _ h=>h.elim
theorem ldU {k1:Nat}{w1:World}{o1:Nat->Nat}{D1:Im} (h:LD k1 g 113 w1 o1 D1):LD (k1+1) g 113 w1 o1 D1:=(label_edr (g:=g)).up h
theorem make1_calls (h:LD k g 113 w o D) (hk:k < 1000000000000) (hw:Wf D) (hM:Mp .u64 w r (gnF gone)) (h1:o r=0) (hT:Tabs (wc o w)) {x:E11} (hx:ROp (wc o w) x) (hk1:1<=x.o.kind) (hk8:x.o.kind<=8)
  (hS:skipB gone x.o=true->∀w',Below w.heap.size w w'->R (.returned (.tuple #[])) w')
  (hok:skipB gone x.o=false->(oneF D x.o).2.2=0)
  (hK:skipB gone x.o=false->∀w' o',LD (k+2) g 113 w' o' (oneF D x.o).1->Mp .u64 w' r (gnF (gone++takenF D x.o))->EvR r w o w' o'->R (.returned (.tuple #[])) w') :
  Calls P0 59 #[.iface 58 (.pointer (some ⟨g,0,none⟩)),.func (.func 30) #[.pointer (some ⟨g,0,none⟩)] #[],.map (some r),opV x] w R:=by
 have E:=label_edr (g:=g)
 obtain⟨⟨hn,ha⟩,ht⟩:=hx
 have hol:∀b,o b≠0->b < w.heap.size:=E.lt h
 refine ok59 (.iface 58 (.pointer (some ⟨g,0,none⟩))) (.func (.func 30) #[.pointer (some ⟨g,0,none⟩)] #[]) (some r) x.o.kind (x.o.node:Nat) (x.o.at_:Nat) x.o.wh x.o.nm x.o.val x.e.kind x.e.nm x.e.ats.1 x.e.ats.2.1 x.e.ats.2.2 x.e.text x.e.kids.1 x.e.kids.2.1 x.e.kids.2.2 ?_
 unfold F59
 refine al fun go w1 hb1 bo hgo=>?_
 have hs1:=hb1.size
 have hgol:=bo.lt
 have hrl:=hM.lt
 have hM1:Mp .u64 w1 r (gnF gone):=hM.fm (M:=fun _=>False) (.below hb1) (fun h=>h)
 refine⟨fun w'=>skipB gone x.o=false/\w'=w1,?_,?_⟩
 rotate_left
 ·simp only [bo.cell,lds]
  refine brn (fun hk=>?_) fun hk=>⟨by unfold skipB;simp [hk],(by first | exact rfl | trivial)⟩
  refine hM1.look mapGone opKey (zeroBool _) _ false ?_
  rw [if_neg dc,gn_look]
  refine⟨_,rfl,?_⟩
  refine brd (fun hmem=>?_) fun hmem=>⟨by unfold skipB;simp [hmem],(by first | exact rfl | trivial)⟩
  exact hS (by unfold skipB;simp [hk,hmem]) _ hb1
 rintro w1 ⟨hsk,rfl⟩
 have hK:=hK hsk
 have hok:=hok hsk
 unfold F59_j2
 simp only [bo.cell,lds]
 have hL1:=ldK h hb1
 have hsub:Sub (wc o w) (wc o w1):=sub_only (fun _ _ h=>h) fun b hb _=>hb1.block b hb
 have ht1:=RTr.sub hsub _ _ ht
 have hT1:=hT.sub hsub
 have ev1:EvR r w o w1 o:=.below hb1
 have hgo0:o go=0:=byc fun e=>by have:=hol go e;omega
 have nt:¬(x.o.kind=3\/x.o.kind=8)->takenF D x.o=[]:=fun h=>by unfold takenF;rw [if_neg h]
 have fin:¬(x.o.kind=3\/x.o.kind=8)->∀{w':World}{o':Nat->Nat},LD (k+1) g 113 w' o' (oneF D x.o).1->EvA w1 o w' o'->R (.returned (.tuple #[])) w':=fun hn38 {w' o'} hL' hev=>by
  refine hK w' o' (ldU hL') ?_ (ev1.trans (.a hev))
  rw [nt hn38,List.append_nil]
  exact hM1.fm hev.fm fun e=>e h1
 have delJ:∀{w3:World}{o3:Nat->Nat}{D3:Im}{s:Sl},LD (k+1) g 113 w3 o3 D3->Wf D3->slA D3.sl x.o.node=some s->EvR r w1 o w3 o3->Mp .u64 w3 r (gnF gone)->(∀w' o',LD (k+2) g 113 w' o' (delF D3 x.o.node).1->Mp .u64 w' r (gnF (gone++allI D3 x.o.node))->EvR r w o w' o'->R (.returned (.tuple #[])) w') ->
   F59_j5 (.iface 58 (.pointer (some ⟨g,0,none⟩))) (.func (.func 30) #[.pointer (some ⟨g,0,none⟩)] #[]) (some r) ⟨go,0,none⟩ w3 R:=by
  intro w3 o3 D3 s hL3 hw3 hs3 ev3 hM3 hK3
  have e0:x.o.node≠0:=fun e=>by rw [e,slA_zero] at hs3;cases hs3
  have bo3:Blk w3 go (opC x) 50:=ev3.blk bo hgo0 om
  have hdr:Below w3.heap.size w3 w3.drew:=(Below.refl _ _).drew
  unfold F59_j5
  refine⟨fun w'=>Below w3.heap.size w3 w',hdr,?_⟩
  simp only [nds]
  refine⟨_,fun w' hw'=>by rw [(bo3.keep hw').cell];rfl,?_⟩
  refine⟨kr,?_⟩
  show Calls P0 30 #[.pointer (some ⟨g,0,none⟩)] _ _
  refine TreeU_calls (ldK hL3 hdr) ?_
  intro gc bs o4 w4 S4 hb4 hD4 hp4 _ ho4 hi4
  refine⟨_,rfl,?_⟩
  have E4:=btr hdr hdr.size hb4
  refine⟨E4,?_⟩
  refine AllT_calls (θ:=⟨gc,106,[]⟩) hp4 (by rw [hD4];exact hw3.s) (by rw [hD4];exact hw3.a) hn e0 fun v w5 hb5 ov=>⟨_,_,_,_,rfl,?_⟩
  rw [hD4] at ov
  have ov:=ov s hs3
  have hal:allI D3 x.o.node=allA (slA D3.sl) 65 x.o.node:=by unfold allI;rw [if_neg e0]
  rw [<-hal] at ov
  obtain⟨y1,y2⟩:=rdO ov
  have hfew:(allI D3 x.o.node).length<=4096:=by rw [hal];exact all_few hw3.s hw3.a ⟨s,hs3⟩
  have E5:=btr E4 E4.size hb5
  have hs34:=E4.size
  have hr3:=hM3.lt
  have h3r:o3 r=0:=ev3.old r om h1
  refine⟨fun i w'=>∃j:Nat,i=j/\j<=(allI D3 x.o.node).length/\Fm (·=r) w5 w'/\Mp .u64 w' r (gnF (gone++(allI D3 x.o.node).take j)),fun i _=>(allI D3 x.o.node).length-i.toNat,
   ⟨0,rfl,om,.refl _ _,by rw [List.take_zero,List.append_nil];exact hM3.fm (M:=fun _=>False) (.below E5) (fun h=>h)⟩,?_⟩
  rintro _ w6 ⟨j,rfl,hj,f6,hM6⟩
  unfold F59_l7
  refine brd (fun hlt=>?_) (fun hge=>?_)
  ·have hj2:j < (allI D3 x.o.node).length:=by omega
   have y3:Rd LHn w6 v.1 v.2.2 (allI D3 x.o.node):=(rdO (own_fm ov f6 fun b hb e=>by have e:b=r:=e;have:=(ov.lt b hb).1;omega)).2
   refine mark_step (v:=v) y1 y3 rfl hj2 hM6 fun w7 h7 f7=>?_
   refine⟨inR_i64 om om,⟨j+1,sm,om,f6.trans f7,?_⟩,(by first | omega | (dsimp only;omega))⟩
   rw [tsa hj2,<-laa];exact h7
  ·have hj2:j=(allI D3 x.o.node).length:=by omega
   subst hj2
   rw [tkl] at hM6
   have ev6:EvR r w3 o3 w6 o3:=(EvR.below E5).trans (.one f6)
   have bo6:Blk w6 go (opC x) 50:=ev6.blk bo3 (ev3.old go om hgo0) om
   simp only [bo6.cell,lds]
   have hL6:LD (k+1) g 113 w6 o3 D3:=E.keep (ldK hL3 E5) f6 fun b hb e=>by have e:b=r:=e;rw [e];exact h3r
   refine E.del hL6 om hw3 hn fun w7 o7 hL7 ev7=>⟨_,rfl,?_⟩
   exact hK3 w7 o7 hL7 (hM6.fm ev7.fm fun e=>e h3r) (ev1.trans (ev3.trans (ev6.trans (.a ev7))))
 unfold oneF at hK hok fin
 refine bre (fun e=>?_) fun e4=>?_
 ·rw [if_neg om,if_neg om,if_neg om,if_pos e] at fin
  exact E.name hL1 om hw hT1 hn fun w' o' q1 q2=>⟨_,rfl,fin om q1 q2⟩
 refine bre (fun e=>?_) fun e5=>?_
 ·rw [if_neg om,if_neg om,if_neg om,if_neg om,if_pos e] at fin
  exact E.text hL1 om hw hT1 hn fun w' o' q1 q2=>⟨_,rfl,fin om q1 q2⟩
 refine bre (fun e=>?_) fun e6=>?_
 ·rw [if_neg om,if_neg om,if_neg om,if_neg om,if_neg om,if_pos e] at fin
  exact E.attr hL1 om hw hT1 hn fun w' o' q1 q2=>⟨_,rfl,fin om q1 q2⟩
 refine bre (fun e=>?_) fun e7=>?_
 ·rw [if_neg om,if_neg om,if_neg om,if_neg om,if_neg om,if_neg om,if_pos e] at fin
  exact E.drop hL1 om hw hn fun w' o' q1 q2=>⟨_,rfl,fin om q1 q2⟩
 refine bre (fun e=>?_) fun e1=>?_
 ·rw [if_pos e] at fin
  exact E.ins (e:=x.e) hL1 om hw hT1 ht1 ha fun w' o' q1 q2=>⟨_,_,rfl,fin om q1 q2⟩
 refine bre (fun e=>?_) fun e2=>?_
 ·rw [if_neg e1,if_pos e] at fin
  exact E.mov hL1 om hw hn ha fun w' o' q1 q2=>⟨_,rfl,fin om q1 q2⟩
 have h38:x.o.kind=3\/x.o.kind=8:=by omega
 have htk:takenF D x.o=allI D x.o.node:=by unfold takenF;rw [if_pos h38]
 rw [htk] at hK
 rw [if_neg e1,if_neg e2] at hK hok
 have hoc:∀b,w.heap.size<=b->o b=0:=fun b hb=>byc fun e=>by have:=hol b e;omega
 refine⟨fun w'=>F59_j5 (.iface 58 (.pointer (some ⟨g,0,none⟩))) (.func (.func 30) #[.pointer (some ⟨g,0,none⟩)] #[]) (some r) ⟨go,0,none⟩ w' R,fun w' h=>h,?_⟩
 refine bre (fun e8=>?_) fun e8=>?_
 ·rw [if_neg om,if_neg e4,if_neg e5,if_neg e6,if_neg e7] at hK hok
  have hin:(insF D 3 x.o.node x.o.t).2.2=0:=byc fun e=>by rw [if_pos e] at hok;exact e hok
  rw [if_neg (by rw [hin];simp)] at hK
  obtain⟨s,_,hs2,hal⟩:=ins_all hw hin
  refine E.ins (e:=x.e) (wh:=3) hL1 om hw hT1 ht1 hn fun w3 o3 q1 q2=>⟨_,_,rfl,?_⟩
  refine delJ q1 (ins_wf hw _ _ _) hs2 (.a q2) (hM1.fm q2.fm fun e=>e h1) fun w' o' p1 p2 p3=>?_
  rw [hal] at p2
  exact hK w' o' p1 p2 p3
 ·have e3:x.o.kind=3:=by omega
  rw [if_pos e3] at hK hok
  obtain⟨s,hs⟩:∃s,slA D.sl x.o.node=some s:=by
   cases hs:slA D.sl x.o.node with
   | none=>unfold delF at hok;rw [hs] at hok;cases hok
   | some s=>exact⟨s,rfl⟩
  exact delJ (ldU hL1) hw hs (.below (.refl _ _)) hM1 hK
def afterF (D:Im) (r:Option (Im × List Nat) × Int × Int):Im:=match r.1 with
 | some (E,_)=>E
 | none=>D
theorem ApplyP_calls (h:LD k g 113 w o D) (hk:k < 999999000000) (hw:Wf D) (xs:List E11) {A:OA}{c:Nat} (hrc:Rd LOp (wc o w) A c xs) (hx:∀x∈xs,ROp (wc o w) x) (hl:xs.length<=1048576) (hT:Tabs (wc o w))
  (hK:∀w' o',LD (k+65536) g 113 w' o' (afterF D (applyF D (xs.map (·.o))))->EvA w o w' o'->TrialK R w.heap.size (applyF D (xs.map (·.o))) w') :
  Calls P0 22 #[.pointer (some ⟨g,0,none⟩),.slice A xs.length c] w R:=by
 have E:=label_edr (g:=g)
 have hr:Rd LOp w A c xs:=sub_of_only.rd hrc
 have hxw:∀x∈xs,ROp w x:=fun x hm=>(hx x hm).sub sub_of_only
 have hTw:Tabs w:=hT.sub sub_of_only
 have hol:∀b,o b≠0->b < w.heap.size:=E.lt h
 have oz:∀b,w.heap.size<=b->o b=0:=fun b hb=>byc fun e=>by have:=hol b e;omega
 have up:∀(n:Nat) {k1:Nat}{w1:World}{o1:Nat->Nat}{D1:Im},LD k1 g 113 w1 o1 D1->LD (k1+n) g 113 w1 o1 D1:=fun n=>by
  induction n with
  | zero=>intro k1 w1 o1 D1 h;exact h
  | succ n ih=>intro k1 w1 o1 D1 h;exact ldU (ih h)
 generalize hLL:xs.map (·.o)=L at *
 have hLn:L.length=xs.length:=by rw [<-hLL,lmp]
 refine ok22 (some ⟨g,0,none⟩) A xs.length c ?_
 unfold F22
 refine TrialP_calls h hw xs hr hxw hl hTw fun w1 hb1=>?_
 rw [hLL]
 have hs1:=hb1.size
 have hsub1:Sub (wc o w) (wc o w1):=sub_only (fun _ _ h=>h) fun b hb _=>hb1.block b hb
 cases hap:(applyF D L).1 with
 | none =>
  have hK:=hK w1 o (by unfold afterF;rw [hap];exact up _ (ldK h hb1)) ⟨.below hb1,fun _ _ e=>e⟩
  unfold TrialK at hK |-
  rw [hap] at hK |-
  have hne:(applyF D L).2.2≠0:=fun e=>by
   have:=(apply_ok D L).1 e
   rw [hap] at this
   obtain⟨x,hx⟩:=this
   cases hx
  refine⟨none,0,0,(applyF D L).2.1,(applyF D L).2.2,rfl,?_⟩
  refine brn (fun _=>hK) fun e=>absurd e hne
 | some z =>
  obtain⟨D',l⟩:=z
  unfold afterF TrialK at hK
  rw [hap] at hK
  unfold TrialK
  rw [hap]
  intro v ov
  refine⟨v.1,v.2.1,v.2.2,0,0,rfl,?_⟩
  refine brn (fun e=>absurd rfl e) fun _=>?_
  have heq:(checkF L).2=0:=byc fun e=>by unfold applyF at hap;rw [if_pos e] at hap;cases hap
  have hfew:xs.length<=4096:=by rw [<-hLn];exact check_few heq
  have hck:=check_kind L [] (check_ok heq).2
  refine planP_calls xs (hr.keep hb1) (fun x hm=>(hxw x hm).sub (sub_below hb1)) (hTw.sub (sub_below hb1)) hl fun w2 hb2=>?_
  unfold PlanK
  rw [hLL,if_neg (by rw [heq];simp)]
  intro vo oo
  refine⟨_,_,_,_,rfl,?_⟩
  have B2:=btr hb1 hs1 hb2
  have hs2:=hb2.size
  obtain⟨o1,o2⟩:=rdO oo
  have hrun:∃put',(runF L (planF L 5) D [] fun _=>0).1=some (D',put'):=by
   unfold applyF at hap
   rw [if_neg (by rw [heq];simp)] at hap
   generalize runF L (planF L 5) D [] (fun _=>0)=q at *
   obtain⟨q1,q2,q3⟩:=q
   cases q1 with
   | none=>cases hap
   | some y =>
    obtain⟨y1,y2⟩:=y
    have hap:(y1,givenF y2 L.length)=(D',l):=osi hap
    exact⟨y2,by rw [show y1=D' from congrArg Prod.fst hap]⟩
  generalize hor:planF L 5=order at *
  have hpl:order.length<=20480:=by
   rw [<-hor]
   have:=plan_len L 5
   omega
  refine almM fun r w3 hb3 hge3 hlt3 hm3=>?_
  have B3:=btr B2 B2.size hb3
  have hs3:=hb3.size
  have hMg:Mp .u64 w3 r (gnF []):=by rw [gn_nil];exact mp_new .u64 hm3
  have or0:o r=0:=oz r om
  have hsub3:Sub (wc o w) (wc o w3):=sub_only (fun _ _ h=>h) fun b hb _=>B3.block b hb
  refine⟨fun i w'=>∃(j:Nat) (o':Nat->Nat) (Dj:Im) (gone:List Nat) (put:Int->Nat),i=j/\j<=order.length/\LD (k+2*j) g 113 w' o' Dj/\Wf Dj/\(∃put',(runF L (order.drop j) Dj gone put).1=some (D',put'))/\Mp .u64 w' r (gnF gone)/\EvR r w3 o w' o',fun i _=>order.length-i.toNat,
   ⟨0,o,D,[],fun _=>0,rfl,om,ldK h B3,hw,by rw [List.drop_zero];exact hrun,hMg,.below (.refl _ _)⟩,?_⟩
  rintro _ w4 ⟨j,o4,Dj,gone,put,rfl,hj,hL4,hw4,hrk,hM4,ev4⟩
  unfold F22_l7
  have hs4:=ev4.fm.size
  have keepO:∀{α:Type}{Ly:Lay α}{e:TypeId}{B:Nat}{u:Sv}{ys:List α},Own Ly w3 B e (slV u) ys->w.heap.size<=B->(∀b,rowOf (slV u)=some b->b≠r)->Own Ly w4 B e (slV u) ys:=fun hO hB hne=>own_fm hO ev4.fm fun b hb e=>by
   rcases e with e | e
   ·exact e (oz b (by have:=(hO.lt b hb).1;omega))
   ·exact hne b hb e
  refine brd (fun hlt=>?_) (fun hge=>?_)
  ·have hj2:j < order.length:=by omega
   have hmem:order[j]∈planF L 5:=by rw [hor];exact gem hj2
   obtain⟨i,hii,hil⟩:=mem_plan.1 hmem
   have hix:i < xs.length:=by omega
   have hLi:L[i]?=some xs[i].o:=by rw [<-hLL,List.getElem?_map,gge hix];rfl
   have hLi2:L[(order[j]).toNat]?=some xs[i].o:=by rw [hii,tnc];exact hLi
   obtain⟨kd1,kd8,klook⟩:=hck xs[i].o (mog hLi)
   rw [dgc hj2,run_step hLi2] at hrk
   have oo4:=keepO (oo.keep hb3) hs1 fun b hb e=>by have:=(oo.lt b hb).2;omega
   refine (rdO oo4).2.i64 o1 rfl hj2 fun b oo' cc=>?_
   rw [hii] at cc
   simp only [cc,lds]
   have hsub4:Sub (wc o w) (wc o4 w4):=hsub3.trans (ev4.sub hMg.ob)
   have hr4:Rd LOp w4 A c xs:=sub_of_only.rd (hsub4.rd hrc)
   refine hr4.op rfl rfl hix fun b oo' c0 c1 c2 c3 c4 c5 c6 c7 c8 c9 c10=>?_
   simp only [c0,c1,c2,c3,c4,c5,c6,c7,c8,c9,c10,lds]
   have o4r:o4 r=0:=ev4.old r om or0
   refine make1_calls (x:=xs[i]) hL4 om hw4 hM4 o4r (hT.sub hsub4) ((hx _ (gem hix)).sub hsub4) kd1 kd8 (fun hsk w5 hb5=>⟨rfl,?_⟩) (fun hsk=>?_) (fun hsk w5 o5 hL5 hM5 ev5=>⟨rfl,?_⟩)
   ·rw [if_pos hsk] at hrk
    exact⟨inR_i64 om om,⟨j+1,o4,Dj,gone,put,sm,om,up 2 (ldK hL4 hb5),hw4,hrk,hM4.fm (M:=fun _=>False) (.below hb5) (fun h=>h),ev4.trans (.below hb5)⟩,(by first | omega | (dsimp only;omega))⟩
   ·rw [hsk,if_neg dc] at hrk
    refine byc fun e=>?_
    rw [if_pos e] at hrk
    obtain⟨_,hrk⟩:=hrk
    cases hrk
   ·rw [hsk,if_neg dc] at hrk
    have he:¬(oneF Dj xs[i].o).2.2≠0:=fun e=>by
     rw [if_pos e] at hrk
     obtain⟨_,hrk⟩:=hrk
     cases hrk
    rw [if_neg he] at hrk
    exact⟨inR_i64 om om,⟨j+1,o5,_,_,_,sm,om,hL5,one_wf' hw4 _,hrk,hM5,ev4.trans ev5⟩,(by first | omega | (dsimp only;omega))⟩
  ·have hj2:j=order.length:=by omega
   subst hj2
   rw [List.drop_length] at hrk
   obtain⟨put',hrk⟩:=hrk
   have hDD:Dj=D':=congrArg Prod.fst (osi hrk:(Dj,put)=(D',put'))
   subst hDD
   have ov4:=keepO ((ov.keep hb2).keep hb3) (Nat.le_refl _) fun b hb e=>by have:=(ov.lt b hb).2;omega
   have hev:EvA w o w4 o4:=⟨⟨ev4.fm.os.trans B3.os,ev4.fm.tape.trans B3.tape,ev4.fm.output.trans B3.output,om,fun b hb hm=>(ev4.fm.block b om fun e=>by
    rcases e with e | e
    ·exact hm e
    ·omega).trans (B3.block b hb)⟩,fun b hb e=>ev4.old b om e⟩
   exact hK w4 o4 (by have:=up (65536-2*order.length) hL4;rwa [show k+2*order.length+(65536-2*order.length)=k+65536 by omega] at this) hev v ov4
theorem ApplyN_calls {A:OA}{n c:Nat} (hK:R (.returned (.tuple #[.slice none 0 0,.int .i64 0,.int .i64 1])) w):Calls P0 22 #[.pointer none,.slice A n c] w R:=by
 refine ok22 none A n c ?_
 unfold F22
 refine TrialN_calls ⟨_,_,_,_,_,rfl,?_⟩
 exact brn (fun _=>hK) fun e=>absurd e dc
end
set_option maxRecDepth 100000
def lstF (r:Option (Im × List Nat) × Int × Int):List Nat:=match r.1 with
 | some (_,l)=>l
 | none=>[]
theorem apply_zero {D:Im}{L:List O1}{x:Im × List Nat} (h:(applyF D L).1=some x):(applyF D L).2=(0,0):=by
 unfold applyF at h |-
 by_cases hc:(checkF L).2≠0
 ·rw [if_pos hc] at h;cases h
 rw [if_neg hc] at h |-
 generalize runF L (planF L 5) D [] (fun _=>0)=q at *
 obtain⟨q1,q2,q3⟩:=q
 cases q1 with
 | none=>cases h
 | some y=>rfl
theorem run_wf {l:List O1}:∀(is:List Int) {D:Im}{gone:List Nat}{put:Int->Nat}{D':Im}{put':Int->Nat},Wf D->(runF l is D gone put).1=some (D',put')->Wf D'
 | [],D,gone,put,D',put',hw,h=>by
  have:(D,put)=(D',put'):=osi h
  rw [<-(Prod.mk.inj this).1];exact hw
 | i :: is,D,gone,put,D',put',hw,h=>by
  unfold runF at h
  cases hi:l[i.toNat]? with
  | none=>rw [hi] at h;cases h
  | some o =>
   rw [hi] at h
   simp only at h
   split at h
   ·exact run_wf is hw h
   split at h
   ·cases h
   ·exact run_wf is (one_wf' hw o) h
theorem after_wf {D:Im} (hw:Wf D) (L:List O1):Wf (afterF D (applyF D L)):=by
 unfold afterF
 cases h:(applyF D L).1 with
 | none=>exact hw
 | some x =>
  obtain⟨E,l⟩:=x
  unfold applyF at h
  by_cases hc:(checkF L).2≠0
  ·rw [if_pos hc] at h;cases h
  rw [if_neg hc] at h
  have hq:∀q,runF L (planF L 5) D [] (fun _=>0)=q->Wf E:=fun q hq=>by
   rw [hq] at h
   obtain⟨q1,q2,q3⟩:=q
   cases q1 with
   | none=>cases h
   | some y =>
    obtain⟨y1,y2⟩:=y
    have h:(y1,givenF y2 L.length)=(E,l):=osi h
    rw [<-(Prod.mk.inj h).1]
    exact run_wf (put':=y2) _ hw (by rw [hq])
  exact hq _ rfl
theorem lst_len {D:Im}{L:List O1}:(lstF (applyF D L)).length<=4096:=by
 unfold lstF
 cases h:(applyF D L).1 with
 | none=>exact Nat.zero_le _
 | some x =>
  obtain⟨E,l⟩:=x
  unfold applyF at h
  by_cases hc:(checkF L).2≠0
  ·rw [if_pos hc] at h;cases h
  rw [if_neg hc] at h
  have hl:=(check_ok (l:=L) (by simpa using hc)).1
  generalize runF L (planF L 5) D [] (fun _=>0)=q at *
  obtain⟨q1,q2,q3⟩:=q
  cases q1 with
  | none=>cases h
  | some y =>
   obtain⟨y1,y2⟩:=y
   have h:(y1,givenF y2 L.length)=(E,l):=osi h
   rw [<-(Prod.mk.inj h).2]
   exact Nat.le_trans (given_len _ _) hl
theorem TrialK.of {R:RT}{n0:Nat}{D:Im}{L:List O1}{w:World} (H:∀v:Sv,Own LHn w n0 42 (slV v) (lstF (applyF D L))->R (.returned (.tuple #[slV v,.int .i64 (applyF D L).2.1,.int .i64 (applyF D L).2.2])) w):TrialK R n0 (applyF D L) w:=by
 unfold TrialK
 unfold lstF at H
 cases h:(applyF D L).1 with
 | none =>
  rw [h] at H
  exact H (none,0,0) (Own.nil _ _ _ _)
 | some x =>
  rw [h,apply_zero h] at H
  exact H
structure AftR (ok:Nat->Bool) (w0 w:World) (D:Im) (r:Option (Im × List Nat) × Int × Int) (p:OA):Prop where
 no:r.1=none->p=none
 yes:∀E l,r.1=some (E,l)->∃g' vs' vr',p=some ⟨g',0,none⟩/\RM ok w g' E vs' vr'/\w0.heap.size<=g'
theorem ApplyRK.of {R:RT}{ok:Nat->Bool}{w0:World}{D:Im}{L:List O1}{w:World} (H:∀(p:OA) (v:Sv),AftR ok w0 w D (applyF D L) p->Own LHn w w0.heap.size 42 (slV v) (lstF (applyF D L))->R (.returned (.tuple #[.pointer p,slV v,.int .i64 (applyF D L).2.1,.int .i64 (applyF D L).2.2])) w):ApplyRK R ok w0 (applyF D L) w:=by
 unfold ApplyRK
 unfold lstF at H
 cases h:(applyF D L).1 with
 | none =>
  rw [h] at H
  exact H none (none,0,0) ⟨fun _=>rfl,fun E l e=>by rw [h] at e;cases e⟩ (Own.nil _ _ _ _)
 | some x =>
  obtain⟨E,l⟩:=x
  rw [h,apply_zero h] at H
  intro g' vs' vr' v h1 h2 h3
  refine H _ v ⟨fun e=>(by rw [h] at e;cases e),fun E' l' e=>?_⟩ h3
  rw [h] at e
  have e:=osi e
  rw [<-(Prod.mk.inj e).1]
  exact⟨g',vs',vr',rfl,h1,h2⟩
def exT:Tr:=.mk 2 noB [] noB []
theorem exT_rd (w:World):RTr w exT ⟨2,noB,(none,0,0),noB,(none,0,0)⟩:=by
 unfold exT
 simp only [RTr]
 exact⟨trivial,trivial,trivial,⟨sm,rfl,Rd.nil _ _⟩,sm,[],rfl,Rd.nil _ _,rfl⟩
section
variable {w:World}{R:RT}
theorem sub_wc {w0 w1:World}{o:Nat->Nat} (hb:Below w0.heap.size w0 w1) (ho:∀b,b < w0.heap.size->o b=0):Sub w0 (wc o w1):=fun b c t fr h=>by
 have hlt:=(agi.1 h).1
 refine cells_only (ok:=fun b=>Nat.beq (o b) 0) ?_ ?_
 ·show Nat.beq (o b) 0=true
  rw [ho b hlt];rfl
 ·rw [hb.block b hlt];exact h
theorem sub_vw {w0 w1:World}{ok:Nat->Bool}{g:Nat} (hb:Below w0.heap.size w0 w1) (ho:∀b,b < w0.heap.size->ok b=true) (hg:w0.heap.size<=g):Sub w0 (vw ok g w1):=fun b c t fr h=>by
 have hlt:=(agi.1 h).1
 refine cells_only (vw_iff.2 ⟨ho b hlt,om⟩) ?_
 rw [hb.block b hlt];exact h
def okX (o:Nat->Nat) (a b:Nat) (x:Nat):Bool:=okc o x && decide (¬(a<=x/\x < b))
theorem okX_iff {o:Nat->Nat}{a b x:Nat}:okX o a b x=true↔o x=0/\¬(a<=x/\x < b):=by
 unfold okX
 rw [bae,decide_eq_true_eq,okc_iff]
theorem appliesU_calls (acs:List E12) {A:OA}{c:Nat} (hra:Rd LAc w A c acs) (hxa:∀x∈acs,RAc w x) (hla:acs.length<=1048576) (xs:List E11) {A':OA}{c':Nat} (hr:Rd LOp w A' c' xs) (hx:∀x∈xs,ROp w x) (hl:xs.length<=1048576) (how:Bool) (hT:Tabs w)
  (hK:∀w',Below w.heap.size w w'->R (.returned (.bool true)) w') :
  Calls P0 4 #[.slice A acs.length c,.slice A' xs.length c',.bool how] w R:=by
 refine ok4 A acs.length c A' xs.length c' how ?_
 unfold F4
 refine madeU_calls hT hra hxa hla fun gp gd w1 o vs vr hgp hB=>⟨_,_,_,rfl,?_⟩
 rw [show (!true)=false from rfl,Br_f]
 generalize actsD acs=D at *
 have hw:=hB.wf
 have B1:=hB.old
 have hs1:=B1.size
 have hol:∀b,o b≠0->b < w1.heap.size:=(label_edr (g:=gp)).lt hB.p
 obtain⟨es1,hRW1⟩:=hB.r.re
 refine meantU_calls hRW1 hw how xs (hr.keep B1) (fun x hm=>(hx x hm).1) hl fun w2 mv hb2 omv=>⟨_,_,_,rfl,?_⟩
 have hs2:=hb2.size
 have B2:=B1.trans (hb2.mono hs1)
 have hys:∀y∈xs.map (mtE D how),ROp w y:=fun y hy=>by
  obtain⟨x,hxm,rfl⟩:=List.mem_map.1 hy
  exact mt_rop hRW1 hw how (hx x hxm)
 have hyl:(xs.map (mtE D how)).length=xs.length:=lmp _
 generalize xs.map (mtE D how)=ys at *
 obtain⟨m1,m2⟩:=rdO omv
 obtain⟨ma,mn,mc⟩:=mv
 have m1:mn=ys.length:=m1
 subst m1
 have m2:Rd LOp w2 ma mc ys:=m2
 refine copiedO2_calls ys m2 (fun y hy=>(hys y hy).sub (sub_below B2)) om fun w3 cv zs lo hb3 oc hmo hzb hlo hot=>⟨_,_,_,rfl,?_⟩
 have hs3:=hb3.size
 have B3:=B2.trans (hb3.mono om)
 have hzl:zs.length=ys.length:=by
  have:=congrArg List.length hmo
  rwa [lmp,lmp] at this
 generalize hL:ys.map (·.o)=L at *
 obtain⟨n1,n2⟩:=rdO oc
 obtain⟨ca,cn,cc⟩:=cv
 have n1:cn=zs.length:=n1
 subst n1
 have n2:Rd LOp w3 ca cc zs:=n2
 have hzr:∀z∈zs,ROp w3 z:=fun z hz=>(ops_ot (ok:=fun _=>true) (fun _ _ _=>rfl) hzb hot z hz).sub sub_of_only
 have hT3:=hT.sub (sub_below B3)
 have E:=label_edr (g:=gp)
 have K1:∀{u:World},Below w1.heap.size w1 u->LD acs.length gp 113 u o D:=fun hb=>E.keep (M:=fun _=>False) hB.p (.below hb) fun _ _ h=>h.elim
 have C3:Below w1.heap.size w1 w3:=btr hb2 hs2 hb3
 refine TrialP_calls (K1 C3) hw zs n2 hzr om hT3 fun w4 hb4=>?_
 rw [hmo]
 refine TrialK.of fun tv ot=>⟨tv.1,tv.2.1,tv.2.2,(applyF D L).2.1,(applyF D L).2.2,rfl,?_⟩
 have hs4:=hb4.size
 have C4:=btr C3 C3.size hb4
 have hR4:RM (okc o) w4 gd D vs vr:=hB.r.keep C4
 refine isU_calls (K1 C4) hw hR4 fun w5 hb5=>⟨_,rfl,?_⟩
 rw [show (!true)=false from rfl,Br_f]
 have hs5:=hb5.size
 have C5:=btr C4 C4.size hb5
 have D5:Below w3.heap.size w3 w5:=btr hb4 hs4 hb5
 have B5:=B1.trans (C5.mono hs1)
 have hc3:Sub (wOnly (fun b=>decide (w2.heap.size<=b)) w3) (wc o w5):=sub_only (fun b hb h=>by
  have h:=of_decide_eq_true h
  show Nat.beq (o b) 0=true
  have:o b=0:=byc fun e=>by have:=hol b e;omega
  rw [this];rfl) fun b hb _=>D5.block b hb
 have hz5:∀z∈zs,ROp (wc o w5) z:=fun z hz=>(ops_ot (ok:=fun b=>decide (w2.heap.size<=b)) (fun b h1 _=>decide_eq_true om) hzb hot z hz).sub hc3
 have hrz5:Rd LOp (wc o w5) ca cc zs:=by
  have:Own LOp (wOnly (fun b=>decide (w2.heap.size<=b)) w3) w2.heap.size 50 (slV (ca,zs.length,cc)) zs:=by
   rcases oc with h | h | ⟨g,c,cur,h1,h2,h3,h4⟩
   ·exact .inl h
   ·exact .inr (.inl h)
   ·exact .inr (.inr ⟨g,c,cur,h1,h2,cells_only (decide_eq_true h2) h3,h4⟩)
  exact hc3.rd (rdO this).2
 have hoc0:∀b,b < w.heap.size->o b=0:=hB.col
 have hsw5:Sub w (wc o w5):=sub_wc B5 hoc0
 refine ApplyP_calls (K1 C5) om hw zs hrz5 hz5 om (hT.sub hsw5) fun w6 o6 hL6 ev6=>?_
 rw [hmo] at hL6 |-
 refine TrialK.of fun gv og=>⟨gv.1,gv.2.1,gv.2.2,(applyF D L).2.1,(applyF D L).2.2,rfl,?_⟩
 have hs6:=ev6.fm.size
 have oc5:=oc.keep D5
 have hcr:∀b,rowOf (slV (ca,zs.length,cc))=some b->w2.heap.size<=b/\b < w3.heap.size:=fun b hb=>oc.lt b hb
 have hun:∀b,w1.heap.size<=b->o b=0:=fun b hb=>byc fun e=>by have:=hol b e;omega
 have oc6:Own LOp w6 w2.heap.size 50 (slV (ca,zs.length,cc)) zs:=own_fm oc5 ev6.fm fun b hb e=>e (hun b (by have:=hcr b hb;omega))
 have hot6:OTl w6 (zs.map (·.o.t)) (zs.map (·.e)) lo w3.heap.size (rowOf (slV (ca,zs.length,cc))):=OTl.fm ((Fm.below (M:=fun b=>o b≠0) D5).trans ev6.fm) _ _ _ _ _ (fun b h1 _ _ e=>e (hun b om)) hot
 refine spoilO_calls (v:=(ca,zs.length,cc)) oc6 om hot6 om hlo (fun b hb=>(hcr b hb).2) fun w7 f7=>⟨rfl,?_⟩
 have hs7:=f7.size
 have hL7:LD (acs.length+65536) gp 113 w7 o6 (afterF D (applyF D L)):=E.keep hL6 f7 fun b hb e=>ev6.old b om (hun b om)
 have F17:Fm (fun b=>o b≠0\/(w2.heap.size<=b/\b < w3.heap.size)) w1 w7:=((Fm.below C5).trans (ev6.fm.mono fun b _ e=>.inl e)).trans (f7.mono fun b _ e=>.inr e)
 have B7:Below w.heap.size w w7:=B1.trans (F17.toBelow hs1 fun b hb e=>by
  rcases e with e | e
  ·exact e (hoc0 b hb)
  ·omega)
 have hgdl:=hB.r.blk.lt
 have hgne:=hB.gne
 have hR7:RM (okX o6 w2.heap.size w3.heap.size) w7 gd D vs vr:=hB.r.fm2 F17 (fun b hb e=>by
  rcases e with e | e
  ·refine⟨?_,fun h=>e (by rw [h];exact hB.og)⟩
   cases h:okc o b with
   | false=>rfl
   | true=>exact absurd (okc_iff.1 h) e
  ·omega) fun b hb h=>okX_iff.2 ⟨ev6.old b om (okc_iff.1 h),om⟩
 have hol6:∀b,o6 b≠0->b < w6.heap.size:=E.lt hL6
 have hok7:∀b,w7.heap.size<=b->okX o6 w2.heap.size w3.heap.size b=true:=fun b hb=>okX_iff.2 ⟨byc fun e=>by have:=hol6 b e;omega,om⟩
 have ho6w:∀b,b < w.heap.size->o6 b=0:=fun b hb=>ev6.old b om (hoc0 b hb)
 have hsw7:Sub w (vw (okX o6 w2.heap.size w3.heap.size) gd w7):=sub_vw B7 (fun b hb=>okX_iff.2 ⟨ho6w b hb,om⟩) hgne
 have hmr:∀b,rowOf (slV (ma,ys.length,mc))=some b->w1.heap.size<=b/\b < w2.heap.size:=fun b hb=>omv.lt b hb
 have om7:Own LOp w7 w1.heap.size 50 (slV (ma,ys.length,mc)) ys:=own_fm omv (((Fm.below (M:=fun b=>o b≠0\/(w2.heap.size<=b/\b < w3.heap.size)) (btr hb3 hs3 D5)).trans (ev6.fm.mono fun b _ e=>.inl e)).trans (f7.mono fun b _ e=>.inr e)) fun b hb e=>by
  have:=hmr b hb
  rcases e with e | e
  ·exact e (hun b om)
  ·omega
 have r7:Rd LOp w7 ma mc ys:=(rdO om7).2
 refine applyR_calls hR7 hok7 hw ys r7 (fun y hy=>(hys y hy).sub hsw7) om fun w8 hb8=>?_
 rw [hL]
 refine ApplyRK.of fun pa wv hpa ow=>⟨pa,wv.1,wv.2.1,wv.2.2,(applyF D L).2.1,(applyF D L).2.2,rfl,?_⟩
 have hs8:=hb8.size
 have hll:=lst_len (D:=D) (L:=L)
 have ot8:Own LHn w8 w3.heap.size 42 (slV tv) (lstF (applyF D L)):=(own_fm (ot.keep hb5) ((ev6.fm.mono (M':=fun b=>o b≠0\/(w2.heap.size<=b/\b < w3.heap.size)) fun b _ e=>.inl e).trans (f7.mono fun b _ e=>.inr e)) fun b hb e=>by
  have:=(ot.lt b hb).1
  rcases e with e | e
  ·exact e (hun b om)
  ·omega).keep hb8
 have og8:Own LHn w8 w5.heap.size 42 (slV gv) (lstF (applyF D L)):=(own_fm og f7 fun b hb e=>by
  have:=(og.lt b hb).1
  omega).keep hb8
 refine⟨fun w'=>Below w8.heap.size w8 w',fun w9 hb9=>?_,?_⟩
 rotate_left
 ·refine brn (fun h=>absurd rfl h) fun _=>?_
  refine brn (fun h=>absurd rfl h) fun _=>?_
  refine brn (fun h=>absurd rfl h) fun _=>?_
  refine brn (fun h=>absurd rfl h) fun _=>?_
  refine handlesE_calls (v:=tv) (u:=wv) (rr_own ot8 om) (rr_own ow om) fun w9 hb9=>⟨_,rfl,?_⟩
  rw [show (!true)=false from rfl,Br_f]
  refine handlesE_calls (v:=gv) (u:=wv) (rr_own (og8.keep hb9) om) (rr_own (ow.keep hb9) om) fun w10 hb10=>⟨_,rfl,?_⟩
  rw [show (!true)=false from rfl,Br_f]
  exact btr hb9 hb9.size hb10
 unfold F4_j14
 have hs9:=hb9.size
 have C9:Below w7.heap.size w7 w9:=btr hb8 hs8 hb9
 have hgz:o6 gd=0:=ev6.old gd om hB.og
 refine⟨fun pd w'=>w'=w9/\∃gx us ur,pd=some ⟨gx,0,none⟩/\RM (okX o6 w2.heap.size w3.heap.size) w9 gx (afterF D (applyF D L)) us ur/\o6 gx=0/\w.heap.size<=gx,?_,?_⟩
 rotate_left
 ·cases hr1:(applyF D L).1 with
  | none =>
   rw [hpa.no hr1]
   refine⟨rfl,gd,vs,vr,rfl,?_,hgz,hgne⟩
   unfold afterF
   rw [hr1]
   exact hR7.keep C9
  | some x =>
   obtain⟨E',l⟩:=x
   obtain⟨g',vs',vr',rfl,h1,h2⟩:=hpa.yes E' l hr1
   refine⟨rfl,g',vs',vr',rfl,?_,byc fun e=>by have:=hol6 g' e;omega,om⟩
   unfold afterF
   rw [hr1]
   exact h1.keep hb9
 rintro _ w9 ⟨rfl,gx,us,ur,rfl,hR9,hgx0,hgxw⟩
 unfold F4_j16
 have hwA:=after_wf hw L
 generalize afterF D (applyF D L)=DA at *
 have hL9:LD (acs.length+65536) gp 113 w9 o6 DA:=E.keep (M:=fun _=>False) hL7 (.below C9) fun _ _ h=>h.elim
 have B9:=B7.trans (C9.mono B7.size)
 refine insertL_calls (x:=exT) (e:=⟨2,noB,(none,0,0),noB,(none,0,0)⟩) (wh:=2) (a:=0) hL9 om hwA (hT.sub (sub_wc B9 ho6w)) (exT_rd _) dc fun w10 o10 hL10 ev10=>⟨_,_,rfl,?_⟩
 have hs10:=ev10.fm.size
 have hR10:RM (okX o10 w2.heap.size w3.heap.size) w10 gx DA us ur:=hR9.fm2 ev10.fm (fun b hb e=>by
  refine⟨?_,fun h=>e (by rw [h];exact hgx0)⟩
  cases h:okX o6 w2.heap.size w3.heap.size b with
  | false=>rfl
  | true=>exact absurd (okX_iff.1 h).1 e) fun b hb h=>okX_iff.2 ⟨ev10.old b hb (okX_iff.1 h).1,(okX_iff.1 h).2⟩
 have hol10:∀b,o10 b≠0->b < w10.heap.size:=E.lt hL10
 refine insertR_calls (x:=exT) (e:=⟨2,noB,(none,0,0),noB,(none,0,0)⟩) (wh:=2) (a:=0) hR10 (fun b hb=>okX_iff.2 ⟨byc fun e=>by have:=hol10 b e;omega,om⟩) hwA (exT_rd _) dc fun w11 us' ur' hR11 f11=>⟨_,_,rfl,?_⟩
 refine ApplyN_calls ⟨_,_,_,_,_,rfl,?_⟩
 refine bre (fun _=>?_) fun h=>absurd rfl h
 refine bre (fun _=>?_) fun h=>absurd rfl h
 refine bre (fun _=>?_) fun h=>absurd rfl h
 have B10:Below w.heap.size w w10:=B9.trans (ev10.fm.toBelow B9.size fun b hb e=>e (ho6w b hb))
 have B11:Below w.heap.size w w11:=B10.trans (f11.toBelow B10.size fun b hb e=>by have e:b=gx:=e;omega)
 have hgxl:=hR9.blk.lt
 have hL11:LD (acs.length+65536+1) gp 113 w11 o10 _:=E.keep hL10 f11 fun b hb e=>by
  have e:b=gx:=e
  rw [e]
  exact ev10.old gx hgxl hgx0
 refine isU_calls hL11 (ins_wf hwA _ _ _) hR11 fun w12 hb12=>⟨_,rfl,?_⟩
 rw [Br_t]
 have B12:=B11.trans (hb12.mono B11.size)
 refine livesU_calls (hT.sub (sub_below B12)) fun w13 hb13=>⟨_,rfl,?_⟩
 exact hK w13 (B12.trans (hb13.mono B12.size))
end
end Go.Proofs.YtnbgiacnbheonaaGreatDoor
/- UpdateApplies: a list of edits made on a document, all of it or none, as the document has it, and all that it tells behind it. -/
namespace Go.Proofs.YtnbgiacnbheonaaGreatDoor.updateApplies
open Go.ChangeShapes Go.WideShapes Go.ChangeAt Go.RowKit Go.Joins Go.Lib Go.Vc
open Go.ChangeMaps (open_string shut_string)
set_option maxRecDepth 100000
set_option linter.unusedVariables false
set_option linter.unusedSimpArgs false
theorem own : ownKnob Tryz.prog.godebug = none := by kernel_rfl
theorem laidOut : laidOutB Tryz.prog = true := by kernel_rfl
/-- A world in which the tables are laid. -/
noncomputable def laidWorld (os : Os) : World :=
  let w0 := World.holding Tryz.prog os ⟨#[], #[], []⟩
  let put (h : Array Obj) (g : Nat) (cs : Array Value) : Array Obj := h.modify g fun
    | .cells _ t frozen => .cells cs t frozen
    | o => o
  let h1 := put w0.heap 1 (Lib.firstTab.map fun z => Value.int .u8 z).toArray
  let h2 := put h1 2 ((List.range 16).flatMap fun i => [Value.int .u8 (Lib.accLo i), Value.int .u8 (Lib.accHi i)]).toArray
  { w0 with heap := h2 }
theorem laid_met (os : Os) : laidMet Tryz.prog Rows.updateAppliesUptoRow.laid ((laidWorld os).forCall (fun _ _ => 0) ⟨#[], #[.slice none 0 0, .slice none 0 0, .bool false], []⟩).memory :=
  (LaidIn.of_run (l := Rows.updateAppliesUptoRow.laid) [2, 1] 8 (by kernel_rfl) (by kernel_rfl) (by kernel_rfl) (by kernel_rfl)).met
theorem u8Types : U8Types Tryz.prog decRen := { decLays with }
theorem tabs_of {W : World} (h : laidMet Tryz.prog Rows.updateAppliesUptoRow.laid W) : Tabs W :=
  utf8Tabs_of_readsT (ρ := decRen) u8Types ⟨by kernel_rfl, by kernel_rfl, by kernel_rfl, by kernel_rfl, by kernel_rfl, by kernel_rfl, by kernel_rfl⟩
    (by rw [← Pinned.utf8First_eq]; exact Lib.laidMet.reads h (.tail _ (.head _))) (Lib.laidMet.reads h (.head _))
theorem reads (os : Os) {H : Type} (enc : TypeId × Value → H) : ∃ places, DataW.whole enc Tryz.prog ((laidWorld os).forCall (fun _ _ => 0) ⟨#[], #[.slice none 0 0, .slice none 0 0, .bool false], []⟩).memory Tryz.f4.params.toList Rows.updateAppliesSpec.vars false (#[.slice none 0 0, .slice none 0 0, .bool false] : Array Value).toList 8 = some ([.nil, .nil, .lit (.bool false)], [], places) :=
  ⟨[], by kernel_rfl⟩
theorem lifted (os : Os) (started : os.Started) (H : Type) (enc : TypeId × Value → H) (F : Stop.Interp) :
    ReturnsInHanded {} Tryz.checked os 4 .any ((Rows.OpenSpec.upto Rows.updateAppliesSpec).preRow enc Tryz.prog Tryz.f4 Rows.updateAppliesUptoRow.domain false Rows.updateAppliesUptoRow.laid) (((Rows.OpenSpec.upto Rows.updateAppliesSpec).at F).post enc Tryz.prog Tryz.f4 false true false false) := by
  obtain ⟨places, hx⟩ := reads os enc
  refine returnsInHanded_of_row (C := Tryz.checked) (s := Rows.OpenSpec.upto Rows.updateAppliesSpec) own started (by kernel_rfl) Tryz.func4
    (witness_row_at (enc := enc) (C := Tryz.checked) false (laidWorld os) #[.slice none 0 0, .slice none 0 0, .bool false] rfl (by kernel_rfl) (by kernel_rfl) (by kernel_rfl)
      (OpenSpec.preRow_of_cond 8 hx (by kernel_rfl) (fun k hk => by cases hk; kernel_rfl) (by kernel_rfl) (laid_met os))) ?_
  intro W base args ds gs before hval0 hW _ hcond hsz0 hL _ _
  rw [MakeChecks.laidMetH_plain _ _ _ (by kernel_rfl)] at hL
  have hT : Tabs W := tabs_of hL
  have hk : Rows.uptoSmall H (ds ++ gs) = true := hcond _ rfl
  have hval : ∀ (j : Nat) t v, Tryz.f4.params[j]? = some t → args[j]? = some v → Value.okWide Tryz.prog W .any base t v := hval0
  have hWw : DataW.Whole enc Tryz.prog Tryz.f4.params.toList Rows.updateAppliesSpec.vars false W args.toList ds gs before := hW
  clear hW
  have hW := hWw
  obtain ⟨p, q, hA0, hV, rfl, hfz, hnd⟩ := hW
  have hW' := hWw
  have hA : DataW.TrodAll enc Tryz.prog W 0 (fun _ => true) true Tryz.f4.params.toList args.toList ds p := hA0
  rw [Tryz.params4] at hA hval
  obtain ⟨v0, vs0, d0, ds0, p0, q0, hargs, rfl, rfl, h0, r0⟩ := trodAll_cons hA
  obtain ⟨v1, vs1, d1, ds1, p1, q1, rfl, rfl, rfl, h1, r1⟩ := trodAll_cons r0
  obtain ⟨v2, vs2, d2, ds2, p2, q2, rfl, rfl, rfl, h2, r2⟩ := trodAll_cons r1
  obtain ⟨rfl, rfl, rfl⟩ := trodAll_nil r2
  obtain rfl : args = #[v0, v1, v2] := by cases args; simp_all
  obtain ⟨rfl, rfl⟩ := trodVars_none hV
  have k0 := h0
  have lt0 : ∀ x ∈ p0, x.block < W.heap.size := by obtain ⟨m, hm⟩ := k0; exact DataW.trod_lt m _ _ _ hm
  have k1 := h1
  have lt1 : ∀ x ∈ p1, x.block < W.heap.size := by obtain ⟨m, hm⟩ := k1; exact DataW.trod_lt m _ _ _ hm
  have k2 := h2
  have lt2 : ∀ x ∈ p2, x.block < W.heap.size := by obtain ⟨m, hm⟩ := k2; exact DataW.trod_lt m _ _ _ hm
  clear hA0 hval0
  obtain ⟨la, ln, lc, rfl⟩ := okWide_slice Tryz.underlying57 (hval 0 57 _ rfl rfl)
  obtain ⟨lb, lm, ld, rfl⟩ := okWide_slice Tryz.underlying26 (hval 1 26 _ rfl rfl)
  obtain ⟨how, rfl, rfl, rfl⟩ := open_bool Tryz.underlying4 (hval 2 4 _ rfl rfl) h2
  obtain ⟨fl, hfl⟩ := h0
  obtain ⟨A, c, acs, hle, hR, hQ, hlen⟩ := acs_open hfl (upto_small hk (by simp))
  obtain ⟨fm, hfm⟩ := h1
  obtain ⟨A', c', xs, hlf, hR', hQ', hlen'⟩ := ops_open hfm (upto_small hk (by simp))
  simp [Value.cells] at hle hlf
  obtain ⟨rfl, rfl, rfl⟩ := hle
  obtain ⟨rfl, rfl, rfl⟩ := hlf
  refine (appliesU_calls (R := fun e W' => e = .returned (.bool true) ∧ Below W.heap.size W W') acs hR hQ hlen xs hR' hQ' hlen' how hT fun w' hb => ⟨rfl, hb⟩).mono fun e W' ⟨he, bel⟩ => ?_
  subst he
  exact ⟨_, rfl, _, _, _, [], _, [], hW', trodAll_mk1 (shut_bool Tryz.underlying4 _), (trodAll_cons_mk (Below.trod laidOut (by kernel_rfl) (of_decide_eq_true (by kernel_rfl)) k0 bel lt0) (trodAll_cons_mk (Below.trod laidOut (by kernel_rfl) (of_decide_eq_true (by kernel_rfl)) k1 bel lt1) (trodAll_cons_mk (Below.trod laidOut (by kernel_rfl) (of_decide_eq_true (by kernel_rfl)) k2 bel lt2) trodAll_mk0))), rfl, bel.frame _, fun h => by cases h⟩
theorem said : Rows.UpdateAppliesUptoSaid :=
  OpenClaim.holds_of_cond 4 Tryz.f4 rfl rfl rfl rfl rfl rfl rfl ⟨rfl, rfl, rfl, rfl, rfl⟩ rfl rfl rfl rfl rfl (by kernel_rfl) Tryz.func4 (by kernel_rfl)
    (of_decide_eq_true (by kernel_rfl)) (by unfold Func.isWrapper; first | (rw [if_neg (of_decide_eq_false (by kernel_rfl))]; exact ⟨rfl, rfl⟩) | (rw [if_pos (of_decide_eq_true (by kernel_rfl))]; kernel_rfl))
    (fun os started H enc _ F => by rw [OpenClaim.pre_eq_preRow]; exact lifted os started H enc F)
theorem plain (f : FuncId) (fn : Func) (hf : Tryz.pinned.checked.prog.funcNamed "espalier/espalierlaw17.UpdateApplies" = some f) (hfn : Tryz.pinned.checked.prog.funcs[f]? = some fn) :
    false = Tryz.pinned.checked.prog.looks [] ∧ ∀ (j : Nat) t, fn.params[j]? = some t → Tryz.pinned.checked.prog.wantsStandIn t = false := by
  obtain rfl : f = 4 := Option.some.inj ((show Tryz.prog.funcNamed "espalier/espalierlaw17.UpdateApplies" = some 4 by kernel_rfl).symm.trans hf) |>.symm
  obtain rfl : fn = Tryz.f4 := (Option.some.inj (Tryz.func4.symm.trans hfn)).symm
  refine ⟨by kernel_rfl, fun j t ht => ?_⟩
  have hm : t ∈ Tryz.f4.params.toList := by simpa using Array.mem_of_getElem? ht
  have hall : (Tryz.f4.params.toList.all fun u => !Tryz.prog.wantsStandIn u) = true := by kernel_rfl
  exact (show Tryz.prog.wantsStandIn t = false by simpa using List.all_eq_true.1 hall t hm)
end Go.Proofs.YtnbgiacnbheonaaGreatDoor.updateApplies
namespace Go.Proofs.YtnbgiacnbheonaaGreatDoor
open Go.ChangeShapes Go.WideShapes Go.ChangeAt Go.RowKit Go.Joins Go.Lib
theorem updateApplies_holds : Rows.UpdateAppliesUptoCardSaid :=
  Claim7.holds_tied_plain_at .later [] _ _ _ _ updateApplies.said (fun _ h => by cases h) (by kernel_rfl) (fun _ h => by cases h) updateAppliesUpto_row_tie rfl ⟨rfl, rfl⟩ (by kernel_rfl) rfl updateApplies.plain (by kernel_rfl)
#print axioms updateApplies_holds
end Go.Proofs.YtnbgiacnbheonaaGreatDoor
