/- UpdateApplies: a list of edits made on a document, all of it or none, as the document has it, and all that it tells behind it. -/
import Derived.Test.YtnbgiacnbheonaaGreatDoorProg
import Derived.Deep.Slices
import Derived.SizedLaws
import Derived.DataReads
import Derived.WideShapes
import Derived.Test.YtnbgiacnbheonaaGreatDoorRows
import Derived.Lib.SmallJoins
import Derived.MapKept
import Derived.Laws.IdiomRangeMap
import Derived.Test.YtnbgiacnbheonaaGreatDoorUa4
set_option linter.unusedVariables false
set_option maxRecDepth 100000
namespace Go.Proofs.YtnbgiacnbheonaaGreatDoor
open Go.Vc
def F161_l5 (m_:OA)(n:Int)(b:OA)(a:Nat)(L5:Int->World->Prop)(j:Int)(f:World)(R:RT):Prop :=
 Br (decide (j < ((a:Nat):Int)))
 (IdxA b a j 1 fun d =>
 LdI .u64 (f.cell? d) fun i =>
 NonNil m_ fun p31 =>
 LdM (f.cell? (p31.add 1)) fun g =>
 Raw P0 (Instr.mapUpdate 122 (.map g) (.int .u64 i) (.bool true)) f fun _ c =>
 InR .i64 (j+(1:Int))/\L5 (j+(1:Int)) c)
 (NonNil m_ fun p37 =>
 LdP (f.cell? p37) fun e =>
 Calls P0 192 #[.pointer e,.int .u64 n] f (post R fun v2 c =>
 ∃h,v2=(.int .i64 h) /\
 R (.returned (.int .i64 h)) c))
def F161_j4 (m_:OA)(n:Int)(b:OA)(a:Nat)(d:World)(R:RT):Prop :=
 ∃(I:Int->World->Prop)(m:Int->World->Nat),I (0:Int) d /\
 ∀e c,I e c->F161_l5 m_ n b a (fun e' w2=>I e' w2/\m e' w2 < m e c) e c R
def F161 (m_:OA)(n:Int)(g:World)(R:RT):Prop :=
 NonNil m_ fun p11 =>
 LdP (g.cell? p11) fun f =>
 Calls P0 90 #[.pointer f,.int .u64 n] g (post R fun v w1 =>
 ∃c b a d,v=(.tuple #[.slice c b a,.int .i64 d]) /\
 ∃J4:World->Prop,(∀e,J4 e->F161_j4 m_ n c b e R) /\
 (Br (d != (0:Int))
 (R (.returned (.int .i64 8)) w1)
 (Br (n == (0:Int))
 (R (.returned (.int .i64 8)) w1)
 (J4 w1))))
theorem ok161 (a:OA)(n:Int){w:World}{R:RT} (h:F161 a n w R):Calls P0 161 #[.pointer a,.int .u64 n] w R :=
 vk ⟨42,⟨[]⟩,[(4,⟨[],[(4,5),(18,24)]⟩)],[(5,⟨[(26,(.s (.int .i64)))],[(8,9),(26,36)]⟩)]⟩ Tryz.func161 h
def F104_j3 (m_:OA)(op:Addr)(db:World)(R:RT):Prop :=
 LdI .i64 (db.cell? op) fun na =>
 Br (na == (4:Int))
 (∃S:World->Prop,S db.drew/\NonNil m_ fun p25 =>
 ∃ma,Held S p25 (.pointer ma)/\∃hb,Held S (op.add 1) (.int .u64 hb)/\∃za,Held S (op.add 4) (.string za)/\Calls P0 156 #[.pointer ma,.int .u64 hb,.string za] db.drew (post R fun v ia =>
 ∃ab,v=(.int .i64 ab) /\
 R (.returned (.tuple #[.int .u64 0,.int .i64 ab])) ia))
 (Br (na == (5:Int))
 (∃S:World->Prop,S db.drew/\NonNil m_ fun p36 =>
 ∃fb,Held S p36 (.pointer fb)/\∃pa,Held S (op.add 1) (.int .u64 pa)/\∃sa,Held S (op.add 5) (.string sa)/\Calls P0 157 #[.pointer fb,.int .u64 pa,.string sa] db.drew (post R fun v ia =>
 ∃cb,v=(.int .i64 cb) /\
 R (.returned (.tuple #[.int .u64 0,.int .i64 cb])) ia))
 (Br (na == (6:Int))
 (∃S:World->Prop,S db.drew/\NonNil m_ fun p47 =>
 ∃nb,Held S p47 (.pointer nb)/\∃ua,Held S (op.add 1) (.int .u64 ua)/\∃qa,Held S (op.add 4) (.string qa)/\∃ka,Held S (op.add 5) (.string ka)/\Calls P0 158 #[.pointer nb,.int .u64 ua,.string qa,.string ka] db.drew (post R fun v ia =>
 ∃qb,v=(.int .i64 qb) /\
 R (.returned (.tuple #[.int .u64 0,.int .i64 qb])) ia))
 (Br (na == (7:Int))
 (∃S:World->Prop,S db.drew/\NonNil m_ fun p60 =>
 ∃ta,Held S p60 (.pointer ta)/\∃va,Held S (op.add 1) (.int .u64 va)/\∃mb,Held S (op.add 4) (.string mb)/\Calls P0 159 #[.pointer ta,.int .u64 va,.string mb] db.drew (post R fun v ia =>
 ∃pb,v=(.int .i64 pb) /\
 R (.returned (.tuple #[.int .u64 0,.int .i64 pb])) ia))
 (Br (na == (1:Int))
 (∃S:World->Prop,S db.drew/\NonNil m_ fun p71 =>
 ∃gb,Held S p71 (.pointer gb)/\∃ya,Held S (op.add 3) (.int .i64 ya)/\∃eb,Held S (op.add 2) (.int .u64 eb)/\∃aa,Held S (op.add 6) (.int .i64 aa)/\∃t,Held S ((op.add 6).add 1) (.string t)/\∃z p i,Held S ((op.add 6).add 2) (.slice z p i)/\∃y,Held S ((op.add 6).add 3) (.string y)/\∃r e k,Held S ((op.add 6).add 4) (.slice r e k)/\Calls P0 64 #[.pointer gb,.int .i64 ya,.int .u64 eb,.agg #[.int .i64 aa,.string t,.slice z p i,.string y,.slice r e k]] db.drew (post R fun v ia =>
 ∃u s,v=(.tuple #[.int .u64 u,.int .i64 s]) /\
 R (.returned (.tuple #[.int .u64 u,.int .i64 s])) ia))
 (Br (na == (2:Int))
 (∃S:World->Prop,S db.drew/\NonNil m_ fun p86 =>
 ∃jb,Held S p86 (.pointer jb)/\∃ra,Held S (op.add 1) (.int .u64 ra)/\∃bb,Held S (op.add 3) (.int .i64 bb)/\∃ib,Held S (op.add 2) (.int .u64 ib)/\Calls P0 160 #[.pointer jb,.int .u64 ra,.int .i64 bb,.int .u64 ib] db.drew (post R fun v ia =>
 ∃kb,v=(.int .i64 kb) /\
 R (.returned (.tuple #[.int .u64 0,.int .i64 kb])) ia))
 (Br (na == (3:Int))
 (LdI .u64 (db.cell? (op.add 1)) fun ja =>
 Calls P0 161 #[.pointer m_,.int .u64 ja] db (post R fun v fa =>
 ∃da,v=(.int .i64 da) /\
 R (.returned (.tuple #[.int .u64 0,.int .i64 da])) fa))
 (∃S:World->Prop,S db.drew/\NonNil m_ fun p104 =>
 ∃ba,Held S p104 (.pointer ba)/\∃ea,Held S (op.add 1) (.int .u64 ea)/\∃f,Held S (op.add 6) (.int .i64 f)/\∃q,Held S ((op.add 6).add 1) (.string q)/\∃j b c,Held S ((op.add 6).add 2) (.slice j b c)/\∃m,Held S ((op.add 6).add 3) (.string m)/\∃h d a,Held S ((op.add 6).add 4) (.slice h d a)/\Calls P0 64 #[.pointer ba,.int .i64 3,.int .u64 ea,.agg #[.int .i64 f,.string q,.slice j b c,.string m,.slice h d a]] db.drew (post R fun v ia =>
 ∃n g,v=(.tuple #[.int .u64 n,.int .i64 g]) /\
 Br (g != (0:Int))
 (R (.returned (.tuple #[.int .u64 0,.int .i64 g])) ia)
 (LdI .u64 (ia.cell? (op.add 1)) fun ga =>
 Calls P0 161 #[.pointer m_,.int .u64 ga] ia (post R fun v2 ha =>
 ∃ca,v2=(.int .i64 ca) /\
 R (.returned (.tuple #[.int .u64 n,.int .i64 ca])) ha))))))))))
def F104 (m_:OA)(h i j k:Int)(m n:ByteArray)(p:Int)(q:ByteArray)(r:OA)(s t:Nat)(u:ByteArray)(y:OA)(z aa:Nat)(f:World)(R:RT):Prop :=
 Al f #[.int .i64 h,.int .u64 i,.int .u64 j,.int .i64 k,.string m,.string n,.int .i64 p,.string q,.slice r s t,.string u,.slice y z aa] 50 fun op w1 =>
 ∃J3:World->Prop,(∀b,J3 b->F104_j3 m_ op b R) /\
 (∃S:World->Prop,S w1.drew/\∃g,Held S op (.int .i64 g)/\Br (g != (1:Int))
 (NonNil m_ fun p13 =>
 ∃c,Held S (p13.add 1) (.map c)/\∃e,Held S (op.add 1) (.int .u64 e)/\Raw P0 (Instr.lookup 122 (.map c) (.int .u64 e) false) w1.drew fun v a =>
 ∃d,v=(.bool d) /\
 Br d
 (R (.returned (.tuple #[.int .u64 0,.int .i64 0])) a)
 (J3 a))
 (J3 w1.drew))
theorem ok104 (a:OA)(b c d e:Int)(f g:ByteArray)(i:Int)(j:ByteArray)(k:OA)(m n:Nat)(p:ByteArray)(q:OA)(r s:Nat){w:World}{R:RT} (h:F104 a b c d e f g i j k m n p q r s w R):Calls P0 104 #[.pointer a,.agg #[.int .i64 b,.int .u64 c,.int .u64 d,.int .i64 e,.string f,.string g,.int .i64 i,.string j,.slice k m n,.string p,.slice q r s]] w R :=
 vk ⟨122,⟨[]⟩,[(3,⟨[],[(4,20)]⟩)],[]⟩ Tryz.func104 h
def F24_j9 (L8:OA->Nat->Nat->Int->World->Prop)(i:Int)(b:OA)(c d:Nat)(a:World)(R:RT):Prop :=
 InR .i64 (i+(1:Int))/\L8 b c d (i+(1:Int)) a
def F24_j15 (t:OA)(f:Nat)(c ab:OA)(ac:Nat)(ad:OA)(ae af:Nat)(i:Int)(J9:OA->Nat->Nat->World->Prop)(op:Addr)(ag:OA)(ah ai:Nat)(ia:World)(R:RT):Prop :=
 LdI .i64 (ia.cell? op) fun m =>
 LdI .u64 (ia.cell? (op.add 1)) fun k =>
 LdI .u64 (ia.cell? (op.add 2)) fun ba =>
 LdI .i64 (ia.cell? (op.add 3)) fun s =>
 LdStr (ia.cell? (op.add 4)) fun da =>
 LdStr (ia.cell? (op.add 5)) fun z =>
 LdI .i64 (ia.cell? (op.add 6)) fun ca =>
 LdStr (ia.cell? (op.add 7)) fun y =>
 LdSl (ia.cell? (op.add 8)) fun n d e =>
 LdStr (ia.cell? (op.add 9)) fun h =>
 LdSl (ia.cell? (op.add 10)) fun g a b =>
 Calls P0 63 #[.pointer c,.agg #[.int .i64 m,.int .u64 k,.int .u64 ba,.int .i64 s,.string da,.string z,.int .i64 ca,.string y,.slice n d e,.string h,.slice g a b]] ia (post R fun v3 r =>
 ∃aa q,v3=(.tuple #[.int .u64 aa,.int .i64 q]) /\
 Br (q != (0:Int))
 (Dr r fun p =>
 IdxA t f i 1 fun ja =>
 LdI .i64 (p.cell? ja) fun ha =>
 R (.returned (.tuple #[.pointer none,.slice none 0 0,.int .i64 ha,.int .i64 q])) p)
 (IdxA t f i 1 fun fa =>
 LdI .i64 (r.cell? fa) fun ga =>
 IdxA ab ac ga 1 fun ka =>
 St r ka (.int .u64 aa) fun p =>
 Raw P0 (Builtin.append_ #[23,23] 23 #[.slice ad ae af,.slice ag ah ai]) p fun v4 v =>
 ∃ea j u,v4=(.slice ea j u) /\
 J9 ea j u v))
def F24_j12 (f:OA)(d:Nat)(c q:OA)(r:Nat)(s:OA)(t u:Nat)(i:Int)(J9:OA->Nat->Nat->World->Prop)(op:Addr)(p:World)(R:RT):Prop :=
 Al p #[] 42 fun g64 g =>
 ∃J15:OA->Nat->Nat->World->Prop,(∀taken takenN takenC j,J15 taken takenN takenC j->F24_j15 f d c q r s t u i J9 op taken takenN takenC j R) /\
 (LdI .i64 (g.cell? op) fun k =>
 Br (k == (3:Int))
 (LdI .u64 (g.cell? (op.add 1)) fun m =>
 Calls P0 55 #[.pointer c,.int .u64 m] g (post R fun v3 j =>
 ∃e b a h,v3=(.tuple #[.slice e b a,.int .i64 h]) /\
 J15 e b a j))
 (LdI .i64 (g.cell? op) fun n =>
 Br (n == (8:Int))
 (LdI .u64 (g.cell? (op.add 1)) fun m =>
 Calls P0 55 #[.pointer c,.int .u64 m] g (post R fun v3 j =>
 ∃e b a h,v3=(.tuple #[.slice e b a,.int .i64 h]) /\
 J15 e b a j))
 (J15 (some g64) 0 0 g)))
def F24_j23 (b:OA->Nat->Nat->Int->World->Prop)(i2:Int)(r2:OA)(c d:Nat)(a:World)(R:RT):Prop :=
 InR .i64 (i2+(1:Int))/\b r2 c d (i2+(1:Int)) a
def F24_l22 (l:OA)(lN:Nat)(c s:OA)(t:Nat)(u:OA->Nat->Nat->Int->World->Prop)(r:OA)(rN rC:Nat)(i2:Int)(q:World)(R:RT):Prop :=
 Br (decide (i2 < ((lN:Nat):Int)))
 (∃J23:OA->Nat->Nat->World->Prop,(∀r2 rN2 rC2 h,J23 r2 rN2 rC2 h->F24_j23 u i2 r2 rN2 rC2 h R) /\
 (IdxA l lN i2 11 fun i =>
 LdI .i64 (q.cell? i) fun f =>
 Br (f == (1:Int))
 (IdxA s t i2 1 fun n =>
 LdI .u64 (q.cell? n) fun g =>
 Al q #[.int .u64 g] 42 fun g136 h =>
 Raw P0 (Builtin.append_ #[23,23] 23 #[.slice r rN rC,(.slice (some g136) 1 1)]) h fun v3 e =>
 ∃p b a,v3=(.slice p b a) /\
 J23 p b a e)
 (IdxA l lN i2 11 fun m =>
 LdI .i64 (q.cell? m) fun j =>
 Br (j == (8:Int))
 (IdxA s t i2 1 fun d =>
 LdI .u64 (q.cell? d) fun k =>
 Br (k != (0:Int))
 (IdxA s t i2 1 fun n =>
 LdI .u64 (q.cell? n) fun g =>
 Al q #[.int .u64 g] 42 fun g136 h =>
 Raw P0 (Builtin.append_ #[23,23] 23 #[.slice r rN rC,(.slice (some g136) 1 1)]) h fun v3 e =>
 ∃p b a,v3=(.slice p b a) /\
 J23 p b a e)
 (J23 r rN rC q))
 (J23 r rN rC q))))
 (R (.returned (.tuple #[.pointer c,.slice r rN rC,.int .i64 0,.int .i64 0])) q)
def F24_l8 (l:OA)(lN:Nat)(t:OA)(d:Nat)(c ab:OA)(ac:Nat)(L8:OA->Nat->Nat->Int->World->Prop)(ad:OA)(ae af:Nat)(i:Int)(qa:World)(R:RT):Prop :=
 Br (decide (i < ((d:Nat):Int)))
 (∃J9:OA->Nat->Nat->World->Prop,(∀gone2 goneN2 goneC2 ma,J9 gone2 goneN2 goneC2 ma->F24_j9 L8 i gone2 goneN2 goneC2 ma R) /\
 (IdxA t d i 1 fun na =>
 LdI .i64 (qa.cell? na) fun ra =>
 IdxA l lN ra 11 fun sa =>
 LdI .i64 (qa.cell? sa) fun ca =>
 LdI .u64 (qa.cell? (sa.add 1)) fun aa =>
 LdI .u64 (qa.cell? (sa.add 2)) fun y =>
 LdI .i64 (qa.cell? (sa.add 3)) fun s =>
 LdStr (qa.cell? (sa.add 4)) fun p =>
 LdStr (qa.cell? (sa.add 5)) fun u =>
 LdI .i64 (qa.cell? (sa.add 6)) fun da =>
 LdStr (qa.cell? (sa.add 7)) fun v =>
 LdSl (qa.cell? (sa.add 8)) fun z e g =>
 LdStr (qa.cell? (sa.add 9)) fun n =>
 LdSl (qa.cell? (sa.add 10)) fun f b a =>
 Al qa #[.int .i64 0,.int .u64 0,.int .u64 0,.int .i64 0,(.string (ByteArray.mk #[])),(.string (ByteArray.mk #[])),.int .i64 0,(.string (ByteArray.mk #[])),.slice none 0 0,(.string (ByteArray.mk #[])),.slice none 0 0] 50 fun op ma =>
 St ma op (.int .i64 ca) fun ga =>
 St ga (op.add 1) (.int .u64 aa) fun ja =>
 St ja (op.add 2) (.int .u64 y) fun ia =>
 St ia (op.add 3) (.int .i64 s) fun ka =>
 St ka (op.add 4) (.string p) fun ha =>
 St ha (op.add 5) (.string u) fun j =>
 St j (op.add 6) (.int .i64 da) fun h =>
 St h (op.add 7) (.string v) fun fa =>
 St fa (op.add 8) (.slice z e g) fun q =>
 St q (op.add 9) (.string n) fun k =>
 St k (op.add 10) (.slice f b a) fun ea =>
 ∃J12:World->Prop,(∀ba,J12 ba->F24_j12 t d c ab ac ad ae af i J9 op ba R) /\
 (LdI .i64 (ea.cell? op) fun ua =>
 Br (ua != (1:Int))
 (LdI .u64 (ea.cell? (op.add 1)) fun ta =>
 Calls P0 62 #[.slice ad ae af,.int .u64 ta] ea (post R fun v3 ba =>
 ∃pa,v3=(.bool pa) /\
 Br pa
 (J9 ad ae af ba)
 (J12 ba)))
 (J12 ea))))
 (Al qa #[] 42 fun g103 ma =>
 ∃(I:OA->Nat->Nat->Int->World->Prop)(m:OA->Nat->Nat->Int->World->Nat),I (some g103) 0 0 (0:Int) ma /\
 ∀r rN rC i2 ga,I r rN rC i2 ga->F24_l22 l lN c ab ac (fun r' rN' rC' i2' w2=>I r' rN' rC' i2' w2/\m r' rN' rC' i2' w2 < m r rN rC i2 ga) r rN rC i2 ga R)
def F24_j6 (l:OA)(lN:Nat)(b:OA)(a:Nat)(c g:OA)(h j:Nat)(f:World)(R:RT):Prop :=
 Al f #[] 42 fun g41 e =>
 ∃(I:OA->Nat->Nat->Int->World->Prop)(m:OA->Nat->Nat->Int->World->Nat),I (some g41) 0 0 (0:Int) e /\
 ∀gone goneN goneC i d,I gone goneN goneC i d->F24_l8 l lN b a c g h (fun gone' goneN' goneC' i' w2=>I gone' goneN' goneC' i' w2/\m gone' goneN' goneC' i' w2 < m gone goneN goneC i d) gone goneN goneC i d R
def F24 (d l:OA)(lN lC:Nat)(p:World)(R:RT):Prop :=
 Calls P0 61 #[.slice l lN lC] p (post R fun v w1 =>
 ∃h f,v=(.tuple #[.int .i64 h,.int .i64 f]) /\
 Br (f != (0:Int))
 (R (.returned (.tuple #[.pointer none,.slice none 0 0,.int .i64 h,.int .i64 f])) w1)
 (Calls P0 32 #[.slice l lN lC] w1 (post R fun v2 m =>
 ∃e b a g,v2=(.tuple #[.slice e b a,.int .i64 g]) /\
 ∃J6:OA->OA->Nat->Nat->World->Prop,(∀c given givenN givenC k,J6 c given givenN givenC k->F24_j6 l lN e b c given givenN givenC k R) /\
 (∃S:World->Prop,S m.drew/\(Calls P0 12 #[.pointer d] m.drew (post R fun v3 i =>
 ∃n,v3=(.pointer n) /\
 0<=((lN:Nat):Int)/\((lN:Nat):Int)<=((lN:Nat):Int)/\((8:Nat):Int)*((lN:Nat):Int)<=281474976710656/\Al i (zrow #[.int .u64 0] ((((lN:Nat):Int)).toNat*1)) 42 fun g40 j =>
 J6 n (some g40) (((lN:Nat):Int)).toNat (((lN:Nat):Int)).toNat j))
 /\ (0<=((lN:Nat):Int)/\((lN:Nat):Int)<=((lN:Nat):Int)/\((8:Nat):Int)*((lN:Nat):Int)<=281474976710656/\Al m.drew (zrow #[.int .u64 0] ((((lN:Nat):Int)).toNat*1)) 42 fun g40 i =>
 Calls P0 12 #[.pointer d] i (post R fun v3 j =>
 ∃n,v3=(.pointer n) /\
 J6 n (some g40) (((lN:Nat):Int)).toNat (((lN:Nat):Int)).toNat j))))))
theorem ok24 (d l:OA)(a b:Nat){w:World}{R:RT} (h:F24 d l a b w R):Calls P0 24 #[.pointer d,.slice l a b] w R :=
 vk ⟨140,⟨[]⟩,[(15,⟨[(17,(.s .slice))],[(17,80)]⟩),(12,⟨[],[(55,64)]⟩),(9,⟨[(14,(.s .slice))],[(4,8),(14,15),(16,103)]⟩),(23,⟨[(20,(.s .slice))],[(20,21),(110,138)]⟩),(6,⟨[(12,(.s .ptr)),(13,(.s .slice))],[(12,41)]⟩)],[(8,⟨[(14,(.s .slice)),(15,(.s (.int .i64)))],[(4,8),(14,103)]⟩),(22,⟨[(20,(.s .slice)),(21,(.s (.int .i64)))],[(20,138)]⟩)]⟩ Tryz.func24 h
def F61_l14 (l:OA)(lN:Nat)(L4:Int->World->Prop)(i:Int)(op:Addr)(ab:Int->World->Prop)(k:Int)(pa:World)(R:RT):Prop :=
 Br (decide (k < i))
 (∃S:World->Prop,S pa.drew/\IdxA l lN k 11 fun qa =>
 ∃u,Held S qa (.int .i64 u)/\∃p,Held S (qa.add 1) (.int .u64 p)/\∃ka,Held S (qa.add 2) (.int .u64 ka)/\∃fa,Held S (qa.add 3) (.int .i64 fa)/\∃ja,Held S (qa.add 4) (.string ja)/\∃ma,Held S (qa.add 5) (.string ma)/\∃ba,Held S (qa.add 6) (.int .i64 ba)/\∃ca,Held S (qa.add 7) (.string ca)/\∃ha e h,Held S (qa.add 8) (.slice ha e h)/\∃s,Held S (qa.add 9) (.string s)/\∃f c d,Held S (qa.add 10) (.slice f c d)/\∃ga,Held S op (.int .i64 ga)/\∃ea,Held S (op.add 1) (.int .u64 ea)/\∃aa,Held S (op.add 2) (.int .u64 aa)/\∃t,Held S (op.add 3) (.int .i64 t)/\∃r,Held S (op.add 4) (.string r)/\∃y,Held S (op.add 5) (.string y)/\∃ia,Held S (op.add 6) (.int .i64 ia)/\∃z,Held S (op.add 7) (.string z)/\∃da g m,Held S (op.add 8) (.slice da g m)/\∃q,Held S (op.add 9) (.string q)/\∃j b a,Held S (op.add 10) (.slice j b a)/\Calls P0 111 #[.agg #[.int .i64 u,.int .u64 p,.int .u64 ka,.int .i64 fa,.string ja,.string ma,.int .i64 ba,.string ca,.slice ha e h,.string s,.slice f c d],.agg #[.int .i64 ga,.int .u64 ea,.int .u64 aa,.int .i64 t,.string r,.string y,.int .i64 ia,.string z,.slice da g m,.string q,.slice j b a]] pa.drew (post R fun v n =>
 ∃na,v=(.bool na) /\
 Br na
 (R (.returned (.tuple #[.int .i64 i,.int .i64 171])) n)
 (InR .i64 (k+(1:Int))/\ab (k+(1:Int)) n)))
 (InR .i64 (i+(1:Int))/\L4 (i+(1:Int)) pa)
def F61_j13 (l:OA)(lN:Nat)(L4:Int->World->Prop)(i:Int)(op:Addr)(b:World)(R:RT):Prop :=
 ∃(I:Int->World->Prop)(m:Int->World->Nat),I (0:Int) b /\
 ∀k a,I k a->F61_l14 l lN L4 i op (fun k' w2=>I k' w2/\m k' w2 < m k a) k a R
def F61_j9 (l:OA)(lN:Nat)(L4:Int->World->Prop)(i:Int)(op:Addr)(q:World)(R:RT):Prop :=
 ∃J13:World->Prop,(∀j,J13 j->F61_j13 l lN L4 i op j R) /\
 (LdI .i64 (q.cell? op) fun m =>
 Br (m == (1:Int))
 (LdI .i64 (q.cell? (op.add 6)) fun e =>
 LdStr (q.cell? ((op.add 6).add 1)) fun k =>
 LdSl (q.cell? ((op.add 6).add 2)) fun g d b =>
 LdStr (q.cell? ((op.add 6).add 3)) fun f =>
 LdSl (q.cell? ((op.add 6).add 4)) fun h a c =>
 Calls P0 68 #[.agg #[.int .i64 e,.string k,.slice g d b,.string f,.slice h a c]] q (post R fun v j =>
 ∃p,v=(.int .i64 p) /\
 Br (p != (0:Int))
 (R (.returned (.tuple #[.int .i64 i,.int .i64 p])) j)
 (J13 j)))
 (LdI .i64 (q.cell? op) fun n =>
 Br (n == (8:Int))
 (LdI .i64 (q.cell? (op.add 6)) fun e =>
 LdStr (q.cell? ((op.add 6).add 1)) fun k =>
 LdSl (q.cell? ((op.add 6).add 2)) fun g d b =>
 LdStr (q.cell? ((op.add 6).add 3)) fun f =>
 LdSl (q.cell? ((op.add 6).add 4)) fun h a c =>
 Calls P0 68 #[.agg #[.int .i64 e,.string k,.slice g d b,.string f,.slice h a c]] q (post R fun v j =>
 ∃p,v=(.int .i64 p) /\
 Br (p != (0:Int))
 (R (.returned (.tuple #[.int .i64 i,.int .i64 p])) j)
 (J13 j)))
 (J13 q)))
def F61_l4 (l:OA)(lN:Nat)(L4:Int->World->Prop)(i:Int)(ia:World)(R:RT):Prop :=
 Br (decide (i < ((lN:Nat):Int)))
 (IdxA l lN i 11 fun ha =>
 LdI .i64 (ia.cell? ha) fun u =>
 LdI .u64 (ia.cell? (ha.add 1)) fun q =>
 LdI .u64 (ia.cell? (ha.add 2)) fun r =>
 LdI .i64 (ia.cell? (ha.add 3)) fun s =>
 LdStr (ia.cell? (ha.add 4)) fun t =>
 LdStr (ia.cell? (ha.add 5)) fun f =>
 LdI .i64 (ia.cell? (ha.add 6)) fun k =>
 LdStr (ia.cell? (ha.add 7)) fun m =>
 LdSl (ia.cell? (ha.add 8)) fun j e c =>
 LdStr (ia.cell? (ha.add 9)) fun p =>
 LdSl (ia.cell? (ha.add 10)) fun d b a =>
 Al ia #[.int .i64 0,.int .u64 0,.int .u64 0,.int .i64 0,(.string (ByteArray.mk #[])),(.string (ByteArray.mk #[])),.int .i64 0,(.string (ByteArray.mk #[])),.slice none 0 0,(.string (ByteArray.mk #[])),.slice none 0 0] 50 fun op w1 =>
 St w1 op (.int .i64 u) fun ba =>
 St ba (op.add 1) (.int .u64 q) fun fa =>
 St fa (op.add 2) (.int .u64 r) fun ea =>
 St ea (op.add 3) (.int .i64 s) fun y =>
 St y (op.add 4) (.string t) fun ca =>
 St ca (op.add 5) (.string f) fun aa =>
 St aa (op.add 6) (.int .i64 k) fun da =>
 St da (op.add 7) (.string m) fun z =>
 St z (op.add 8) (.slice j e c) fun h =>
 St h (op.add 9) (.string p) fun g =>
 St g (op.add 10) (.slice d b a) fun v =>
 ∃J9:World->Prop,(∀n,J9 n->F61_j9 l lN L4 i op n R) /\
 (LdI .i64 (v.cell? op) fun ga =>
 Br (decide (ga < (1:Int)))
 (R (.returned (.tuple #[.int .i64 i,.int .i64 170])) v)
 (LdI .i64 (v.cell? op) fun ja =>
 Br (decide (ja > (8:Int)))
 (R (.returned (.tuple #[.int .i64 i,.int .i64 170])) v)
 (J9 v))))
 (R (.returned (.tuple #[.int .i64 0,.int .i64 0])) ia)
def F61 (l:OA)(lN lC:Nat)(a:World)(R:RT):Prop :=
 Br (decide (((lN:Nat):Int) > (4096:Int)))
 (R (.returned (.tuple #[.int .i64 0,.int .i64 2])) a)
 (∃(I:Int->World->Prop)(m:Int->World->Nat),I (0:Int) a /\
 ∀i w1,I i w1->F61_l4 l lN (fun i' w2=>I i' w2/\m i' w2 < m i w1) i w1 R)
theorem ok61 (l:OA)(a b:Nat){w:World}{R:RT} (h:F61 l a b w R):Calls P0 61 #[.slice l a b] w R :=
 vk ⟨57,⟨[]⟩,[(13,⟨[],[(2,4),(6,45)]⟩),(9,⟨[],[(2,4),(21,30)]⟩)],[(14,⟨[(7,(.s (.int .i64)))],[(2,4),(7,57)]⟩),(4,⟨[(4,(.s (.int .i64)))],[(2,57)]⟩)]⟩ Tryz.func61 h
def F32_j10 (L9:OA->Nat->Nat->Int->World->Prop)(i:Int)(r3:OA)(b c:Nat)(a:World)(R:RT):Prop :=
 InR .i64 (i+(1:Int))/\L9 r3 b c (i+(1:Int)) a
def F32_l9 (l:OA)(lN:Nat)(L6:OA->Nat->Nat->Int->World->Prop)(p:Int)(L9:OA->Nat->Nat->Int->World->Prop)(r2:OA)(m n:Nat)(i:Int)(g:World)(R:RT):Prop :=
 Br (decide (i < ((lN:Nat):Int)))
 (∃J10:OA->Nat->Nat->World->Prop,(∀r3 rN3 rC3 d,J10 r3 rN3 rC3 d->F32_j10 L9 i r3 rN3 rC3 d R) /\
 (IdxA l lN i 11 fun j =>
 LdI .i64 (g.cell? j) fun f =>
 Calls P0 81 #[.int .i64 f] g (post R fun v2 d =>
 ∃h,v2=(.int .i64 h) /\
 Br (h == p)
 (Al d #[.int .i64 i] 3 fun g38 b =>
 Raw P0 (Builtin.append_ #[71,71] 71 #[.slice r2 m n,(.slice (some g38) 1 1)]) b fun v3 c =>
 ∃k a e,v3=(.slice k a e) /\
 J10 k a e c)
 (J10 r2 m n d))))
 (InR .i64 (p+(1:Int))/\L6 r2 m n (p+(1:Int)) g)
def F32_l6 (l:OA)(lN:Nat)(L6:OA->Nat->Nat->Int->World->Prop)(r:OA)(rN rC:Nat)(p:Int)(b:World)(R:RT):Prop :=
 Br (decide (p < (5:Int)))
 (∃(I:OA->Nat->Nat->Int->World->Prop)(m:OA->Nat->Nat->Int->World->Nat),I r rN rC (0:Int) b /\
 ∀r2 rN2 rC2 i a,I r2 rN2 rC2 i a->F32_l9 l lN L6 p (fun r2' rN2' rC2' i' w2=>I r2' rN2' rC2' i' w2/\m r2' rN2' rC2' i' w2 < m r2 rN2 rC2 i a) r2 rN2 rC2 i a R)
 (R (.returned (.tuple #[.slice r rN rC,.int .i64 0])) b)
def F32 (l:OA)(lN lC:Nat)(e:World)(R:RT):Prop :=
 Calls P0 61 #[.slice l lN lC] e (post R fun v w1 =>
 ∃a b,v=(.tuple #[.int .i64 a,.int .i64 b]) /\
 Br (b != (0:Int))
 (R (.returned (.tuple #[.slice none 0 0,.int .i64 b])) w1)
 (Al w1 #[] 3 fun g17 d =>
 ∃(I:OA->Nat->Nat->Int->World->Prop)(m:OA->Nat->Nat->Int->World->Nat),I (some g17) 0 0 (0:Int) d /\
 ∀r rN rC p c,I r rN rC p c->F32_l6 l lN (fun r' rN' rC' p' w2=>I r' rN' rC' p' w2/\m r' rN' rC' p' w2 < m r rN rC p c) r rN rC p c R))
theorem ok32 (l:OA)(a b:Nat){w:World}{R:RT} (h:F32 l a b w R):Calls P0 32 #[.slice l a b] w R :=
 vk ⟨41,⟨[]⟩,[(10,⟨[(6,(.s .slice))],[(6,7),(28,40)]⟩)],[(9,⟨[(6,(.s .slice)),(8,(.s (.int .i64)))],[(6,7),(8,40)]⟩),(6,⟨[(6,(.s .slice)),(7,(.s (.int .i64)))],[(6,40)]⟩)]⟩ Tryz.func32 h
def F111_j5 (a b:Addr)(f g:Bool)(d:World)(R:RT):Prop :=
 Br g
 (R (.returned (.bool true)) d)
 (Br f
 (LdStr (d.cell? (a.add 4)) fun c =>
 LdStr (d.cell? (b.add 4)) fun e =>
 R (.returned (.bool (c.toList == e.toList))) d)
 (R (.returned (.bool false)) d))
def F111_j4 (a b:Addr)(k:Bool)(d:World)(R:RT):Prop :=
 ∃J5:Bool->World->Prop,(∀one c,J5 one c->F111_j5 a b k one c R) /\
 (LdI .i64 (d.cell? a) fun e =>
 LdI .i64 (d.cell? b) fun h =>
 Br (e == h)
 (LdI .i64 (d.cell? a) fun f =>
 Br (f == (2:Int))
 (J5 true d)
 (LdI .i64 (d.cell? a) fun i =>
 Br (i == (4:Int))
 (J5 true d)
 (LdI .i64 (d.cell? a) fun g =>
 Br (g == (5:Int))
 (J5 true d)
 (LdI .i64 (d.cell? a) fun j =>
 J5 (j == (8:Int)) d))))
 (J5 false d))
def F111 (m n p q:Int)(r s:ByteArray)(t:Int)(u:ByteArray)(v:OA)(y z:Nat)(aa:ByteArray)(ab:OA)(ac ad:Nat)(ae af ag ah:Int)(ai aj:ByteArray)(ak:Int)(am:ByteArray)(an:OA)(aq ar:Nat)(au:ByteArray)(av:OA)(ay az:Nat)(j:World)(R:RT):Prop :=
 Al j #[.int .i64 m,.int .u64 n,.int .u64 p,.int .i64 q,.string r,.string s,.int .i64 t,.string u,.slice v y z,.string aa,.slice ab ac ad] 50 fun a w1 =>
 Al w1 #[.int .i64 ae,.int .u64 af,.int .u64 ag,.int .i64 ah,.string ai,.string aj,.int .i64 ak,.string am,.slice an aq ar,.string au,.slice av ay az] 50 fun b d =>
 LdI .u64 (d.cell? (a.add 1)) fun k =>
 LdI .u64 (d.cell? (b.add 1)) fun f =>
 Br (k != f)
 (R (.returned (.bool false)) d)
 (∃J4:Bool->World->Prop,(∀attr c,J4 attr c->F111_j4 a b attr c R) /\
 (LdI .i64 (d.cell? a) fun g =>
 Br (g == (6:Int))
 (LdI .i64 (d.cell? b) fun e =>
 Br (e == (6:Int))
 (J4 true d)
 (LdI .i64 (d.cell? b) fun i =>
 J4 (i == (7:Int)) d))
 (LdI .i64 (d.cell? a) fun h =>
 Br (h == (7:Int))
 (LdI .i64 (d.cell? b) fun e =>
 Br (e == (6:Int))
 (J4 true d)
 (LdI .i64 (d.cell? b) fun i =>
 J4 (i == (7:Int)) d))
 (J4 false d))))
theorem ok111 (a b c d:Int)(e f:ByteArray)(g:Int)(i:ByteArray)(j:OA)(k m:Nat)(n:ByteArray)(p:OA)(q r:Nat)(t u v y:Int)(z aa:ByteArray)(ab:Int)(ac:ByteArray)(ad:OA)(ae af:Nat)(ag:ByteArray)(ah:OA)(ai aj:Nat){w:World}{R:RT} (h:F111 a b c d e f g i j k m n p q r t u v y z aa ab ac ad ae af ag ah ai aj w R):Calls P0 111 #[.agg #[.int .i64 a,.int .u64 b,.int .u64 c,.int .i64 d,.string e,.string f,.int .i64 g,.string i,.slice j k m,.string n,.slice p q r],.agg #[.int .i64 t,.int .u64 u,.int .u64 v,.int .i64 y,.string z,.string aa,.int .i64 ab,.string ac,.slice ad ae af,.string ag,.slice ah ai aj]] w R :=
 vk ⟨66,⟨[]⟩,[(5,⟨[(6,(.s .bool))],[(6,55)]⟩),(4,⟨[(5,(.s .bool))],[(5,30)]⟩)],[]⟩ Tryz.func111 h
def F62_l2 (l:OA)(lN:Nat)(h_:Int)(L2:Int->World->Prop)(i:Int)(a:World)(R:RT):Prop :=
 Br (decide (i < ((lN:Nat):Int)))
 (IdxA l lN i 1 fun b =>
 LdI .u64 (a.cell? b) fun c =>
 Br (c == h_)
 (R (.returned (.bool true)) a)
 (InR .i64 (i+(1:Int))/\L2 (i+(1:Int)) a))
 (R (.returned (.bool false)) a)
def F62 (l:OA)(lN lC:Nat)(h_:Int)(a:World)(R:RT):Prop :=
 ∃(I:Int->World->Prop)(m:Int->World->Nat),I (0:Int) a /\
 ∀i w1,I i w1->F62_l2 l lN h_ (fun i' w2=>I i' w2/\m i' w2 < m i w1) i w1 R
theorem ok62 (l:OA)(a b:Nat)(c:Int){w:World}{R:RT} (h:F62 l a b c w R):Calls P0 62 #[.slice l a b,.int .u64 c] w R :=
 vk ⟨18,⟨[]⟩,[],[(2,⟨[(5,(.s (.int .i64)))],[(4,18)]⟩)]⟩ Tryz.func62 h
def F63 (d:OA)(ac ad ae af:Int)(ag ah:ByteArray)(ai:Int)(aj:ByteArray)(ak:OA)(am an:Nat)(aq:ByteArray)(ar:OA)(au av:Nat)(w_:World)(R:RT):Prop :=
 Al w_ #[.int .i64 ac,.int .u64 ad,.int .u64 ae,.int .i64 af,.string ag,.string ah,.int .i64 ai,.string aj,.slice ak am an,.string aq,.slice ar au av] 50 fun op w1 =>
 LdI .i64 (w1.cell? op) fun x9 =>
 Br (x9 == (1:Int))
 (LdI .i64 (w1.cell? (op.add 3)) fun db =>
 LdI .u64 (w1.cell? (op.add 2)) fun ta =>
 LdI .i64 (w1.cell? (op.add 6)) fun j =>
 LdStr (w1.cell? ((op.add 6).add 1)) fun s =>
 LdSl (w1.cell? ((op.add 6).add 2)) fun ba g a =>
 LdStr (w1.cell? ((op.add 6).add 3)) fun z =>
 LdSl (w1.cell? ((op.add 6).add 4)) fun y c b =>
 Calls P0 27 #[.pointer d,.int .i64 db,.int .u64 ta,.agg #[.int .i64 j,.string s,.slice ba g a,.string z,.slice y c b]] w1 (post R fun v ca =>
 ∃aa q,v=(.tuple #[.int .u64 aa,.int .i64 q]) /\
 R (.returned (.tuple #[.int .u64 aa,.int .i64 q])) ca))
 (Br (x9 == (2:Int))
 (LdI .u64 (w1.cell? (op.add 1)) fun ab =>
 LdI .i64 (w1.cell? (op.add 3)) fun ia =>
 LdI .u64 (w1.cell? (op.add 2)) fun va =>
 Calls P0 45 #[.pointer d,.int .u64 ab,.int .i64 ia,.int .u64 va] w1 (post R fun v ca =>
 ∃ra,v=(.int .i64 ra) /\
 R (.returned (.tuple #[.int .u64 0,.int .i64 ra])) ca))
 (Br (x9 == (3:Int))
 (LdI .u64 (w1.cell? (op.add 1)) fun sa =>
 Calls P0 46 #[.pointer d,.int .u64 sa] w1 (post R fun v ca =>
 ∃cb,v=(.int .i64 cb) /\
 R (.returned (.tuple #[.int .u64 0,.int .i64 cb])) ca))
 (Br (x9 == (4:Int))
 (LdI .u64 (w1.cell? (op.add 1)) fun ka =>
 LdStr (w1.cell? (op.add 4)) fun eb =>
 Calls P0 47 #[.pointer d,.int .u64 ka,.string eb] w1 (post R fun v ca =>
 ∃fa,v=(.int .i64 fa) /\
 R (.returned (.tuple #[.int .u64 0,.int .i64 fa])) ca))
 (Br (x9 == (5:Int))
 (LdI .u64 (w1.cell? (op.add 1)) fun fb =>
 LdStr (w1.cell? (op.add 5)) fun ya =>
 Calls P0 48 #[.pointer d,.int .u64 fb,.string ya] w1 (post R fun v ca =>
 ∃ea,v=(.int .i64 ea) /\
 R (.returned (.tuple #[.int .u64 0,.int .i64 ea])) ca))
 (Br (x9 == (6:Int))
 (LdI .u64 (w1.cell? (op.add 1)) fun ga =>
 LdStr (w1.cell? (op.add 4)) fun pa =>
 LdStr (w1.cell? (op.add 5)) fun ma =>
 Calls P0 49 #[.pointer d,.int .u64 ga,.string pa,.string ma] w1 (post R fun v ca =>
 ∃ja,v=(.int .i64 ja) /\
 R (.returned (.tuple #[.int .u64 0,.int .i64 ja])) ca))
 (Br (x9 == (7:Int))
 (LdI .u64 (w1.cell? (op.add 1)) fun na =>
 LdStr (w1.cell? (op.add 4)) fun bb =>
 Calls P0 50 #[.pointer d,.int .u64 na,.string bb] w1 (post R fun v ca =>
 ∃ha,v=(.int .i64 ha) /\
 R (.returned (.tuple #[.int .u64 0,.int .i64 ha])) ca))
 (LdI .u64 (w1.cell? (op.add 1)) fun qa =>
 LdI .i64 (w1.cell? (op.add 6)) fun m =>
 LdStr (w1.cell? ((op.add 6).add 1)) fun p =>
 LdSl (w1.cell? ((op.add 6).add 2)) fun r i e =>
 LdStr (w1.cell? ((op.add 6).add 3)) fun t =>
 LdSl (w1.cell? ((op.add 6).add 4)) fun k h f =>
 Calls P0 27 #[.pointer d,.int .i64 3,.int .u64 qa,.agg #[.int .i64 m,.string p,.slice r i e,.string t,.slice k h f]] w1 (post R fun v ca =>
 ∃u n,v=(.tuple #[.int .u64 u,.int .i64 n]) /\
 Br (n != (0:Int))
 (R (.returned (.tuple #[.int .u64 0,.int .i64 n])) ca)
 (LdI .u64 (ca.cell? (op.add 1)) fun ua =>
 Calls P0 46 #[.pointer d,.int .u64 ua] ca (post R fun v2 da =>
 ∃za,v2=(.int .i64 za) /\
 R (.returned (.tuple #[.int .u64 u,.int .i64 za])) da))))))))))
theorem ok63 (d:OA)(a b c e:Int)(f g:ByteArray)(i:Int)(j:ByteArray)(k:OA)(m n:Nat)(p:ByteArray)(q:OA)(r s:Nat){w:World}{R:RT} (h:F63 d a b c e f g i j k m n p q r s w R):Calls P0 63 #[.pointer d,.agg #[.int .i64 a,.int .u64 b,.int .u64 c,.int .i64 e,.string f,.string g,.int .i64 i,.string j,.slice k m n,.string p,.slice q r s]] w R :=
 vk ⟨89,⟨[]⟩,[],[]⟩ Tryz.func63 h
def F81 (b:Int)(a:World)(R:RT):Prop :=
 Br (b == (1:Int))
 (R (.returned (.int .i64 1)) a)
 (Br (b == (2:Int))
 (R (.returned (.int .i64 2)) a)
 (Br (b == (8:Int))
 (R (.returned (.int .i64 3)) a)
 (Br (b == (3:Int))
 (R (.returned (.int .i64 4)) a)
 (R (.returned (.int .i64 0)) a))))
theorem ok81 (a:Int){w:World}{R:RT} (h:F81 a w R):Calls P0 81 #[.int .i64 a] w R :=
 vk ⟨12,⟨[]⟩,[],[]⟩ Tryz.func81 h
def F22_l7 (d l:OA)(lN:Nat)(j:OA)(i h:Nat)(y:OA)(f ab:Nat)(L7:Int->World->Prop)(aa:Int)(ba:World)(R:RT):Prop :=
 Br (decide (aa < ((f:Nat):Int)))
 (IdxA y f aa 1 fun ca =>
 LdI .i64 (ba.cell? ca) fun da =>
 IdxA l lN da 11 fun ea =>
 LdI .i64 (ba.cell? ea) fun q =>
 LdI .u64 (ba.cell? (ea.add 1)) fun u =>
 LdI .u64 (ba.cell? (ea.add 2)) fun r =>
 LdI .i64 (ba.cell? (ea.add 3)) fun p =>
 LdStr (ba.cell? (ea.add 4)) fun t =>
 LdStr (ba.cell? (ea.add 5)) fun v =>
 LdI .i64 (ba.cell? (ea.add 6)) fun s =>
 LdStr (ba.cell? (ea.add 7)) fun k =>
 LdSl (ba.cell? (ea.add 8)) fun n e c =>
 LdStr (ba.cell? (ea.add 9)) fun m =>
 LdSl (ba.cell? (ea.add 10)) fun g b a =>
 Calls P0 59 #[(.iface 58 (.pointer d)),(.func (.func 30) #[.pointer d] #[]),(.map (some ab)),.agg #[.int .i64 q,.int .u64 u,.int .u64 r,.int .i64 p,.string t,.string v,.int .i64 s,.string k,.slice n e c,.string m,.slice g b a]] ba (post R fun v3 z =>
 v3=(.tuple #[]) /\
 InR .i64 (aa+(1:Int))/\L7 (aa+(1:Int)) z))
 (R (.returned (.tuple #[.slice j i h,.int .i64 0,.int .i64 0])) ba)
def F22 (d l:OA)(lN lC:Nat)(r:World)(R:RT):Prop :=
 Calls P0 20 #[.pointer d,.slice l lN lC] r (post R fun v w1 =>
 ∃f e b j i,v=(.tuple #[.slice f e b,.int .i64 j,.int .i64 i]) /\
 Br (i != (0:Int))
 (R (.returned (.tuple #[.slice none 0 0,.int .i64 j,.int .i64 i])) w1)
 (Calls P0 29 #[.slice l lN lC] w1 (post R fun v2 p =>
 ∃g c a h,v2=(.tuple #[.slice g c a,.int .i64 h]) /\
 AlM p fun r31 n =>
 ∃(I:Int->World->Prop)(m:Int->World->Nat),I (0:Int) n /\
 ∀q k,I q k->F22_l7 d l lN f e b g c r31 (fun q' w2=>I q' w2/\m q' w2 < m q k) q k R)))
theorem ok22 (d l:OA)(a b:Nat){w:World}{R:RT} (h:F22 d l a b w R):Calls P0 22 #[.pointer d,.slice l a b] w R :=
 vk ⟨50,⟨[]⟩,[],[(7,⟨[(34,(.s (.int .i64)))],[(14,15),(34,49)]⟩)]⟩ Tryz.func22 h
def F74_j21 (L5:Int->World->Prop)(b:Int)(a:World)(R:RT):Prop :=
 InR .i64 (b+(1:Int))/\L5 (b+(1:Int)) a
def F74_l14 (ae:Nat)(yc:Int)(af:World->Prop)(op:Addr)(bd:OA)(jc:Nat)(ag:Int->World->Prop)(sc:Int)(zc:World)(R:RT):Prop :=
 Br (decide (sc < ((jc:Nat):Int)))
 (IdxA bd jc sc 11 fun tc =>
 LdI .i64 (zc.cell? tc) fun ub =>
 LdI .u64 (zc.cell? (tc.add 1)) fun sb =>
 LdI .u64 (zc.cell? (tc.add 2)) fun gc =>
 LdI .i64 (zc.cell? (tc.add 3)) fun ha =>
 LdStr (zc.cell? (tc.add 4)) fun pb =>
 LdStr (zc.cell? (tc.add 5)) fun na =>
 LdI .i64 (zc.cell? (tc.add 6)) fun kb =>
 LdStr (zc.cell? (tc.add 7)) fun za =>
 LdSl (zc.cell? (tc.add 8)) fun ia p k =>
 LdStr (zc.cell? (tc.add 9)) fun aa =>
 LdSl (zc.cell? (tc.add 10)) fun r e g =>
 Al zc #[.int .i64 0,.int .u64 0,.int .u64 0,.int .i64 0,(.string (ByteArray.mk #[])),(.string (ByteArray.mk #[])),.int .i64 0,(.string (ByteArray.mk #[])),.slice none 0 0,(.string (ByteArray.mk #[])),.slice none 0 0] 50 fun o ka =>
 St ka o (.int .i64 ub) fun ac =>
 St ac (o.add 1) (.int .u64 sb) fun sa =>
 St sa (o.add 2) (.int .u64 gc) fun qa =>
 St qa (o.add 3) (.int .i64 ha) fun va =>
 St va (o.add 4) (.string pb) fun bb =>
 St bb (o.add 5) (.string na) fun ga =>
 St ga (o.add 6) (.int .i64 kb) fun ec =>
 St ec (o.add 7) (.string za) fun qb =>
 St qb (o.add 8) (.slice ia p k) fun ta =>
 St ta (o.add 9) (.string aa) fun eb =>
 St eb (o.add 10) (.slice r e g) fun fc =>
 LdI .i64 (fc.cell? o) fun bc =>
 LdI .u64 (fc.cell? (o.add 1)) fun mb =>
 LdI .u64 (fc.cell? (o.add 2)) fun ya =>
 LdI .i64 (fc.cell? (o.add 3)) fun jb =>
 LdStr (fc.cell? (o.add 4)) fun z =>
 LdStr (fc.cell? (o.add 5)) fun ua =>
 LdI .i64 (fc.cell? (o.add 6)) fun nb =>
 LdStr (fc.cell? (o.add 7)) fun ba =>
 LdSl (fc.cell? (o.add 8)) fun ab u n =>
 LdStr (fc.cell? (o.add 9)) fun ra =>
 LdSl (fc.cell? (o.add 10)) fun t a f =>
 LdI .i64 (fc.cell? op) fun fa =>
 LdI .u64 (fc.cell? (op.add 1)) fun vb =>
 LdI .u64 (fc.cell? (op.add 2)) fun tb =>
 LdI .i64 (fc.cell? (op.add 3)) fun ib =>
 LdStr (fc.cell? (op.add 4)) fun ja =>
 LdStr (fc.cell? (op.add 5)) fun gb =>
 LdI .i64 (fc.cell? (op.add 6)) fun y =>
 LdStr (fc.cell? (op.add 7)) fun dc =>
 LdSl (fc.cell? (op.add 8)) fun cb s v =>
 LdStr (fc.cell? (op.add 9)) fun da =>
 LdSl (fc.cell? (op.add 10)) fun j b c =>
 Calls P0 130 #[.agg #[.int .i64 bc,.int .u64 mb,.int .u64 ya,.int .i64 jb,.string z,.string ua,.int .i64 nb,.string ba,.slice ab u n,.string ra,.slice t a f],.agg #[.int .i64 fa,.int .u64 vb,.int .u64 tb,.int .i64 ib,.string ja,.string gb,.int .i64 y,.string dc,.slice cb s v,.string da,.slice j b c]] fc (post R fun v2 yb =>
 ∃dd,v2=(.bool dd) /\
 Br dd
 (R (.returned (.tuple #[.int .i64 yc,.int .i64 171])) yb)
 (InR .i64 (sc+(1:Int))/\ag (sc+(1:Int)) yb)))
 (LdI .i64 (zc.cell? op) fun vc =>
 Calls P0 131 #[.int .i64 vc] zc (post R fun v2 ka =>
 ∃cd,v2=(.bool cd) /\
 Br cd
 (∃S:World->Prop,S ka.drew/\∃uc,Held S (op.add 1) (.int .u64 uc)/\∃rc,Held S (op.add 1) (.int .u64 rc)/\∃ca,Held S op (.int .i64 ca)/\∃hb,Held S (op.add 1) (.int .u64 hb)/\∃ma,Held S (op.add 2) (.int .u64 ma)/\∃zb,Held S (op.add 3) (.int .i64 zb)/\∃cc,Held S (op.add 4) (.string cc)/\∃rb,Held S (op.add 5) (.string rb)/\∃fb,Held S (op.add 6) (.int .i64 fb)/\∃db,Held S (op.add 7) (.string db)/\∃pa q i,Held S (op.add 8) (.slice pa q i)/\∃ea,Held S (op.add 9) (.string ea)/\∃m d h,Held S (op.add 10) (.slice m d h)/\(Raw P0 (Instr.lookup 223 (.map (some ae)) (.int .u64 rc) false) ka.drew fun v3 sa =>
 ∃qc hc mc,v3=(.slice qc hc mc) /\
 S sa/\Al sa #[.int .i64 ca,.int .u64 hb,.int .u64 ma,.int .i64 zb,.string cc,.string rb,.int .i64 fb,.string db,.slice pa q i,.string ea,.slice m d h] 50 fun g75 qa =>
 S qa/\Raw P0 (Builtin.append_ #[26,26] 26 #[.slice qc hc mc,(.slice (some g75) 1 1)]) qa fun v4 va =>
 ∃nc kc ic,v4=(.slice nc kc ic) /\
 S va/\Raw P0 (Instr.mapUpdate 223 (.map (some ae)) (.int .u64 uc) (.slice nc kc ic)) va fun _ bb =>
 af bb)
 /\ (Al ka.drew #[.int .i64 ca,.int .u64 hb,.int .u64 ma,.int .i64 zb,.string cc,.string rb,.int .i64 fb,.string db,.slice pa q i,.string ea,.slice m d h] 50 fun g75 sa =>
 S sa/\Raw P0 (Instr.lookup 223 (.map (some ae)) (.int .u64 rc) false) sa fun v3 qa =>
 ∃qc hc mc,v3=(.slice qc hc mc) /\
 S qa/\Raw P0 (Builtin.append_ #[26,26] 26 #[.slice qc hc mc,(.slice (some g75) 1 1)]) qa fun v4 va =>
 ∃nc kc ic,v4=(.slice nc kc ic) /\
 S va/\Raw P0 (Instr.mapUpdate 223 (.map (some ae)) (.int .u64 uc) (.slice nc kc ic)) va fun _ bb =>
 af bb))
 (LdI .i64 (ka.cell? op) fun pc =>
 Calls P0 132 #[.int .i64 pc] ka (post R fun v3 ac =>
 ∃ad,v3=(.bool ad) /\
 Br ad
 (∃S:World->Prop,S ac.drew/\∃uc,Held S (op.add 1) (.int .u64 uc)/\∃rc,Held S (op.add 1) (.int .u64 rc)/\∃ca,Held S op (.int .i64 ca)/\∃hb,Held S (op.add 1) (.int .u64 hb)/\∃ma,Held S (op.add 2) (.int .u64 ma)/\∃zb,Held S (op.add 3) (.int .i64 zb)/\∃cc,Held S (op.add 4) (.string cc)/\∃rb,Held S (op.add 5) (.string rb)/\∃fb,Held S (op.add 6) (.int .i64 fb)/\∃db,Held S (op.add 7) (.string db)/\∃pa q i,Held S (op.add 8) (.slice pa q i)/\∃ea,Held S (op.add 9) (.string ea)/\∃m d h,Held S (op.add 10) (.slice m d h)/\(Raw P0 (Instr.lookup 223 (.map (some ae)) (.int .u64 rc) false) ac.drew fun v4 qa =>
 ∃qc hc mc,v4=(.slice qc hc mc) /\
 S qa/\Al qa #[.int .i64 ca,.int .u64 hb,.int .u64 ma,.int .i64 zb,.string cc,.string rb,.int .i64 fb,.string db,.slice pa q i,.string ea,.slice m d h] 50 fun g75 va =>
 S va/\Raw P0 (Builtin.append_ #[26,26] 26 #[.slice qc hc mc,(.slice (some g75) 1 1)]) va fun v5 bb =>
 ∃nc kc ic,v5=(.slice nc kc ic) /\
 S bb/\Raw P0 (Instr.mapUpdate 223 (.map (some ae)) (.int .u64 uc) (.slice nc kc ic)) bb fun _ ga =>
 af ga)
 /\ (Al ac.drew #[.int .i64 ca,.int .u64 hb,.int .u64 ma,.int .i64 zb,.string cc,.string rb,.int .i64 fb,.string db,.slice pa q i,.string ea,.slice m d h] 50 fun g75 qa =>
 S qa/\Raw P0 (Instr.lookup 223 (.map (some ae)) (.int .u64 rc) false) qa fun v4 va =>
 ∃qc hc mc,v4=(.slice qc hc mc) /\
 S va/\Raw P0 (Builtin.append_ #[26,26] 26 #[.slice qc hc mc,(.slice (some g75) 1 1)]) va fun v5 bb =>
 ∃nc kc ic,v5=(.slice nc kc ic) /\
 S bb/\Raw P0 (Instr.mapUpdate 223 (.map (some ae)) (.int .u64 uc) (.slice nc kc ic)) bb fun _ ga =>
 af ga))
 (af ac)))))
def F74_j13 (j:Nat)(e:Int)(k:World->Prop)(op:Addr)(i:World)(R:RT):Prop :=
 LdI .u64 (i.cell? (op.add 1)) fun f =>
 Raw P0 (Instr.lookup 223 (.map (some j)) (.int .u64 f) false) i fun v a =>
 ∃h c d,v=(.slice h c d) /\
 ∃(I:Int->World->Prop)(m:Int->World->Nat),I (0:Int) a /\
 ∀g b,I g b->F74_l14 j e k op h c (fun g' w2=>I g' w2/\m g' w2 < m g b) g b R
def F74_j9 (r:Nat)(q:Int)(s:World->Prop)(op:Addr)(p:World)(R:RT):Prop :=
 ∃J13:World->Prop,(∀e,J13 e->F74_j13 r q s op e R) /\
 (LdI .i64 (p.cell? op) fun k =>
 Br (k == (1:Int))
 (LdI .i64 (p.cell? (op.add 6)) fun f =>
 LdStr (p.cell? ((op.add 6).add 1)) fun j =>
 LdSl (p.cell? ((op.add 6).add 2)) fun h d c =>
 LdStr (p.cell? ((op.add 6).add 3)) fun g =>
 LdSl (p.cell? ((op.add 6).add 4)) fun i a b =>
 Calls P0 129 #[.agg #[.int .i64 f,.string j,.slice h d c,.string g,.slice i a b]] p (post R fun v e =>
 ∃n,v=(.int .i64 n) /\
 Br (n != (0:Int))
 (R (.returned (.tuple #[.int .i64 q,.int .i64 n])) e)
 (J13 e)))
 (LdI .i64 (p.cell? op) fun m =>
 Br (m == (8:Int))
 (LdI .i64 (p.cell? (op.add 6)) fun f =>
 LdStr (p.cell? ((op.add 6).add 1)) fun j =>
 LdSl (p.cell? ((op.add 6).add 2)) fun h d c =>
 LdStr (p.cell? ((op.add 6).add 3)) fun g =>
 LdSl (p.cell? ((op.add 6).add 4)) fun i a b =>
 Calls P0 129 #[.agg #[.int .i64 f,.string j,.slice h d c,.string g,.slice i a b]] p (post R fun v e =>
 ∃n,v=(.int .i64 n) /\
 Br (n != (0:Int))
 (R (.returned (.tuple #[.int .i64 q,.int .i64 n])) e)
 (J13 e)))
 (J13 p)))
def F74_l5 (l:OA)(lN ab:Nat)(L5:Int->World->Prop)(ia:Int)(ja:World)(R:RT):Prop :=
 Br (decide (ia < ((lN:Nat):Int)))
 (∃J21:World->Prop,(∀ba,J21 ba->F74_j21 L5 ia ba R) /\
 (IdxA l lN ia 11 fun ha =>
 LdI .i64 (ja.cell? ha) fun u =>
 LdI .u64 (ja.cell? (ha.add 1)) fun q =>
 LdI .u64 (ja.cell? (ha.add 2)) fun r =>
 LdI .i64 (ja.cell? (ha.add 3)) fun s =>
 LdStr (ja.cell? (ha.add 4)) fun t =>
 LdStr (ja.cell? (ha.add 5)) fun f =>
 LdI .i64 (ja.cell? (ha.add 6)) fun k =>
 LdStr (ja.cell? (ha.add 7)) fun m =>
 LdSl (ja.cell? (ha.add 8)) fun j e c =>
 LdStr (ja.cell? (ha.add 9)) fun p =>
 LdSl (ja.cell? (ha.add 10)) fun d b a =>
 Al ja #[.int .i64 0,.int .u64 0,.int .u64 0,.int .i64 0,(.string (ByteArray.mk #[])),(.string (ByteArray.mk #[])),.int .i64 0,(.string (ByteArray.mk #[])),.slice none 0 0,(.string (ByteArray.mk #[])),.slice none 0 0] 50 fun op ba =>
 St ba op (.int .i64 u) fun fa =>
 St fa (op.add 1) (.int .u64 q) fun ea =>
 St ea (op.add 2) (.int .u64 r) fun y =>
 St y (op.add 3) (.int .i64 s) fun ca =>
 St ca (op.add 4) (.string t) fun aa =>
 St aa (op.add 5) (.string f) fun da =>
 St da (op.add 6) (.int .i64 k) fun z =>
 St z (op.add 7) (.string m) fun h =>
 St h (op.add 8) (.slice j e c) fun g =>
 St g (op.add 9) (.string p) fun v =>
 St v (op.add 10) (.slice d b a) fun n =>
 ∃J9:World->Prop,(∀i,J9 i->F74_j9 ab ia J21 op i R) /\
 (LdI .i64 (n.cell? op) fun ga =>
 Br (decide (ga < (1:Int)))
 (R (.returned (.tuple #[.int .i64 ia,.int .i64 170])) n)
 (LdI .i64 (n.cell? op) fun ka =>
 Br (decide (ka > (8:Int)))
 (R (.returned (.tuple #[.int .i64 ia,.int .i64 170])) n)
 (J9 n)))))
 (R (.returned (.tuple #[.int .i64 0,.int .i64 0])) ja)
def F74 (l:OA)(lN lC:Nat)(c:World)(R:RT):Prop :=
 Br (decide (((lN:Nat):Int) > (4096:Int)))
 (R (.returned (.tuple #[.int .i64 0,.int .i64 2])) c)
 (AlM c fun r13 w1 =>
 ∃(I:Int->World->Prop)(m:Int->World->Nat),I (0:Int) w1 /\
 ∀b a,I b a->F74_l5 l lN r13 (fun b' w2=>I b' w2/\m b' w2 < m b a) b a R)
theorem ok74 (l:OA)(a b:Nat){w:World}{R:RT} (h:F74 l a b w R):Calls P0 74 #[.slice l a b] w R :=
 vk ⟨78,⟨[]⟩,[(13,⟨[],[(2,4),(7,8),(30,45)]⟩),(9,⟨[],[(2,4),(21,30)]⟩),(21,⟨[],[(2,4),(5,10),(18,77)]⟩)],[(14,⟨[(50,(.s (.int .i64)))],[(2,4),(9,10),(50,59)]⟩),(5,⟨[(16,(.s (.int .i64)))],[(2,4),(5,10),(16,78)]⟩)]⟩ Tryz.func74 h
def F29_j13 (L9:OA->Nat->Nat->Int->World->Prop)(b:Int)(c:OA)(d e:Nat)(a:World)(R:RT):Prop :=
 InR .i64 (b+(1:Int))/\L9 c d e (b+(1:Int)) a
def F29_l9 (l:OA)(lN:Nat)(L6:OA->Nat->Nat->Int->World->Prop)(ka:Int)(L9:OA->Nat->Nat->Int->World->Prop)(ab:OA)(ac ad:Nat)(ra:Int)(pa:World)(R:RT):Prop :=
 Br (decide (ra < ((lN:Nat):Int)))
 (∃J13:OA->Nat->Nat->World->Prop,(∀out3 outN3 outC3 ja,J13 out3 outN3 outC3 ja->F29_j13 L9 ra out3 outN3 outC3 ja R) /\
 (IdxA l lN ra 11 fun sa =>
 LdI .i64 (pa.cell? sa) fun s =>
 LdI .u64 (pa.cell? (sa.add 1)) fun n =>
 LdI .u64 (pa.cell? (sa.add 2)) fun p =>
 LdI .i64 (pa.cell? (sa.add 3)) fun m =>
 LdStr (pa.cell? (sa.add 4)) fun u =>
 LdStr (pa.cell? (sa.add 5)) fun v =>
 LdI .i64 (pa.cell? (sa.add 6)) fun h =>
 LdStr (pa.cell? (sa.add 7)) fun t =>
 LdSl (pa.cell? (sa.add 8)) fun q e d =>
 LdStr (pa.cell? (sa.add 9)) fun z =>
 LdSl (pa.cell? (sa.add 10)) fun c a b =>
 Al pa #[.int .i64 0,.int .u64 0,.int .u64 0,.int .i64 0,(.string (ByteArray.mk #[])),(.string (ByteArray.mk #[])),.int .i64 0,(.string (ByteArray.mk #[])),.slice none 0 0,(.string (ByteArray.mk #[])),.slice none 0 0] 50 fun op ja =>
 St ja op (.int .i64 s) fun ia =>
 St ia (op.add 1) (.int .u64 n) fun ba =>
 St ba (op.add 2) (.int .u64 p) fun ga =>
 St ga (op.add 3) (.int .i64 m) fun fa =>
 St fa (op.add 4) (.string u) fun ha =>
 St ha (op.add 5) (.string v) fun ca =>
 St ca (op.add 6) (.int .i64 h) fun g =>
 St g (op.add 7) (.string t) fun f =>
 St f (op.add 8) (.slice q e d) fun aa =>
 St aa (op.add 9) (.string z) fun j =>
 St j (op.add 10) (.slice c a b) fun i =>
 LdI .i64 (i.cell? op) fun na =>
 Calls P0 75 #[.int .i64 na] i (post R fun v2 y =>
 ∃ma,v2=(.int .i64 ma) /\
 Br (ma == ka)
 (Al y #[.int .i64 ra] 3 fun g38 r =>
 Raw P0 (Builtin.append_ #[71,71] 71 #[.slice ab ac ad,(.slice (some g38) 1 1)]) r fun v3 k =>
 ∃qa ea da,v3=(.slice qa ea da) /\
 J13 qa ea da k)
 (J13 ab ac ad y))))
 (InR .i64 (ka+(1:Int))/\L6 ab ac ad (ka+(1:Int)) pa)
def F29_l6 (l:OA)(lN:Nat)(L6:OA->Nat->Nat->Int->World->Prop)(e:OA)(f g:Nat)(b:Int)(c:World)(R:RT):Prop :=
 Br (decide (b < (5:Int)))
 (∃(I:OA->Nat->Nat->Int->World->Prop)(m:OA->Nat->Nat->Int->World->Nat),I e f g (0:Int) c /\
 ∀out2 outN2 outC2 d a,I out2 outN2 outC2 d a->F29_l9 l lN L6 b (fun out2' outN2' outC2' d' w2=>I out2' outN2' outC2' d' w2/\m out2' outN2' outC2' d' w2 < m out2 outN2 outC2 d a) out2 outN2 outC2 d a R)
 (R (.returned (.tuple #[.slice e f g,.int .i64 0])) c)
def F29 (l:OA)(lN lC:Nat)(f:World)(R:RT):Prop :=
 Calls P0 74 #[.slice l lN lC] f (post R fun v w1 =>
 ∃a b,v=(.tuple #[.int .i64 a,.int .i64 b]) /\
 Br (b != (0:Int))
 (R (.returned (.tuple #[.slice none 0 0,.int .i64 b])) w1)
 (0<=(0:Int)/\(0:Int)<=((lN:Nat):Int)/\((8:Nat):Int)*((lN:Nat):Int)<=281474976710656/\Al w1 (zrow #[.int .i64 0] ((((lN:Nat):Int)).toNat*1)) 3 fun g20 d =>
 ∃(I:OA->Nat->Nat->Int->World->Prop)(m:OA->Nat->Nat->Int->World->Nat),I (some g20) ((0:Int)).toNat (((lN:Nat):Int)).toNat (0:Int) d /\
 ∀out outN outC e c,I out outN outC e c->F29_l6 l lN (fun out' outN' outC' e' w2=>I out' outN' outC' e' w2/\m out' outN' outC' e' w2 < m out outN outC e c) out outN outC e c R))
theorem ok29 (l:OA)(a b:Nat){w:World}{R:RT} (h:F29 l a b w R):Calls P0 29 #[.slice l a b] w R :=
 vk ⟨43,⟨[]⟩,[(13,⟨[(6,(.s .slice))],[(6,7),(8,10),(28,40)]⟩)],[(9,⟨[(6,(.s .slice)),(26,(.s (.int .i64)))],[(6,7),(8,10),(26,41)]⟩),(6,⟨[(6,(.s .slice)),(21,(.s (.int .i64)))],[(6,42)]⟩)]⟩ Tryz.func29 h
def F20 (d l:OA)(lN lC:Nat)(i:World)(R:RT):Prop :=
 Br (d).isNone
 (R (.returned (.tuple #[.slice none 0 0,.int .i64 0,.int .i64 1])) i)
 (Calls P0 30 #[.pointer d] i (post R fun v w1 =>
 ∃h,v=(.pointer h) /\
 Calls P0 56 #[.pointer h,.slice l lN lC] w1 (post R fun v2 g =>
 ∃e a b f c,v2=(.tuple #[.slice e a b,.int .i64 f,.int .i64 c]) /\
 R (.returned (.tuple #[.slice e a b,.int .i64 f,.int .i64 c])) g)))
theorem ok20 (d l:OA)(a b:Nat){w:World}{R:RT} (h:F20 d l a b w R):Calls P0 20 #[.pointer d,.slice l a b] w R :=
 vk ⟨16,⟨[]⟩,[],[]⟩ Tryz.func20 h
def F132 (b:Int)(a:World)(R:RT):Prop :=
 Br (b == (6:Int))
 (R (.returned (.bool true)) a)
 (R (.returned (.bool (b == (7:Int)))) a)
theorem ok132 (a:Int){w:World}{R:RT} (h:F132 a w R):Calls P0 132 #[.int .i64 a] w R :=
 vk ⟨9,⟨[]⟩,[],[]⟩ Tryz.func132 h
def F130_j5 (a b:Addr)(f:World)(R:RT):Prop :=
 LdI .i64 (f.cell? a) fun j =>
 Calls P0 132 #[.int .i64 j] f (post R fun v d =>
 ∃e,v=(.bool e) /\
 Br e
 (LdI .i64 (d.cell? b) fun g =>
 Calls P0 132 #[.int .i64 g] d (post R fun v2 c =>
 ∃i,v2=(.bool i) /\
 Br i
 (LdStr (c.cell? (a.add 4)) fun h =>
 LdStr (c.cell? (b.add 4)) fun k =>
 R (.returned (.bool (h.toList == k.toList))) c)
 (R (.returned (.bool false)) c)))
 (R (.returned (.bool false)) d))
def F130 (m n p q:Int)(r s:ByteArray)(t:Int)(u:ByteArray)(y:OA)(z aa:Nat)(ab:ByteArray)(ac:OA)(ad ae:Nat)(af ag ah ai:Int)(aj ak:ByteArray)(am:Int)(an:ByteArray)(aq:OA)(ar au:Nat)(av:ByteArray)(ay:OA)(az ba:Nat)(j:World)(R:RT):Prop :=
 Al j #[.int .i64 m,.int .u64 n,.int .u64 p,.int .i64 q,.string r,.string s,.int .i64 t,.string u,.slice y z aa,.string ab,.slice ac ad ae] 50 fun a w1 =>
 Al w1 #[.int .i64 af,.int .u64 ag,.int .u64 ah,.int .i64 ai,.string aj,.string ak,.int .i64 am,.string an,.slice aq ar au,.string av,.slice ay az ba] 50 fun b d =>
 ∃J5:World->Prop,(∀c,J5 c->F130_j5 a b c R) /\
 (LdI .u64 (d.cell? (a.add 1)) fun i =>
 LdI .u64 (d.cell? (b.add 1)) fun k =>
 Br (i != k)
 (R (.returned (.bool false)) d)
 (LdI .i64 (d.cell? a) fun g =>
 LdI .i64 (d.cell? b) fun e =>
 Br (g == e)
 (LdI .i64 (d.cell? a) fun h =>
 Calls P0 131 #[.int .i64 h] d (post R fun v c =>
 ∃f,v=(.bool f) /\
 Br f
 (R (.returned (.bool true)) c)
 (J5 c)))
 (J5 d)))
theorem ok130 (a b c d:Int)(e f:ByteArray)(g:Int)(i:ByteArray)(j:OA)(k m:Nat)(n:ByteArray)(p:OA)(q r:Nat)(s t u v:Int)(y z:ByteArray)(aa:Int)(ab:ByteArray)(ac:OA)(ad ae:Nat)(af:ByteArray)(ag:OA)(ah ai:Nat){w:World}{R:RT} (h:F130 a b c d e f g i j k m n p q r s t u v y z aa ab ac ad ae af ag ah ai w R):Calls P0 130 #[.agg #[.int .i64 a,.int .u64 b,.int .u64 c,.int .i64 d,.string e,.string f,.int .i64 g,.string i,.slice j k m,.string n,.slice p q r],.agg #[.int .i64 s,.int .u64 t,.int .u64 u,.int .i64 v,.string y,.string z,.int .i64 aa,.string ab,.slice ac ad ae,.string af,.slice ag ah ai]] w R :=
 vk ⟨37,⟨[]⟩,[(5,⟨[],[(4,22)]⟩)],[]⟩ Tryz.func130 h
def F59_l7 (d:Value)(k:Option Nat)(op:Addr)(b:OA)(a:Nat)(L7:Int->World->Prop)(h:Int)(i:World)(R:RT):Prop :=
 Br (decide (h < ((a:Nat):Int)))
 (IdxA b a h 1 fun g =>
 LdI .u64 (i.cell? g) fun f =>
 Raw P0 (Instr.mapUpdate 122 (.map k) (.int .u64 f) (.bool true)) i fun _ c =>
 InR .i64 (h+(1:Int))/\L7 (h+(1:Int)) c)
 (LdI .u64 (i.cell? (op.add 1)) fun j =>
 CallM P0 d "Delete" #[.int .u64 j] i R (fun v3 c =>
 ∃e,v3=(.int .i64 e) /\
 R (.returned (.tuple #[])) c))
def F59_j5 (d p:Value)(q:Option Nat)(op:Addr)(j:World)(R:RT):Prop :=
 ∃S:World->Prop,S j.drew/\∃i,Held S (op.add 1) (.int .u64 i)/\CallV P0 p #[] j.drew R (fun v h =>
 ∃n,v=(.pointer n) /\
 S h/\Calls P0 90 #[.pointer n,.int .u64 i] h (post R fun v2 f =>
 ∃e a b c,v2=(.tuple #[.slice e a b,.int .i64 c]) /\
 ∃(I:Int->World->Prop)(m:Int->World->Nat),I (0:Int) f /\
 ∀k g,I k g->F59_l7 d q op e a (fun k' w2=>I k' w2/\m k' w2 < m k g) k g R))
def F59_j2 (d ac:Value)(ad:Option Nat)(op:Addr)(ra:World)(R:RT):Prop :=
 LdI .i64 (ra.cell? op) fun ia =>
 Br (ia == (4:Int))
 (LdI .u64 (ra.cell? (op.add 1)) fun ya =>
 LdStr (ra.cell? (op.add 4)) fun ua =>
 CallM P0 d "SetName" #[.int .u64 ya, (.string ua)] ra R (fun v ga =>
 ∃ka,v=(.int .i64 ka) /\
 R (.returned (.tuple #[])) ga))
 (Br (ia == (5:Int))
 (LdI .u64 (ra.cell? (op.add 1)) fun ta =>
 LdStr (ra.cell? (op.add 5)) fun bb =>
 CallM P0 d "SetText" #[.int .u64 ta, (.string bb)] ra R (fun v ga =>
 ∃ja,v=(.int .i64 ja) /\
 R (.returned (.tuple #[])) ga))
 (Br (ia == (6:Int))
 (LdI .u64 (ra.cell? (op.add 1)) fun va =>
 LdStr (ra.cell? (op.add 4)) fun na =>
 LdStr (ra.cell? (op.add 5)) fun db =>
 CallM P0 d "SetAttr" #[.int .u64 va, (.string na), (.string db)] ra R (fun v ga =>
 ∃cb,v=(.int .i64 cb) /\
 R (.returned (.tuple #[])) ga))
 (Br (ia == (7:Int))
 (LdI .u64 (ra.cell? (op.add 1)) fun sa =>
 LdStr (ra.cell? (op.add 4)) fun ma =>
 CallM P0 d "DropAttr" #[.int .u64 sa, (.string ma)] ra R (fun v ga =>
 ∃pa,v=(.int .i64 pa) /\
 R (.returned (.tuple #[])) ga))
 (Br (ia == (1:Int))
 (LdI .i64 (ra.cell? (op.add 3)) fun qa =>
 LdI .u64 (ra.cell? (op.add 2)) fun ab =>
 LdI .i64 (ra.cell? (op.add 6)) fun q =>
 LdStr (ra.cell? ((op.add 6).add 1)) fun s =>
 LdSl (ra.cell? ((op.add 6).add 2)) fun t b c =>
 LdStr (ra.cell? ((op.add 6).add 3)) fun y =>
 LdSl (ra.cell? ((op.add 6).add 4)) fun aa a h =>
 CallM P0 d "Insert" #[.int .i64 qa, (.int .u64 ab), (.agg #[.int .i64 q, (.string s), (.slice t b c), (.string y), (.slice aa a h)])] ra R (fun v ga =>
 ∃ba j,v=(.tuple #[.int .u64 ba,.int .i64 j]) /\
 R (.returned (.tuple #[])) ga))
 (Br (ia == (2:Int))
 (LdI .u64 (ra.cell? (op.add 1)) fun fa =>
 LdI .i64 (ra.cell? (op.add 3)) fun ca =>
 LdI .u64 (ra.cell? (op.add 2)) fun ea =>
 CallM P0 d "Move" #[.int .u64 fa, (.int .i64 ca), (.int .u64 ea)] ra R (fun v ga =>
 ∃da,v=(.int .i64 da) /\
 R (.returned (.tuple #[])) ga))
 (∃J5:World->Prop,(∀ga,J5 ga->F59_j5 d ac ad op ga R) /\
 (LdI .i64 (ra.cell? op) fun za =>
 Br (za == (8:Int))
 (LdI .u64 (ra.cell? (op.add 1)) fun ha =>
 LdI .i64 (ra.cell? (op.add 6)) fun r =>
 LdStr (ra.cell? ((op.add 6).add 1)) fun k =>
 LdSl (ra.cell? ((op.add 6).add 2)) fun p g e =>
 LdStr (ra.cell? ((op.add 6).add 3)) fun m =>
 LdSl (ra.cell? ((op.add 6).add 4)) fun u i f =>
 CallM P0 d "Insert" #[.int .i64 3, (.int .u64 ha), (.agg #[.int .i64 r, (.string k), (.slice p g e), (.string m), (.slice u i f)])] ra R (fun v ga =>
 ∃z n,v=(.tuple #[.int .u64 z,.int .i64 n]) /\
 J5 ga))
 (J5 ra))))))))
def F59 (d g:Value)(h:Option Nat)(i j k m:Int)(n p:ByteArray)(q:Int)(r:ByteArray)(s:OA)(t u:Nat)(y:ByteArray)(z:OA)(aa ab:Nat)(f:World)(R:RT):Prop :=
 Al f #[.int .i64 i,.int .u64 j,.int .u64 k,.int .i64 m,.string n,.string p,.int .i64 q,.string r,.slice s t u,.string y,.slice z aa ab] 50 fun op w1 =>
 ∃J2:World->Prop,(∀a,J2 a->F59_j2 d g h op a R) /\
 (LdI .i64 (w1.cell? op) fun c =>
 Br (c != (1:Int))
 (LdI .u64 (w1.cell? (op.add 1)) fun b =>
 Raw P0 (Instr.lookup 122 (.map h) (.int .u64 b) false) w1 fun v a =>
 ∃e,v=(.bool e) /\
 Br e
 (R (.returned (.tuple #[])) a)
 (J2 a))
 (J2 w1))
theorem ok59 (d a:Value)(b:Option Nat)(c e f g:Int)(i j:ByteArray)(k:Int)(m:ByteArray)(n:OA)(p q:Nat)(r:ByteArray)(t:OA)(u v:Nat){w:World}{R:RT} (h:F59 d a b c e f g i j k m n p q r t u v w R):Calls P0 59 #[d,a,.map b,.agg #[.int .i64 c,.int .u64 e,.int .u64 f,.int .i64 g,.string i,.string j,.int .i64 k,.string m,.slice n p q,.string r,.slice t u v]] w R :=
 vk ⟨107,⟨[]⟩,[(5,⟨[],[(23,32)]⟩),(2,⟨[],[(12,21)]⟩)],[(7,⟨[(42,(.s (.int .i64)))],[(11,12),(42,49)]⟩)]⟩ Tryz.func59 h
def F75 (b:Int)(a:World)(R:RT):Prop :=
 Br (b == (1:Int))
 (R (.returned (.int .i64 1)) a)
 (Br (b == (2:Int))
 (R (.returned (.int .i64 2)) a)
 (Br (b == (8:Int))
 (R (.returned (.int .i64 3)) a)
 (Br (b == (3:Int))
 (R (.returned (.int .i64 4)) a)
 (R (.returned (.int .i64 0)) a))))
theorem ok75 (a:Int){w:World}{R:RT} (h:F75 a w R):Calls P0 75 #[.int .i64 a] w R :=
 vk ⟨12,⟨[]⟩,[],[]⟩ Tryz.func75 h
def F131 (b:Int)(a:World)(R:RT):Prop :=
 Br (b == (2:Int))
 (R (.returned (.bool true)) a)
 (Br (b == (4:Int))
 (R (.returned (.bool true)) a)
 (Br (b == (5:Int))
 (R (.returned (.bool true)) a)
 (R (.returned (.bool (b == (8:Int)))) a)))
theorem ok131 (a:Int){w:World}{R:RT} (h:F131 a w R):Calls P0 131 #[.int .i64 a] w R :=
 vk ⟨17,⟨[]⟩,[],[]⟩ Tryz.func131 h
def F56_j15 (L8:Int->World->Prop)(a:Int)(b:World)(R:RT):Prop :=
 InR .i64 (a+(1:Int))/\L8 (a+(1:Int)) b
def F56_j23 (c:OA->Nat->Nat->Int->World->Prop)(b:Int)(d:OA)(e f:Nat)(a:World)(R:RT):Prop :=
 InR .i64 (b+(1:Int))/\c d e f (b+(1:Int)) a
def F56_l18 (lN k:Nat)(m:OA->Nat->Nat->Int->World->Prop)(n:OA)(p q:Nat)(j:Int)(i:World)(R:RT):Prop :=
 Br (decide (j < ((lN:Nat):Int)))
 (∃J23:OA->Nat->Nat->World->Prop,(∀out2 outN2 outC2 c,J23 out2 outN2 outC2 c->F56_j23 m j out2 outN2 outC2 c R) /\
 (Raw P0 (Instr.lookup 188 (.map (some k)) (.int .i64 j) true) i fun v3 c =>
 ∃b a,v3=(.tuple #[.int .u64 b,.bool a]) /\
 Br a
 (Al c #[.int .u64 b] 42 fun g79 f =>
 Raw P0 (Builtin.append_ #[23,23] 23 #[.slice n p q,(.slice (some g79) 1 1)]) f fun v4 d =>
 ∃h g e,v4=(.slice h g e) /\
 J23 h g e d)
 (J23 n p q c)))
 (R (.returned (.tuple #[.slice n p q,.int .i64 0,.int .i64 0])) i)
def F56_l8 (l:OA)(lN:Nat)(s:OA)(c:Nat)(ab:Addr)(ac:Nat)(L8:Int->World->Prop)(ca:Int)(ea:World)(R:RT):Prop :=
 Br (decide (ca < ((c:Nat):Int)))
 (∃J15:World->Prop,(∀z,J15 z->F56_j15 L8 ca z R) /\
 (IdxA s c ca 1 fun ba =>
 LdI .i64 (ea.cell? ba) fun aa =>
 IdxA l lN aa 11 fun da =>
 LdI .i64 (ea.cell? da) fun j =>
 LdI .u64 (ea.cell? (da.add 1)) fun g =>
 LdI .u64 (ea.cell? (da.add 2)) fun n =>
 LdI .i64 (ea.cell? (da.add 3)) fun h =>
 LdStr (ea.cell? (da.add 4)) fun q =>
 LdStr (ea.cell? (da.add 5)) fun i =>
 LdI .i64 (ea.cell? (da.add 6)) fun u =>
 LdStr (ea.cell? (da.add 7)) fun r =>
 LdSl (ea.cell? (da.add 8)) fun v e f =>
 LdStr (ea.cell? (da.add 9)) fun k =>
 LdSl (ea.cell? (da.add 10)) fun d b a =>
 Calls P0 104 #[(.pointer (some ab)),.agg #[.int .i64 j,.int .u64 g,.int .u64 n,.int .i64 h,.string q,.string i,.int .i64 u,.string r,.slice v e f,.string k,.slice d b a]] ea (post R fun v3 z =>
 ∃t p,v3=(.tuple #[.int .u64 t,.int .i64 p]) /\
 Br (p != (0:Int))
 (R (.returned (.tuple #[.slice none 0 0,.int .i64 aa,.int .i64 p])) z)
 (Br (t != (0:Int))
 (Raw P0 (Instr.mapUpdate 188 (.map (some ac)) (.int .i64 aa) (.int .u64 t)) z fun _ y =>
 J15 y)
 (J15 z)))))
 (∃(I:OA->Nat->Nat->Int->World->Prop)(m:OA->Nat->Nat->Int->World->Nat),I none 0 0 (0:Int) ea /\
 ∀out outN outC fa z,I out outN outC fa z->F56_l18 lN ac (fun out' outN' outC' fa' w2=>I out' outN' outC' fa' w2/\m out' outN' outC' fa' w2 < m out outN outC fa z) out outN outC fa z R)
def F56 (d l:OA)(lN lC:Nat)(q:World)(R:RT):Prop :=
 Calls P0 74 #[.slice l lN lC] q (post R fun v w1 =>
 ∃e f,v=(.tuple #[.int .i64 e,.int .i64 f]) /\
 Br (f != (0:Int))
 (R (.returned (.tuple #[.slice none 0 0,.int .i64 e,.int .i64 f])) w1)
 (Calls P0 29 #[.slice l lN lC] w1 (post R fun v2 n =>
 ∃g a b c,v2=(.tuple #[.slice g a b,.int .i64 c]) /\
 AlM n fun r36 k =>
 Al k #[.pointer d,(.map (some r36))] 187 fun g38 i =>
 AlM i fun r39 j =>
 ∃(I:Int->World->Prop)(m:Int->World->Nat),I (0:Int) j /\
 ∀p h,I p h->F56_l8 l lN g a g38 r39 (fun p' w2=>I p' w2/\m p' w2 < m p h) p h R)))
theorem ok56 (d l:OA)(a b:Nat){w:World}{R:RT} (h:F56 d l a b w R):Calls P0 56 #[.pointer d,.slice l a b] w R :=
 vk ⟨83,⟨[]⟩,[(15,⟨[],[(4,7),(14,17),(44,64)]⟩),(23,⟨[(17,(.s .slice))],[(17,21),(69,81)]⟩)],[(8,⟨[(42,(.s (.int .i64)))],[(4,7),(14,17),(42,65)]⟩),(18,⟨[(17,(.s .slice)),(67,(.s (.int .i64)))],[(17,21),(67,82)]⟩)]⟩ Tryz.func56 h
end Go.Proofs.YtnbgiacnbheonaaGreatDoor
namespace Go.Proofs.YtnbgiacnbheonaaGreatDoor
open Go.RowKit Go.Vc
set_option linter.unusedVariables false
set_option linter.unusedSimpArgs false
set_option maxRecDepth 100000
theorem al11 {z0 z1 z2 z3 z4 z5 z6 z7 z8 z9 z10 v0 v1 v2 v3 v4 v5 v6 v7 v8 v9 v10:Value}{w:World}{t:TypeId}{K:Addr->World->Prop} (h:∀g w1,Below w.heap.size w w1->Blk w1 g #[v0,v1,v2,v3,v4,v5,v6,v7,v8,v9,v10] t->w.heap.size<=g->K ⟨g,0,none⟩ w1) :
  Al w #[z0,z1,z2,z3,z4,z5,z6,z7,z8,z9,z10] t fun p w1=>St w1 p v0 fun w2=>St w2 (p.add 1) v1 fun w3=>St w3 (p.add 2) v2 fun w4=>St w4 (p.add 3) v3 fun w5=>St w5 (p.add 4) v4 fun w6=>St w6 (p.add 5) v5 fun w7=>St w7 (p.add 6) v6 fun w8=>St w8 (p.add 7) v7 fun w9=>St w9 (p.add 8) v8 fun w10=>St w10 (p.add 9) v9 fun w11=>St w11 (p.add 10) v10 fun w12=>K p w12:=by
 refine al fun g w1 hb hg hge=>?_
 simp only [Addr.add_mk]
 refine st_blk hg sm fun w2 b2 f2=>st_blk b2 sm fun w3 b3 f3=>st_blk b3 sm fun w4 b4 f4=>st_blk b4 sm fun w5 b5 f5=>st_blk b5 sm fun w6 b6 f6=>st_blk b6 sm fun w7 b7 f7=>st_blk b7 sm fun w8 b8 f8=>st_blk b8 sm fun w9 b9 f9=>st_blk b9 sm fun w10 b10 f10=>st_blk b10 sm fun w11 b11 f11=>st_blk b11 sm fun w12 b12 f12=>?_
 simp only [sls] at b12
 have F:Fm (·=g) w1 w12:=((((((((((f2.trans f3).trans f4).trans f5).trans f6).trans f7).trans f8).trans f9).trans f10).trans f11).trans f12)
 exact h g w12 (hb.trans (F.toBelow hb.size fun b hb e=>by have e:b=g:=e;omega)) b12 hge
theorem rd_row {α:Type}{L:Lay α}{w:World}{g:Nat}{cs:Array Value}{t:TypeId}{xs:List α} (h:Blk w g cs t) (hc:cs.toList=L.all xs) (hm:xs.length<=maxLen):Rd L w (some ⟨g,0,none⟩) xs.length xs :=
 ⟨Nat.le_refl _,hm,(fun h=>by cases h),fun _=>⟨g,0,rfl,fun j u hj=>by rw [h.cell,Nat.zero_add,<-Array.getElem?_toList,hc];exact hj⟩⟩
abbrev opV (x:E11):Value:=.agg #[.int .i64 x.o.kind,.int .u64 (x.o.node:Nat),.int .u64 (x.o.at_:Nat),.int .i64 x.o.wh,.string x.o.nm,.string x.o.val,.int .i64 x.e.kind,.string x.e.nm,.slice x.e.ats.1 x.e.ats.2.1 x.e.ats.2.2,.string x.e.text,.slice x.e.kids.1 x.e.kids.2.1 x.e.kids.2.2]
abbrev opC (x:E11):Array Value:=#[.int .i64 x.o.kind,.int .u64 (x.o.node:Nat),.int .u64 (x.o.at_:Nat),.int .i64 x.o.wh,.string x.o.nm,.string x.o.val,.int .i64 x.e.kind,.string x.e.nm,.slice x.e.ats.1 x.e.ats.2.1 x.e.ats.2.2,.string x.e.text,.slice x.e.kids.1 x.e.kids.2.1 x.e.kids.2.2]
section
variable {w:World}{R:RT}
theorem sg_calls (k:Int) (hK:R (.returned (.bool (sgB k))) w):Calls P0 131 #[.int .i64 k] w R:=by
 refine ok131 k ?_
 unfold F131
 unfold sgB at hK
 refine bre (fun h=>?_) (fun h=>?_)
 ·rw [decide_eq_true h,Bool.true_or] at hK;exact hK
 rw [decide_eq_false h,Bool.false_or] at hK
 refine bre (fun h=>?_) (fun h=>?_)
 ·rw [decide_eq_true h,Bool.true_or] at hK;exact hK
 rw [decide_eq_false h,Bool.false_or] at hK
 refine bre (fun h=>?_) (fun h=>?_)
 ·rw [decide_eq_true h,Bool.true_or] at hK;exact hK
 rw [decide_eq_false h,Bool.false_or] at hK
 exact hK
theorem atk_calls (k:Int) (hK:R (.returned (.bool (atK k))) w):Calls P0 132 #[.int .i64 k] w R:=by
 refine ok132 k ?_
 unfold F132
 unfold atK at hK
 refine bre (fun h=>?_) (fun h=>?_)
 ·rw [decide_eq_true h,Bool.true_or] at hK;exact hK
 rw [decide_eq_false h,Bool.false_or] at hK
 exact hK
theorem phP_calls (k:Int) (hK:R (.returned (.int .i64 (phF k))) w):Calls P0 75 #[.int .i64 k] w R:=by
 refine ok75 k ?_
 unfold F75
 unfold phF at hK
 refine bre (fun h=>?_) (fun h=>?_)
 ·rw [if_pos h] at hK;exact hK
 rw [if_neg h] at hK
 refine bre (fun h=>?_) (fun h=>?_)
 ·rw [if_pos h] at hK;exact hK
 rw [if_neg h] at hK
 refine bre (fun h=>?_) (fun h=>?_)
 ·rw [if_pos h] at hK;exact hK
 rw [if_neg h] at hK
 refine bre (fun h=>?_) (fun h=>?_)
 ·rw [if_pos h] at hK;exact hK
 rw [if_neg h] at hK
 exact hK
theorem phR_calls (k:Int) (hK:R (.returned (.int .i64 (phF k))) w):Calls P0 81 #[.int .i64 k] w R:=by
 refine ok81 k ?_
 unfold F81
 unfold phF at hK
 refine bre (fun h=>?_) (fun h=>?_)
 ·rw [if_pos h] at hK;exact hK
 rw [if_neg h] at hK
 refine bre (fun h=>?_) (fun h=>?_)
 ·rw [if_pos h] at hK;exact hK
 rw [if_neg h] at hK
 refine bre (fun h=>?_) (fun h=>?_)
 ·rw [if_pos h] at hK;exact hK
 rw [if_neg h] at hK
 refine bre (fun h=>?_) (fun h=>?_)
 ·rw [if_pos h] at hK;exact hK
 rw [if_neg h] at hK
 exact hK
theorem cfP_calls (x y:E11) (hK:∀w',Below w.heap.size w w'->R (.returned (.bool (cfB x.o y.o))) w'):Calls P0 130 #[opV x,opV y] w R:=by
 refine ok130 x.o.kind x.o.node x.o.at_ x.o.wh x.o.nm x.o.val x.e.kind x.e.nm x.e.ats.1 x.e.ats.2.1 x.e.ats.2.2 x.e.text x.e.kids.1 x.e.kids.2.1 x.e.kids.2.2 y.o.kind y.o.node y.o.at_ y.o.wh y.o.nm y.o.val y.e.kind y.e.nm y.e.ats.1 y.e.ats.2.1 y.e.ats.2.2 y.e.text y.e.kids.1 y.e.kids.2.1 y.e.kids.2.2 ?_
 unfold F130
 refine al fun ga w1 hb1 ba _=>al fun gb w2 hb2 bb _=>?_
 have ba2:=ba.keep hb2
 have H:=hK w2 (btr hb1 hb1.size hb2)
 unfold cfB at H
 simp only [ba2.cell,bb.cell,lds]
 refine⟨fun w'=>w'=w2/\x.o.node=y.o.node/\(decide (x.o.kind=y.o.kind) && sgB x.o.kind)=false,?_,?_⟩
 ·rintro _ ⟨rfl,hn,hs⟩
  rw [decide_eq_true hn,Bool.true_and,hs,Bool.false_or] at H
  unfold F130_j5
  simp only [ba2.cell,bb.cell,lds]
  refine atk_calls _ ⟨_,rfl,?_⟩
  refine br (fun h1=>?_) (fun h1=>by rw [h1,Bool.false_and,Bool.false_and] at H;exact H)
  rw [h1,Bool.true_and] at H
  simp only [ba2.cell,bb.cell,lds]
  refine atk_calls _ ⟨_,rfl,?_⟩
  refine br (fun h2=>?_) (fun h2=>by rw [h2,Bool.false_and] at H;exact H)
  rw [h2,Bool.true_and] at H
  simp only [ba2.cell,bb.cell,lds]
  rw [bytes_eq]
  exact H
 ·refine brn (fun hn=>?_) (fun hn=>?_)
  ·rw [decide_eq_false (fun e=>hn (by rw [e])),Bool.false_and] at H;exact H
  ·have hn:x.o.node=y.o.node:=by omega
   refine bre (fun hk=>?_) (fun hk=>⟨rfl,hn,by rw [decide_eq_false hk,Bool.false_and]⟩)
   refine sg_calls _ ⟨_,rfl,?_⟩
   refine br (fun h1=>?_) (fun h1=>⟨rfl,hn,by rw [h1,Bool.and_false]⟩)
   rw [decide_eq_true hn,Bool.true_and,decide_eq_true hk,h1] at H
   exact H
theorem cfR_calls (x y:E11) (hK:∀w',Below w.heap.size w w'->R (.returned (.bool (cfB x.o y.o))) w'):Calls P0 111 #[opV x,opV y] w R:=by
 refine ok111 x.o.kind x.o.node x.o.at_ x.o.wh x.o.nm x.o.val x.e.kind x.e.nm x.e.ats.1 x.e.ats.2.1 x.e.ats.2.2 x.e.text x.e.kids.1 x.e.kids.2.1 x.e.kids.2.2 y.o.kind y.o.node y.o.at_ y.o.wh y.o.nm y.o.val y.e.kind y.e.nm y.e.ats.1 y.e.ats.2.1 y.e.ats.2.2 y.e.text y.e.kids.1 y.e.kids.2.1 y.e.kids.2.2 ?_
 unfold F111
 refine al fun ga w1 hb1 ba _=>al fun gb w2 hb2 bb _=>?_
 have ba2:=ba.keep hb2
 have H:=hK w2 (btr hb1 hb1.size hb2)
 unfold cfB at H
 simp only [ba2.cell,bb.cell,lds]
 refine brn (fun hn=>?_) (fun hn=>?_)
 ·rw [decide_eq_false (fun e=>hn (by rw [e])),Bool.false_and] at H;exact H
 have hn:x.o.node=y.o.node:=by omega
 rw [decide_eq_true hn,Bool.true_and] at H
 refine⟨fun at_ w'=>w'=w2/\at_=(atK x.o.kind && atK y.o.kind),?_,?_⟩
 ·rintro at_ w5 ⟨rfl,rfl⟩
  unfold F111_j4
  simp only [ba2.cell,bb.cell,lds]
  refine⟨fun one w3=>w3=w5/\one=(decide (x.o.kind=y.o.kind) && sgB x.o.kind),?_,?_⟩
  ·rintro one _ ⟨rfl,rfl⟩
   unfold F111_j5
   simp only [ba2.cell,bb.cell,lds]
   refine br (fun h1=>by rw [h1,Bool.true_or] at H;exact H) (fun h1=>?_)
   rw [h1,Bool.false_or] at H
   refine br (fun h2=>?_) (fun h2=>by rw [h2,Bool.false_and] at H;exact H)
   rw [h2,Bool.true_and] at H
   rw [bytes_eq]
   exact H
  ·unfold sgB
   refine bre (fun hk=>?_) (fun hk=>⟨rfl,by rw [decide_eq_false hk,Bool.false_and]⟩)
   rw [decide_eq_true hk,Bool.true_and]
   refine bre (fun h=>⟨rfl,by rw [decide_eq_true h,Bool.true_or]⟩) (fun h=>?_)
   rw [decide_eq_false h,Bool.false_or]
   refine bre (fun h=>⟨rfl,by rw [decide_eq_true h,Bool.true_or]⟩) (fun h=>?_)
   rw [decide_eq_false h,Bool.false_or]
   refine bre (fun h=>⟨rfl,by rw [decide_eq_true h,Bool.true_or]⟩) (fun h=>?_)
   rw [decide_eq_false h,Bool.false_or]
   exact⟨rfl,rfl⟩
 ·unfold atK
  refine bre (fun h=>?_) (fun h=>?_)
  ·rw [decide_eq_true h,Bool.true_or,Bool.true_and]
   refine bre (fun h=>⟨rfl,by rw [decide_eq_true h,Bool.true_or]⟩) (fun h=>?_)
   rw [decide_eq_false h,Bool.false_or]
   exact⟨rfl,rfl⟩
  rw [decide_eq_false h,Bool.false_or]
  refine bre (fun h=>?_) (fun h=>?_)
  ·rw [decide_eq_true h,Bool.true_and]
   refine bre (fun h=>⟨rfl,by rw [decide_eq_true h,Bool.true_or]⟩) (fun h=>?_)
   rw [decide_eq_false h,Bool.false_or]
   exact⟨rfl,rfl⟩
  ·exact⟨rfl,by rw [decide_eq_false h,Bool.false_and]⟩
theorem checkT_calls {x:Tr}{e:E5} (hx:RTr w x e) (hT:Tabs w) (hK:∀w',Below w.heap.size w w'->R (.returned (.int .i64 (lookF x 1 0).2)) w'):Calls P0 129 #[.agg #[.int .i64 e.kind,.string e.nm,slV e.ats,.string e.text,slV e.kids]] w R:=by
 refine ok129 e.kind e.nm e.ats.1 e.ats.2.1 e.ats.2.2 e.text e.kids.1 e.kids.2.1 e.kids.2.2 ?_
 unfold F129
 refine al fun g1 w1 hb1 b1 hge1=>al fun gl w2 hb2 bl hgel=>?_
 have b12:=b1.keep hb2
 have B2:=btr hb1 hb1.size hb2
 simp only [b12.cell,lds]
 have hlsub:Sub w (but gl w2):=old_but B2 (by have:=hb1.size;omega)
 refine look_calls x (gl:=gl) (deep:=1) (n:=0) (md:=0) (e:=e) bl (RTr.sub hlsub _ _ hx) (hT.sub hlsub) om om om om fun w3 n3 md3 F3 hB3 q1 q2=>⟨_,rfl,?_⟩
 exact hK w3 (B2.trans (F3.toBelow B2.size fun b hb e=>by have e:b=gl:=e;have:=hb1.size;omega))
end
end Go.Proofs.YtnbgiacnbheonaaGreatDoor
namespace Go.Proofs.YtnbgiacnbheonaaGreatDoor
open Go.RowKit Go.Deep Go.WideShapes Go.ChangeShapes
section
variable {H:Type}{enc:TypeId × Value→H}{P:Program}{W:World}{α:Type}
theorem cells_of_rows {L:Lay α}{w:World}{b o:Nat}:∀(xs:List α),(∀i (h:i < xs.length),∀j u,(L.cells xs[i])[j]?=some u→w.cell? ⟨b,o+i*L.n+j,none⟩=some u) →
  ∀j u,(L.all xs)[j]?=some u→w.cell? ⟨b,o+j,none⟩=some u:=by
 intro xs h j u hj
 have hlt:j < xs.length*L.n:=by rw [←L.all_length];exact (List.getElem?_eq_some_iff.1 hj).1
 have hi:j / L.n < xs.length:=(Nat.div_lt_iff_lt_mul L.pos).2 hlt
 have hr:j % L.n < L.n:=Nat.mod_lt _ L.pos
 have hd:j / L.n*L.n+j % L.n=j:=by rw [Nat.mul_comm];exact Nat.div_add_mod j L.n
 have:=h (j / L.n) hi (j % L.n) u (by rw [←L.all_at xs _ hi _ hr,hd];exact hj)
 rwa [Nat.add_assoc,hd] at this
end
end Go.Proofs.YtnbgiacnbheonaaGreatDoor
namespace Go.Proofs.YtnbgiacnbheonaaGreatDoor
open Go.RowKit Go.Vc
set_option linter.unusedVariables false
set_option linter.unusedSimpArgs false
set_option maxRecDepth 100000
theorem Own.st5 {w:World}{q:Nat}{v:Sv}{xs:List E5}{k:Nat} (e':E5) (hO:Own LE5 w q 48 (slV v) xs) (hk:k < xs.length) {b:Nat} (hb:rowOf (slV v)=some b) {K:World->Prop}
  (hK:∀w1,Own LE5 w1 q 48 (slV v) (xs.set k e')->Fm (fun b=>rowOf (slV v)=some b) w w1->K w1) :
  St w ⟨b,k*LE5.n,none⟩ (.int .i64 e'.kind) fun w1=>St w1 ⟨b,k*LE5.n+1,none⟩ (.string e'.nm) fun w2=>St w2 ⟨b,k*LE5.n+2,none⟩ (.slice e'.ats.1 e'.ats.2.1 e'.ats.2.2) fun w3=>St w3 ⟨b,k*LE5.n+3,none⟩ (.string e'.text) fun w4 =>
  St w4 ⟨b,k*LE5.n+4,none⟩ (.slice e'.kids.1 e'.kids.2.1 e'.kids.2.2) K:=by
 have h8:LE5.n=5:=rfl
 have hO0:Own LE5 w q 48 (slV v) (xs.set k xs[k]):=by rw [List.set_getElem_self];exact hO
 generalize xs[k]=a0 at hO0
 refine hO0.stc2 (j:=0) (a':={ a0 with kind:=e'.kind }) hk dc rfl hb fun w1 o1 f1=>?_
 refine o1.stc2 (a':={ a0 with kind:=e'.kind,nm:=e'.nm }) hk dc rfl hb fun w2 o2 f2=>?_
 refine o2.stc2 (a':={ a0 with kind:=e'.kind,nm:=e'.nm,ats:=e'.ats }) hk dc rfl hb fun w3 o3 f3=>?_
 refine o3.stc2 (a':={ a0 with kind:=e'.kind,nm:=e'.nm,ats:=e'.ats,text:=e'.text }) hk dc rfl hb fun w4 o4 f4=>?_
 refine o4.stc2 (a':=e') hk dc rfl hb fun w5 o5 f5=>hK w5 o5 ?_
 exact (((f1.trans f2).trans f3).trans f4).trans f5
theorem spoil_calls:∀(x:Tr) {w:World}{e:E5}{lo hi:Nat}{R:RT},OTr w x e lo hi->hi<=w.heap.size->(∀w',Fm (fun b=>lo<=b/\b < hi) w w'->R (.returned (.tuple #[])) w') ->
  Calls P0 60 #[.agg #[.int .i64 e.kind,.string e.nm,slV e.ats,.string e.text,slV e.kids]] w R:=by
 refine Tr.ind fun kind nm attrs text kids ih=>?_
 intro w e lo hi R hT hhi hK
 simp only [OTr] at hT
 obtain⟨h1,h2,h3,h4,h5,h6,mid,es,h7,h8,h9,h10,h11,h12⟩:=hT
 have hel:=h12.len
 refine ok60 e.kind e.nm e.ats.1 e.ats.2.1 e.ats.2.2 e.text e.kids.1 e.kids.2.1 e.kids.2.2 ?_
 unfold F60
 refine al fun g1 w1 hb1 b1 hge1=>?_
 have hav:e.ats.2.1=attrs.length:=by
  obtain⟨A,c,hv,_⟩:=h6.form
  rw [slv_form hv]
 have hkv:e.kids.2.1=kids.length:=by
  obtain⟨A,c,hv,_⟩:=h10.form
  rw [slv_form hv];exact hel
 have hs1:=hb1.size
 refine⟨fun j w'=>∃(k:Nat) (l:List At),j=k/\k<=attrs.length/\l.length=attrs.length/\Own LAt w' 0 145 (slV e.ats) l/\Fm (fun b=>rowOf (slV e.ats)=some b) w1 w',fun j _=>attrs.length-j.toNat,⟨0,attrs,rfl,Nat.zero_le _,rfl,h6.keep hb1,.refl _ _⟩,?_⟩
 rintro j w2 ⟨k,l,rfl,hk,hl,o2,f2⟩
 unfold F60_l2
 have hn1:rowOf (slV e.ats)≠some g1:=fun e9=>by have:=h9 g1 e9;omega
 have b12:=f2.blk b1 hn1
 simp only [b12.cell,lds]
 refine brd (fun hlt=>?_) (fun hge=>?_)
 ·have hk2:k < l.length:=by omega
  refine o2.elA rfl hk2 (show 2=LAt.n from rfl) fun b hb=>?_
  simp only [Addr.add_mk]
  refine o2.stc (j:=0) (x':=⟨ByteArray.mk #[115,112,111,105,108,116],l[k].val⟩) hk2 dc rfl hb fun w3 o3 f3=>?_
  refine o3.stc2 (a':=⟨ByteArray.mk #[115,112,111,105,108,116],ByteArray.mk #[]⟩) hk2 dc rfl hb fun w4 o4 f4=>?_
  exact⟨inR_i64 om om,⟨k+1,_,sm,om,by simpa using hl,o4,(f2.trans f3).trans f4⟩,(by first | omega | (dsimp only;omega))⟩
 ·have hfa:Fm (fun b=>lo<=b/\b < hi) w w2:=(Fm.below hb1).trans (f2.mono fun b _ hb=>by have:=h9 b hb;omega)
  have f02:Fm (fun b=>rowOf (slV e.ats)=some b) w w2:=(Fm.below hb1).trans f2
  have okid:Own LE5 w2 0 48 (slV e.kids) es:=own_fm h10 f02 fun b hb e9=>by have:=h9 b e9;have:=h11 b hb;omega
  have otl:OTl w2 kids es mid hi (rowOf (slV e.kids)):=OTl.fm f02 _ _ _ _ _ (fun b g1 g2 _ e9=>by have:=h9 b e9;omega) h12
  refine⟨fun j w'=>∃(m lo':Nat) (ex:List E5),j=m/\m<=kids.length/\mid<=lo'/\ex.length=es.length/\(∀i,m<=i->ex[i]?=es[i]?)/\Own LE5 w' 0 48 (slV e.kids) ex/\OTl w' (kids.drop m) (es.drop m) lo' hi (rowOf (slV e.kids))/\Fm (fun b=>lo<=b/\b < hi) w w'/\Blk w' g1 #[.int .i64 e.kind,.string e.nm,slV e.ats,.string e.text,slV e.kids] 48,
   fun j _=>kids.length-j.toNat,⟨0,mid,es,rfl,Nat.zero_le _,Nat.le_refl _,rfl,fun _ _=>rfl,okid,by simpa using otl,hfa,b12⟩,?_⟩
  rintro j w5 ⟨m,lo',ex,rfl,hm,hlo,hexl,hexg,o5,ot5,f5,b15⟩
  unfold F60_l6
  simp only [b15.cell,lds]
  simp only [slV,lds]
  refine brd (fun hlt2=>?_) (fun hge2=>hK w5 f5)
  have hm2:m < kids.length:=by omega
  have hm3:m < es.length:=by omega
  have hm4:m < ex.length:=by omega
  rw [dgc hm2,dgc hm3] at ot5
  simp only [OTl] at ot5
  obtain⟨e9,es9,a,b,heq,p1,p2,p3,p4,p5,p6⟩:=ot5
  obtain⟨q1,q2⟩:=List.cons.inj heq
  subst q1 q2
  have hem:ex[m]=es[m]:=by
   have:=hexg m (Nat.le_refl _)
   rw [gge hm4,gge hm3] at this
   exact osi this
  obtain⟨A,c,hv,hrd⟩:=o5.form
  have e1:e.kids.1=A:=by rw [slv_form hv]
  have e2:e.kids.2.1=ex.length:=by rw [slv_form hv]
  rw [<-e1] at hrd
  refine hrd.e5 e2 rfl hm4 fun bb oo c0 c1 c2 c3 c4=>?_
  rw [hem] at c0 c1 c2 c3 c4
  simp only [c0,c1,c2,c3,c4,lds]
  have hs5:=f5.size
  refine ih kids[m] (gem hm2) (e:=es[m]) p5 om fun w6 f6=>⟨rfl,?_⟩
  have o6:Own LE5 w6 0 48 (slV e.kids) ex:=own_fm o5 f6 fun r hr h9=>p4 r hr h9
  have ot6:OTl w6 (kids.drop (m+1)) (es.drop (m+1)) b hi (rowOf (slV e.kids)):=OTl.fm f6 _ _ _ _ _ (fun r h1 h2 _ h9=>by omega) p6
  have b16:=f6.blk b15 (fun h9=>by omega)
  have f06:Fm (fun b=>lo<=b/\b < hi) w w6:=f5.trans (f6.mono fun r _ h9=>by omega)
  simp only [b16.cell,lds]
  simp only [slV,lds]
  refine o6.elA rfl hm4 (show 5=LE5.n from rfl) fun bw hbw=>?_
  simp only [Addr.add_mk]
  refine o6.st5 ⟨99,ByteArray.mk #[],(none,0,0),ByteArray.mk #[],(none,0,0)⟩ hm4 hbw fun w7 o7 f7=>?_
  refine⟨inR_i64 om om,⟨m+1,b,_,sm,om,om,by simpa using hexl,fun i hi=>?_,o7,OTl.fm f7 _ _ _ _ _ (fun r _ _ h1 h2=>h1 h2) ot6,f06.trans (f7.mono fun r _ h9=>by have:=h11 r h9;omega),f7.blk b16 (fun h9=>by have:=h11 _ h9;omega)⟩,(by first | omega | (dsimp only;omega))⟩
  rw [gsn om]
  exact hexg i om
set_option maxRecDepth 100000
theorem set_ok {s:Sl} (h:okSl s) {s':Sl} (hk:s'.kind=s.kind) (hkids:s'.kids=s.kids) (h1:s.kind=1->isName s'.nm=true/\attrF s'.attrs=0/\s'.text=s.text) (h2:s.kind=2->(textS s'.text).2=0/\s'.nm=s.nm/\s'.attrs=s.attrs):okSl s':=by
 obtain⟨a,b⟩:=h
 unfold okSl ownF
 rw [hk,hkids]
 rcases b with b | b
 ·obtain⟨c1,c2,c3⟩:=h1 b.1
  refine⟨by rw [if_pos b.1,if_pos c1];exact c2,.inl ⟨b.1,by rw [c3];exact b.2⟩⟩
 ·obtain⟨c1,c2,c3⟩:=h2 b.1
  refine⟨by rw [if_neg om,if_pos b.1,c1];rfl,.inr ⟨b.1,by rw [c2];exact b.2.1,by rw [c3];exact b.2.2.1,b.2.2.2⟩⟩
theorem ok_own1 {s:Sl} (h:okSl s) (hk:s.kind=1):isName s.nm=true/\attrF s.attrs=0:=by
 obtain⟨a,b⟩:=h
 unfold ownF at a
 rw [if_pos hk] at a
 by_cases hn:isName s.nm=true
 ·rw [if_pos hn] at a;exact⟨hn,a⟩
 ·rw [if_neg hn] at a;cases a
section
variable {D:Im}
theorem setName_wf (hw:Wf D) (n:Nat) (nm:ByteArray):Wf (setNameF D n nm).1:=by
 unfold setNameF
 by_cases h1:chgF D n 1≠0
 ·rw [if_pos h1];exact hw
 rw [if_neg h1]
 obtain⟨s,hs,hk⟩:=chg_some (by simpa using h1)
 by_cases h2:isName nm=true
 ·rw [if_pos h2]
  have ho:=hw.a.ok n s hs
  exact node_wf hw hs rfl rfl rfl rfl rfl (set_ok ho rfl rfl (fun _=>⟨h2,(ok_own1 ho hk).2,rfl⟩) fun e=>by omega)
 ·rw [if_neg h2];exact hw
theorem setText_wf (hw:Wf D) (n:Nat) (t:ByteArray):Wf (setTextF D n t).1:=by
 unfold setTextF
 by_cases h1:chgF D n 2≠0
 ·rw [if_pos h1];exact hw
 rw [if_neg h1]
 obtain⟨s,hs,hk⟩:=chg_some (by simpa using h1)
 by_cases h2:(textS t).2=0
 ·rw [if_pos h2]
  have ho:=hw.a.ok n s hs
  exact node_wf hw hs rfl rfl rfl rfl rfl (set_ok ho rfl rfl (fun e=>by omega) fun _=>⟨h2,rfl,rfl⟩)
 ·rw [if_neg h2];exact hw
theorem setAttr_wf (hw:Wf D) (n:Nat) (nm v:ByteArray):Wf (setAttrF D n nm v).1:=by
 unfold setAttrF
 by_cases h1:chgF D n 1≠0
 ·rw [if_pos h1];exact hw
 rw [if_neg h1]
 obtain⟨s,hs,hk⟩:=chg_some (by simpa using h1)
 by_cases h2:isName nm≠true
 ·rw [if_pos h2];exact hw
 rw [if_neg h2]
 by_cases h3:(textS v).2≠0
 ·rw [if_pos h3];exact hw
 rw [if_neg h3]
 by_cases h4:thereA (atsI D n) nm=false/\32<=(atsI D n).length
 ·rw [if_pos h4];exact hw
 rw [if_neg h4]
 rw [ats_some hs] at h4
 have ho:=hw.a.ok n s hs
 obtain⟨a1,a2⟩:=okS_ats ho hk
 have h2:isName nm=true:=by simpa using h2
 have h3:(textS v).2=0:=by simpa using h3
 have hlen:(setA' s.attrs nm v).length<=32:=by
  have hp:=posA_le s.attrs nm
  unfold setA'
  split
  ·simpa using a1
  ·rename_i ht
   have ht:thereA s.attrs nm=false:=by simpa using ht
   have:¬32<=s.attrs.length:=fun h=>h4 ⟨ht,h⟩
   simp;omega
 exact node_wf hw hs rfl rfl rfl rfl rfl (set_ok ho rfl rfl (fun _=>⟨(ok_own1 ho hk).1,(attrF_ok _).2 ⟨hlen,okA_set a2 h2 h3⟩,rfl⟩) fun e=>by omega)
theorem dropAttr_wf (hw:Wf D) (n:Nat) (nm:ByteArray):Wf (dropAttrF D n nm).1:=by
 unfold dropAttrF
 by_cases h1:chgF D n 1≠0
 ·rw [if_pos h1];exact hw
 rw [if_neg h1]
 obtain⟨s,hs,hk⟩:=chg_some (by simpa using h1)
 by_cases h2:thereA (atsI D n) nm=true
 ·rw [if_pos h2]
  have ho:=hw.a.ok n s hs
  obtain⟨a1,a2⟩:=okS_ats ho hk
  exact node_wf hw hs rfl rfl rfl rfl rfl (set_ok ho rfl rfl (fun _=>⟨(ok_own1 ho hk).1,(attrF_ok _).2 ⟨by simp;omega,okA_drop a2 _⟩,rfl⟩) fun e=>by omega)
 ·rw [if_neg h2];exact hw
end
structure Ac where
 kind:Int
 wh:Int
 how:Bool
 n:Nat
 at_:Nat
 nm:ByteArray
 val:ByteArray
 x:Tr
def meantF (D:Im) (a:Ac):Ac :=
 if a.how=false then a else
 if (allI D 0).length=0 then { a with how:=false,at_:=0 } else
 { a with how:=false,n:=(allI D 0).getD (a.n % (allI D 0).length) 0,at_:=if a.at_ % ((allI D 0).length+1)=(allI D 0).length then 0 else (allI D 0).getD (a.at_ % ((allI D 0).length+1)) 0 }
def actF (D:Im) (a:Ac):Im :=
 if a.kind=0 then (insF D a.wh a.at_ a.x).1 else if a.kind=1 then (movF D a.n a.wh a.at_).1 else if a.kind=2 then (delF D a.n).1 else if a.kind=3 then (setNameF D a.n a.nm).1 else
 if a.kind=4 then (setTextF D a.n a.val).1 else if a.kind=5 then (setAttrF D a.n a.nm a.val).1 else if a.kind=6 then (dropAttrF D a.n a.nm).1 else D
def doF (D:Im) (a:Ac):Im:=actF D (meantF D a)
theorem act_wf {D:Im} (hw:Wf D) (a:Ac):Wf (actF D a):=by
 unfold actF
 split
 ·exact ins_wf hw _ _ _
 split
 ·exact mov_wf hw _ _ _
 split
 ·exact del_wf hw _
 split
 ·exact setName_wf hw _ _
 split
 ·exact setText_wf hw _ _
 split
 ·exact setAttr_wf hw _ _ _
 split
 ·exact dropAttr_wf hw _ _
 ·exact hw
theorem do_wf {D:Im} (hw:Wf D) (a:Ac):Wf (doF D a):=act_wf hw _
structure AcOk (a:Ac):Prop where
 n:a.n < 18446744073709551616
 at_:a.at_ < 18446744073709551616
theorem allI_live {D:Im} (hw:Wf D) {x:Nat} (hx:x∈allI D 0):∃s,slA D.sl x=some s:=by
 unfold allI at hx
 rw [if_pos rfl,mfm] at hx
 obtain⟨y,hy,hx⟩:=hx
 obtain⟨_,t,t1,t2⟩:=hw.a.root.2 y hy
 exact all_live hw.a ⟨t,t1⟩ (fun z hz=>by simp at hz) hx
section
variable {w w1:World}{g:Nat}{D:Im}{vs vr:Sv}{es:List S8}{R:RT}
theorem allI_lt (h:RW [] w g D vs vr es) (hw:Wf D) {x:Nat} (hx:x∈allI D 0):x < 18446744073709551616:=by
 obtain⟨s,hs⟩:=allI_live hw hx
 exact hnd_lt h.ok h.few hs
theorem getD_lt (h:RW [] w g D vs vr es) (hw:Wf D) (i:Nat):(allI D 0).getD i 0 < 18446744073709551616:=by
 rw [gdd]
 cases hi:(allI D 0)[i]? with
 | none=>show 0 < _;omega
 | some x=>exact allI_lt h hw (mog hi)
theorem meant_ok (h:RW [] w g D vs vr es) (hw:Wf D) {a:Ac} (ha:AcOk a):AcOk (meantF D a):=by
 unfold meantF
 split
 ·exact ha
 split
 ·exact⟨ha.n,show 0 < 18446744073709551616 by decide⟩
 ·refine⟨getD_lt h hw _,?_⟩
  dsimp only
  split
  ·show 0 < _;omega
  ·exact getD_lt h hw _
theorem meant_x (a:Ac):(meantF D a).x=a.x/\(meantF D a).kind=a.kind/\(meantF D a).wh=a.wh/\(meantF D a).nm=a.nm/\(meantF D a).val=a.val:=by
 unfold meantF
 split
 ·exact⟨rfl,rfl,rfl,rfl,rfl⟩
 split
 ·exact⟨rfl,rfl,rfl,rfl,rfl⟩
 ·exact⟨rfl,rfl,rfl,rfl,rfl⟩
def acV (a:Ac) (e:E5):Value:=.agg #[.int .i64 a.kind,.int .i64 a.wh,.bool a.how,.int .u64 (a.n:Nat),.int .u64 (a.at_:Nat),.string a.nm,.string a.val,.int .i64 e.kind,.string e.nm,slV e.ats,.string e.text,slV e.kids]
theorem meant_calls (h:RW [] w g D vs vr es) (hw:Wf D) {a:Ac} (e:E5) (ha:AcOk a) (hK:∀w',Below w.heap.size w w'->R (.returned (acV (meantF D a) e)) w') :
  Calls P0 102 #[.pointer (some ⟨g,0,none⟩),acV a e] w R:=by
 refine ok102 (some ⟨g,0,none⟩) a.kind a.wh a.how (a.n:Nat) (a.at_:Nat) a.nm a.val e.kind e.nm e.ats.1 e.ats.2.1 e.ats.2.2 e.text e.kids.1 e.kids.2.1 e.kids.2.2 ?_
 unfold F102
 refine al fun ga w1 hb1 b1 hge1=>al fun g4 w2 hb2 b2 hge2=>?_
 have B2:=btr hb1 hb1.size hb2
 have hs1:=hb1.size
 have hs2:=hb2.size
 refine AllW (n:=0) (h.keep B2) hw om fun v w3 hb3 hv _=>⟨_,_,_,_,rfl,?_⟩
 have hv:=hv (.inl rfl)
 have B3:=btr B2 B2.size hb3
 have b13:=(b1.keep hb2).keep hb3
 have b23:=b2.keep hb3
 have hne:ga≠g4:=by have:=b1.lt;omega
 have hga:=b1.lt
 have fin:∀(w':World) (a':Ac),Fm (·=ga) w3 w'->Blk w' ga #[.int .i64 a'.kind,.int .i64 a'.wh,.bool a'.how,.int .u64 (a'.n:Nat),.int .u64 (a'.at_:Nat),.string a'.nm,.string a'.val,.int .i64 e.kind,.string e.nm,.slice e.ats.1 e.ats.2.1 e.ats.2.2,.string e.text,.slice e.kids.1 e.kids.2.1 e.kids.2.2] 116->a'=meantF D a->F102_j12 ⟨ga,0,none⟩ ⟨g4,0,none⟩ w' R:=by
  intro w' a' hf hb ha'
  unfold F102_j12
  have b24:=hf.blk b23 (fun e=>hne e.symm)
  simp only [hb.cell,lds]
  refine st_blk b24 sm fun u1 q1 f1=>st_blk q1 sm fun u2 q2 f2=>st_blk q2 sm fun u3 q3 f3=>st_blk q3 sm fun u4 q4 f4=>st_blk q4 sm fun u5 q5 f5=>st_blk q5 sm fun u6 q6 f6=>st_blk q6 sm fun u7 q7 f7=>st_blk q7 sm fun u8 q8 f8=>st_blk q8 sm fun u9 q9 f9=>st_blk q9 sm fun u10 q10 f10=>st_blk q10 sm fun u11 q11 f11=>st_blk q11 sm fun u12 q12 f12=>?_
  simp only [sls] at q12
  have F12:Fm (·=g4) w' u12:=((((((((((f1.trans f2).trans f3).trans f4).trans f5).trans f6).trans f7).trans f8).trans f9).trans f10).trans f11).trans f12
  simp only [q12.cell,lds]
  have FF:Fm (fun b=>b=ga\/b=g4) w3 u12:=(hf.mono fun b _ e=>.inl e).trans (F12.mono fun b _ e=>.inr e)
  have:=hK u12 (B3.trans (FF.toBelow B3.size fun b hb e=>by rcases e with e | e <;> omega))
  rw [<-ha'] at this
  exact this
 simp only [b13.cell,lds]
 rw [brnot]
 refine br (fun hh=>?_) (fun hh=>?_)
 rotate_left
 ·have:=fin w3 a (.refl _ _) b13 (by unfold meantF;rw [if_pos hh])
  unfold F102_j12 at this
  simp only [b13.cell,lds] at this
  exact this
 refine st_blk b13 sm fun w4 b14 f4=>?_
 simp only [sls] at b14
 have hlen:=allI_len hw 0 (.inl rfl)
 have hv1:v.2.1=(allI D 0).length:=by
  obtain⟨A,c,hv',_⟩:=hv.form
  rw [slv_form hv']
 have hmeant:meantF D a=if (allI D 0).length=0 then { a with how:=false,at_:=0 } else
   { a with how:=false,n:=(allI D 0).getD (a.n % (allI D 0).length) 0,at_:=if a.at_ % ((allI D 0).length+1)=(allI D 0).length then 0 else (allI D 0).getD (a.at_ % ((allI D 0).length+1)) 0 }:=by
  unfold meantF;rw [if_neg (by rw [hh];decide)]
 rw [hmeant] at fin
 have hv4:Own LHn w4 w2.heap.size 42 (slV v) (allI D 0):=own_fm hv f4 fun b hb e=>by have e:b=ga:=e;have:=(hv.lt b hb).1;omega
 generalize allI D 0=L at *
 refine⟨fun w'=>∃a',Fm (·=ga) w3 w'/\Blk w' ga #[.int .i64 a'.kind,.int .i64 a'.wh,.bool a'.how,.int .u64 (a'.n:Nat),.int .u64 (a'.at_:Nat),.string a'.nm,.string a'.val,.int .i64 e.kind,.string e.nm,.slice e.ats.1 e.ats.2.1 e.ats.2.2,.string e.text,.slice e.kids.1 e.kids.2.1 e.kids.2.2] 116/\a'=if L.length=0 then { a with how:=false,at_:=0 } else
   { a with how:=false,n:=L.getD (a.n % L.length) 0,at_:=if a.at_ % (L.length+1)=L.length then 0 else L.getD (a.at_ % (L.length+1)) 0 },fun w' ⟨a',z1,z2,z3⟩=>fin w' a' z1 z2 z3,?_⟩
 refine⟨inR_u64 om om,?_⟩
 refine brd (fun hpos=>?_) (fun hz=>?_)
 rotate_left
 ·rw [if_pos om]
  refine st_blk b14 sm fun w5 b15 f5=>?_
  simp only [sls] at b15
  exact⟨{ a with how:=false,at_:=0 },f4.trans f5,b15,rfl⟩
 rw [if_neg om]
 simp only [b14.cell,lds]
 have hpos':0 < L.length:=by omega
 rw [hv1]
 have hm1:((a.n:Nat):Int).tmod ((L.length:Nat):Int)=((a.n % L.length:Nat):Int):=by rw [Int.tmod_eq_emod_of_nonneg om];rfl
 rw [hm1]
 have hi1:a.n % L.length < L.length:=Nat.mod_lt _ hpos'
 obtain⟨A,c,hvf,hrd⟩:=hv4.form
 have e1:v.1=A:=by rw [slv_form hvf]
 rw [<-e1] at hrd
 refine⟨om,hrd.hn rfl rfl hi1 fun bb oo cc=>?_⟩
 simp only [cc,lds]
 refine st_blk b14 sm fun w5 b15 f5=>?_
 simp only [sls] at b15
 simp only [b15.cell,lds]
 have hv5:Own LHn w5 w2.heap.size 42 (slV v) L:=own_fm hv4 f5 fun b hb e=>by have e:b=ga:=e;have:=(hv.lt b hb).1;omega
 have eN:((L.length:Nat):Int)+1=((L.length+1:Nat):Int):=by omega
 rw [eN]
 have hm2:((a.at_:Nat):Int).tmod ((L.length+1:Nat):Int)=((a.at_ % (L.length+1):Nat):Int):=by rw [Int.tmod_eq_emod_of_nonneg om];rfl
 rw [hm2]
 have hi2:a.at_ % (L.length+1) < L.length+1:=Nat.mod_lt _ om
 have hg1:L.getD (a.n % L.length) 0=L[a.n % L.length]:=by rw [gdd,gge hi1];rfl
 refine⟨inR_u64 om om,om,?_⟩
 refine bre (fun heq=>?_) (fun hne2=>?_)
 ·refine st_blk b15 sm fun w6 b16 f6=>?_
  simp only [sls] at b16
  refine⟨_,(f4.trans f5).trans f6,?_,rfl⟩
  dsimp only
  rw [hg1,if_pos om]
  exact b16
 ·obtain⟨A',c',hvf',hrd'⟩:=hv5.form
  have e1':v.1=A':=by rw [slv_form hvf']
  rw [<-e1'] at hrd'
  have hi3:a.at_ % (L.length+1) < L.length:=by omega
  refine⟨inR_u64 om om,om,hrd'.hn rfl rfl hi3 fun bb oo cc=>?_⟩
  simp only [cc,lds]
  refine st_blk b15 sm fun w6 b16 f6=>?_
  simp only [sls] at b16
  have hg2:L.getD (a.at_ % (L.length+1)) 0=L[a.at_ % (L.length+1)]:=by rw [gdd,gge hi3];rfl
  refine⟨_,(f4.trans f5).trans f6,?_,rfl⟩
  dsimp only
  rw [hg1,if_neg om,hg2]
  exact b16
end
set_option maxRecDepth 100000
def okc (o:Nat->Nat) (b:Nat):Bool:=Nat.beq (o b) 0
theorem okc_iff {o:Nat->Nat}{b:Nat}:okc o b=true↔o b=0:=⟨fun h=>nbe h,fun h=>by unfold okc;rw [h];rfl⟩
theorem vw_iff {ok:Nat->Bool}{g b:Nat}:(ok b && !(Nat.beq b g))=true↔ok b=true/\b≠g:=by
 rw [bae]
 constructor
 ·rintro ⟨h1,h2⟩
  refine⟨h1,fun e=>?_⟩
  subst e
  rw [show Nat.beq b b=true from Nat.beq_refl b] at h2;cases h2
 ·rintro ⟨h1,h2⟩
  refine⟨h1,?_⟩
  cases h:Nat.beq b g with
  | false=>rfl
  | true=>exact absurd (nbe h) h2
structure EvA (w:World) (o:Nat->Nat) (w1:World) (o1:Nat->Nat):Prop where
 fm:Fm (fun b=>o b≠0) w w1
 old:∀b,b < w.heap.size->o b=0->o1 b=0
structure Edr (p:Value) (P:Nat->World->(Nat->Nat)->Im->Prop):Prop where
 up:∀{k w o D},P k w o D->P (k+1) w o D
 lt:∀{k w o D},P k w o D->∀b,o b≠0->b < w.heap.size
 keep:∀{k:Nat}{w w1:World}{o:Nat->Nat}{D:Im}{M:Nat->Prop},P k w o D->Fm M w w1->(∀b,b < w.heap.size->M b->o b=0)->P k w1 o D
 ins:∀{k:Nat}{w:World}{o:Nat->Nat}{D:Im}{x:Tr}{e:E5}{wh:Int}{a:Nat}{R:RT}{K:Value->World->Prop},P k w o D->k < 1099511627776->Wf D->Tabs (wc o w)->RTr (wc o w) x e->a < 18446744073709551616 ->
  (∀ w' o', P (k + 1) w' o' (insF D wh a x).1 -> EvA w o w' o' -> K (.tuple #[.int .u64 ((insF D wh a x).2.1 : Nat), .int .i64 (insF D wh a x).2.2]) w') -> CallM P0 p "Insert" #[.int .i64 wh, .int .u64 (a : Nat), .agg #[.int .i64 e.kind, .string e.nm, slV e.ats, .string e.text, slV e.kids]] w R K
 mov:∀{k:Nat}{w:World}{o:Nat->Nat}{D:Im}{n a:Nat}{wh:Int}{R:RT}{K:Value->World->Prop},P k w o D->k < 1099511627776->Wf D->n < 18446744073709551616->a < 18446744073709551616 ->
  (∀ w' o', P (k + 1) w' o' (movF D n wh a).1 -> EvA w o w' o' -> K (.int .i64 (movF D n wh a).2) w') -> CallM P0 p "Move" #[.int .u64 (n : Nat), .int .i64 wh, .int .u64 (a : Nat)] w R K
 del:∀{k:Nat}{w:World}{o:Nat->Nat}{D:Im}{n:Nat}{R:RT}{K:Value->World->Prop},P k w o D->k < 1099511627776->Wf D->n < 18446744073709551616 ->
  (∀ w' o', P (k + 1) w' o' (delF D n).1 -> EvA w o w' o' -> K (.int .i64 (delF D n).2) w') -> CallM P0 p "Delete" #[.int .u64 (n : Nat)] w R K
 name:∀{k:Nat}{w:World}{o:Nat->Nat}{D:Im}{n:Nat}{s:ByteArray}{R:RT}{K:Value->World->Prop},P k w o D->k < 1099511627776->Wf D->Tabs (wc o w)->n < 18446744073709551616 ->
  (∀ w' o', P (k + 1) w' o' (setNameF D n s).1 -> EvA w o w' o' -> K (.int .i64 (setNameF D n s).2) w') -> CallM P0 p "SetName" #[.int .u64 (n : Nat), .string s] w R K
 text:∀{k:Nat}{w:World}{o:Nat->Nat}{D:Im}{n:Nat}{s:ByteArray}{R:RT}{K:Value->World->Prop},P k w o D->k < 1099511627776->Wf D->Tabs (wc o w)->n < 18446744073709551616 ->
  (∀ w' o', P (k + 1) w' o' (setTextF D n s).1 -> EvA w o w' o' -> K (.int .i64 (setTextF D n s).2) w') -> CallM P0 p "SetText" #[.int .u64 (n : Nat), .string s] w R K
 attr:∀{k:Nat}{w:World}{o:Nat->Nat}{D:Im}{n:Nat}{s t:ByteArray}{R:RT}{K:Value->World->Prop},P k w o D->k < 1099511627776->Wf D->Tabs (wc o w)->n < 18446744073709551616 ->
  (∀ w' o', P (k + 1) w' o' (setAttrF D n s t).1 -> EvA w o w' o' -> K (.int .i64 (setAttrF D n s t).2) w') -> CallM P0 p "SetAttr" #[.int .u64 (n : Nat), .string s, .string t] w R K
 drop:∀{k:Nat}{w:World}{o:Nat->Nat}{D:Im}{n:Nat}{s:ByteArray}{R:RT}{K:Value->World->Prop},P k w o D->k < 1099511627776->Wf D->n < 18446744073709551616 ->
  (∀ w' o', P (k + 1) w' o' (dropAttrF D n s).1 -> EvA w o w' o' -> K (.int .i64 (dropAttrF D n s).2) w') -> CallM P0 p "DropAttr" #[.int .u64 (n : Nat), .string s] w R K
theorem RM.fm2 {ok ok2:Nat->Bool}{w w1:World}{g:Nat}{D:Im}{vs vr:Sv}{M:Nat->Prop} (h:RM ok w g D vs vr) (hf:Fm M w w1) (hm:∀b,b < w.heap.size->M b->ok b=false/\b≠g) (hk:∀b,b < w.heap.size->ok b=true->ok2 b=true):RM ok2 w1 g D vs vr :=
 ⟨hf.blk h.blk fun e=>(hm g h.blk.lt e).2 rfl,h.im.sub (sub_only (fun b hb h=>by rw [vw_iff] at h |-;exact⟨hk b hb h.1,h.2⟩) fun b hb hh=>hf.block b hb fun e=>by
  have:=(hm b hb e).1
  rw [vw_iff,this] at hh;cases hh.1),h.few⟩
section
variable {p:Value}{P:Nat->World->(Nat->Nat)->Im->Prop}{k:Nat}{w:World}{o:Nat->Nat}{g:Nat}{D:Im}{vs vr:Sv}{R:RT}
theorem does_calls (E:Edr p P) (hP:P k w o D) (hk:k < 1099511627776) (hw:Wf D) (hR:RM (okc o) w g D vs vr) (hg:o g=0) (hT:Tabs (vw (okc o) g w)) {a:Ac}{e:E5} (ha:AcOk a) (hx:RTr (vw (okc o) g w) a.x e)
  (hK:∀w' o' vs' vr',P (k+1) w' o' (doF D a)->RM (okc o') w' g (doF D a) vs' vr'->Fm (fun b=>o b≠0\/b=g) w w'->(∀b,b < w.heap.size->o b=0->o' b=0)->R (.returned (.bool true)) w') :
  Calls P0 54 #[p,.pointer (some ⟨g,0,none⟩),acV a e] w R:=by
 refine ok54 p (some ⟨g,0,none⟩) a.kind a.wh a.how (a.n:Nat) (a.at_:Nat) a.nm a.val e.kind e.nm e.ats.1 e.ats.2.1 e.ats.2.2 e.text e.kids.1 e.kids.2.1 e.kids.2.2 ?_
 unfold F54
 obtain⟨es,hr⟩:=hR.re
 have hgl:=hR.blk.lt
 refine al fun ga w1 hb1 b1 hge1=>?_
 simp only [b1.cell,lds]
 refine meant_calls (hr.keep hb1) hw e ha fun w2 hb2=>?_
 have B2:=btr hb1 hb1.size hb2
 have hmo:=meant_ok hr hw ha
 obtain⟨mx,mk,-,-,-⟩:=meant_x (D:=D) a
 unfold doF at hK
 rw [<-mx] at hx
 generalize meantF D a=m at *
 refine⟨_,_,_,_,_,_,_,_,_,_,_,_,_,_,_,_,rfl,?_⟩
 refine st_blk (b1.keep hb2) sm fun u1 q1 f1=>st_blk q1 sm fun u2 q2 f2=>st_blk q2 sm fun u3 q3 f3=>st_blk q3 sm fun u4 q4 f4=>st_blk q4 sm fun u5 q5 f5=>st_blk q5 sm fun u6 q6 f6=>st_blk q6 sm fun u7 q7 f7=>st_blk q7 sm fun u8 q8 f8=>st_blk q8 sm fun u9 q9 f9=>st_blk q9 sm fun u10 q10 f10=>st_blk q10 sm fun u11 q11 f11=>st_blk q11 sm fun w3 b3 f12=>?_
 simp only [sls] at b3
 have F12:Fm (·=ga) w2 w3:=((((((((((f1.trans f2).trans f3).trans f4).trans f5).trans f6).trans f7).trans f8).trans f9).trans f10).trans f11).trans f12
 clear q1 q2 q3 q4 q5 q6 q7 q8 q9 q10 q11 f1 f2 f3 f4 f5 f6 f7 f8 f9 f10 f11 f12
 have hs2:=B2.size
 have B3:Below w.heap.size w w3:=B2.trans (F12.toBelow hs2 fun b hb e=>by have e:b=ga:=e;omega)
 have hs3:=B3.size
 have P3:P k w3 o D:=E.keep (M:=fun _=>False) hP (.below B3) fun _ _ h=>h.elim
 have R3:RM (okc o) w3 g D vs vr:=hR.keep B3
 have hlt:=E.lt hP
 have oz:∀b,w.heap.size<=b->o b=0:=fun b hb=>byc fun h=>by have:=hlt b h;omega
 have T3:Tabs (vw (okc o) g w3):=hT.sub (vw_sub (.below B3))
 have X3:RTr (vw (okc o) g w3) m.x e:=RTr.sub (vw_sub (.below B3)) _ _ hx
 have hsub:∀{u:World},Sub (vw (okc o) g u) (wc o u):=sub_only (fun b _ h=>(vw_iff.1 h).1) fun _ _ _=>rfl
 have hga:ga < w3.heap.size:=b3.lt
 have oga:o ga=0:=oz ga hge1
 have hgne:ga≠g:=by omega
 have fin:∀(w4:World) (o4:Nat->Nat),EvA w3.drew o w4 o4->RM (okc o4) w4 g D vs vr/\(∀b,w4.heap.size<=b->P (k+1) w4 o4 (actF D m)->okc o4 b=true):=fun w4 o4 ev=>by
  refine⟨(R3.keep (w1:=w3.drew) ((Below.refl _ _).drew)).fm2 ev.fm (fun b hb hm=>⟨?_,fun e=>by subst e;exact hm hg⟩) fun b hb h=>okc_iff.2 (ev.old b hb (okc_iff.1 h)),fun b hb hp=>okc_iff.2 (byc fun h=>by have:=E.lt hp b h;omega)⟩
  cases h9:okc o b with
  | false=>rfl
  | true=>exact absurd (okc_iff.1 h9) hm
 have fin2:∀(w4 w5:World) (o4:Nat->Nat) (vs5 vr5:Sv),EvA w3.drew o w4 o4->P (k+1) w4 o4 (actF D m)->RM (okc o4) w5 g (actF D m) vs5 vr5->Fm (·=g) w4 w5->R (.returned (.bool true)) w5:=fun w4 w5 o4 vs5 vr5 ev hp hr hf=>by
  refine hK w5 o4 vs5 vr5 (E.keep hp hf fun b hb e=>?_) hr ?_ fun b hb h=>ev.old b (by show b < w3.heap.size;omega) h
  ·have e:b=g:=e
   subst e;exact ev.old b (by show b < w3.heap.size;omega) hg
  ·exact (Fm.below (B3.drew)).trans ((ev.fm.mono fun b _ h=>.inl h).trans (hf.mono fun b _ e=>.inr e))
 have hact:actF D m=if m.kind=0 then (insF D m.wh m.at_ m.x).1 else if m.kind=1 then (movF D m.n m.wh m.at_).1 else if m.kind=2 then (delF D m.n).1 else if m.kind=3 then (setNameF D m.n m.nm).1 else
   if m.kind=4 then (setTextF D m.n m.val).1 else if m.kind=5 then (setAttrF D m.n m.nm m.val).1 else if m.kind=6 then (dropAttrF D m.n m.nm).1 else D:=rfl
 have hdr:Below w3.heap.size w3 w3.drew:=(Below.refl _ _).drew
 have P3d:P k w3.drew o D:=E.keep (M:=fun _=>False) P3 (.below hdr) fun _ _ h=>h.elim
 have T3d:Tabs (wc o w3.drew):=(T3.sub (vw_sub (.below hdr))).sub hsub
 have bS:∀(w4:World) (o4:Nat->Nat),EvA w3.drew o w4 o4->Blk w4 ga _ 116:=fun w4 o4 ev=>ev.fm.blk (b3.keep hdr) (fun h=>h oga)
 simp only [Nat.reduceAdd,b3.cell,lds]
 refine bre (fun h0=>?_) (fun h0=>?_)
 ·-- Insert
  rw [if_pos h0] at hact
  have X3':RTr w3 m.x e:=RTr.sub sub_of_only _ _ X3
  refine copied_calls m.x (e:=e) X3' fun w4 e4 hb4 ot4=>⟨_,_,_,_,_,_,_,_,_,rfl,?_⟩
  have hs4:=hb4.size
  refine al fun g7 w5 hb5 b5 hge5=>?_
  refine st_blk b5 sm fun u1 q1 f1=>st_blk q1 sm fun u2 q2 f2=>st_blk q2 sm fun u3 q3 f3=>st_blk q3 sm fun u4 q4 f4=>st_blk q4 sm fun w6 b6 f5=>?_
  simp only [sls] at b6
  have F6:Fm (·=g7) w5 w6:=(((f1.trans f2).trans f3).trans f4).trans f5
  have D6:Below w4.heap.size w4 w6:=hb5.trans (F6.toBelow hb5.size fun b hb e=>by have e:b=g7:=e;omega)
  have D36:Below w3.heap.size w3 w6:=btr hb4 hs4 D6
  have b36:=b3.keep D36
  have hs6:=D6.size
  simp only [Nat.reduceAdd,b36.cell,b6.cell,lds]
  have P6:P k w6 o D:=E.keep (M:=fun _=>False) P3 (.below D36) fun _ _ h=>h.elim
  have ot6:=OTr.fm (M:=fun _=>False) (.below D6) _ _ _ _ (fun _ _ _ h=>h) ot4
  refine E.ins (e:=e4) P6 hk hw ((T3.sub (vw_sub (.below D36))).sub hsub) (OTr.rtr _ _ _ _ (fun b h1 h2=>okc_iff.2 (oz b om)) ot6) hmo.at_ fun w7 o7 P7 ev7=>⟨_,_,rfl,?_⟩
  have hs7:=ev7.fm.size
  have b37:=ev7.fm.blk b36 (fun h=>h oga)
  have b67:=ev7.fm.blk b6 (fun h=>h (oz g7 om))
  simp only [Nat.reduceAdd,b37.cell,lds]
  have og7:o7 g=0:=ev7.old g om hg
  have F37:Fm (fun b=>o b≠0) w3 w7:=(Fm.below D36).trans ev7.fm
  have hm37:∀b,b < w3.heap.size->o b≠0->okc o b=false/\b≠g:=fun b hb h=>⟨by
   cases h9:okc o b with
   | false=>rfl
   | true=>exact absurd (okc_iff.1 h9) h,fun e=>by subst e;exact h hg⟩
  have hk37:∀b,b < w3.heap.size->okc o b=true->(okc o7 b && !(decide (w3.heap.size<=b/\b < w4.heap.size)))=true:=fun b hb h=>by
   rw [bae]
   exact⟨okc_iff.2 (ev7.old b om (okc_iff.1 h)),by rw [decide_eq_false om];rfl⟩
  have R7:RM (fun b=>okc o7 b && !(decide (w3.heap.size<=b/\b < w4.heap.size))) w7 g D vs vr:=R3.fm2 F37 hm37 hk37
  have X7:RTr (vw (fun b=>okc o7 b && !(decide (w3.heap.size<=b/\b < w4.heap.size))) g w7) m.x e:=RTr.sub (sub_only (fun b hb h=>(vw_iff (ok:=fun b=>okc o7 b && !(decide (w3.heap.size<=b/\b < w4.heap.size)))).2 ⟨hk37 b hb (vw_iff.1 h).1,(vw_iff.1 h).2⟩) fun b hb h=>F37.block b hb fun h9=>h9 (okc_iff.1 (vw_iff.1 h).1)) _ _ X3
  refine insertR_calls (e:=e) R7 (fun b hb=>?_) hw X7 hmo.at_ fun w8 vs8 vr8 R8 f8=>⟨_,_,rfl,?_⟩
  ·rw [bae]
   exact⟨okc_iff.2 (byc fun h=>by have:=E.lt P7 b h;omega),by rw [decide_eq_false om];rfl⟩
  have hs8:=f8.size
  have b68:=f8.blk b67 (fun e=>by have e:g7=g:=e;omega)
  simp only [Nat.reduceAdd,b68.cell,lds]
  have ot8:=OTr.fm f8 _ _ _ _ (fun b h1 h2 e=>by have e:b=g:=e;omega) (OTr.fm ev7.fm _ _ _ _ (fun b h1 h2 h=>h (oz b om)) ot6)
  refine spoil_calls m.x (e:=e4) ot8 om fun w9 f9=>⟨rfl,?_⟩
  rw [hact] at hK
  have P9:P (k+1) w9 o7 (insF D m.wh m.at_ m.x).1:=E.keep (E.keep P7 f8 fun b hb e=>by have e:b=g:=e;rw [e];exact og7) f9 fun b hb h=>ev7.old b om (oz b om)
  have R9:RM (okc o7) w9 g (insF D m.wh m.at_ m.x).1 vs8 vr8:=R8.fm2 f9 (fun b hb h=>⟨by rw [decide_eq_true (show w3.heap.size<=b/\b < w4.heap.size from h)];simp,om⟩) fun b hb h=>by rw [bae] at h;exact h.1
  have F9:Fm (fun b=>o b≠0\/b=g) w w9:=(((Fm.below B3).trans (F37.mono fun b _ h=>.inl h)).trans (f8.mono fun b _ h=>.inr h)).trans' f9 fun b hb h=>by omega
  have:=hK w9 o7 vs8 vr8 P9 R9 F9 fun b hb h=>ev7.old b om h
  refine bre (fun _=>?_) (fun h=>absurd rfl h)
  rw [show ((insF D m.wh m.at_ m.x).2.2 == (insF D m.wh m.at_ m.x).2.2)=true from beq_self_eq_true _]
  exact this
 rw [if_neg h0] at hact
 refine bre (fun h1=>?_) (fun h1=>?_)
 ·rw [if_pos h1] at hact
  refine⟨fun w'=>Blk w' ga _ 116,b3.keep hdr,?_⟩
  refine⟨_,fun w' hb=>by rw [Blk.cell hb];rfl,?_⟩
  refine⟨_,fun w' hb=>by rw [Blk.cell hb];rfl,?_⟩
  refine⟨_,fun w' hb=>by rw [Blk.cell hb];rfl,?_⟩
  refine⟨_,fun w' hb=>by rw [Blk.cell hb];rfl,?_⟩
  refine⟨_,fun w' hb=>by rw [Blk.cell hb];rfl,?_⟩
  refine⟨_,fun w' hb=>by rw [Blk.cell hb];rfl,?_⟩
  refine E.mov P3d hk hw hmo.n hmo.at_ fun w4 o4 P4 ev=>⟨_,rfl,bS w4 o4 ev,?_⟩
  rw [<-hact] at P4
  obtain⟨R4,n4⟩:=fin w4 o4 ev
  refine moveR_calls R4 (fun b hb=>n4 b hb P4) hw hmo.n hmo.at_ fun w5 vs5 vr5 R5 f5=>⟨_,rfl,?_⟩
  rw [<-hact] at R5
  have:=fin2 w4 w5 o4 vs5 vr5 ev P4 R5 f5
  rw [beq_self_eq_true];exact this
 rw [if_neg h1] at hact
 refine bre (fun h2=>?_) (fun h2=>?_)
 ·rw [if_pos h2] at hact
  refine⟨fun w'=>Blk w' ga _ 116,b3.keep hdr,?_⟩
  refine⟨_,fun w' hb=>by rw [Blk.cell hb];rfl,?_⟩
  refine⟨_,fun w' hb=>by rw [Blk.cell hb];rfl,?_⟩
  refine E.del P3d hk hw hmo.n fun w4 o4 P4 ev=>⟨_,rfl,bS w4 o4 ev,?_⟩
  rw [<-hact] at P4
  obtain⟨R4,n4⟩:=fin w4 o4 ev
  refine deleteR_calls R4 (fun b hb=>n4 b hb P4) hw hmo.n fun w5 vs5 vr5 R5 f5=>⟨_,rfl,?_⟩
  rw [<-hact] at R5
  have:=fin2 w4 w5 o4 vs5 vr5 ev P4 R5 f5
  rw [beq_self_eq_true];exact this
 rw [if_neg h2] at hact
 refine bre (fun h3=>?_) (fun h3=>?_)
 ·rw [if_pos h3] at hact
  refine⟨fun w'=>Blk w' ga _ 116,b3.keep hdr,?_⟩
  refine⟨_,fun w' hb=>by rw [Blk.cell hb];rfl,?_⟩
  refine⟨_,fun w' hb=>by rw [Blk.cell hb];rfl,?_⟩
  refine⟨_,fun w' hb=>by rw [Blk.cell hb];rfl,?_⟩
  refine⟨_,fun w' hb=>by rw [Blk.cell hb];rfl,?_⟩
  refine E.name P3d hk hw T3d hmo.n fun w4 o4 P4 ev=>⟨_,rfl,bS w4 o4 ev,?_⟩
  rw [<-hact] at P4
  obtain⟨R4,n4⟩:=fin w4 o4 ev
  refine setNameR_calls R4 (fun b hb=>n4 b hb P4) hmo.n fun w5 vs5 vr5 R5 f5=>⟨_,rfl,?_⟩
  rw [<-hact] at R5
  have:=fin2 w4 w5 o4 vs5 vr5 ev P4 R5 f5
  rw [beq_self_eq_true];exact this
 rw [if_neg h3] at hact
 refine bre (fun h4=>?_) (fun h4=>?_)
 ·rw [if_pos h4] at hact
  refine⟨fun w'=>Blk w' ga _ 116,b3.keep hdr,?_⟩
  refine⟨_,fun w' hb=>by rw [Blk.cell hb];rfl,?_⟩
  refine⟨_,fun w' hb=>by rw [Blk.cell hb];rfl,?_⟩
  refine⟨_,fun w' hb=>by rw [Blk.cell hb];rfl,?_⟩
  refine⟨_,fun w' hb=>by rw [Blk.cell hb];rfl,?_⟩
  refine E.text P3d hk hw T3d hmo.n fun w4 o4 P4 ev=>⟨_,rfl,bS w4 o4 ev,?_⟩
  rw [<-hact] at P4
  obtain⟨R4,n4⟩:=fin w4 o4 ev
  refine setTextR_calls R4 (fun b hb=>n4 b hb P4) hmo.n fun w5 vs5 vr5 R5 f5=>⟨_,rfl,?_⟩
  rw [<-hact] at R5
  have:=fin2 w4 w5 o4 vs5 vr5 ev P4 R5 f5
  rw [beq_self_eq_true];exact this
 rw [if_neg h4] at hact
 refine bre (fun h5=>?_) (fun h5=>?_)
 ·rw [if_pos h5] at hact
  refine⟨fun w'=>Blk w' ga _ 116,b3.keep hdr,?_⟩
  refine⟨_,fun w' hb=>by rw [Blk.cell hb];rfl,?_⟩
  refine⟨_,fun w' hb=>by rw [Blk.cell hb];rfl,?_⟩
  refine⟨_,fun w' hb=>by rw [Blk.cell hb];rfl,?_⟩
  refine⟨_,fun w' hb=>by rw [Blk.cell hb];rfl,?_⟩
  refine⟨_,fun w' hb=>by rw [Blk.cell hb];rfl,?_⟩
  refine⟨_,fun w' hb=>by rw [Blk.cell hb];rfl,?_⟩
  refine E.attr P3d hk hw T3d hmo.n fun w4 o4 P4 ev=>⟨_,rfl,bS w4 o4 ev,?_⟩
  rw [<-hact] at P4
  obtain⟨R4,n4⟩:=fin w4 o4 ev
  refine setAttrR_calls R4 (fun b hb=>n4 b hb P4) hw hmo.n fun w5 vs5 vr5 R5 f5=>⟨_,rfl,?_⟩
  rw [<-hact] at R5
  have:=fin2 w4 w5 o4 vs5 vr5 ev P4 R5 f5
  rw [beq_self_eq_true];exact this
 rw [if_neg h5] at hact
 refine bre (fun h6=>?_) (fun h6=>?_)
 ·rw [if_pos h6] at hact
  refine⟨fun w'=>Blk w' ga _ 116,b3.keep hdr,?_⟩
  refine⟨_,fun w' hb=>by rw [Blk.cell hb];rfl,?_⟩
  refine⟨_,fun w' hb=>by rw [Blk.cell hb];rfl,?_⟩
  refine⟨_,fun w' hb=>by rw [Blk.cell hb];rfl,?_⟩
  refine⟨_,fun w' hb=>by rw [Blk.cell hb];rfl,?_⟩
  refine E.drop P3d hk hw hmo.n fun w4 o4 P4 ev=>⟨_,rfl,bS w4 o4 ev,?_⟩
  rw [<-hact] at P4
  obtain⟨R4,n4⟩:=fin w4 o4 ev
  refine dropAttrR_calls R4 (fun b hb=>n4 b hb P4) hw hmo.n fun w5 vs5 vr5 R5 f5=>⟨_,rfl,?_⟩
  rw [<-hact] at R5
  have:=fin2 w4 w5 o4 vs5 vr5 ev P4 R5 f5
  rw [beq_self_eq_true];exact this
 rw [if_neg h6] at hact
 have:=hK w3 o vs vr (by rw [hact];exact E.up P3) (by rw [hact];exact R3) (.below B3) fun _ _ h=>h
 exact this
end
set_option maxRecDepth 100000
structure E12 where
 a:Ac
 e:E5
def E12.cells (x:E12):List Value:=[.int .i64 x.a.kind,.int .i64 x.a.wh,.bool x.a.how,.int .u64 (x.a.n:Nat),.int .u64 (x.a.at_:Nat),.string x.a.nm,.string x.a.val,.int .i64 x.e.kind,.string x.e.nm,.slice x.e.ats.1 x.e.ats.2.1 x.e.ats.2.2,.string x.e.text,.slice x.e.kids.1 x.e.kids.2.1 x.e.kids.2.2]
def LAc:Lay E12:=⟨12,E12.cells,fun _=>rfl,fun _=>by simp [E12.cells,Value.oneCell'],dc⟩
def RAc (w:World) (x:E12):Prop:=AcOk x.a/\RTr w x.a.x x.e
structure Both (p:Value) (P:Nat->World->(Nat->Nat)->Im->Prop) (w0:World) (g k:Nat) (w:World) (o:Nat->Nat) (D:Im) (vs vr:Sv):Prop where
 p:P k w o D
 wf:Wf D
 r:RM (okc o) w g D vs vr
 og:o g=0
 old:Below w0.heap.size w0 w
 col:∀b,b < w0.heap.size->o b=0
 gne:w0.heap.size<=g
section
variable {p:Value}{P:Nat->World->(Nat->Nat)->Im->Prop}{k:Nat}{w w0 w1:World}{o:Nat->Nat}{g:Nat}{D:Im}{vs vr:Sv}{R:RT}
theorem Both.sub (h:Both p P w0 g k w o D vs vr):Sub w0 (vw (okc o) g w):=fun b c t fr hb=>by
 have hlt:=(agi.1 hb).1
 refine cells_only (vw_iff.2 ⟨okc_iff.2 (h.col b hlt),by have:=h.gne;omega⟩) ?_
 rw [h.old.block b hlt];exact hb
theorem both_does (E:Edr p P) (h:Both p P w0 g k w o D vs vr) (hk:k < 1099511627776) (hT:Tabs w0) {x:E12} (hx:RAc w0 x)
  (hK:∀w' o' vs' vr',Both p P w0 g (k+1) w' o' (doF D x.a) vs' vr'->R (.returned (.bool true)) w'):Calls P0 54 #[p,.pointer (some ⟨g,0,none⟩),acV x.a x.e] w R:=by
 have hs:=h.sub
 refine does_calls E h.p hk h.wf h.r h.og (hT.sub hs) hx.1 (RTr.sub hs _ _ hx.2) fun w' o' vs' vr' hp hr hf ho=>hK w' o' vs' vr' ⟨hp,do_wf h.wf _,hr,?_,?_,fun b hb=>ho b (nll hb h.old.size) (h.col b hb),h.gne⟩
 ·exact ho g h.r.blk.lt h.og
 ·refine h.old.trans (hf.toBelow h.old.size fun b hb e=>?_)
  rcases e with e | e
  ·exact e (h.col b hb)
  ·have:=h.gne;omega
end
end Go.Proofs.YtnbgiacnbheonaaGreatDoor
namespace Go.Proofs.YtnbgiacnbheonaaGreatDoor
open Go.RowKit Go.Deep Go.WideShapes Go.ChangeShapes Go.Vc
set_option linter.unusedSimpArgs false
set_option linter.unusedVariables false
set_option maxRecDepth 100000
theorem upto_one {H:Type} (d:DataW H):1<=Rows.uptoBulk d:=by
 cases d with
 | lit l=>cases l <;> simp only [Rows.uptoBulk] <;> omega
 | _=>simp only [Rows.uptoBulk];omega
theorem upto_len {H:Type}:∀(l:List (DataW H)),l.length<=Rows.uptoBulkAll l
 | []=>by simp
 | d :: l=>by
  have:=upto_len l
  have:=upto_one d
  simp only [Rows.uptoBulkAll,List.length_cons];omega
theorem upto_part {H:Type}{d:DataW H}:∀{l:List (DataW H)},d∈l->Rows.uptoBulk d<=Rows.uptoBulkAll l
 | e :: l,h=>by
  simp only [Rows.uptoBulkAll]
  rcases List.mem_cons.1 h with rfl | h
  ·omega
  ·have:=upto_part h;omega
theorem upto_small {H:Type}{d:DataW H}{l:List (DataW H)} (hk:Rows.uptoSmall H l=true) (h:d∈l):Rows.uptoBulk d<=1048576 :=
 Nat.le_trans (upto_part h) (of_decide_eq_true hk)
section
variable {H:Type}{enc:TypeId × Value->H}{P:Program}{W:World}{α:Type}
theorem trod_parts {t:TypeId}{fs:Array Field}{fuel:Nat}{cs:List Value}{x:DataW H × List MemPlace} (ht:P.underlying t=some (.struct fs)) (h:DataW.trod enc P W 0 (fun _=>true) true fuel t cs=some x) :
  cs.length=P.cellsOf t/\∀(i:Nat) (f:Field),fs[i]?=some f->∃n y,DataW.trod enc P W 0 (fun _=>true) true n f.type ((cs.drop f.offset).take (P.cellsOf f.type))=some y/\Rows.uptoBulk y.1 < Rows.uptoBulk x.1:=by
 obtain⟨xs,n,_,rfl,hl,hlen,hf⟩:=DataW.trod_struct ht h
 refine⟨hl,fun i f hi=>?_⟩
 have hlt:i < xs.length:=by rw [hlen];exact (agi.1 hi).1
 refine⟨n,xs[i],?_,?_⟩
 ·rw [hf i f hi,gge hlt]
 ·have:=upto_part (List.mem_map.2 ⟨xs[i],gem hlt,rfl⟩:xs[i].1∈xs.map (·.1))
  simp only [Rows.uptoBulk];omega
theorem open_bk [Inhabited α] (L:Lay α) (Q:α->Prop) {t e:TypeId}{fuel:Nat}{cs:List Value}{x:DataW H × List MemPlace} (h:DataW.trod enc P W 0 (fun _=>true) true fuel t cs=some x) (ht:P.underlying t=some (.slice e)) (hC:P.cellsOf e=L.n)
  (hel:∀(n:Nat) (cs:List Value) (y:DataW H × List MemPlace),DataW.trod enc P W 0 (fun _=>true) true n e cs=some y->Rows.uptoBulk y.1 < Rows.uptoBulk x.1->∃z:α,cs=L.cells z/\Q z) :
  ∃A c xs,cs=[.slice A xs.length c]/\Rd L W A c xs/\(∀y∈xs,Q y)/\xs.length<=Rows.uptoBulk x.1:=by
 rcases open_slice ht h with ⟨hcs,_⟩ | ⟨a,len,cap,m,n,D,Pl,hcs,_,hl,hm,hmm,hx,hi⟩
 ·exact⟨none,0,[],hcs,Rd.nil _ _,sm,sm⟩
 ·have hlm:len<=m:=by rw [hmm];simp;exact hl
  have hx1:=(Prod.mk.inj hx).1
  rw [hx1] at hel |-
  have hbulk:∀i,i < len->Rows.uptoBulk (D i) < Rows.uptoBulk (.slice ((List.range len).map D) ((List.range (m-len)).map fun j=>D (len+j))):=fun i hi=>by
   have:=upto_part (List.mem_map.2 ⟨i,List.mem_range.2 hi,rfl⟩:D i∈(List.range len).map D)
   simp only [Rows.uptoBulk];omega
  obtain⟨f,hfx⟩:=choose_lt (α:=α) (n:=len) (p:=fun i y=>(∀j u,(L.cells y)[j]?=some u->W.cell? ((a.add (i*L.n)).add j)=some u)/\Q y) (fun i hil=>by
   obtain⟨cs',h1,h2⟩:=hi i om
   obtain⟨y,rfl,hq⟩:=hel _ _ _ h2 (hbulk i hil)
   obtain⟨_,hlen,hat⟩:=World.cells?_some h1
   refine⟨y,fun j u hj=>?_,hq⟩
   rw [hC] at hat hlen
   rw [hat j (by rw [<-L.len y];exact (gsi.1 hj).1)]
   exact hj)
  refine⟨some a,cap,(List.range len).map f,by simpa using hcs,⟨by simpa using hl,hm,(fun h=>by cases h),fun h0=>?_⟩,fun y hy=>?_,?_⟩
  ·simp at h0
   have hspot:a.spot=Option.none:=by
    have hy:=(hfx 0 h0).1
    have hn:0 < (L.cells (f 0)).length:=by rw [L.len];exact L.pos
    have:=hy 0 _ (gge hn)
    simp only [Nat.zero_mul,Addr.add,if_true] at this
    unfold World.cell? at this
    cases hs:a.spot with
    | none=>rfl
    | some q =>
     split at this
     ·rw [hs] at this;simp at this
     ·cases this
   obtain⟨b,o,s⟩:=a
   simp only at hspot
   subst hspot
   refine⟨b,o,rfl,cells_of_rows _ (fun i hi j u hj=>?_)⟩
   simp at hi hj
   have:=(hfx i hi).1 j u hj
   rw [Addr.add_lit,Addr.add_lit] at this
   exact this
  ·obtain⟨i,hi,rfl⟩:=List.mem_map.1 hy
   exact (hfx i (List.mem_range.1 hi)).2
  ·have:=upto_len ((List.range len).map D)
   simp only [Rows.uptoBulk,lmp,List.length_range] at this |-
   omega
theorem list2 {α:Type}{l:List α} (h:l.length=2):∃a b,l=[a,b]:=by
 match l,h with
 | [a,b],_=>exact⟨a,b,rfl⟩
theorem list5 {α:Type}{l:List α} (h:l.length=5):∃a b c d e,l=[a,b,c,d,e]:=by
 match l,h with
 | [a,b,c,d,e],_=>exact⟨a,b,c,d,e,rfl⟩
theorem list12 {α:Type}{l:List α} (h:l.length=12):∃a b c d e f g i j k m n,l=[a,b,c,d,e,f,g,i,j,k,m,n]:=by
 match l,h with
 | [a,b,c,d,e,f,g,i,j,k,m,n],_=>exact⟨a,b,c,d,e,f,g,i,j,k,m,n,rfl⟩
end
instance:Inhabited E5:=⟨⟨0,noB,(none,0,0),noB,(none,0,0)⟩⟩
instance:Inhabited At:=⟨⟨noB,noB⟩⟩
instance:Inhabited Ac:=⟨⟨0,0,false,0,0,noB,noB,.mk 0 noB [] noB []⟩⟩
instance:Inhabited E12:=⟨⟨default,default⟩⟩
theorem rtl_of {w:World}:∀(es:List E5),(∀e∈es,∃t,RTr w t e)->∃ts,RTl w ts es
 | [],_=>⟨[],by simp only [RTl]⟩
 | e :: es,h=>by
  obtain⟨t,ht⟩:=h e sm
  obtain⟨ts,hts⟩:=rtl_of es fun x hx=>h x (by simp [hx])
  exact⟨t :: ts,by simp only [RTl];exact⟨e,es,rfl,ht,hts⟩⟩
section
variable {H:Type}{enc:TypeId × Value->H}{W:World}
theorem kStr:(P0).cellsOf 9=1:=by kernel_rfl
theorem kInt:(P0).cellsOf 3=1:=by kernel_rfl
theorem kBool:(P0).cellsOf 4=1:=by kernel_rfl
theorem kHn:(P0).cellsOf 42=1:=by kernel_rfl
theorem kAts:(P0).cellsOf 45=1:=by kernel_rfl
theorem kTrs:(P0).cellsOf 46=1:=by kernel_rfl
theorem kTr:(P0).cellsOf 48=5:=by kernel_rfl
theorem kAt:(P0).cellsOf 145=2:=by kernel_rfl
theorem at_cells (n:Nat) (cs:List Value) (x:DataW H × List MemPlace) (h:DataW.trod enc P0 W 0 (fun _=>true) true n 145 cs=some x):∃y:At,cs=LAt.cells y:=by
 obtain⟨hl,hp⟩:=trod_parts Tryz.underlying145 h
 obtain⟨a,b,rfl⟩:=list2 (hl.trans kAt)
 obtain⟨_,_,h0,-⟩:=hp 0 _ rfl
 obtain⟨_,_,h1,-⟩:=hp 1 _ rfl
 simp only [List.getElem_toArray,List.getElem_cons_zero,List.getElem_cons_succ,kStr,List.drop_zero,List.drop_succ_cons,List.take_succ_cons,List.take_zero] at h0 h1
 obtain⟨s,e0,-,-⟩:=DataW.trod_string Tryz.underlying9 h0
 obtain⟨t,e1,-,-⟩:=DataW.trod_string Tryz.underlying9 h1
 simp only [List.cons.injEq,and_true] at e0 e1
 subst e0 e1
 exact⟨⟨s,t⟩,rfl⟩
theorem ats_cells {n:Nat}{cs:List Value}{x:DataW H × List MemPlace} (h:DataW.trod enc P0 W 0 (fun _=>true) true n 45 cs=some x) (hx:Rows.uptoBulk x.1<=1048576):∃(v:Sv) (l:List At),cs=[.slice v.1 v.2.1 v.2.2]/\RR LAt W l v:=by
 obtain⟨A,c,l,e,hr,-,hlen⟩:=open_bk LAt (fun _=>True) h Tryz.underlying45 kAt fun n cs y hy _=>by
  obtain⟨z,hz⟩:=at_cells n cs y hy
  exact⟨z,hz,trivial⟩
 exact⟨(A,l.length,c),l,e,Nat.le_trans hlen hx,rfl,hr⟩
theorem tr_cells:∀(B:Nat),B<=1048576->∀(n:Nat) (cs:List Value) (x:DataW H × List MemPlace),DataW.trod enc P0 W 0 (fun _=>true) true n 48 cs=some x->Rows.uptoBulk x.1<=B ->
  ∃(e:E5),cs=e.cells/\∃t,RTr W t e:=by
 intro B
 induction B using Nat.strongRecOn with
 | _ B ih =>
  intro hB n cs x h hx
  obtain⟨hl,hp⟩:=trod_parts Tryz.underlying48 h
  obtain⟨a,b,c,d,e,rfl⟩:=list5 (hl.trans kTr)
  obtain⟨_,_,h0,b0⟩:=hp 0 _ rfl
  obtain⟨_,_,h1,b1⟩:=hp 1 _ rfl
  obtain⟨_,_,h2,b2⟩:=hp 2 _ rfl
  obtain⟨_,_,h3,b3⟩:=hp 3 _ rfl
  obtain⟨_,y4,h4,b4⟩:=hp 4 _ rfl
  simp only [List.getElem_toArray,List.getElem_cons_zero,List.getElem_cons_succ,kInt,kStr,kAts,kTrs,List.drop_zero,List.drop_succ_cons,List.take_succ_cons,List.take_zero] at h0 h1 h2 h3 h4
  obtain⟨kd,e0,-,-⟩:=DataW.trod_int Tryz.underlying3 h0
  obtain⟨nm,e1,-,-⟩:=DataW.trod_string Tryz.underlying9 h1
  obtain⟨va,la,e2,ha⟩:=ats_cells h2 om
  obtain⟨tx,e3,-,-⟩:=DataW.trod_string Tryz.underlying9 h3
  obtain⟨A,c',es,e4,hr,hq,hlen⟩:=open_bk LE5 (fun e=>∃t,RTr W t e) h4 Tryz.underlying46 kTr fun n cs y hy hby=>ih (Rows.uptoBulk y.1) om om n cs y hy (Nat.le_refl _)
  simp only [List.cons.injEq,and_true] at e0 e1 e2 e3 e4
  subst e0 e1 e2 e3 e4
  obtain⟨ts,hts⟩:=rtl_of es hq
  refine⟨⟨kd,nm,va,tx,(A,es.length,c')⟩,rfl,.mk kd nm la tx ts,?_⟩
  simp only [RTr]
  exact⟨by trivial,by trivial,by trivial,ha,by rw [<-hts.len];omega,es,rfl,hr,hts⟩
theorem hn_cells {n:Nat}{cs:List Value}{x:DataW H × List MemPlace} (h:DataW.trod enc P0 W 0 (fun _=>true) true n 42 cs=some x):∃k:Nat,k < 18446744073709551616/\cs=[.int .u64 (k:Nat)]:=by
 obtain⟨k,rfl,-,hw⟩:=DataW.trod_int Tryz.underlying42 h
 have hx:0<=k/\k<=18446744073709551615:=by simpa [Lit.wf,IntKind.min,IntKind.max,IntKind.signed,IntKind.bits] using hw
 exact⟨k.toNat,om,by rw [Int.toNat_of_nonneg hx.1]⟩
theorem ac_cells {n:Nat}{cs:List Value}{x:DataW H × List MemPlace} (h:DataW.trod enc P0 W 0 (fun _=>true) true n 116 cs=some x) (hx:Rows.uptoBulk x.1<=1048576):∃y:E12,cs=LAc.cells y/\RAc W y:=by
 obtain⟨hl,hp⟩:=trod_parts Tryz.underlying116 h
 have kAc:(P0).cellsOf 116=12:=by kernel_rfl
 obtain⟨a,b,c,d,e,f,g,i,j,k,m,o,rfl⟩:=list12 (hl.trans kAc)
 obtain⟨_,_,h0,b0⟩:=hp 0 _ rfl
 obtain⟨_,_,h1,b1⟩:=hp 1 _ rfl
 obtain⟨_,_,h2,b2⟩:=hp 2 _ rfl
 obtain⟨_,_,h3,b3⟩:=hp 3 _ rfl
 obtain⟨_,_,h4,b4⟩:=hp 4 _ rfl
 obtain⟨_,_,h5,b5⟩:=hp 5 _ rfl
 obtain⟨_,_,h6,b6⟩:=hp 6 _ rfl
 obtain⟨_,_,h7,b7⟩:=hp 7 _ rfl
 simp only [List.getElem_toArray,List.getElem_cons_zero,List.getElem_cons_succ,kInt,kStr,kBool,kHn,kTr,List.drop_zero,List.drop_succ_cons,List.take_succ_cons,List.take_zero] at h0 h1 h2 h3 h4 h5 h6 h7
 obtain⟨q0,e0,-,-⟩:=DataW.trod_int Tryz.underlying3 h0
 obtain⟨q1,e1,-,-⟩:=DataW.trod_int Tryz.underlying3 h1
 obtain⟨q2,e2,-⟩:=DataW.trod_bool Tryz.underlying4 h2
 obtain⟨q3,l3,e3⟩:=hn_cells h3
 obtain⟨q4,l4,e4⟩:=hn_cells h4
 obtain⟨q5,e5,-,-⟩:=DataW.trod_string Tryz.underlying9 h5
 obtain⟨q6,e6,-,-⟩:=DataW.trod_string Tryz.underlying9 h6
 obtain⟨q7,e7,t,ht⟩:=tr_cells 1048576 (Nat.le_refl _) _ _ _ h7 om
 simp only [E5.cells,List.cons.injEq,and_true] at e0 e1 e2 e3 e4 e5 e6 e7
 obtain⟨e7,e8,e9,e10,e11⟩:=e7
 subst e0 e1 e2 e3 e4 e5 e6 e7 e8 e9 e10 e11
 exact⟨⟨⟨q0,q1,q2,q3,q4,q5,q6,t⟩,q7⟩,rfl,⟨l3,l4⟩,ht⟩
theorem acs_open {n:Nat}{cs:List Value}{x:DataW H × List MemPlace} (h:DataW.trod enc P0 W 0 (fun _=>true) true n 57 cs=some x) (hx:Rows.uptoBulk x.1<=1048576) :
  ∃(A:OA) (c:Nat) (xs:List E12),cs=[.slice A xs.length c]/\Rd LAc W A c xs/\(∀y∈xs,RAc W y)/\xs.length<=1048576:=by
 obtain⟨A,c,l,e,hr,hq,hlen⟩:=open_bk LAc (RAc W) h Tryz.underlying57 kr fun n cs y hy hb=>ac_cells hy om
 exact⟨A,c,l,e,hr,hq,Nat.le_trans hlen hx⟩
end
set_option maxRecDepth 100000
def ROp (w:World) (x:E11):Prop:=(x.o.node < 18446744073709551616/\x.o.at_ < 18446744073709551616)/\RTr w x.o.t x.e
theorem ROp.sub {w w1:World}{x:E11} (h:ROp w x) (hs:Sub w w1):ROp w1 x:=⟨h.1,RTr.sub hs _ _ h.2⟩
theorem list11 {α:Type}:∀{l:List α},l.length=11->∃a b c d e f g i j k m,l=[a,b,c,d,e,f,g,i,j,k,m]
 | [a,b,c,d,e,f,g,i,j,k,m],_=>⟨a,b,c,d,e,f,g,i,j,k,m,rfl⟩
instance:Inhabited O1:=⟨⟨0,0,0,0,noB,noB,.mk 0 noB [] noB []⟩⟩
instance:Inhabited E11:=⟨⟨default,default⟩⟩
section
variable {H:Type}{enc:TypeId × Value->H}{W:World}
theorem op_cells {n:Nat}{cs:List Value}{x:DataW H × List MemPlace} (h:DataW.trod enc P0 W 0 (fun _=>true) true n 50 cs=some x) (hx:Rows.uptoBulk x.1<=1048576):∃y:E11,cs=LOp.cells y/\ROp W y:=by
 obtain⟨hl,hp⟩:=trod_parts Tryz.underlying50 h
 have kOp:(P0).cellsOf 50=11:=by kernel_rfl
 obtain⟨a,b,c,d,e,f,g,i,j,k,m,rfl⟩:=list11 (hl.trans kOp)
 obtain⟨_,_,h0,b0⟩:=hp 0 _ rfl
 obtain⟨_,_,h1,b1⟩:=hp 1 _ rfl
 obtain⟨_,_,h2,b2⟩:=hp 2 _ rfl
 obtain⟨_,_,h3,b3⟩:=hp 3 _ rfl
 obtain⟨_,_,h4,b4⟩:=hp 4 _ rfl
 obtain⟨_,_,h5,b5⟩:=hp 5 _ rfl
 obtain⟨_,_,h6,b6⟩:=hp 6 _ rfl
 simp only [List.getElem_toArray,List.getElem_cons_zero,List.getElem_cons_succ,kInt,kStr,kBool,kHn,kTr,List.drop_zero,List.drop_succ_cons,List.take_succ_cons,List.take_zero] at h0 h1 h2 h3 h4 h5 h6
 obtain⟨q0,e0,-,-⟩:=DataW.trod_int Tryz.underlying3 h0
 obtain⟨q1,l1,e1⟩:=hn_cells h1
 obtain⟨q2,l2,e2⟩:=hn_cells h2
 obtain⟨q3,e3,-,-⟩:=DataW.trod_int Tryz.underlying3 h3
 obtain⟨q4,e4,-,-⟩:=DataW.trod_string Tryz.underlying9 h4
 obtain⟨q5,e5,-,-⟩:=DataW.trod_string Tryz.underlying9 h5
 obtain⟨q6,e6,t,ht⟩:=tr_cells 1048576 (Nat.le_refl _) _ _ _ h6 om
 simp only [E5.cells,List.cons.injEq,and_true] at e0 e1 e2 e3 e4 e5 e6
 obtain⟨e6,e7,e8,e9,e10⟩:=e6
 subst e0 e1 e2 e3 e4 e5 e6 e7 e8 e9 e10
 exact⟨⟨⟨q0,q1,q2,q3,q4,q5,t⟩,q6⟩,rfl,⟨l1,l2⟩,ht⟩
theorem ops_open {n:Nat}{cs:List Value}{x:DataW H × List MemPlace} (h:DataW.trod enc P0 W 0 (fun _=>true) true n 26 cs=some x) (hx:Rows.uptoBulk x.1<=1048576) :
  ∃(A:OA) (c:Nat) (xs:List E11),cs=[.slice A xs.length c]/\Rd LOp W A c xs/\(∀y∈xs,ROp W y)/\xs.length<=1048576:=by
 obtain⟨A,c,l,e,hr,hq,hlen⟩:=open_bk LOp (ROp W) h Tryz.underlying26 kr fun n cs y hy hb=>op_cells hy om
 exact⟨A,c,l,e,hr,hq,Nat.le_trans hlen hx⟩
end
end Go.Proofs.YtnbgiacnbheonaaGreatDoor
namespace Go.Proofs.YtnbgiacnbheonaaGreatDoor
open Go.RowKit Go.Vc
set_option linter.unusedVariables false
set_option linter.unusedSimpArgs false
set_option maxRecDepth 100000
section
variable {w:World}{R:RT}
theorem chk_at {L:List O1} (hl:L.length<=4096) {k:Nat} (hk:k < L.length) (h:chkF (L.take k) (L.drop k)=checkF L):(badO (L.take k) L[k]=0->chkF (L.take (k+1)) (L.drop (k+1))=checkF L)/\(badO (L.take k) L[k]≠0->checkF L=(k,badO (L.take k) L[k])):=by
 rw [chk_step hk] at h
 constructor
 ·intro e;rw [if_neg (by rw [e];simp)] at h;exact h
 ·intro e;rw [if_pos e] at h;exact h.symm
theorem checkR_calls (xs:List E11) {A:OA}{c:Nat} (hr:Rd LOp w A c xs) (hx:∀x∈xs,ROp w x) (hl:xs.length<=1048576) (hK:∀w',Below w.heap.size w w'->R (.returned (.tuple #[.int .i64 ((checkF (xs.map (·.o))).1:Nat),.int .i64 (checkF (xs.map (·.o))).2])) w') :
  Calls P0 61 #[.slice A xs.length c] w R:=by
 refine ok61 A xs.length c ?_
 unfold F61
 generalize hL:xs.map (·.o)=L at *
 have hlen:L.length=xs.length:=by rw [<-hL,lmp]
 refine brd (fun hgt=>?_) (fun hle=>?_)
 ·have H:=hK w (.refl _ _)
  unfold checkF at H
  rw [if_pos om] at H
  exact H
 have hle:L.length<=4096:=by omega
 refine⟨fun i w'=>∃k:Nat,i=k/\k<=xs.length/\Below w.heap.size w w'/\chkF (L.take k) (L.drop k)=checkF L,fun i _=>xs.length-i.toNat,⟨0,rfl,om,.refl _ _,by unfold checkF;rw [if_neg om];rfl⟩,?_⟩
 rintro _ w1 ⟨k,rfl,hk,hb1,hF⟩
 unfold F61_l4
 refine brd (fun hlt=>?_) (fun hge=>?_)
 ·have hk2:k < xs.length:=by omega
  obtain⟨f1,f2⟩:=chk_at hle om hF
  have hLk:L[k]'om=xs[k].o:=by subst hL;rw [gmp]
  rw [hLk] at f1 f2
  have bad:∀{v:Int}{w':World},badO (L.take k) xs[k].o=v->v≠0->Below w.heap.size w w'->R (.returned (.tuple #[.int .i64 (k:Nat),.int .i64 v])) w':=fun {v w'} e1 e2 hb=>by
   have H:=hK w' hb
   rw [f2 (by rw [e1];exact e2),e1] at H
   exact H
  have hrt:=(hx _ (gem hk2)).2
  have hr1:=hr.keep hb1
  refine hr1.idx rfl om om rfl fun b oo cc=>?_
  simp only [tnc] at cc
  have k0:=cc 0 _ rfl
  have k1:=cc 1 _ rfl
  have k2:=cc 2 _ rfl
  have k3:=cc 3 _ rfl
  have k4:=cc 4 _ rfl
  have k5:=cc 5 _ rfl
  have k6:=cc 6 _ rfl
  have k7:=cc 7 _ rfl
  have k8:=cc 8 _ rfl
  have k9:=cc 9 _ rfl
  have k10:=cc 10 _ rfl
  simp only [Nat.add_zero] at k0
  simp only [k0,k1,k2,k3,k4,k5,k6,k7,k8,k9,k10,lds]
  refine al11 fun go w2 hb2 bo hgo=>?_
  have B2:=btr hb1 hb1.size hb2
  simp only [bo.cell,lds]
  refine⟨fun w'=>w2=w'/\1<=xs[k].o.kind/\xs[k].o.kind<=8,?_,?_⟩
  rotate_left
  ·refine brd (fun h=>bad (by unfold badO;rw [if_pos (.inl h)]) dc B2) fun h1=>?_
   exact brd (fun h=>bad (by unfold badO;rw [if_pos (.inr h)]) dc B2) fun h2=>⟨rfl,om,om⟩
  rintro _ ⟨rfl,h1,h8⟩
  have hb0:∀x,(if xs[k].o.kind < 1\/8 < xs[k].o.kind then (170:Int) else x)=x:=fun x=>if_neg om
  unfold F61_j9
  refine⟨fun w'=>Below w2.heap.size w2 w'/\¬((xs[k].o.kind=1\/xs[k].o.kind=8)/\(lookF xs[k].o.t 1 0).2≠0),?_,?_⟩
  rotate_left
  ·have tree:(xs[k].o.kind=1\/xs[k].o.kind=8)->Calls P0 68 #[.agg #[.int .i64 xs[k].e.kind,.string xs[k].e.nm,slV xs[k].e.ats,.string xs[k].e.text,slV xs[k].e.kids]] w2 (post R fun v w1_13=>∃(x40:Int),v=(.int .i64 x40)/\Br (x40 != (0:Int)) (R (.returned (.tuple #[(.int .i64 (k:Nat)),.int .i64 x40])) w1_13) (Below w2.heap.size w2 w1_13/\¬((xs[k].o.kind=1\/xs[k].o.kind=8)/\(lookF xs[k].o.t 1 0).2≠0))):=fun hk18 =>
    Check_calls xs[k].o.t (RTr.sub (sub_below B2) _ _ hrt) fun w3 hb3=>⟨_,rfl,brn (fun hne=>bad (by unfold badO;rw [hb0,if_pos ⟨hk18,hne⟩]) hne (btr B2 B2.size hb3)) fun he=>⟨hb3,fun q=>q.2 he⟩⟩
   simp only [bo.cell,lds]
   refine bre (fun h=>tree (.inl h)) fun hn1=>?_
   refine bre (fun h=>tree (.inr h)) fun hn8=>⟨.refl _ _,fun q=>?_⟩
   rcases q.1 with e | e
   ·exact hn1 e
   ·exact hn8 e
  rintro w3 ⟨hb3,htr⟩
  have B3:=btr B2 B2.size hb3
  unfold F61_j13
  have hbd:badO (L.take k) xs[k].o=if ((L.take k).any fun a=>cfB a xs[k].o)=true then 171 else 0:=by unfold badO;rw [hb0,if_neg htr]
  refine⟨fun q w'=>∃p:Nat,q=p/\p<=k/\Below w3.heap.size w3 w'/\((L.take p).any fun a=>cfB a xs[k].o)=false,fun q _=>k-q.toNat,⟨0,rfl,om,.refl _ _,rfl⟩,?_⟩
  rintro _ w4 ⟨p,rfl,hp,hb4,hno⟩
  have B4:=btr B3 B3.size hb4
  unfold F61_l14
  refine brd (fun hpk=>?_) (fun hpk=>?_)
  ·have hp2:p < k:=by omega
   have hdr:Below w4.heap.size w4 w4.drew:=(Below.refl _ _).drew
   have B5:=btr B4 B4.size hdr
   have bo5:=bo.keep (btr hb3 hb3.size (btr hb4 hb4.size hdr))
   have hLp:L[p]'om=xs[p].o:=by subst hL;rw [gmp]
   have htk:(L.take (p+1)).any (fun a=>cfB a xs[k].o)=cfB xs[p].o xs[k].o:=by
    rw [tsa om,List.any_append,hno,hLp];simp
   refine⟨fun w'=>Below w4.drew.heap.size w4.drew w',.refl _ _,?_⟩
   refine (hr.keep B5).held (fun _ h=>h) rfl om om rfl fun b oo cc=>?_
   simp only [tnc,Nat.add_zero] at cc
   have k0:=cc 0 _ rfl
   refine⟨_,k0,_,cc 1 _ rfl,_,cc 2 _ rfl,_,cc 3 _ rfl,_,cc 4 _ rfl,_,cc 5 _ rfl,_,cc 6 _ rfl,_,cc 7 _ rfl,_,_,_,cc 8 _ rfl,_,cc 9 _ rfl,_,_,_,cc 10 _ rfl,?_⟩
   simp only [Addr.add_mk,Nat.zero_add]
   have ho:∀(i:Nat) (u:Value),(opC xs[k])[i]?=some u->Held (fun w'=>Below w4.drew.heap.size w4.drew w') ⟨go,i,none⟩ u:=fun i u hu w' hw=>by rw [(bo5.keep hw).cell];exact hu
   refine⟨_,ho 0 _ rfl,_,ho 1 _ rfl,_,ho 2 _ rfl,_,ho 3 _ rfl,_,ho 4 _ rfl,_,ho 5 _ rfl,_,ho 6 _ rfl,_,ho 7 _ rfl,_,_,_,ho 8 _ rfl,_,ho 9 _ rfl,_,_,_,ho 10 _ rfl,?_⟩
   refine cfR_calls xs[p] xs[k] fun w6 hb6=>⟨_,rfl,?_⟩
   have B6:=btr B5 B5.size hb6
   refine br (fun hc=>?_) (fun hc=>?_)
   ·refine bad (v:=171) ?_ dc B6
    rw [hbd,if_pos]
    rw [List.any_eq_true]
    exact⟨xs[p].o,by rw [<-hLp,List.mem_iff_getElem];exact⟨p,by rw [ltk];omega,by rw [List.getElem_take]⟩,hc⟩
   ·exact⟨inR_i64 om om,⟨p+1,sm,om,btr hb4 hb4.size (btr hdr hdr.size hb6),by rw [htk];exact hc⟩,(by first | omega | (dsimp only;omega))⟩
  ·have hpe:p=k:=by omega
   subst hpe
   rw [hno,if_neg dc] at hbd
   exact⟨inR_i64 om om,⟨p+1,sm,om,B4,f1 hbd⟩,(by first | omega | (dsimp only;omega))⟩
 ·have hk2:k=xs.length:=by omega
  have H:=hK w1 hb1
  rw [<-hF,List.drop_of_length_le om,chkF] at H
  exact H
end
set_option maxRecDepth 100000
structure MpE (q:IntKind) (es:Array MapEntry) (clock:Nat) (f:Int->Option Value):Prop where
 key:∀x∈es.toList,∃k,x.key=.int q k/\f k=some x.val
 has:∀k v,f k=some v->∃x∈es.toList,x.key=.int q k
 one:(es.toList.map (·.key)).Nodup
 born:∀x∈es.toList,x.born < clock
 age:(es.toList.map (·.born)).Nodup
def Mp (q:IntKind) (w:World) (b:Nat) (f:Int->Option Value):Prop:=∃es clock,w.heap[b]?=some (.map es clock)/\MpE q es clock f
theorem findNow_int {q:IntKind}{k:Int}:∀(l:List MapEntry) (i:Nat),(∀x∈l,∃a,x.key=.int q a) ->
  (Instr.findNow (.int q) (.int q k) l i=some none/\∀x∈l,x.key≠.int q k)\/∃j x,l[j]?=some x/\x.key=.int q k/\Instr.findNow (.int q) (.int q k) l i=some (some (i+j,x.val))
 | [],i,_=>.inl ⟨rfl,fun x h=>by simp at h⟩
 | x :: l,i,h=>by
  obtain⟨a,ha⟩:=h x sm
  by_cases hk:k=a
  ·subst hk
   refine .inr ⟨0,x,rfl,ha,?_⟩
   simp [Instr.findNow,ha,Instr.sameNow]
  ·have e:Instr.findNow (.int q) (.int q k) (x :: l) i=Instr.findNow (.int q) (.int q k) l (i+1):=by
    have hb:(k == a)=false:=by simpa using hk
    simp [Instr.findNow,ha,Instr.sameNow,hb]
   rcases findNow_int l (i+1) fun y hy=>h y (by simp [hy]) with ⟨h1,h2⟩ | ⟨j,y,h1,h2,h3⟩
   ·refine .inl ⟨by rw [e,h1],fun y hy=>?_⟩
    rcases List.mem_cons.1 hy with rfl | hy
    ·rw [ha];intro h;injection h with _ h;exact hk h.symm
    ·exact h2 y hy
   ·exact .inr ⟨j+1,y,by simpa using h1,h2,by rw [e,h3];congr 2;simp;omega⟩
section
variable {P:Program}{q:IntKind}{w:World}{b:Nat}{f:Int->Option Value}{t kt et:TypeId}
theorem Mp.find (h:Mp q w b f) (k:Int):∃es clock,w.heap[b]?=some (.map es clock)/\MpE q es clock f /\
  ((f k=none/\Instr.findNow (.int q) (.int q k) es.toList 0=some none)\/∃j x,es.toList[j]?=some x/\x.key=.int q k/\f k=some x.val/\Instr.findNow (.int q) (.int q k) es.toList 0=some (some (j,x.val))):=by
 obtain⟨es,clock,hb,he⟩:=h
 refine⟨es,clock,hb,he,?_⟩
 rcases findNow_int (k:=k) es.toList 0 fun x hx=>(he.key x hx).imp fun _ h=>h.1 with ⟨h1,h2⟩ | ⟨j,x,h1,h2,h3⟩
 ·refine .inl ⟨?_,h1⟩
  cases hf:f k with
  | none=>rfl
  | some v =>
   obtain⟨x,hx,hk⟩:=he.has k v hf
   exact absurd hk (h2 x hx)
 ·refine .inr ⟨j,x,h1,h2,?_,by simpa using h3⟩
  obtain⟨a,ha,hv⟩:=he.key x (mog h1)
  rw [h2] at ha;injection ha with _ ha;subst ha;exact hv
theorem Mp.look (h:Mp q w b f) (ht:P.underlying t=some (.map kt et)) (hk:P.underlying kt=some (.int q)) {z:Value} (hz:(zeroValue et).run P w=.ok z w) (k:Int) (c:Bool) {K:Value->World->Prop}
  (hK:K (if c then .tuple #[(f k).getD z,.bool (f k).isSome] else (f k).getD z) w):Raw P (Instr.lookup t (.map (some b)) (.int q k) c) w K:=by
 obtain⟨es,clock,hb,he,h2⟩:=h.find k
 have hc:(Instr.checkKey es.isEmpty 10000 kt (.int q k)).run P w=.ok () w:=MapKept.run_checkKey (k:=.int q k) hk (by simp [MapKept.IsKey]) _ 9999
 rcases h2 with ⟨h1,h2⟩ | ⟨j,x,h3,h4,h1,h2⟩
 ·rw [h1] at hK
  refine⟨_,w,?_,hK⟩
  simp [Instr.lookup,run_underlying ht,MapKept.run_getObj_map hb,hc,MapKept.run_findKey hk h2,hz,Result.andThen]
 ·rw [h1] at hK
  refine⟨_,w,?_,hK⟩
  simp [Instr.lookup,run_underlying ht,MapKept.run_getObj_map hb,hc,MapKept.run_findKey hk h2,Result.andThen]
def upd (f:Int->Option Value) (k:Int) (v:Option Value):Int->Option Value:=fun j=>if j=k then v else f j
theorem Mp.lt (h:Mp q w b f):b < w.heap.size:=by
 obtain⟨es,clock,hb,_⟩:=h;exact (agi.1 hb).1
theorem MpE.push {es:Array MapEntry}{clock:Nat} (he:MpE q es clock f) {k:Int} (hk:f k=none) (v:Value):MpE q (es.push ⟨.int q k,v,clock⟩) (clock+1) (upd f k (some v)):=by
 have hne:∀x∈es.toList,∀a,x.key=.int q a->a≠k:=fun x hx a ha e=>by
  obtain⟨a',h1,h2⟩:=he.key x hx
  rw [ha] at h1;injection h1 with _ h1;subst h1;subst e;rw [hk] at h2;cases h2
 refine⟨fun x hx=>?_,fun j u hu=>?_,?_,fun x hx=>?_,?_⟩
 ·rw [Array.toList_push] at hx
  rcases List.mem_append.1 hx with hx | hx
  ·obtain⟨a,h1,h2⟩:=he.key x hx
   exact⟨a,h1,by unfold upd;rw [if_neg (hne x hx a h1)];exact h2⟩
  ·rw [List.mem_singleton] at hx;subst hx
   exact⟨k,rfl,by unfold upd;rw [if_pos rfl]⟩
 ·unfold upd at hu
  by_cases e:j=k
  ·subst e;exact⟨⟨.int q j,v,clock⟩,sm,rfl⟩
  ·rw [if_neg e] at hu
   obtain⟨x,hx,h1⟩:=he.has j u hu
   exact⟨x,by simp [Array.mem_toList_iff.1 hx],h1⟩
 ·rw [Array.toList_push,List.map_append,List.nodup_append]
  refine⟨he.one,sm,fun x hx y hy e=>?_⟩
  rw [List.map_singleton,List.mem_singleton] at hy
  obtain⟨z,hz,rfl⟩:=List.mem_map.1 hx
  obtain⟨a,h1,-⟩:=he.key z hz
  rw [h1,hy] at e;injection e with _ e
  exact hne z hz a h1 e
 ·rw [Array.toList_push] at hx
  rcases List.mem_append.1 hx with hx | hx
  ·have:=he.born x hx;omega
  ·rw [List.mem_singleton] at hx;subst hx;exact Nat.lt_succ_self _
 ·rw [Array.toList_push,List.map_append,List.nodup_append]
  refine⟨he.age,sm,fun x hx y hy e=>?_⟩
  rw [List.map_singleton,List.mem_singleton] at hy
  obtain⟨z,hz,rfl⟩:=List.mem_map.1 hx
  have:=he.born z hz
  simp only at hy e
  omega
theorem modify_list (es:Array MapEntry) (j:Nat) (g:MapEntry->MapEntry):(es.modify j g).toList=es.toList.modify j g:=Array.toList_modify
theorem map_modify_same {α β:Type} (p:α->β) (g:α->α):∀(l:List α) (j:Nat),(∀x,l[j]?=some x->p (g x)=p x)->(l.modify j g).map p=l.map p
 | [],j,_=>by cases j <;> rfl
 | x :: l,0,h=>by simp [List.modify,h x rfl]
 | x :: l,j+1,h=>by simpa using map_modify_same p g l j fun y hy=>h y (by simpa using hy)
theorem mem_modify {α:Type} (g:α->α):∀(l:List α) (j:Nat) (y:α),l[j]?=some y->∀x,x∈l.modify j g->x=g y\/∃i,i≠j/\l[i]?=some x
 | [],j,y,h,x,hx=>by simp at h
 | a :: l,0,y,h,x,hx=>by
  simp at h;subst h
  rw [List.modify_zero_cons] at hx
  rcases List.mem_cons.1 hx with rfl | hx
  ·exact .inl rfl
  ·obtain⟨i,hi⟩:=List.mem_iff_getElem?.1 hx
   exact .inr ⟨i+1,om,by simpa using hi⟩
 | a :: l,j+1,y,h,x,hx=>by
  rw [List.modify_succ_cons] at hx
  rcases List.mem_cons.1 hx with rfl | hx
  ·exact .inr ⟨0,om,rfl⟩
  ·rcases mem_modify g l j y (by simpa using h) x hx with h1 | ⟨i,h1,h2⟩
   ·exact .inl h1
   ·exact .inr ⟨i+1,om,by simpa using h2⟩
theorem MpE.put {es:Array MapEntry}{clock:Nat} (he:MpE q es clock f) {k:Int}{j:Nat}{y:MapEntry} (hj:es.toList[j]?=some y) (hy:y.key=.int q k) (v:Value) :
  MpE q (es.modify j fun e=>{ e with key:=.int q k,val:=v }) clock (upd f k (some v)):=by
 have hym:=mog hj
 have hkeys:(es.modify j fun e=>{ e with key:=.int q k,val:=v }).toList.map (·.key)=es.toList.map (·.key):=by
  rw [modify_list];exact map_modify_same _ _ _ _ fun x hx=>by rw [hj] at hx;cases hx;exact hy.symm
 have hborn:(es.modify j fun e=>{ e with key:=.int q k,val:=v }).toList.map (·.born)=es.toList.map (·.born):=by
  rw [modify_list];exact map_modify_same _ _ _ _ fun x hx=>rfl
 refine⟨fun x hx=>?_,fun i u hu=>?_,by rw [hkeys];exact he.one,fun x hx=>?_,by rw [hborn];exact he.age⟩
 ·rw [modify_list] at hx
  rcases mem_modify _ _ _ y hj x hx with rfl | ⟨i,hi,hx2⟩
  ·exact⟨k,rfl,by unfold upd;rw [if_pos rfl]⟩
  ·obtain⟨a,h1,h2⟩:=he.key x (mog hx2)
   refine⟨a,h1,?_⟩
   have hne:a≠k:=fun e=>by
    subst e
    obtain⟨l1,l2⟩:=gsi.1 hx2
    obtain⟨m1,m2⟩:=gsi.1 hj
    have hpw:=List.pairwise_iff_getElem.1 he.one
    rcases Nat.lt_or_gt_of_ne hi with h3 | h3
    ·have:=hpw i j (by simpa using l1) (by simpa using m1) h3
     simp only [gmp,l2,m2] at this
     exact this (by rw [h1,hy])
    ·have:=hpw j i (by simpa using m1) (by simpa using l1) h3
     simp only [gmp,l2,m2] at this
     exact this (by rw [h1,hy])
   unfold upd;rw [if_neg hne];exact h2
 ·have hex:∃x∈es.toList,x.key=.int q i:=by
   unfold upd at hu
   by_cases e:i=k
   ·subst e;exact⟨y,hym,hy⟩
   ·rw [if_neg e] at hu;exact he.has i u hu
  obtain⟨x,hx,h1⟩:=hex
  have:Value.int q i∈(es.modify j fun e=>{ e with key:=.int q k,val:=v }).toList.map (·.key):=by
   rw [hkeys];exact List.mem_map.2 ⟨x,hx,h1⟩
  obtain⟨x',hx',h2⟩:=List.mem_map.1 this
  exact⟨x',hx',h2⟩
 ·have:x.born∈es.toList.map (·.born):=by rw [<-hborn];exact List.mem_map.2 ⟨x,hx,rfl⟩
  obtain⟨z,hz,h1⟩:=List.mem_map.1 this
  rw [<-h1];exact he.born z hz
theorem set_fm (w:World) (b:Nat) (o:Obj):Fm (·=b) w { w with heap:=w.heap.setIfInBounds b o } :=
 ⟨rfl,rfl,rfl,sm,fun i hi hne=>by
  show (w.heap.setIfInBounds b o)[i]?=_
  rw [Array.getElem?_setIfInBounds_ne (fun e=>hne e.symm)]⟩
theorem Mp.update (h:Mp q w b f) (ht:P.underlying t=some (.map kt et)) (hk:P.underlying kt=some (.int q)) (k:Int) (v:Value) {K:World->Prop}
  (hK:∀w',Mp q w' b (upd f k (some v))->Fm (·=b) w w'->K w'):Raw P (Instr.mapUpdate t (.map (some b)) (.int q k) v) w fun _ w'=>K w':=by
 obtain⟨es,clock,hb,he,h2⟩:=h.find k
 have hlt:=(agi.1 hb).1
 have hc:(Instr.checkKey false 10000 kt (.int q k)).run P w=.ok () w:=MapKept.run_checkKey (k:=.int q k) hk (by simp [MapKept.IsKey]) _ 9999
 rcases h2 with ⟨h1,h2⟩ | ⟨j,x,h3,h4,h1,h2⟩
 ·refine⟨(),{ w with heap:=w.heap.setIfInBounds b (.map (es.push ⟨.int q k,v,clock⟩) (clock+1)) },?_,hK _ ⟨_,_,?_,he.push h1 v⟩ (set_fm _ _ _)⟩
  ·simp [Instr.mapUpdate,run_underlying ht,MapKept.run_getObj_map hb,hc,MapKept.run_findKey hk h2,MapKept.run_setObj_map _ hb,Result.andThen]
  ·simp [hlt]
 ·refine⟨(),{ w with heap:=w.heap.setIfInBounds b (.map (es.modify j fun e=>{ e with key:=.int q k,val:=v }) clock) },?_,hK _ ⟨_,_,?_,he.put h3 h4 v⟩ (set_fm _ _ _)⟩
  ·have hj:(es[j]?).map (·.key)=some (.int q k):=by
    rw [<-Array.getElem?_toList,h3,Option.map_some,h4]
   have hst:(Instr.keyThatStays (.int q k) (.int q k)).run P w=.ok (.int q k) w:=MapKept.run_keyThatStays (d:=.int q) (by simp [MapKept.IsKey])
   simp only [Instr.mapUpdate,Sem.run_bind,run_underlying ht,MapKept.run_getObj_map hb,hc,MapKept.run_findKey hk h2,MapKept.run_setObj_map _ hb,Result.andThen,hj,hst,Option.getD_some]
  ·simp [hlt]
theorem Mp.made (w:World) (q:IntKind):Mp q (w.alloc (.map #[] 0)) w.heap.size fun _=>none :=
 ⟨#[],0,heap_alloc_new _ _,⟨fun x hx=>by simp at hx,fun k v h=>by simp at h,sm,fun x hx=>by simp at hx,sm⟩⟩
theorem Mp.fm {M:Nat->Prop}{w1:World} (h:Mp q w b f) (hf:Fm M w w1) (hm:¬M b):Mp q w1 b f:=by
 obtain⟨es,clock,hb,he⟩:=h
 exact⟨es,clock,by rw [hf.block b (agi.1 hb).1 hm];exact hb,he⟩
end
set_option maxRecDepth 100000
theorem opMap:Tryz.prog.underlying 223=some (.map 42 26):=by kernel_rfl
theorem opKey:Tryz.prog.underlying 42=some (.int .u64):=by kernel_rfl
theorem opZero (w:World):(zeroValue 26).run P0 w=.ok (.slice none 0 0) w:=by kernel_rfl
theorem Apart.sym {v u:Value} (h:Apart v u):Apart u v:=by
 rcases h with h | h
 ·cases hu:rowOf u with
  | none=>exact .inl hu
  | some k=>exact .inr (by rw [h,hu];simp)
 ·exact .inr fun e=>h e.symm
theorem Apart.nilR {v:Value}{n c:Nat}:Apart v (.slice none n c):=by
 cases h:rowOf v with
 | none=>exact .inl h
 | some k=>exact .inr (by rw [h];intro hc;cases c <;> cases hc)
theorem mp_new (q:IntKind) {w:World}{r:Nat} (h:w.heap[r]?=some (.map #[] 0)):Mp q w r fun _=>none:=⟨#[],0,h,⟨fun x hx=>by simp at hx,fun k v h=>by simp at h,sm,fun x hx=>by simp at hx,sm⟩⟩
theorem almM {w:World}{K:Nat->World->Prop} (h:∀r w1,Below w.heap.size w w1->w.heap.size<=r->r < w1.heap.size->w1.heap[r]?=some (.map #[] 0)->K r w1):AlM w K :=
 h _ _ ((Below.refl _ _).alloc (Nat.le_refl _) _) (Nat.le_refl _) sm (heap_alloc_new _ _)
def mpAh (pre:List E11) (av:Nat->Sv) (k:Int):Option Value:=if 0<=k/\ahE pre k.toNat≠[] then some (slV (av k.toNat)) else none
structure Ah (w0 w:World) (m:Nat) (pre:List E11) (av:Nat->Sv):Prop where
 fr:Below w0.heap.size w0 w
 ml:w0.heap.size<=m
 mp:Mp .u64 w m (mpAh pre av)
 ho:∀n,Own LOp w w0.heap.size 50 (slV (av n)) (ahE pre n)
 hm:∀n,rowOf (slV (av n))≠some m
 ha:∀n k,n≠k->Apart (slV (av n)) (slV (av k))
section
variable {w0 w w1:World}{m:Nat}{pre:List E11}{av:Nat->Sv}{x:E11}
theorem Ah.keep (h:Ah w0 w m pre av) (hb:Below w.heap.size w w1):Ah w0 w1 m pre av :=
 ⟨btr h.fr h.fr.size hb,h.ml,h.mp.fm (M:=fun _=>False) (.below hb) (fun h=>h),fun n=>(h.ho n).keep hb,h.hm,h.ha⟩
theorem Ah.start (hm:w.heap[m]?=some (.map #[] 0)) (hb:Below w0.heap.size w0 w) (hl:w0.heap.size<=m):Ah w0 w m [] fun _=>(none,0,0):=by
 refine⟨hb,hl,?_,fun n=>Own.nil _ _ _ _,fun n e=>(by cases e),fun n k _=>.inl rfl⟩
 have:mpAh [] (fun _=>((none,0,0):Sv))=fun _=>none:=by
  funext k
  unfold mpAh
  rw [if_neg (fun q=>q.2 rfl)]
 rw [this];exact mp_new .u64 hm
theorem Ah.look (h:Ah w0 w m pre av) (n:Nat) {K:Value->World->Prop} (hK:∀v,Own LOp w w0.heap.size 50 (slV v) (ahE pre n)->rowOf (slV v)≠some m->(∀x,rowOf (slV v)=some x->rowOf (slV (av n))=some x)->(∀k,k≠n->Apart (slV (av k)) (slV v))->K (slV v) w) :
  Raw P0 (Instr.lookup 223 (.map (some m)) (.int .u64 (n:Nat)) false) w K:=by
 refine h.mp.look opMap opKey (opZero w) (n:Nat) false ?_
 rw [if_neg dc]
 unfold mpAh
 by_cases e:ahE pre n=[]
 ·rw [if_neg (fun q=>q.2 (by rw [tnc];exact e))]
  exact hK (none,0,0) (by rw [e];exact Own.nil _ _ _ _) (fun q=>(by cases q)) (fun x q=>by cases q) fun k _=>Apart.nilR
 ·rw [if_pos ⟨om,by rw [tnc];exact e⟩,tnc]
  exact hK (av n) (h.ho n) (h.hm n) (fun x q=>q) fun k hk=>h.ha k n hk
theorem Ah.put (h:Ah w0 w m pre av) (hx:(sgB x.o.kind || atK x.o.kind)=true) {v v1:Sv} (hv:Own LOp w w0.heap.size 50 (slV v) (ahE pre x.o.node)) (hvm:rowOf (slV v)≠some m) (hva:∀k,k≠x.o.node->Apart (slV (av k)) (slV v))
  {w2:World} (g:Grew w0.heap.size w w2 (slV v) (slV v1)) (h1:Own LOp w2 w0.heap.size 50 (slV v1) (ahE pre x.o.node++[x])) {K:World->Prop}
  (hK:∀w' av',Ah w0 w' m (pre++[x]) av'->w.heap.size<=w'.heap.size->K w') :
  Raw P0 (Instr.mapUpdate 223 (.map (some m)) (.int .u64 (x.o.node:Nat)) (slV v1)) w2 fun _ w'=>K w':=by
 have FG:Fm (fun b=>rowOf (slV v)=some b) w w2:=Fm.grown g.grown fun b hb=>hb
 have hml:=h.mp.lt
 refine (h.mp.fm FG hvm).update opMap opKey (x.o.node:Nat) (slV v1) fun w' hm hf=>?_
 have FF:Fm (fun b=>b=m\/rowOf (slV v)=some b) w w':=(FG.mono fun b _ e=>.inr e).trans (hf.mono fun b _ e=>.inl e)
 have hmem:∀y,rowOf (slV v1)=some y->rowOf (slV v)=some y\/w.heap.size<=y:=fun y hy=>by
  rcases g.row with e | e | ⟨q,e,e2⟩
  ·rw [e] at hy;exact .inl hy
  ·rw [e] at hy;cases hy
  ·rw [e] at hy;cases hy;exact .inr e2
 have hm1:rowOf (slV v1)≠some m:=fun e=>by
  rcases hmem m e with q | q
  ·exact hvm q
  ·omega
 have hap:∀n,ahE (pre++[x]) n=if n=x.o.node then ahE pre n++[x] else ahE pre n:=fun n=>by
  rw [ahE_app,hx,Bool.and_true]
  by_cases e:x.o.node=n
  ·rw [if_pos (by simpa using e),if_pos e.symm]
  ·rw [if_neg (by simpa using e),if_neg (fun q=>e q.symm),List.append_nil]
 have hsub:Below w0.heap.size w w':=g.below.trans (hf.toBelow (Nat.le_trans h.fr.size g.lt) fun b hb e=>by have e:b=m:=e;have:=h.ml;omega)
 refine hK w' (fun n=>if n=x.o.node then v1 else av n) ⟨h.fr.trans hsub,h.ml,?_,fun n=>?_,fun n=>?_,fun n k hnk=>?_⟩ FF.size
 ·have:mpAh (pre++[x]) (fun n=>if n=x.o.node then v1 else av n)=upd (mpAh pre av) (x.o.node:Nat) (some (slV v1)):=by
   funext k
   unfold mpAh upd
   dsimp only
   by_cases e:k=(x.o.node:Int)
   ·subst e
    rw [if_pos rfl,tnc,hap,if_pos rfl,if_pos ⟨om,sm⟩,if_pos rfl]
   ·rw [if_neg e]
    by_cases h0:0<=k
    ·have e2:k.toNat≠x.o.node:=by omega
     rw [hap,if_neg e2,if_neg e2]
    ·rw [if_neg (fun q=>h0 q.1),if_neg (fun q=>h0 q.1)]
  rw [this];exact hm
 ·rw [hap]
  by_cases e:n=x.o.node
  ·subst e
   simp only [if_pos rfl]
   exact own_fm h1 hf fun b hb e=>hm1 (by rw [<-show b=m from e];simpa using hb)
  ·simp only [if_neg e]
   refine own_fm (h.ho n) FF fun y hy q=>?_
   rcases q with q | q
   ·subst q;exact h.hm n hy
   ·rcases hva n e with q2 | q2
    ·rw [q2] at hy;cases hy
    ·exact q2 (hy.trans q.symm)
 ·by_cases e:n=x.o.node
  ·simp only [if_pos e];exact hm1
  ·simp only [if_neg e];exact h.hm n
 ·have key:∀c,c≠x.o.node->Apart (slV (av c)) (slV v1):=fun c hc=>by
   rcases g.row with q | q | ⟨z,q,q2⟩
   ·rcases hva c hc with p | p
    ·exact .inl p
    ·exact .inr (by rw [q];exact p)
   ·cases hr:rowOf (slV (av c)) with
    | none=>exact .inl hr
    | some y=>exact .inr (by rw [hr,q];simp)
   ·cases hr:rowOf (slV (av c)) with
    | none=>exact .inl hr
    | some y =>
     refine .inr ?_
     rw [hr,q]
     intro p
     have p:y=z:=by simpa using p
     have:=((h.ho c).lt y hr).2
     omega
  by_cases ea:n=x.o.node
  ·have eb:k≠x.o.node:=fun e=>hnk (ea.trans e.symm)
   simp only [if_pos ea,if_neg eb]
   exact (key k eb).sym
  ·by_cases eb:k=x.o.node
   ·simp only [if_neg ea,if_pos eb];exact key n ea
   ·simp only [if_neg ea,if_neg eb];exact h.ha n k hnk
theorem Ah.skip (h:Ah w0 w m pre av) (hx:(sgB x.o.kind || atK x.o.kind)=false):Ah w0 w m (pre++[x]) av:=by
 have hap:∀n,ahE (pre++[x]) n=ahE pre n:=fun n=>by
  rw [ahE_app,hx,Bool.and_false,if_neg dc,List.append_nil]
 refine⟨h.fr,h.ml,?_,fun n=>by rw [hap];exact h.ho n,h.hm,h.ha⟩
 have:mpAh (pre++[x]) av=mpAh pre av:=by
  funext k
  unfold mpAh
  rw [hap]
 rw [this];exact h.mp
end
set_option maxRecDepth 100000
section
variable {w:World}{R:RT}
theorem badO_cf {pre:List O1}{o:O1} (h1:1<=o.kind) (h8:o.kind<=8) (ht:¬((o.kind=1\/o.kind=8)/\(lookF o.t 1 0).2≠0)):badO pre o=if (pre.any fun a=>cfB a o)=true then 171 else 0:=by
 unfold badO
 rw [if_neg om,if_neg ht]
theorem put_op {w0 w2 w5 : World} {m go : Nat} {pre : List E11} {av : Nat -> Sv} {x : E11} (h : Ah w0 w2 m pre av) (h5 : Below w2.heap.size w2 w5) (bo : Blk w5 go (opC x) 50) (hgo : w2.heap.size <= go) (hpl : pre.length <= 4096) (hx : (sgB x.o.kind || atK x.o.kind) = true) {J : World -> Prop}
    (hJ : ∀ w' av', Ah w0 w' m (pre ++ [x]) av' -> J w') :
    ∃ S : World -> Prop, S w5.drew /\ ∃ (x69 : Int), Held S ⟨go, 1, none⟩ (.int .u64 x69) /\ ∃ (x72 : Int), Held S ⟨go, 1, none⟩ (.int .u64 x72) /\ ∃ (x74_0 : Int), Held S ⟨go, 0, none⟩ (.int .i64 x74_0) /\ ∃ (x74_1 : Int), Held S ⟨go, 1, none⟩ (.int .u64 x74_1) /\ ∃ (x74_2 : Int), Held S ⟨go, 2, none⟩ (.int .u64 x74_2) /\ ∃ (x74_3 : Int), Held S ⟨go, 3, none⟩ (.int .i64 x74_3) /\ ∃ (x74_4 : ByteArray), Held S ⟨go, 4, none⟩ (.string x74_4) /\ ∃ (x74_5 : ByteArray), Held S ⟨go, 5, none⟩ (.string x74_5) /\ ∃ (x74_6 : Int), Held S ⟨go, 6, none⟩ (.int .i64 x74_6) /\ ∃ (x74_7 : ByteArray), Held S ⟨go, 7, none⟩ (.string x74_7) /\ ∃ (x74_8 : OA) (x74_8N : Nat) (x74_8C : Nat), Held S ⟨go, 8, none⟩ (.slice x74_8 x74_8N x74_8C) /\ ∃ (x74_9 : ByteArray), Held S ⟨go, 9, none⟩ (.string x74_9) /\ ∃ (x74_10 : OA) (x74_10N : Nat) (x74_10C : Nat), Held S ⟨go, 10, none⟩ (.slice x74_10 x74_10N x74_10C) /\ (Raw P0 (Instr.lookup 223 (.map (some m)) (.int .u64 x72) false) w5.drew fun v3 w1_17 =>
 ∃ (x73 : OA) (x73N : Nat) (x73C : Nat), v3 = (.slice x73 x73N x73C) /\
 S w1_17 /\ Al w1_17 #[.int .i64 x74_0, (.int .u64 x74_1), (.int .u64 x74_2), (.int .i64 x74_3), (.string x74_4), (.string x74_5), (.int .i64 x74_6), (.string x74_7), (.slice x74_8 x74_8N x74_8C), (.string x74_9), (.slice x74_10 x74_10N x74_10C)] 50 fun g75 w1_18 =>
 S w1_18 /\ Raw P0 (Builtin.append_ #[26, 26] 26 #[.slice x73 x73N x73C, (.slice (some g75) 1 1)]) w1_18 fun v4 w1_19 =>
 ∃ (x76 : OA) (x76N : Nat) (x76C : Nat), v4 = (.slice x76 x76N x76C) /\
 S w1_19 /\ Raw P0 (Instr.mapUpdate 223 (.map (some m)) (.int .u64 x69) (.slice x76 x76N x76C)) w1_19 fun _ w1_20 =>
 J w1_20)
 /\ (Al w5.drew #[.int .i64 x74_0, (.int .u64 x74_1), (.int .u64 x74_2), (.int .i64 x74_3), (.string x74_4), (.string x74_5), (.int .i64 x74_6), (.string x74_7), (.slice x74_8 x74_8N x74_8C), (.string x74_9), (.slice x74_10 x74_10N x74_10C)] 50 fun g75 w1_17 =>
 S w1_17 /\ Raw P0 (Instr.lookup 223 (.map (some m)) (.int .u64 x72) false) w1_17 fun v3 w1_18 =>
 ∃ (x73 : OA) (x73N : Nat) (x73C : Nat), v3 = (.slice x73 x73N x73C) /\
 S w1_18 /\ Raw P0 (Builtin.append_ #[26, 26] 26 #[.slice x73 x73N x73C, (.slice (some g75) 1 1)]) w1_18 fun v4 w1_19 =>
 ∃ (x76 : OA) (x76N : Nat) (x76C : Nat), v4 = (.slice x76 x76N x76C) /\
 S w1_19 /\ Raw P0 (Instr.mapUpdate 223 (.map (some m)) (.int .u64 x69) (.slice x76 x76N x76C)) w1_19 fun _ w1_20 =>
 J w1_20) := by
  have hdr : Below w5.heap.size w5 w5.drew := (Below.refl _ _).drew
  have hs5 := h5.size
  have hs0 := h.fr.size
  have D5 := btr h5 hs5 hdr
  have hE : (ahE pre x.o.node).length <= 4096 := Nat.le_trans (ahE_len _ _) hpl
  refine ⟨fun w' => Blk w' go (opC x) 50, bo.keep hdr, ?_⟩
  have ho : ∀ (i : Nat) (u : Value), (opC x)[i]? = some u -> Held (fun w' => Blk w' go (opC x) 50) ⟨go, i, none⟩ u := fun i u hu w' hw => by rw [hw.cell]; exact hu
  refine ⟨_, ho 1 _ rfl, _, ho 1 _ rfl, _, ho 0 _ rfl, _, ho 1 _ rfl, _, ho 2 _ rfl, _, ho 3 _ rfl, _, ho 4 _ rfl, _, ho 5 _ rfl, _, ho 6 _ rfl, _, ho 7 _ rfl, _, _, _, ho 8 _ rfl, _, ho 9 _ rfl, _, _, _, ho 10 _ rfl, ?_, ?_⟩
  · have hA := h.keep D5
    refine hA.look x.o.node fun v hv hvm hvr hva => ⟨_, _, _, rfl, bo.keep hdr, ?_⟩
    have hgv : rowOf (slV v) ≠ some go := fun e => by have := ((h.ho x.o.node).lt go (hvr go e)).2; omega
    refine ap1S (L := LOp) (x := x) (S := fun w' => Blk w' go (opC x) 50) (base := w0.heap.size) (.agg #[.int .i64 0, .int .u64 0, .int .u64 0, .int .i64 0, .string (ByteArray.mk #[]), .string (ByteArray.mk #[]), .int .i64 0, .string (ByteArray.mk #[]), .slice none 0 0, .string (ByteArray.mk #[]), .slice none 0 0]) 152 rfl kr kr kr hv (Nat.le_trans hs0 D5.size) om (by unfold maxLen; omega)
      (fun w1 hb => (bo.keep hdr).keep hb) fun A' c' w6 o6 g6 => ⟨A', _, c', rfl, ?_, ?_⟩
    · exact (Fm.grown g6.grown fun b hb => hb : Fm (fun b => rowOf (slV v) = some b) _ _).blk (bo.keep hdr) hgv
    · exact hA.put (v1 := (A', _, c')) hx hv hvm hva g6 o6 fun w7 av7 h7 _ => hJ w7 av7 h7
  · refine al fun ga w6 hb6 b6 hga => ⟨(bo.keep hdr).keep hb6, ?_⟩
    have D6 := btr D5 D5.size hb6
    have hA := h.keep D6
    refine hA.look x.o.node fun v hv hvm hvr hva => ⟨_, _, _, rfl, (bo.keep hdr).keep hb6, ?_⟩
    have hgv : rowOf (slV v) ≠ some go := fun e => by have := ((h.ho x.o.node).lt go (hvr go e)).2; omega
    have hrl : Rd LOp w6 (some ⟨ga, 0, none⟩) 1 [x] := rd_row (xs := [x]) b6 rfl (by simp [maxLen])
    refine ap (L := LOp) (ys := [x]) (base := w0.heap.size) (.agg #[.int .i64 0, .int .u64 0, .int .u64 0, .int .i64 0, .string (ByteArray.mk #[]), .string (ByteArray.mk #[]), .int .i64 0, .string (ByteArray.mk #[]), .slice none 0 0, .string (ByteArray.mk #[]), .slice none 0 0]) 152 rfl kr kr kr hv hrl (Nat.le_trans hs0 D6.size) (by simp only [List.length_singleton]; omega) (by simp only [List.length_singleton]; unfold maxLen; omega) fun A' c' w7 o7 g7 => ⟨A', _, c', rfl, ?_, ?_⟩
    · exact (Fm.grown g7.grown fun b hb => hb : Fm (fun b => rowOf (slV v) = some b) _ _).blk ((bo.keep hdr).keep hb6) hgv
    · exact hA.put (v1 := (A', _, c')) hx hv hvm hva g7 o7 fun w8 av8 h8 _ => hJ w8 av8 h8
theorem checkP_calls (xs:List E11) {A:OA}{c:Nat} (hr:Rd LOp w A c xs) (hx:∀x∈xs,ROp w x) (hT:Tabs w) (hl:xs.length<=1048576) (hK:∀w',Below w.heap.size w w'->R (.returned (.tuple #[.int .i64 ((checkF (xs.map (·.o))).1:Nat),.int .i64 (checkF (xs.map (·.o))).2])) w') :
  Calls P0 74 #[.slice A xs.length c] w R:=by
 refine ok74 A xs.length c ?_
 unfold F74
 generalize hL:xs.map (·.o)=L at *
 have hlen:L.length=xs.length:=by rw [<-hL,lmp]
 refine brd (fun hgt=>?_) (fun hle=>?_)
 ·have H:=hK w (.refl _ _)
  unfold checkF at H
  rw [if_pos om] at H
  exact H
 have hle:L.length<=4096:=by omega
 refine almM fun m w1 hb1 hge1 hlt1 hm1=>?_
 refine⟨fun i w'=>∃(k:Nat) (av:Nat->Sv),i=k/\k<=xs.length/\Ah w w' m (xs.take k) av/\chkF (L.take k) (L.drop k)=checkF L,fun i _=>xs.length-i.toNat,⟨0,_,rfl,om,Ah.start hm1 hb1 hge1,by unfold checkF;rw [if_neg om];rfl⟩,?_⟩
 rintro _ w1 ⟨k,av,rfl,hk,hA1,hF⟩
 have hb1:=hA1.fr
 unfold F74_l5
 refine brd (fun hlt=>?_) (fun hge=>?_)
 ·have hk2:k < xs.length:=by omega
  obtain⟨f1,f2⟩:=chk_at hle om hF
  have hLk:L[k]'om=xs[k].o:=by subst hL;rw [gmp]
  have hLt:L.take k=(xs.take k).map (·.o):=by subst hL;rw [List.map_take]
  rw [hLk] at f1 f2
  have bad:∀{v:Int}{w':World},badO (L.take k) xs[k].o=v->v≠0->Below w.heap.size w w'->R (.returned (.tuple #[.int .i64 (k:Nat),.int .i64 v])) w':=fun {v w'} e1 e2 hb=>by
   have H:=hK w' hb
   rw [f2 (by rw [e1];exact e2),e1] at H
   exact H
  have hrt:=(hx _ (gem hk2)).2
  have hr1:=hr.keep hb1
  have htk:xs.take (k+1)=xs.take k++[xs[k]]:=tsa hk2
  refine⟨fun w'=>badO (L.take k) xs[k].o=0/\∃av',Ah w w' m (xs.take (k+1)) av',?_,?_⟩
  ·rintro w' ⟨e,av',h'⟩
   exact⟨inR_i64 om om,⟨k+1,av',sm,om,h',f1 e⟩,(by first | omega | (dsimp only;omega))⟩
  refine hr1.idx rfl om om rfl fun b oo cc=>?_
  simp only [tnc] at cc
  have k0:=cc 0 _ rfl
  have k1:=cc 1 _ rfl
  have k2:=cc 2 _ rfl
  have k3:=cc 3 _ rfl
  have k4:=cc 4 _ rfl
  have k5:=cc 5 _ rfl
  have k6:=cc 6 _ rfl
  have k7:=cc 7 _ rfl
  have k8:=cc 8 _ rfl
  have k9:=cc 9 _ rfl
  have k10:=cc 10 _ rfl
  simp only [Nat.add_zero] at k0
  simp only [k0,k1,k2,k3,k4,k5,k6,k7,k8,k9,k10,lds]
  refine al11 fun go w2 hb2 bo hgo=>?_
  have B2:=btr hb1 hb1.size hb2
  simp only [bo.cell,lds]
  refine⟨fun w'=>w2=w'/\1<=xs[k].o.kind/\xs[k].o.kind<=8,?_,?_⟩
  rotate_left
  ·refine brd (fun h=>bad (by unfold badO;rw [if_pos (.inl h)]) dc B2) fun h1=>?_
   exact brd (fun h=>bad (by unfold badO;rw [if_pos (.inr h)]) dc B2) fun h2=>⟨rfl,om,om⟩
  rintro _ ⟨rfl,h1,h8⟩
  have hb0:∀x,(if xs[k].o.kind < 1\/8 < xs[k].o.kind then (170:Int) else x)=x:=fun x=>if_neg om
  unfold F74_j9
  refine⟨fun w'=>Below w2.heap.size w2 w'/\¬((xs[k].o.kind=1\/xs[k].o.kind=8)/\(lookF xs[k].o.t 1 0).2≠0),?_,?_⟩
  rotate_left
  ·have tree:(xs[k].o.kind=1\/xs[k].o.kind=8)->Calls P0 129 #[.agg #[.int .i64 xs[k].e.kind,.string xs[k].e.nm,slV xs[k].e.ats,.string xs[k].e.text,slV xs[k].e.kids]] w2 (post R fun v w1_13=>∃(x40:Int),v=(.int .i64 x40)/\Br (x40 != (0:Int)) (R (.returned (.tuple #[(.int .i64 (k:Nat)),.int .i64 x40])) w1_13) (Below w2.heap.size w2 w1_13/\¬((xs[k].o.kind=1\/xs[k].o.kind=8)/\(lookF xs[k].o.t 1 0).2≠0))):=fun hk18 =>
    checkT_calls (x:=xs[k].o.t) (RTr.sub (sub_below B2) _ _ hrt) (hT.sub (sub_below B2)) fun w3 hb3=>⟨_,rfl,brn (fun hne=>bad (by unfold badO;rw [hb0,if_pos ⟨hk18,hne⟩]) hne (btr B2 B2.size hb3)) fun he=>⟨hb3,fun q=>q.2 he⟩⟩
   simp only [bo.cell,lds]
   refine bre (fun h=>tree (.inl h)) fun hn1=>?_
   refine bre (fun h=>tree (.inr h)) fun hn8=>⟨.refl _ _,fun q=>?_⟩
   rcases q.1 with e | e
   ·exact hn1 e
   ·exact hn8 e
  rintro w3 ⟨hb3,htr⟩
  have B3:=btr B2 B2.size hb3
  have C3:=btr hb2 hb2.size hb3
  have bo3:=bo.keep hb3
  have hA3:=hA1.keep C3
  have hbd:=badO_cf (pre:=L.take k) h1 h8 htr
  rw [hLt,any_ah] at hbd
  unfold F74_j13
  simp only [bo3.cell,lds]
  refine hA3.look xs[k].o.node fun v hv hvm hvr hva=>⟨_,_,_,rfl,?_⟩
  obtain⟨z1,z2⟩:=hv.rd
  have hEl:=ahE_len (xs.take k) xs[k].o.node
  rw [ltk] at hEl
  refine⟨fun q w'=>∃p:Nat,q=p/\p<=(ahE (xs.take k) xs[k].o.node).length/\Below w3.heap.size w3 w'/\(((ahE (xs.take k) xs[k].o.node).take p).any fun a=>cfB a.o xs[k].o)=false,fun q _=>(ahE (xs.take k) xs[k].o.node).length-q.toNat,⟨0,rfl,om,.refl _ _,rfl⟩,?_⟩
  rintro _ w4 ⟨p,rfl,hp,hb4,hno⟩
  have B4:=btr B3 B3.size hb4
  have C4:=btr C3 C3.size hb4
  have bo4:=bo3.keep hb4
  unfold F74_l14
  refine brd (fun hpk=>?_) (fun hpk=>?_)
  ·have hp2:p < (ahE (xs.take k) xs[k].o.node).length:=by omega
   have hst:((ahE (xs.take k) xs[k].o.node).take (p+1)).any (fun a=>cfB a.o xs[k].o)=cfB (ahE (xs.take k) xs[k].o.node)[p].o xs[k].o:=by
    rw [tsa hp2,List.any_append,hno];simp
   refine (z2.keep hb4).idx z1 om om rfl fun b5 oo5 cc5=>?_
   simp only [tnc] at cc5
   generalize hy:(ahE (xs.take k) xs[k].o.node)[p]=y at *
   have l0:=cc5 0 _ rfl
   have l1:=cc5 1 _ rfl
   have l2:=cc5 2 _ rfl
   have l3:=cc5 3 _ rfl
   have l4:=cc5 4 _ rfl
   have l5:=cc5 5 _ rfl
   have l6:=cc5 6 _ rfl
   have l7:=cc5 7 _ rfl
   have l8:=cc5 8 _ rfl
   have l9:=cc5 9 _ rfl
   have l10:=cc5 10 _ rfl
   simp only [Nat.add_zero] at l0
   simp only [l0,l1,l2,l3,l4,l5,l6,l7,l8,l9,l10,lds]
   refine al11 fun g5 w5 hb5 b5 hg5=>?_
   have bo5:=bo4.keep hb5
   simp only [b5.cell,bo5.cell,lds]
   refine cfP_calls y xs[k] fun w6 hb6=>⟨_,rfl,?_⟩
   have C6:=btr hb4 hb4.size (btr hb5 hb5.size hb6)
   refine br (fun hc=>?_) (fun hc=>?_)
   ·refine bad (v:=171) ?_ dc (btr B3 B3.size C6)
    rw [hLt,hbd,if_pos]
    rw [List.any_eq_true]
    exact⟨y,by rw [<-hy];exact gem hp2,hc⟩
   ·exact⟨inR_i64 om om,⟨p+1,sm,om,C6,by rw [hst];exact hc⟩,(by first | omega | (dsimp only;omega))⟩
  ·have hpe:p=(ahE (xs.take k) xs[k].o.node).length:=by omega
   subst hpe
   rw [tkl] at hno
   rw [hno,if_neg dc,<-hLt] at hbd
   have hpl:(xs.take k).length<=4096:=by rw [ltk];omega
   simp only [bo4.cell,lds]
   refine sg_calls _ ⟨_,rfl,?_⟩
   refine br (fun hs=>?_) (fun hs=>?_)
   ·exact put_op (x:=xs[k]) hA1 C4 bo4 hgo hpl (by rw [hs];rfl) fun w' av' h'=>⟨hbd,av',by rw [htk];exact h'⟩
   ·simp only [bo4.cell,lds]
    refine atk_calls _ ⟨_,rfl,?_⟩
    refine br (fun ha=>?_) (fun ha=>?_)
    ·exact put_op (x:=xs[k]) hA1 C4 bo4 hgo hpl (by rw [ha,Bool.or_true]) fun w' av' h'=>⟨hbd,av',by rw [htk];exact h'⟩
    ·exact⟨hbd,av,by rw [htk];exact (hA1.keep C4).skip (by rw [hs,ha];rfl)⟩
 ·have hk2:k=xs.length:=by omega
  have H:=hK w1 hb1
  rw [<-hF,List.drop_of_length_le om,chkF] at H
  exact H
end
end Go.Proofs.YtnbgiacnbheonaaGreatDoor
set_option linter.unusedVariables false
set_option maxRecDepth 100000
namespace Go.Proofs.YtnbgiacnbheonaaGreatDoor
open Go.Vc
def F14_l3 (l:OA)(lN:Nat)(L3:OA->Nat->Nat->Int->World->Prop)(r:OA)(rN rC:Nat)(i:Int)(hc:World)(R:RT):Prop :=
 Br (decide (i < ((lN:Nat):Int)))
 (IdxA l lN i 11 fun jc =>
 LdI .i64 (hc.cell? jc) fun gb =>
 LdI .u64 (hc.cell? (jc.add 1)) fun va =>
 LdI .u64 (hc.cell? (jc.add 2)) fun bb =>
 LdI .i64 (hc.cell? (jc.add 3)) fun sa =>
 LdStr (hc.cell? (jc.add 4)) fun ba =>
 LdStr (hc.cell? (jc.add 5)) fun mb =>
 LdI .i64 (hc.cell? (jc.add 6)) fun za =>
 LdStr (hc.cell? (jc.add 7)) fun nb =>
 LdSl (hc.cell? (jc.add 8)) fun ga k y =>
 LdStr (hc.cell? (jc.add 9)) fun db =>
 LdSl (hc.cell? (jc.add 10)) fun u c a =>
 Al hc #[.int .i64 0,.int .u64 0,.int .u64 0,.int .i64 0,(.string (ByteArray.mk #[])),(.string (ByteArray.mk #[])),.int .i64 0,(.string (ByteArray.mk #[])),.slice none 0 0,(.string (ByteArray.mk #[])),.slice none 0 0] 50 fun op bc =>
 St bc op (.int .i64 gb) fun gc =>
 St gc (op.add 1) (.int .u64 va) fun ec =>
 St ec (op.add 2) (.int .u64 bb) fun vb =>
 St vb (op.add 3) (.int .i64 sa) fun cc =>
 St cc (op.add 4) (.string ba) fun ac =>
 St ac (op.add 5) (.string mb) fun dc =>
 St dc (op.add 6) (.int .i64 za) fun yb =>
 St yb (op.add 7) (.string nb) fun ca =>
 St ca (op.add 8) (.slice ga k y) fun aa =>
 St aa (op.add 9) (.string db) fun tb =>
 St tb (op.add 10) (.slice u c a) fun ka =>
 LdI .i64 (ka.cell? (op.add 6)) fun z =>
 LdStr (ka.cell? ((op.add 6).add 1)) fun ib =>
 LdSl (ka.cell? ((op.add 6).add 2)) fun sb n f =>
 LdStr (ka.cell? ((op.add 6).add 3)) fun qb =>
 LdSl (ka.cell? ((op.add 6).add 4)) fun pb j h =>
 Calls P0 51 #[.agg #[.int .i64 z,.string ib,.slice sb n f,.string qb,.slice pb j h]] ka (post R fun v fa =>
 ∃rb ab ea q g ub qa m s,v=(.agg #[.int .i64 rb,.string ab,.slice ea q g,.string ub,.slice qa m s]) /\
 St fa (op.add 6) (.int .i64 rb) fun kb =>
 St kb ((op.add 6).add 1) (.string ab) fun cb =>
 St cb ((op.add 6).add 2) (.slice ea q g) fun ma =>
 St ma ((op.add 6).add 3) (.string ub) fun ia =>
 St ia ((op.add 6).add 4) (.slice qa m s) fun ua =>
 LdI .i64 (ua.cell? op) fun pa =>
 LdI .u64 (ua.cell? (op.add 1)) fun jb =>
 LdI .u64 (ua.cell? (op.add 2)) fun ra =>
 LdI .i64 (ua.cell? (op.add 3)) fun hb =>
 LdStr (ua.cell? (op.add 4)) fun ta =>
 LdStr (ua.cell? (op.add 5)) fun na =>
 LdI .i64 (ua.cell? (op.add 6)) fun ja =>
 LdStr (ua.cell? (op.add 7)) fun ya =>
 LdSl (ua.cell? (op.add 8)) fun da p e =>
 LdStr (ua.cell? (op.add 9)) fun ha =>
 LdSl (ua.cell? (op.add 10)) fun t b d =>
 Al ua #[.int .i64 pa,.int .u64 jb,.int .u64 ra,.int .i64 hb,.string ta,.string na,.int .i64 ja,.string ya,.slice da p e,.string ha,.slice t b d] 50 fun g23 eb =>
 Raw P0 (Builtin.append_ #[26,26] 26 #[.slice r rN rC,(.slice (some g23) 1 1)]) eb fun v2 fb =>
 ∃ic fc zb,v2=(.slice ic fc zb) /\
 InR .i64 (i+(1:Int))/\L3 ic fc zb (i+(1:Int)) fb))
 (R (.returned (.slice r rN rC)) hc)
def F14 (l:OA)(lN lC:Nat)(b:World)(R:RT):Prop :=
 Al b #[] 50 fun g6 w1 =>
 ∃(I:OA->Nat->Nat->Int->World->Prop)(m:OA->Nat->Nat->Int->World->Nat),I (some g6) 0 0 (0:Int) w1 /\
 ∀r rN rC i a,I r rN rC i a->F14_l3 l lN (fun r' rN' rC' i' w2=>I r' rN' rC' i' w2/\m r' rN' rC' i' w2 < m r rN rC i a) r rN rC i a R
theorem ok14 (l:OA)(a b:Nat){w:World}{R:RT} (h:F14 l a b w R):Calls P0 14 #[.slice l a b] w R :=
 vk ⟨26,⟨[]⟩,[],[(3,⟨[(3,(.s .slice)),(4,(.s (.int .i64)))],[(3,25)]⟩)]⟩ Tryz.func14 h
def F19_j13 (L4:OA->Nat->Nat->Int->World->Prop)(r:OA)(rN rC:Nat)(i:Int)(op:Addr)(z:World)(R:RT):Prop :=
 LdI .i64 (z.cell? op) fun q =>
 LdI .u64 (z.cell? (op.add 1)) fun s =>
 LdI .u64 (z.cell? (op.add 2)) fun t =>
 LdI .i64 (z.cell? (op.add 3)) fun k =>
 LdStr (z.cell? (op.add 4)) fun m =>
 LdStr (z.cell? (op.add 5)) fun g =>
 LdI .i64 (z.cell? (op.add 6)) fun h =>
 LdStr (z.cell? (op.add 7)) fun n =>
 LdSl (z.cell? (op.add 8)) fun u d c =>
 LdStr (z.cell? (op.add 9)) fun f =>
 LdSl (z.cell? (op.add 10)) fun e b a =>
 Al z #[.int .i64 q,.int .u64 s,.int .u64 t,.int .i64 k,.string m,.string g,.int .i64 h,.string n,.slice u d c,.string f,.slice e b a] 50 fun g64 p =>
 Raw P0 (Builtin.append_ #[26,26] 26 #[.slice r rN rC,(.slice (some g64) 1 1)]) p fun v2 j =>
 ∃aa v y,v2=(.slice aa v y) /\
 InR .i64 (i+(1:Int))/\L4 aa v y (i+(1:Int)) j
def F19_l4 (l:OA)(lN:Nat)(ab:Bool)(s:OA)(f:Nat)(L4:OA->Nat->Nat->Int->World->Prop)(r:OA)(rN rC:Nat)(i:Int)(ua:World)(R:RT):Prop :=
 Br (decide (i < ((lN:Nat):Int)))
 (IdxA l lN i 11 fun ra =>
 LdI .i64 (ua.cell? ra) fun ca =>
 LdI .u64 (ua.cell? (ra.add 1)) fun z =>
 LdI .u64 (ua.cell? (ra.add 2)) fun y =>
 LdI .i64 (ua.cell? (ra.add 3)) fun q =>
 LdStr (ua.cell? (ra.add 4)) fun v =>
 LdStr (ua.cell? (ra.add 5)) fun g =>
 LdI .i64 (ua.cell? (ra.add 6)) fun u =>
 LdStr (ua.cell? (ra.add 7)) fun aa =>
 LdSl (ua.cell? (ra.add 8)) fun h c d =>
 LdStr (ua.cell? (ra.add 9)) fun n =>
 LdSl (ua.cell? (ra.add 10)) fun e b a =>
 Al ua #[.int .i64 0,.int .u64 0,.int .u64 0,.int .i64 0,(.string (ByteArray.mk #[])),(.string (ByteArray.mk #[])),.int .i64 0,(.string (ByteArray.mk #[])),.slice none 0 0,(.string (ByteArray.mk #[])),.slice none 0 0] 50 fun op ka =>
 St ka op (.int .i64 ca) fun ja =>
 St ja (op.add 1) (.int .u64 z) fun ea =>
 St ea (op.add 2) (.int .u64 y) fun ha =>
 St ha (op.add 3) (.int .i64 q) fun ga =>
 St ga (op.add 4) (.string v) fun ia =>
 St ia (op.add 5) (.string g) fun fa =>
 St fa (op.add 6) (.int .i64 u) fun k =>
 St k (op.add 7) (.string aa) fun j =>
 St j (op.add 8) (.slice h c d) fun da =>
 St da (op.add 9) (.string n) fun p =>
 St p (op.add 10) (.slice e b a) fun m =>
 ∃J13:World->Prop,(∀ba,J13 ba->F19_j13 L4 r rN rC i op ba R) /\
 (InR .u64 (((f:Nat):Int))/\Br ab
 (Br (decide ((((f:Nat):Int)) > (0:Int)))
 (LdI .u64 (m.cell? (op.add 1)) fun ta =>
 (((f:Nat):Int))≠0/\IdxA s f (ta.tmod (((f:Nat):Int))) 1 fun va =>
 LdI .u64 (m.cell? va) fun sa =>
 St m (op.add 1) (.int .u64 sa) fun ba =>
 LdI .u64 (ba.cell? (op.add 2)) fun na =>
 InR .u64 ((((f:Nat):Int))+(1:Int))/\((((f:Nat):Int))+(1:Int))≠0/\Br ((na.tmod ((((f:Nat):Int))+(1:Int))) == (((f:Nat):Int)))
 (St ba (op.add 2) (.int .u64 0) fun t =>
 J13 t)
 (LdI .u64 (ba.cell? (op.add 2)) fun ma =>
 InR .u64 ((((f:Nat):Int))+(1:Int))/\((((f:Nat):Int))+(1:Int))≠0/\IdxA s f (ma.tmod ((((f:Nat):Int))+(1:Int))) 1 fun pa =>
 LdI .u64 (ba.cell? pa) fun qa =>
 St ba (op.add 2) (.int .u64 qa) fun t =>
 J13 t))
 (J13 m))
 (J13 m)))
 (R (.returned (.slice r rN rC)) ua)
def F19 (d l:OA)(lN lC:Nat)(j:Bool)(h:World)(R:RT):Prop :=
 Calls P0 55 #[.pointer d,.int .u64 0] h (post R fun v w1 =>
 ∃c b a e,v=(.tuple #[.slice c b a,.int .i64 e]) /\
 Al w1 #[] 50 fun g18 g =>
 ∃(I:OA->Nat->Nat->Int->World->Prop)(m:OA->Nat->Nat->Int->World->Nat),I (some g18) 0 0 (0:Int) g /\
 ∀r rN rC i f,I r rN rC i f->F19_l4 l lN j c b (fun r' rN' rC' i' w2=>I r' rN' rC' i' w2/\m r' rN' rC' i' w2 < m r rN rC i f) r rN rC i f R)
theorem ok19 (d l:OA)(a b:Nat)(c:Bool){w:World}{R:RT} (h:F19 d l a b c w R):Calls P0 19 #[.pointer d,.slice l a b,.bool c] w R :=
 vk ⟨67,⟨[]⟩,[(13,⟨[],[(12,62)]⟩)],[(4,⟨[(9,(.s .slice)),(10,(.s (.int .i64)))],[(9,66)]⟩)]⟩ Tryz.func19 h
def F4_j16 (p d:OA)(u:World)(R:RT):Prop :=
 Calls P0 26 #[.pointer p,.int .i64 2,.int .u64 0,(.agg #[.int .i64 2,(.string (ByteArray.mk #[])),.slice none 0 0,(.string (ByteArray.mk #[])),.slice none 0 0])] u (post R fun v9 t =>
 ∃f g,v9=(.tuple #[.int .u64 f,.int .i64 g]) /\
 Calls P0 27 #[.pointer d,.int .i64 2,.int .u64 0,(.agg #[.int .i64 2,(.string (ByteArray.mk #[])),.slice none 0 0,(.string (ByteArray.mk #[])),.slice none 0 0])] t (post R fun v10 m =>
 ∃h e,v10=(.tuple #[.int .u64 h,.int .i64 e]) /\
 Calls P0 22 #[.pointer none,.slice none 0 0] m (post R fun v11 k =>
 ∃i a b j c,v11=(.tuple #[.slice i a b,.int .i64 j,.int .i64 c]) /\
 Br (f == h)
 (Br (g == e)
 (Br (c == (1:Int))
 (Calls P0 21 #[.pointer p,.pointer d] k (post R fun v12 n =>
 ∃s,v12=(.bool s) /\
 Br s
 (Calls P0 28 #[] n (post R fun v13 q =>
 ∃r,v13=(.bool r) /\
 R (.returned (.bool r)) q))
 (R (.returned (.bool false)) n)))
 (R (.returned (.bool false)) k))
 (R (.returned (.bool false)) k))
 (R (.returned (.bool false)) k))))
def F4_j14 (c b a:OA)(f:World)(R:RT):Prop :=
 ∃J16:OA->World->Prop,(∀d e,J16 d e->F4_j16 c d e R) /\
 (Br (!(a).isNone)
 (J16 a f)
 (J16 b f))
def F4 (ab:OA)(ac ad:Nat)(l:OA)(lN lC:Nat)(ae:Bool)(w_:World)(R:RT):Prop :=
 Calls P0 18 #[.slice ab ac ad] w_ (post R fun v w1 =>
 ∃t p r,v=(.tuple #[.pointer t,.pointer p,.bool r]) /\
 Br (!r)
 (R (.returned (.bool false)) w1)
 (Calls P0 19 #[.pointer p,.slice l lN lC,.bool ae] w1 (post R fun v2 ga =>
 ∃ra da ba,v2=(.slice ra da ba) /\
 Calls P0 14 #[.slice ra da ba] ga (post R fun v3 ka =>
 ∃ma ea ca,v3=(.slice ma ea ca) /\
 Calls P0 20 #[.pointer t,.slice ma ea ca] ka (post R fun v4 ja =>
 ∃j c a g k,v4=(.tuple #[.slice j c a,.int .i64 g,.int .i64 k]) /\
 Calls P0 21 #[.pointer t,.pointer p] ja (post R fun v5 z =>
 ∃na,v5=(.bool na) /\
 Br (!na)
 (R (.returned (.bool false)) z)
 (Calls P0 22 #[.pointer t,.slice ma ea ca] z (post R fun v6 ha =>
 ∃q f d u s,v6=(.tuple #[.slice q f d,.int .i64 u,.int .i64 s]) /\
 Calls P0 23 #[.slice ma ea ca] ha (post R fun v7 fa =>
 v7=(.tuple #[]) /\
 Calls P0 24 #[.pointer p,.slice ra da ba] fa (post R fun v8 ia =>
 ∃h y b e n m,v8=(.tuple #[.pointer h,.slice y b e,.int .i64 n,.int .i64 m]) /\
 ∃J14:World->Prop,(∀aa,J14 aa->F4_j14 t p h aa R) /\
 (Br (k != m)
 (R (.returned (.bool false)) ia)
 (Br (s != m)
 (R (.returned (.bool false)) ia)
 (Br (g != n)
 (R (.returned (.bool false)) ia)
 (Br (u != n)
 (R (.returned (.bool false)) ia)
 (Calls P0 25 #[.slice j c a,.slice y b e] ia (post R fun v9 aa =>
 ∃qa,v9=(.bool qa) /\
 Br (!qa)
 (R (.returned (.bool false)) aa)
 (Calls P0 25 #[.slice q f d,.slice y b e] aa (post R fun v10 i =>
 ∃pa,v10=(.bool pa) /\
 Br (!pa)
 (R (.returned (.bool false)) i)
 (J14 i)))))))))))))))))))
theorem ok4 (a:OA)(b c:Nat)(l:OA)(d e:Nat)(f:Bool){w:World}{R:RT} (h:F4 a b c l d e f w R):Calls P0 4 #[.slice a b c,.slice l d e,.bool f] w R :=
 vk ⟨140,⟨[]⟩,[(16,⟨[(8,(.s .ptr))],[(8,103)]⟩),(14,⟨[],[(6,7),(70,100)]⟩)],[]⟩ Tryz.func4 h
def F21 (p d:OA)(k:World)(R:RT):Prop :=
 Calls P0 30 #[.pointer p] k (post R fun v w1 =>
 ∃j,v=(.pointer j) /\
 Br (!(j).isNone)
 (Calls P0 57 #[.pointer j,.pointer d] w1 (post R fun v2 f =>
 ∃h,v2=(.bool h) /\
 Br h
 (Calls P0 58 #[.pointer p] f (post R fun v3 c =>
 ∃i e a,v3=(.slice i e a) /\
 Calls P0 41 #[.pointer d] c (post R fun v4 b =>
 ∃g,v4=(.int .i64 g) /\
 R (.returned (.bool (((e:Nat):Int) == g))) b)))
 (R (.returned (.bool false)) f)))
 (R (.returned (.bool false)) w1))
theorem ok21 (p d:OA){w:World}{R:RT} (h:F21 p d w R):Calls P0 21 #[.pointer p,.pointer d] w R :=
 vk ⟨23,⟨[]⟩,[],[]⟩ Tryz.func21 h
def F28  (j:World) (R:RT):Prop :=
 Al j #[.slice none 0 0,.slice none 0 0,.int .i64 0,.int .i64 0,.int .i64 0,.map none,.pointer none,.int .u64 0,.int .u64 0,.map none] 113 fun g6 w1 =>
 Al w1 #[.int .i64 1,.int .u64 0,.int .u64 0,.int .i64 2,(.string (ByteArray.mk #[])),(.string (ByteArray.mk #[])),.int .i64 1,(.string (ByteArray.mk #[97])),.slice none 0 0,(.string (ByteArray.mk #[])),.slice none 0 0] 50 fun g11 g =>
 Calls P0 22 #[(.pointer (some g6)),(.slice (some g11) 1 1)] g (post R fun v f =>
 ∃(d:OA) (a:Nat) (b:Nat) (e:Int) (c:Int),v=(.tuple #[.slice d a b,.int .i64 e,.int .i64 c]) /\
 Br (c == (0:Int))
 (Br (((a:Nat):Int) == (1:Int))
 (IdxA d a (0:Int) 1 fun h =>
 LdI .u64 (f.cell? h) fun i =>
 R (.returned (.bool (i == (4294967297:Int)))) f)
 (R (.returned (.bool false)) f))
 (R (.returned (.bool false)) f))
theorem ok28  {w:World}{R:RT} (h:F28  w R):Calls P0 28 #[] w R :=
 vk ⟨29,⟨[]⟩,[],[]⟩ Tryz.func28 h
def F18_l3 (aa:OA)(actsN:Nat)(g9 ab:Addr)(L3:Int->World->Prop)(i:Int)(u:World)(R:RT):Prop :=
 Br (decide (i < ((actsN:Nat):Int)))
 (IdxA aa actsN i 12 fun y =>
 LdI .i64 (u.cell? y) fun h =>
 LdI .i64 (u.cell? (y.add 1)) fun k =>
 LdB (u.cell? (y.add 2)) fun q =>
 LdI .u64 (u.cell? (y.add 3)) fun p =>
 LdI .u64 (u.cell? (y.add 4)) fun j =>
 LdStr (u.cell? (y.add 5)) fun s =>
 LdStr (u.cell? (y.add 6)) fun g =>
 LdI .i64 (u.cell? (y.add 7)) fun r =>
 LdStr (u.cell? (y.add 8)) fun n =>
 LdSl (u.cell? (y.add 9)) fun m f d =>
 LdStr (u.cell? (y.add 10)) fun c =>
 LdSl (u.cell? (y.add 11)) fun e b a =>
 Calls P0 54 #[(.iface 58 (.pointer (some g9))),(.pointer (some ab)),.agg #[.int .i64 h,.int .i64 k,.bool q,.int .u64 p,.int .u64 j,.string s,.string g,.int .i64 r,.string n,.slice m f d,.string c,.slice e b a]] u (post R fun v t =>
 ∃z,v=(.bool z) /\
 Br (!z)
 (R (.returned (.tuple #[.pointer none,.pointer none,.bool false])) t)
 (InR .i64 (i+(1:Int))/\L3 (i+(1:Int)) t)))
 (R (.returned (.tuple #[(.pointer (some g9)),(.pointer (some ab)),.bool true])) u)
def F18 (d:OA)(e f:Nat)(c:World)(R:RT):Prop :=
 Al c #[.slice none 0 0,.slice none 0 0,.int .i64 0,.int .i64 0,.int .i64 0,.map none,.pointer none,.int .u64 0,.int .u64 0,.map none] 113 fun g9 w1 =>
 Al w1 #[.slice none 0 0,.slice none 0 0] 85 fun g11 a =>
 ∃(I:Int->World->Prop)(m:Int->World->Nat),I (0:Int) a /\
 ∀i b,I i b->F18_l3 d e g9 g11 (fun i' w2=>I i' w2/\m i' w2 < m i b) i b R
theorem ok18 (a:OA)(b c:Nat){w:World}{R:RT} (h:F18 a b c w R):Calls P0 18 #[.slice a b c] w R :=
 vk ⟨29,⟨[]⟩,[],[(3,⟨[(7,(.s (.int .i64)))],[(2,5),(7,27)]⟩)]⟩ Tryz.func18 h
def F23_l1 (l:OA)(lN:Nat)(L1:Int->World->Prop)(i:Int)(aa:World)(R:RT):Prop :=
 Br (decide (i < ((lN:Nat):Int)))
 (IdxA l lN i 11 fun ca =>
 LdI .i64 (aa.cell? (ca.add 6)) fun h =>
 LdStr (aa.cell? ((ca.add 6).add 1)) fun m =>
 LdSl (aa.cell? ((ca.add 6).add 2)) fun j d a =>
 LdStr (aa.cell? ((ca.add 6).add 3)) fun k =>
 LdSl (aa.cell? ((ca.add 6).add 4)) fun g b c =>
 Calls P0 60 #[.agg #[.int .i64 h,.string m,.slice j d a,.string k,.slice g b c]] aa (post R fun v w1 =>
 v=(.tuple #[]) /\
 IdxA l lN i 11 fun ba =>
 St w1 ba (.int .i64 77) fun s =>
 St s (ba.add 1) (.int .u64 0) fun z =>
 St z (ba.add 2) (.int .u64 0) fun y =>
 St y (ba.add 3) (.int .i64 0) fun p =>
 St p (ba.add 4) (.string (ByteArray.mk #[])) fun t =>
 St t (ba.add 5) (.string (ByteArray.mk #[])) fun r =>
 St r (ba.add 6) (.int .i64 0) fun u =>
 St u (ba.add 7) (.string (ByteArray.mk #[])) fun q =>
 St q (ba.add 8) (.slice none 0 0) fun f =>
 St f (ba.add 9) (.string (ByteArray.mk #[])) fun e =>
 St e (ba.add 10) (.slice none 0 0) fun n =>
 InR .i64 (i+(1:Int))/\L1 (i+(1:Int)) n))
 (R (.returned (.tuple #[])) aa)
def F23 (l:OA)(lN lC:Nat)(a:World)(R:RT):Prop :=
 ∃(I:Int->World->Prop)(m:Int->World->Nat),I (0:Int) a /\
 ∀i w1,I i w1->F23_l1 l lN (fun i' w2=>I i' w2/\m i' w2 < m i w1) i w1 R
theorem ok23 (l:OA)(a b:Nat){w:World}{R:RT} (h:F23 l a b w R):Calls P0 23 #[.slice l a b] w R :=
 vk ⟨19,⟨[]⟩,[],[(1,⟨[(2,(.s (.int .i64)))],[(2,19)]⟩)]⟩ Tryz.func23 h
end Go.Proofs.YtnbgiacnbheonaaGreatDoor
namespace Go.Proofs.YtnbgiacnbheonaaGreatDoor
open Go.RowKit Go.Vc
set_option linter.unusedVariables false
set_option linter.unusedSimpArgs false
set_option maxRecDepth 100000
section
variable {w:World}{R:RT}
def PlanK (R:RT) (w0:World) (L:List O1) (w:World):Prop :=
 if (checkF L).2≠0 then R (.returned (.tuple #[.slice none 0 0,.int .i64 (checkF L).2])) w else ∀v:Sv,Own LI w w0.heap.size 3 (slV v) (planF L 5)->R (.returned (.tuple #[slV v,.int .i64 0])) w
theorem check_few {L:List O1} (h:(checkF L).2=0):L.length<=4096:=by
 unfold checkF at h
 by_cases e:4096 < L.length
 ·rw [if_pos e] at h;cases h
 ·omega
theorem planR_calls (xs:List E11) {A:OA}{c:Nat} (hr:Rd LOp w A c xs) (hx:∀x∈xs,ROp w x) (hl:xs.length<=1048576) (hK:∀w',Below w.heap.size w w'->PlanK R w (xs.map (·.o)) w') :
  Calls P0 32 #[.slice A xs.length c] w R:=by
 refine ok32 A xs.length c ?_
 unfold F32
 refine checkR_calls xs hr hx hl fun w1 hb1=>⟨_,_,rfl,?_⟩
 refine brn (fun hne=>?_) (fun he=>?_)
 ·have H:=hK w1 hb1
  unfold PlanK at H
  rw [if_pos hne] at H
  exact H
 have hfew:=check_few he
 rw [lmp] at hfew
 refine al fun g17 w2 hb2 b2 hge2=>?_
 have B2:=btr hb1 hb1.size hb2
 have hs1:=hb1.size
 have o0:Own LI w2 w.heap.size 3 (.slice (some ⟨g17,0,none⟩) 0 0) []:=Own.bare _ _ _ _ _
 generalize hL:xs.map (·.o)=L at *
 have hlen:L.length=xs.length:=by rw [<-hL,lmp]
 refine⟨fun A' n' c' p w'=>∃q:Nat,p=q/\q<=5/\Below w.heap.size w w'/\Own LI w' w.heap.size 3 (.slice A' n' c') (planF L q),fun _ _ _ p _=>5-p.toNat,⟨0,rfl,om,B2,o0⟩,?_⟩
 rintro A1 n1 c1 _ w3 ⟨q,rfl,hq,hb3,o3⟩
 unfold F32_l6
 have hpl:(planF L q).length<=20480:=Nat.le_trans (plan_len L q) (Nat.mul_le_mul hq (by omega:L.length<=4096))
 refine brd (fun hlt=>?_) (fun hge=>?_)
 ·refine⟨fun A' n' c' i w'=>∃k:Nat,i=k/\k<=xs.length/\Below w.heap.size w w'/\Own LI w' w.heap.size 3 (.slice A' n' c') (planF L q++phsF L (q:Nat) k),fun _ _ _ i _=>xs.length-i.toNat,⟨0,rfl,om,hb3,by rw [phs_zero,List.append_nil];exact o3⟩,?_⟩
  rintro A2 n2 c2 _ w4 ⟨k,rfl,hk,hb4,o4⟩
  unfold F32_l9
  refine brd (fun hlt2=>?_) (fun hge2=>?_)
  ·have hk2:k < xs.length:=by omega
   have hst:=phs_step (p:=((q:Nat):Int)) (show k < L.length by omega)
   have hLk:L[k]'om=xs[k].o:=by subst hL;rw [gmp]
   rw [hLk] at hst
   refine⟨fun A' n' c' w'=>Below w.heap.size w w'/\Own LI w' w.heap.size 3 (.slice A' n' c') (planF L q++phsF L (q:Nat) (k+1)),?_,?_⟩
   ·rintro A' n' c' w' ⟨q1,q2⟩
    exact⟨inR_i64 om om,⟨k+1,sm,om,q1,q2⟩,(by first | omega | (dsimp only;omega))⟩
   refine (hr.keep hb4).idx rfl om om rfl fun b oo cc=>?_
   simp only [tnc] at cc
   have k0:=cc 0 _ rfl
   simp only [Nat.add_zero] at k0
   simp only [k0,lds]
   refine phR_calls _ ⟨_,rfl,?_⟩
   have hphl:=phs_len L ((q:Nat):Int) k
   refine bre (fun he2=>?_) (fun hne2=>?_)
   ·rw [if_pos he2] at hst
    refine ap1 (L:=LI) (x:=(k:Int)) (base:=w.heap.size) (.int .i64 0) 8 rfl kr kr kr o4 hb4.size (by rw [lap];omega) (by rw [lap];unfold maxLen;omega) fun A' c' w6 o6 g6=>⟨A',_,c',rfl,hb4.trans g6.below,?_⟩
    rw [hst,<-laa];exact o6
   ·rw [if_neg hne2,List.append_nil] at hst
    exact⟨hb4,by rw [hst];exact o4⟩
  ·have hk2:k=xs.length:=by omega
   refine⟨inR_i64 om om,⟨q+1,sm,om,hb4,?_⟩,(by first | omega | (dsimp only;omega))⟩
   rw [plan_step,hlen,<-hk2];exact o4
 ·have hq5:q=5:=by omega
  subst hq5
  have H:=hK w3 hb3
  unfold PlanK at H
  rw [if_neg (by rw [he];simp)] at H
  exact H (A1,n1,c1) o3
theorem planP_calls (xs:List E11) {A:OA}{c:Nat} (hr:Rd LOp w A c xs) (hx:∀x∈xs,ROp w x) (hT:Tabs w) (hl:xs.length<=1048576) (hK:∀w',Below w.heap.size w w'->PlanK R w (xs.map (·.o)) w') :
  Calls P0 29 #[.slice A xs.length c] w R:=by
 refine ok29 A xs.length c ?_
 unfold F29
 refine checkP_calls xs hr hx hT hl fun w1 hb1=>⟨_,_,rfl,?_⟩
 refine brn (fun hne=>?_) (fun he=>?_)
 ·have H:=hK w1 hb1
  unfold PlanK at H
  rw [if_pos hne] at H
  exact H
 have hfew:=check_few he
 rw [lmp] at hfew
 refine⟨om,om,om,?_⟩
 refine al fun g17 w2 hb2 b2 hge2=>?_
 have B2:=btr hb1 hb1.size hb2
 have hs1:=hb1.size
 have e0:((xs.length:Nat):Int).toNat=xs.length:=tnc _
 rw [e0] at *
 have o0:Own LI w2 w.heap.size 3 (.slice (some ⟨g17,0,none⟩) 0 xs.length) []:=Own.made b2 om (by simp [zrow,LI]) (by simp [maxLen];omega)
 generalize hL:xs.map (·.o)=L at *
 have hlen:L.length=xs.length:=by rw [<-hL,lmp]
 refine⟨fun A' n' c' p w'=>∃q:Nat,p=q/\q<=5/\Below w.heap.size w w'/\Own LI w' w.heap.size 3 (.slice A' n' c') (planF L q),fun _ _ _ p _=>5-p.toNat,⟨0,rfl,om,B2,o0⟩,?_⟩
 rintro A1 n1 c1 _ w3 ⟨q,rfl,hq,hb3,o3⟩
 unfold F29_l6
 have hpl:(planF L q).length<=20480:=Nat.le_trans (plan_len L q) (Nat.mul_le_mul hq (by omega:L.length<=4096))
 refine brd (fun hlt=>?_) (fun hge=>?_)
 ·refine⟨fun A' n' c' i w'=>∃k:Nat,i=k/\k<=xs.length/\Below w.heap.size w w'/\Own LI w' w.heap.size 3 (.slice A' n' c') (planF L q++phsF L (q:Nat) k),fun _ _ _ i _=>xs.length-i.toNat,⟨0,rfl,om,hb3,by rw [phs_zero,List.append_nil];exact o3⟩,?_⟩
  rintro A2 n2 c2 _ w4 ⟨k,rfl,hk,hb4,o4⟩
  unfold F29_l9
  refine brd (fun hlt2=>?_) (fun hge2=>?_)
  ·have hk2:k < xs.length:=by omega
   have hst:=phs_step (p:=((q:Nat):Int)) (show k < L.length by omega)
   have hLk:L[k]'om=xs[k].o:=by subst hL;rw [gmp]
   rw [hLk] at hst
   refine⟨fun A' n' c' w'=>Below w.heap.size w w'/\Own LI w' w.heap.size 3 (.slice A' n' c') (planF L q++phsF L (q:Nat) (k+1)),?_,?_⟩
   ·rintro A' n' c' w' ⟨q1,q2⟩
    exact⟨inR_i64 om om,⟨k+1,sm,om,q1,q2⟩,(by first | omega | (dsimp only;omega))⟩
   have hr4:=hr.keep hb4
   refine hr4.idx rfl om om rfl fun b oo cc=>?_
   simp only [tnc] at cc
   have k0:=cc 0 _ rfl
   have k1:=cc 1 _ rfl
   have k2:=cc 2 _ rfl
   have k3:=cc 3 _ rfl
   have k4:=cc 4 _ rfl
   have k5:=cc 5 _ rfl
   have k6:=cc 6 _ rfl
   have k7:=cc 7 _ rfl
   have k8:=cc 8 _ rfl
   have k9:=cc 9 _ rfl
   have k10:=cc 10 _ rfl
   simp only [Nat.add_zero] at k0
   simp only [k0,k1,k2,k3,k4,k5,k6,k7,k8,k9,k10,lds]
   refine al11 fun go w5 hb5 bo hgo=>?_
   simp only [bo.cell,lds]
   have B5:=btr hb4 hb4.size hb5
   have o5:=o4.keep hb5
   refine phP_calls _ ⟨_,rfl,?_⟩
   have hphl:=phs_len L ((q:Nat):Int) k
   refine bre (fun he2=>?_) (fun hne2=>?_)
   ·rw [if_pos he2] at hst
    refine ap1 (L:=LI) (x:=(k:Int)) (base:=w.heap.size) (.int .i64 0) 8 rfl kr kr kr o5 B5.size (by rw [lap];omega) (by rw [lap];unfold maxLen;omega) fun A' c' w6 o6 g6=>⟨A',_,c',rfl,B5.trans g6.below,?_⟩
    rw [hst,<-laa];exact o6
   ·rw [if_neg hne2,List.append_nil] at hst
    exact⟨B5,by rw [hst];exact o5⟩
  ·have hk2:k=xs.length:=by omega
   refine⟨inR_i64 om om,⟨q+1,sm,om,hb4,?_⟩,(by first | omega | (dsimp only;omega))⟩
   rw [plan_step,hlen,<-hk2];exact o4
 ·have hq5:q=5:=by omega
  subst hq5
  have H:=hK w3 hb3
  unfold PlanK at H
  rw [if_neg (by rw [he];simp)] at H
  exact H (A1,n1,c1) o3
end
set_option maxRecDepth 100000
section
variable {w:World}{R:RT}
theorem copiedO2_calls (xs:List E11) {A:OA}{c:Nat} (hr:Rd LOp w A c xs) (hx:∀x∈xs,ROp w x) (hl:xs.length<=1048576)
  (hK:∀w' v ys lo,Below w.heap.size w w'->Own LOp w' w.heap.size 50 (slV v) ys->ys.map (·.o)=xs.map (·.o)->(∀y∈ys,(y.o.node < 18446744073709551616/\y.o.at_ < 18446744073709551616))->w.heap.size<=lo->OTl w' (ys.map (·.o.t)) (ys.map (·.e)) lo w'.heap.size (rowOf (slV v))->R (.returned (slV v)) w') :
  Calls P0 14 #[.slice A xs.length c] w R:=by
 refine ok14 A xs.length c ?_
 unfold F14
 refine al fun g6 w1 hb1 b1 hge1=>?_
 have hs1:=hb1.size
 refine⟨fun l lN lC i w'=>∃(k:Nat) (ys:List E11),i=k/\k<=xs.length/\Below w.heap.size w w'/\w1.heap.size<=w'.heap.size/\ys.map (·.o)=(xs.take k).map (·.o)/\Own LOp w' w1.heap.size 50 (.slice l lN lC) ys /\
   OTl w' ((xs.take k).map (·.o.t)) (ys.map (·.e)) w1.heap.size w'.heap.size (rowOf (.slice l lN lC)),fun _ _ _ i _=>xs.length-i.toNat,⟨0,[],rfl,om,hb1,Nat.le_refl _,rfl,Own.bare _ _ _ _ _,by simp [OTl]⟩,?_⟩
 rintro l lN lC _ w2 ⟨k,ys,rfl,hk,B2,hs2,hmo,ol,hot⟩
 unfold F14_l3
 have hlr:∀b,rowOf (.slice l lN lC)=some b->w1.heap.size<=b/\b < w2.heap.size:=fun b hb=>ol.lt b hb
 have hyl:ys.length=k:=by
  have:=congrArg List.length hmo
  rw [lmp,lmp,ltk] at this;omega
 refine brd (fun hlt=>?_) (fun hge=>?_)
 ·have hk2:k < xs.length:=by omega
  have hrt:=(hx _ (gem hk2)).2
  have hr1:=hr.keep B2
  refine hr1.idx rfl om om rfl fun b oo cc=>?_
  simp only [tnc] at cc
  have k0:=cc 0 _ rfl
  have k1:=cc 1 _ rfl
  have k2:=cc 2 _ rfl
  have k3:=cc 3 _ rfl
  have k4:=cc 4 _ rfl
  have k5:=cc 5 _ rfl
  have k6:=cc 6 _ rfl
  have k7:=cc 7 _ rfl
  have k8:=cc 8 _ rfl
  have k9:=cc 9 _ rfl
  have k10:=cc 10 _ rfl
  simp only [Nat.add_zero] at k0
  simp only [k0,k1,k2,k3,k4,k5,k6,k7,k8,k9,k10,lds]
  refine al11 fun go w3 hb3 bo hgo=>?_
  have hs3:=hb3.size
  have B3:=btr B2 B2.size hb3
  simp only [bo.cell,lds]
  refine copied_calls xs[k].o.t (e:=xs[k].e) (RTr.sub (sub_below B3) _ _ hrt) fun w4 e4 hb4 hot4=>⟨_,_,_,_,_,_,_,_,_,rfl,?_⟩
  have hs4:=hb4.size
  have bo4:=bo.keep hb4
  have hgol:=bo.lt
  refine st_blk bo4 sm fun u1 q1 f1=>st_blk q1 sm fun u2 q2 f2=>st_blk q2 sm fun u3 q3 f3=>st_blk q3 sm fun u4 q4 f4=>st_blk q4 sm fun w5 bo5 f5=>?_
  simp only [sls] at bo5
  have F5:Fm (·=go) w4 w5:=(((f1.trans f2).trans f3).trans f4).trans f5
  have hs5:=F5.size
  simp only [bo5.cell,lds]
  have D4:Below w2.heap.size w2 w4:=btr hb3 hb3.size hb4
  have D5:Below w2.heap.size w2 w5:=D4.trans (F5.toBelow om fun b hb e=>by have e:b=go:=e;omega)
  have hot5:OTr w5 xs[k].o.t e4 w3.heap.size w4.heap.size:=OTr.fm F5 _ _ _ _ (fun b h1 h2 e=>by have e:b=go:=e;omega) hot4
  refine al fun g6 w6 hb6 b6 hge6=>?_
  have hs6:=hb6.size
  have D6:=btr D5 D5.size hb6
  have r6:Rd LOp w6 (some ⟨g6,0,none⟩) 1 [(⟨xs[k].o,e4⟩:E11)]:=rd_row (xs:=[(⟨xs[k].o,e4⟩:E11)]) b6 rfl (by simp [maxLen])
  refine ap (L:=LOp) (ys:=[(⟨xs[k].o,e4⟩:E11)]) (base:=w1.heap.size) (v:=.slice l lN lC) (.agg #[.int .i64 0,.int .u64 0,.int .u64 0,.int .i64 0,.string (ByteArray.mk #[]),.string (ByteArray.mk #[]),.int .i64 0,.string (ByteArray.mk #[]),.slice none 0 0,.string (ByteArray.mk #[]),.slice none 0 0]) 152 rfl kr kr kr (ol.keep D6) r6 om (by simp only [List.length_singleton];omega) (by simp only [List.length_singleton];unfold maxLen;omega) fun A' c' w7 o7 g7=>⟨A',_,c',rfl,?_⟩
  have F7:Fm (fun b=>rowOf (.slice l lN lC)=some b) w6 w7:=Fm.grown g7.grown fun x hx=>hx
  have hs7:=F7.size
  have hrow:∀b,rowOf (.slice A' (ys.length+[(⟨xs[k].o,e4⟩:E11)].length) c')=some b->rowOf (.slice l lN lC)=some b\/w6.heap.size<=b:=fun b hb=>by
   rcases g7.row with e | e | ⟨g,e,hge⟩
   ·left;rw [<-e];exact hb
   ·rw [e] at hb;cases hb
   ·right;rw [e] at hb;cases hb;exact hge
  refine⟨inR_i64 om om,⟨k+1,ys++[⟨xs[k].o,e4⟩],sm,om,(B2.trans (D6.mono B2.size)).trans (F7.toBelow om fun b hb e=>by have:=(hlr b e).1;omega),om,?_,o7,?_⟩,(by first | omega | (dsimp only;omega))⟩
  ·rw [tsa hk2,List.map_append,List.map_append,hmo];rfl
  rw [tsa hk2,List.map_append,List.map_append]
  refine OTl.snoc (a:=w3.heap.size) (b:=w4.heap.size) ?_ om om (fun r hr h9=>?_) (hi:=w2.heap.size) ?_ om om
  ·exact OTr.fm ((Fm.below (M:=fun b=>rowOf (.slice l lN lC)=some b) hb6).trans F7) _ _ _ _ (fun b h1 h2 e=>by have:=(hlr b e).2;omega) hot5
  ·rcases hrow r hr with e | e
   ·have:=(hlr r e).2;omega
   ·omega
  ·refine OTl.other (OTl.fm ((Fm.below (M:=fun b=>rowOf (.slice l lN lC)=some b) D6).trans F7) _ _ _ _ _ (fun b _ _ h1 h2=>h1 h2) hot) fun r hr=>?_
   rcases hrow r hr with e | e
   ·exact .inl e
   ·right;omega
 ·have hk2:k=xs.length:=by omega
  subst hk2
  rw [tkl] at hmo hot
  have hmt:ys.map (·.o.t)=xs.map (·.o.t):=by
   have:=congrArg (List.map (·.t)) hmo
   rw [List.map_map,List.map_map] at this
   exact this
  refine hK w2 (l,lN,lC) ys w1.heap.size B2 (ol.rebase fun b hb=>by have:=(ol.lt b hb).1;omega) hmo (fun y hy=>?_) hs1 (by rw [hmt];exact hot)
  obtain⟨j,hj,rfl⟩:=List.mem_iff_getElem.1 hy
  have hjx:j < xs.length:=by omega
  have ho:ys[j].o=xs[j].o:=by
   have h1:(ys.map (·.o))[j]?=(xs.map (·.o))[j]?:=by rw [hmo]
   rw [List.getElem?_map,List.getElem?_map,gge hj,gge hjx] at h1
   simpa using h1
  rw [ho];exact (hx _ (gem hjx)).1
theorem ops_ot {ok:Nat->Bool}{ys:List E11}{lo hi:Nat}{r:Option Nat} (hok:∀b,lo<=b->b < hi->ok b=true) (hb:∀y∈ys,(y.o.node < 18446744073709551616/\y.o.at_ < 18446744073709551616)) (h:OTl w (ys.map (·.o.t)) (ys.map (·.e)) lo hi r):∀y∈ys,ROp (wOnly ok w) y:=fun y hy=>by
 obtain⟨j,hj,rfl⟩:=List.mem_iff_getElem.1 hy
 refine⟨hb _ hy,?_⟩
 have h2:=(OTl.rtl (ok:=ok) _ _ _ _ _ hok h).get j (by rw [lmp];exact hj) (by rw [lmp];exact hj)
 rw [gmp,gmp] at h2
 exact h2
end
set_option maxRecDepth 100000
def oneF (D:Im) (o:O1):Im × Nat × Int :=
 if o.kind=1 then insF D o.wh o.at_ o.t else
 if o.kind=2 then ((movF D o.node o.wh o.at_).1,0,(movF D o.node o.wh o.at_).2) else
 if o.kind=3 then ((delF D o.node).1,0,(delF D o.node).2) else
 if o.kind=4 then ((setNameF D o.node o.nm).1,0,(setNameF D o.node o.nm).2) else
 if o.kind=5 then ((setTextF D o.node o.val).1,0,(setTextF D o.node o.val).2) else
 if o.kind=6 then ((setAttrF D o.node o.nm o.val).1,0,(setAttrF D o.node o.nm o.val).2) else
 if o.kind=7 then ((dropAttrF D o.node o.nm).1,0,(dropAttrF D o.node o.nm).2) else
 if (insF D 3 o.node o.t).2.2≠0 then (D,0,(insF D 3 o.node o.t).2.2) else
 ((delF (insF D 3 o.node o.t).1 o.node).1,(insF D 3 o.node o.t).2.1,(delF (insF D 3 o.node o.t).1 o.node).2)
def takenF (D:Im) (o:O1):List Nat:=if o.kind=3\/o.kind=8 then allI D o.node else []
def skipB (gone:List Nat) (o:O1):Bool:=decide (o.kind≠1) && decide (o.node∈gone)
def runF (l:List O1):List Int->Im->List Nat->(Int->Nat)->Option (Im × (Int->Nat)) × Int × Int
 | [],D,_,put=>(some (D,put),0,0)
 | i :: r,D,gone,put=>match l[i.toNat]? with
  | none=>(none,0,0)
  | some o=>if skipB gone o=true then runF l r D gone put else if (oneF D o).2.2≠0 then (none,i,(oneF D o).2.2) else
   runF l r (oneF D o).1 (gone++takenF D o) fun j=>if j=i then (oneF D o).2.1 else put j
def givenF (put:Int->Nat) (n:Nat):List Nat:=((List.range n).map fun i:Nat=>put (i:Int)).filter fun h=>decide (h≠0)
def applyF (D:Im) (l:List O1):Option (Im × List Nat) × Int × Int :=
 if (checkF l).2≠0 then (none,(checkF l).1,(checkF l).2) else match runF l (planF l 5) D [] (fun _=>0) with
 | (some (D',put),_,_)=>(some (D',givenF put l.length),0,0)
 | (none,i,e)=>(none,i,e)
theorem one_wf' {D:Im} (hw:Wf D) (o:O1):Wf (oneF D o).1:=by
 unfold oneF
 split
 ·exact ins_wf hw _ _ _
 split
 ·exact mov_wf hw _ _ _
 split
 ·exact del_wf hw _
 split
 ·exact setName_wf hw _ _
 split
 ·exact setText_wf hw _ _
 split
 ·exact setAttr_wf hw _ _ _
 split
 ·exact dropAttr_wf hw _ _
 split
 ·exact hw
 ·exact del_wf (ins_wf hw _ _ _) _
theorem ins_ne0 {D:Im}{wh:Int}{a:Nat}{x:Tr} (h:(insF D wh a x).2.2=0):(insF D wh a x).2.1≠0:=by
 unfold insF at h |-
 split at h
 ·cases h
 rename_i h1
 rw [if_neg h1]
 split at h
 ·rename_i h2;exact absurd h h2
 rename_i h2
 rw [if_neg h2]
 split at h
 ·rename_i h3;exact absurd h h3
 rename_i h3
 rw [if_neg h3]
 split at h
 ·cases h
 rename_i h4
 rw [if_neg h4]
 split at h
 ·cases h
 rename_i h5
 rw [if_neg h5]
 show freshH D.sl≠0
 unfold freshH hnd
 omega
theorem one_h {D:Im}{o:O1} (h:(oneF D o).2.2=0):(o.kind=1->(oneF D o).2.1≠0)/\(o.kind=2\/o.kind=3\/o.kind=4\/o.kind=5\/o.kind=6\/o.kind=7->(oneF D o).2.1=0):=by
 refine⟨fun e=>?_,fun e=>?_⟩
 ·unfold oneF at h |-
  rw [if_pos e] at h |-
  exact ins_ne0 h
 ·unfold oneF
  rw [if_neg om]
  repeat' split
  all_goals first | rfl | omega
theorem run_put {l:List O1}:∀(is:List Int) {D:Im}{gone:List Nat}{put:Int->Nat}{D':Im}{put':Int->Nat}{a b:Int},runF l is D gone put=(some (D',put'),a,b)->∀(i:Int) (o:O1),l[i.toNat]?=some o ->
  (o.kind=1->i∈is\/put i≠0->put' i≠0)/\(o.kind=2\/o.kind=3\/o.kind=4\/o.kind=5\/o.kind=6\/o.kind=7->put i=0->put' i=0)
 | [],D,gone,put,D',put',a,b,h,i,o,ho=>by
  simp only [runF,Prod.mk.injEq,Option.some.injEq] at h
  obtain⟨⟨rfl,rfl⟩,_,_⟩:=h
  exact⟨fun _ h=>h.resolve_left sm,fun _ h=>h⟩
 | j :: is,D,gone,put,D',put',a,b,h,i,o,ho=>by
  unfold runF at h
  cases hj:l[j.toNat]? with
  | none=>rw [hj] at h;simp at h
  | some p =>
   rw [hj] at h
   simp only at h
   by_cases hs:skipB gone p=true
   ·rw [if_pos hs] at h
    obtain⟨q1,q2⟩:=run_put is h i o ho
    refine⟨fun e hi=>q1 e ?_,q2⟩
    rcases hi with hi | hi
    ·rcases List.mem_cons.1 hi with rfl | hi
     ·rw [hj] at ho
      obtain rfl:=osi ho
      unfold skipB at hs
      simp [e] at hs
     ·exact .inl hi
    ·exact .inr hi
   rw [if_neg hs] at h
   by_cases he:(oneF D p).2.2≠0
   ·rw [if_pos he] at h;simp at h
   rw [if_neg he] at h
   obtain⟨q1,q2⟩:=run_put is h i o ho
   obtain⟨p1,p2⟩:=one_h (by simpa using he:(oneF D p).2.2=0)
   refine⟨fun e hi=>q1 e ?_,fun e hi=>q2 e ?_⟩
   ·by_cases hij:i=j
    ·subst hij
     rw [hj] at ho
     obtain rfl:=osi ho
     right
     rw [if_pos rfl]
     exact p1 e
    ·rw [if_neg hij]
     rcases hi with hi | hi
     ·rcases List.mem_cons.1 hi with hi | hi
      ·exact absurd hi hij
      ·exact .inl hi
     ·exact .inr hi
   ·by_cases hij:i=j
    ·subst hij
     rw [hj] at ho
     obtain rfl:=osi ho
     rw [if_pos rfl]
     exact p2 e
    ·rw [if_neg hij];exact hi
theorem run_step {l:List O1}{i:Int}{r:List Int}{D:Im}{gone:List Nat}{put:Int->Nat}{o:O1} (ho:l[i.toNat]?=some o) :
  runF l (i :: r) D gone put=if skipB gone o=true then runF l r D gone put else if (oneF D o).2.2≠0 then (none,i,(oneF D o).2.2) else
   runF l r (oneF D o).1 (gone++takenF D o) fun j=>if j=i then (oneF D o).2.1 else put j:=by
 conv=>lhs;unfold runF
 rw [ho]
theorem phF_cases (k:Int):phF k=0\/phF k=1\/phF k=2\/phF k=3\/phF k=4:=by
 unfold phF
 repeat' split
 all_goals simp
theorem mem_phs {l:List O1}{p:Int}{k:Nat}{z:Int}:z∈phsF l p k↔∃(i:Nat) (o:O1),z=i/\i < k/\l[i]?=some o/\phF o.kind=p:=by
 unfold phsF
 rw [List.mem_map]
 constructor
 ·rintro ⟨i,hi,rfl⟩
  rw [List.mem_filter,List.mem_range] at hi
  obtain⟨h1,h2⟩:=hi
  have h2:=of_decide_eq_true h2
  cases ho:l[i]? with
  | none=>rw [ho] at h2;cases h2
  | some o =>
   rw [ho] at h2
   exact⟨i,o,rfl,h1,ho,by simpa using h2⟩
 ·rintro ⟨i,o,rfl,h1,h2,h3⟩
  refine⟨i,?_,rfl⟩
  rw [List.mem_filter,List.mem_range]
  exact⟨h1,by rw [h2];simpa using h3⟩
theorem mem_plan {l:List O1}{z:Int}:z∈planF l 5↔∃i:Nat,z=i/\i < l.length:=by
 unfold planF
 rw [mfm]
 constructor
 ·rintro ⟨q,_,hz⟩
  obtain⟨i,o,h1,h2,_⟩:=mem_phs.1 hz
  exact⟨i,h1,h2⟩
 ·rintro ⟨i,rfl,hi⟩
  have hc:=phF_cases l[i].kind
  have key:∀q:Nat,q < 5->phF l[i].kind=(q:Nat)->∃a,a∈List.range 5/\(i:Int)∈phsF l (a:Nat) l.length:=fun q hq e =>
   ⟨q,List.mem_range.2 hq,mem_phs.2 ⟨i,l[i],rfl,hi,gge hi,e⟩⟩
  rcases hc with e | e | e | e | e
  ·exact key 0 om e
  ·exact key 1 om e
  ·exact key 2 om e
  ·exact key 3 om e
  ·exact key 4 om e
def toldF (l:List O1) (put:Int->Nat) (k:Nat):List Nat:=(List.range k).flatMap fun i=>match l[i]? with
 | some o=>if o.kind=1\/(o.kind=8/\put (i:Nat)≠0) then [put (i:Nat)] else []
 | none=>[]
theorem told_step {l:List O1}{put:Int->Nat}{k:Nat} (hk:k < l.length):toldF l put (k+1)=toldF l put k++if l[k].kind=1\/(l[k].kind=8/\put (k:Nat)≠0) then [put (k:Nat)] else []:=by
 unfold toldF
 rw [List.range_succ,fma]
 simp only [fmc,List.flatMap_nil,List.append_nil,gge hk]
theorem given_step (put:Int->Nat) (k:Nat):givenF put (k+1)=givenF put k++if put (k:Nat)≠0 then [put (k:Nat)] else []:=by
 unfold givenF
 rw [List.range_succ,List.map_append,List.filter_append]
 congr 1
 simp only [List.map_cons,List.map_nil,List.filter_cons,List.filter_nil]
 by_cases e:put (k:Nat)≠0
 ·rw [if_pos (by simpa using e),if_pos e]
 ·rw [if_neg (by simpa using e),if_neg e]
theorem given_len (put:Int->Nat) (n:Nat):(givenF put n).length<=n:=by
 unfold givenF
 exact Nat.le_trans (List.length_filter_le _ _) sm
theorem check_kind:∀(l pre:List O1),(chkF pre l).2=0->∀o∈l,1<=o.kind/\o.kind<=8/\((o.kind=1\/o.kind=8)->(lookF o.t 1 0).2=0)
 | [],_,_,o,ho=>by simp at ho
 | x :: l,pre,h,o,ho=>by
  unfold chkF at h
  by_cases hb:badO pre x≠0
  ·rw [if_pos hb] at h;exact absurd h hb
  rw [if_neg hb] at h
  rcases List.mem_cons.1 ho with rfl | ho
  ·unfold badO at hb
   split at hb
   ·exact absurd dc hb
   rename_i h1
   split at hb
   ·rename_i h2;exact absurd h2.2 hb
   rename_i h2
   exact⟨om,om,fun e=>byc fun hne=>h2 ⟨e,hne⟩⟩
  ·exact check_kind l _ h o ho
theorem check_ok {l:List O1} (h:(checkF l).2=0):l.length<=4096/\(chkF [] l).2=0:=by
 unfold checkF at h
 split at h
 ·cases h
 ·exact⟨om,h⟩
theorem told_given {l:List O1}{D D':Im}{put:Int->Nat}{a b:Int} (hc:(checkF l).2=0) (h:runF l (planF l 5) D [] (fun _=>0)=(some (D',put),a,b)):∀k,k<=l.length->toldF l put k=givenF put k
 | 0,_=>rfl
 | k+1,hk=>by
  have ih:=told_given hc h k om
  have hk2:k < l.length:=by omega
  rw [told_step hk2,given_step,ih]
  congr 1
  obtain⟨k1,k2,_⟩:=check_kind l [] (check_ok hc).2 l[k] (gem hk2)
  obtain⟨q1,q2⟩:=run_put _ h (k:Nat) l[k] (by rw [tnc];exact gge hk2)
  by_cases e1:l[k].kind=1
  ·have:=q1 e1 (.inl (mem_plan.2 ⟨k,rfl,hk2⟩))
   rw [if_pos (.inl e1),if_pos this]
  by_cases e8:l[k].kind=8
  ·by_cases e:put (k:Nat)≠0
   ·rw [if_pos (.inr ⟨e8,e⟩),if_pos e]
   ·rw [if_neg (by rintro (h | h);exact e1 h;exact e h.2),if_neg e]
  ·have:=q2 om rfl
   rw [if_neg (by rintro (h | h);exact e1 h;exact e8 h.1),if_neg (by rw [this];simp)]
theorem all_same {A A':Nat->Option Sl}{a:Nat}{roots loose:List Nat} (hA:WfA A roots loose) (h:∀z,Wi A a z->A' z=A z):∀(r x:Nat),Wi A a x->allA A' r x=allA A r x
 | 0,x,_=>rfl
 | r+1,x,hx=>by
  unfold allA
  rw [h x hx]
  congr 1
  cases hs:A x with
  | none=>rfl
  | some s =>
   show s.kids.flatMap (allA A' r)=s.kids.flatMap (allA A r)
   have key:∀ks:List Nat,(∀k∈ks,k∈s.kids)->ks.flatMap (allA A' r)=ks.flatMap (allA A r):=fun ks=>by
    induction ks with
    | nil=>intro _;rfl
    | cons k ks ih =>
     intro hm
     rw [fmc,fmc,ih fun k' hk'=>hm k' (by simp [hk'])]
     obtain⟨_,t,ht,htp⟩:=(hA.kid x s hs).2 k (hm k sm)
     rw [all_same hA h r k (.up ht (by rw [htp];exact hx))]
   exact key _ fun _ h=>h
theorem ins_all {D:Im} (hw:Wf D) {a:Nat}{x:Tr} (h:(insF D 3 a x).2.2=0):∃s,slA D.sl a=some s/\slA (insF D 3 a x).1.sl a=some s/\allI (insF D 3 a x).1 a=allI D a:=by
 unfold insF at h |-
 split at h
 ·cases h
 rename_i h1
 rw [if_neg h1]
 split at h
 ·rename_i h2;exact absurd h h2
 rename_i h2
 rw [if_neg h2]
 split at h
 ·rename_i h3;exact absurd h h3
 rename_i h3
 rw [if_neg h3]
 split at h
 ·cases h
 rename_i h4
 rw [if_neg h4]
 split at h
 ·cases h
 rename_i h5
 rw [if_neg h5]
 have h3:(placeF D 3 a).2=0:=by simpa using h3
 obtain⟨p1,_,_,p4,_,p6⟩:=place_ok hw h3
 obtain⟨s,hs,hsp⟩:=p4 om
 have h2:(lookF x 1 0).2=0:=by simpa using h2
 obtain⟨k1,k2,k3,k4⟩:=look_ok x 1 0 h2
 obtain⟨c1,c2⟩:=hw.cnt (par_ex (roots:=D.roots) (loose:=[]) p1)
 have M:=make_wf (roots:=D.roots) x k1 hw.s hw.a p1 c2 om om
 have ha0:a≠0:=fun e=>by rw [e,slA_zero] at hs;cases hs
 have hpp:(placeF D 3 a).1=s.parent:=hsp.symm
 rw [hpp] at M |-
 have hin:s.parent=0\/∃t,slA (makeF x s.parent D.sl) s.parent=some t:=by
  rcases hw.a.par a s hs with e | ⟨t,ht,_⟩
  ·exact .inl e
  ·exact .inr ⟨t,M.ext _ _ ht⟩
 have hset:slA (putI { D with sl:=makeF x s.parent D.sl } (freshH D.sl) s.parent 3 a).sl=setA (slA (makeF x s.parent D.sl)) s.parent (insAt (lstI { D with sl:=makeF x s.parent D.sl } s.parent) (posF 3 a (lstI { D with sl:=makeF x s.parent D.sl } s.parent)) (freshH D.sl)):=by
  unfold putI
  exact (setI_A (D:={ D with sl:=makeF x s.parent D.sl }) hin).1
 have keep:∀z,Wi (slA D.sl) a z->slA (putI { D with sl:=makeF x s.parent D.sl } (freshH D.sl) s.parent 3 a).sl z=slA D.sl z:=fun z hz=>by
  have hz1:∃t,slA D.sl z=some t:=by
   cases hz with
   | self=>exact⟨s,hs⟩
   | up h _=>exact⟨_,h⟩
  obtain⟨t,ht⟩:=hz1
  have hzp:z≠s.parent:=fun e=>wi_par hw.a hs (e ▸ hz)
  rw [hset,ht]
  unfold setA
  rw [if_neg (by rintro ⟨e,_⟩;exact hzp e),M.ext _ _ ht]
 refine⟨s,hs,by rw [keep a .self,hs],?_⟩
 unfold allI
 rw [if_neg ha0,if_neg ha0]
 exact all_same hw.a keep 65 a .self
set_option maxRecDepth 100000
theorem Rd.op {w:World}{A:OA}{c:Nat}{xs:List E11} (h:Rd LOp w A c xs) {n:Nat} (hn:n=xs.length) {i:Int}{k:Nat} (hi:i=k) (hk:k < xs.length) {K:Addr->Prop}
  (hK:∀b o,w.cell? ⟨b,o,none⟩=some (.int .i64 xs[k].o.kind)->w.cell? ⟨b,o+1,none⟩=some (.int .u64 (xs[k].o.node:Nat))->w.cell? ⟨b,o+2,none⟩=some (.int .u64 (xs[k].o.at_:Nat))->w.cell? ⟨b,o+3,none⟩=some (.int .i64 xs[k].o.wh)->w.cell? ⟨b,o+4,none⟩=some (.string xs[k].o.nm)->w.cell? ⟨b,o+5,none⟩=some (.string xs[k].o.val) ->
   w.cell? ⟨b,o+6,none⟩=some (.int .i64 xs[k].e.kind)->w.cell? ⟨b,o+7,none⟩=some (.string xs[k].e.nm)->w.cell? ⟨b,o+8,none⟩=some (.slice xs[k].e.ats.1 xs[k].e.ats.2.1 xs[k].e.ats.2.2)->w.cell? ⟨b,o+9,none⟩=some (.string xs[k].e.text)->w.cell? ⟨b,o+10,none⟩=some (.slice xs[k].e.kids.1 xs[k].e.kids.2.1 xs[k].e.kids.2.2)->K ⟨b,o,none⟩):IdxA A n i 11 K:=by
 subst hi
 refine h.idx hn om om rfl fun b o hc=>?_
 simp only [tnc] at hc
 exact hK b o (hc 0 _ rfl) (hc 1 _ rfl) (hc 2 _ rfl) (hc 3 _ rfl) (hc 4 _ rfl) (hc 5 _ rfl) (hc 6 _ rfl) (hc 7 _ rfl) (hc 8 _ rfl) (hc 9 _ rfl) (hc 10 _ rfl)
theorem Rd.i64 {w:World}{A:OA}{c:Nat}{xs:List Int} (h:Rd LI w A c xs) {n:Nat} (hn:n=xs.length) {i:Int}{k:Nat} (hi:i=k) (hk:k < xs.length) {K:Addr->Prop}
  (hK:∀b o,w.cell? ⟨b,o,none⟩=some (.int .i64 xs[k])->K ⟨b,o,none⟩):IdxA A n i 1 K:=by
 subst hi
 refine h.idx hn om om rfl fun b o hc=>?_
 simp only [tnc] at hc
 exact hK b o (hc 0 _ rfl)
section
variable {w w1:World}{R:RT}{ok:Nat->Bool}{g:Nat}{D:Im}{vs vr:Sv}
theorem ins_errD {D:Im}{wh:Int}{a:Nat}{x:Tr} (h:(insF D wh a x).2.2≠0):(insF D wh a x).1=D:=by
 unfold insF at h |-
 repeat' split
 all_goals first | rfl | (exfalso;simp_all)
theorem oneR_calls (h:RM ok w g D vs vr) (hok:∀b,w.heap.size<=b->ok b=true) (hw:Wf D) {x:E11} (hx:ROp (vw ok g w) x) (hk1:1<=x.o.kind) (hk8:x.o.kind<=8)
  (hK:∀w' vs' vr',RM ok w' g (oneF D x.o).1 vs' vr'->Fm (·=g) w w'->R (.returned (.tuple #[.int .u64 ((oneF D x.o).2.1:Nat),.int .i64 (oneF D x.o).2.2])) w') :
  Calls P0 63 #[.pointer (some ⟨g,0,none⟩),opV x] w R:=by
 obtain⟨⟨hn,ha⟩,ht⟩:=hx
 refine ok63 (some ⟨g,0,none⟩) x.o.kind (x.o.node:Nat) (x.o.at_:Nat) x.o.wh x.o.nm x.o.val x.e.kind x.e.nm x.e.ats.1 x.e.ats.2.1 x.e.ats.2.2 x.e.text x.e.kids.1 x.e.kids.2.1 x.e.kids.2.2 ?_
 unfold F63
 refine al fun go w1 hb1 bo hgo=>?_
 have hs1:=hb1.size
 have hgl:=h.blk.lt
 have h1:=h.keep hb1
 have hok1:∀b,w1.heap.size<=b->ok b=true:=fun b hb=>hok b om
 have hsub:Sub (vw ok g w) (vw ok g w1):=vw_sub (.below hb1)
 have ht1:=RTr.sub hsub _ _ ht
 have fin:∀{w':World},Fm (·=g) w1 w'->Fm (·=g) w w':=fun hf=>(Fm.below hb1).trans hf
 simp only [bo.cell,lds]
 unfold oneF at hK
 refine bre (fun e=>?_) fun e1=>?_
 ·rw [if_pos e] at hK
  exact insertR_calls h1 hok1 hw ht1 ha fun w2 vs' vr' h2 f2=>⟨_,_,rfl,hK w2 vs' vr' h2 (fin f2)⟩
 rw [if_neg e1] at hK
 refine bre (fun e=>?_) fun e2=>?_
 ·rw [if_pos e] at hK
  exact moveR_calls h1 hok1 hw hn ha fun w2 vs' vr' h2 f2=>⟨_,rfl,hK w2 vs' vr' h2 (fin f2)⟩
 rw [if_neg e2] at hK
 refine bre (fun e=>?_) fun e3=>?_
 ·rw [if_pos e] at hK
  exact deleteR_calls h1 hok1 hw hn fun w2 vs' vr' h2 f2=>⟨_,rfl,hK w2 vs' vr' h2 (fin f2)⟩
 rw [if_neg e3] at hK
 refine bre (fun e=>?_) fun e4=>?_
 ·rw [if_pos e] at hK
  exact setNameR_calls h1 hok1 hn fun w2 vs' vr' h2 f2=>⟨_,rfl,hK w2 vs' vr' h2 (fin f2)⟩
 rw [if_neg e4] at hK
 refine bre (fun e=>?_) fun e5=>?_
 ·rw [if_pos e] at hK
  exact setTextR_calls h1 hok1 hn fun w2 vs' vr' h2 f2=>⟨_,rfl,hK w2 vs' vr' h2 (fin f2)⟩
 rw [if_neg e5] at hK
 refine bre (fun e=>?_) fun e6=>?_
 ·rw [if_pos e] at hK
  exact setAttrR_calls h1 hok1 hw hn fun w2 vs' vr' h2 f2=>⟨_,rfl,hK w2 vs' vr' h2 (fin f2)⟩
 rw [if_neg e6] at hK
 refine bre (fun e=>?_) fun e7=>?_
 ·rw [if_pos e] at hK
  exact dropAttrR_calls h1 hok1 hw hn fun w2 vs' vr' h2 f2=>⟨_,rfl,hK w2 vs' vr' h2 (fin f2)⟩
 rw [if_neg e7] at hK
 refine insertR_calls (wh:=3) h1 hok1 hw ht1 hn fun w2 vs' vr' h2 f2=>⟨_,_,rfl,?_⟩
 refine brn (fun hne=>?_) fun heq=>?_
 ·rw [if_pos hne] at hK
  rw [ins_errD hne] at h2
  exact hK w2 vs' vr' h2 (fin f2)
 ·rw [if_neg (by rw [heq];simp)] at hK
  have bo2:Blk w2 go (opC x) 50:=f2.blk bo fun e=>by have e:go=g:=e;omega
  simp only [bo2.cell,lds]
  have hs2:=f2.size
  exact deleteR_calls h2 (fun b hb=>hok b om) (ins_wf hw _ _ _) hn fun w3 vs3 vr3 h3 f3=>⟨_,rfl,hK w3 vs3 vr3 h3 (fin (f2.trans f3))⟩
theorem inR_calls {l:List Nat}{v:Sv}{x:Nat} (z1:v.2.1=l.length) (z2:Rd LHn w v.1 v.2.2 l) (hl:l.length<=1099511627776) (hK:R (.returned (.bool (decide (x∈l)))) w):Calls P0 62 #[.slice v.1 v.2.1 v.2.2,.int .u64 (x:Nat)] w R:=by
 refine ok62 v.1 v.2.1 v.2.2 x ?_
 unfold F62
 refine⟨fun i w'=>∃k:Nat,i=k/\k<=l.length/\w'=w/\x∉l.take k,fun i _=>l.length-i.toNat,⟨0,rfl,om,by first | exact rfl | trivial,sm⟩,?_⟩
 rintro _ w1 ⟨k,rfl,hk,rfl,hno⟩
 unfold F62_l2
 refine brd (fun hlt=>?_) (fun hge=>?_)
 ·have hk2:k < l.length:=by omega
  refine z2.hn z1 rfl hk2 fun b o c0=>?_
  simp only [c0,lds]
  refine bre (fun e=>?_) fun e=>?_
  ·have:l[k]=x:=by omega
   rw [decide_eq_true (this ▸ gem hk2)] at hK
   exact hK
  ·refine⟨inR_i64 om om,⟨k+1,sm,om,by first | exact rfl | trivial,?_⟩,(by first | omega | (dsimp only;omega))⟩
   rw [tsa hk2,List.mem_append,not_or]
   refine⟨hno,fun hm=>?_⟩
   have:x=l[k]:=by simpa using hm
   omega
 ·have hk2:k=l.length:=by omega
  subst hk2
  rw [tkl] at hno
  rw [decide_eq_false hno] at hK
  exact hK
theorem copyRM_calls (h:RM ok w g D vs vr) (hok:∀b,w.heap.size<=b->ok b=true)
  (hK:∀g' vs' vr' w',Below w.heap.size w w'->w.heap.size<=g'->RM ok w' g' D vs' vr'->R (.returned (.pointer (some ⟨g',0,none⟩))) w') :
  Calls P0 12 #[.pointer (some ⟨g,0,none⟩)] w R:=by
 have hD:=h.rdr
 obtain⟨es,hn,hr,hes⟩:=h.im.row
 have hel:=hes.len
 have hxl:=hD.im.len
 have hrw:Rd LS8 w vs.1 vs.2.2 es:=sub_of_only.rd hr
 have hrs:RR LS8 w es vs:=⟨om,hn,hrw⟩
 refine ok12 (some ⟨g,0,none⟩) ?_
 unfold F12
 have hd:Below w.heap.size w w.drew:=(Below.refl _ _).drew
 refine⟨fun w'=>Below w.heap.size w w',hd,?_⟩
 simp only [nds]
 refine⟨_,_,_,fun w2 h2=>(hD.keep h2).c0,_,_,_,fun w2 h2=>(hD.keep h2).c1,?_⟩
 have fin:∀(u:World) (a k:Sv),Below w.heap.size w u->RR LS8 (above w.heap.size u) es a->RR LHn (above w.heap.size u) D.roots k->Al u #[.slice a.1 a.2.1 a.2.2,.slice k.1 k.2.1 k.2.2] 85 fun g16 w'=>R (.returned (.pointer (some g16))) w':=by
  intro u a k hu ha hk
  refine al fun g16 w' hb' b16 hge=>?_
  have hs:=hu.size
  have B:=btr hu hs hb'
  have hs1:Sub (above w.heap.size u) (vw ok g16 w'):=sub_only (fun b hb hh=>vw_iff.2 ⟨hok b (nbl hh),om⟩) fun b hb _=>hb'.block b hb
  have hs2:Sub (vw ok g w) (vw ok g16 w'):=sub_only (fun b hb hh=>vw_iff.2 ⟨(vw_iff.1 hh).1,om⟩) fun b hb _=>B.block b hb
  have ha':=ha.sub hs1
  refine hK g16 a k w' B om ⟨b16,⟨hxl,⟨es,ha'.2.1,ha'.2.2,hes.mono fun _ _ h=>h.sub hs2⟩,hk.sub hs1,hD.im.ok,hD.im.rok⟩,h.few⟩
 have up:∀{u u':World},w.heap.size<=u.heap.size->Sub (above u.heap.size u') (above w.heap.size u'):=fun hu=>sub_only (fun b hb hh=>Nat.ble_eq_true_of_le (by have:=nbl hh;omega)) fun b _ _=>rfl
 have nx:∀{u u':World},Below u.heap.size u u'->Sub (above w.heap.size u) (above w.heap.size u'):=fun hb=>sub_only (fun b _ hh=>hh) fun b hb2 _=>hb.block b hb2
 have cpS:∀{u:World}{g:Addr}{K:Value->World->Prop},Below w.heap.size w u->(∀v' u',Below u.heap.size u u'->RR LS8 (above w.heap.size u') es v'->K (.slice v'.1 v'.2.1 v'.2.2) u') ->
   Raw P0 (Builtin.append_ #[22,22] 22 #[.slice (some g) 0 0,.slice vs.1 vs.2.1 vs.2.2]) u K:=fun hb hK =>
  apC (L:=LS8) (.agg #[.int .u32 0,.bool false,.int .i64 0,.string ⟨#[]⟩,.slice none 0 0,.string ⟨#[]⟩,.int .u64 0,.slice none 0 0]) 104 rfl rfl rfl dc (hrs.keep hb) (Nat.le_refl _) fun v' u' h1 h2=>hK v' u' h1 (h2.sub (up hb.size))
 have cpK:∀{u:World}{g:Addr}{K:Value->World->Prop},Below w.heap.size w u->(∀v' u',Below u.heap.size u u'->RR LHn (above w.heap.size u') D.roots v'->K (.slice v'.1 v'.2.1 v'.2.2) u') ->
   Raw P0 (Builtin.append_ #[23,23] 23 #[.slice (some g) 0 0,.slice vr.1 vr.2.1 vr.2.2]) u K:=fun hb hK =>
  apC (L:=LHn) (.int .u64 0) 8 rfl rfl rfl dc (hD.im.roots.keep hb) (Nat.le_refl _) fun v' u' h1 h2=>hK v' u' h1 (h2.sub (up hb.size))
 refine⟨al fun g3 u1 e1 _ _=>?_,al fun g9 u1 e1 _ _=>?_⟩
 ·have U1:=btr hd hd.size e1
  refine⟨U1,cpS U1 fun a u2 e2 ra=>⟨_,_,_,rfl,?_⟩,al fun g9 u2 e2 _ _=>?_⟩
  ·have U2:=btr U1 U1.size e2
   refine⟨U2,al fun g9 u3 e3 _ _=>?_⟩
   have U3:=btr U2 U2.size e3
   exact⟨U3,cpK U3 fun k u4 e4 rk=>⟨_,_,_,rfl,fin u4 a k (btr U3 U3.size e4) (ra.sub (nx (btr e3 e3.size e4))) rk⟩⟩
  ·have U2:=btr U1 U1.size e2
   refine⟨U2,cpS U2 fun a u3 e3 ra=>⟨_,_,_,rfl,?_⟩⟩
   have U3:=btr U2 U2.size e3
   exact⟨U3,cpK U3 fun k u4 e4 rk=>⟨_,_,_,rfl,fin u4 a k (btr U3 U3.size e4) (ra.sub (nx e4)) rk⟩⟩
 ·have U1:=btr hd hd.size e1
  refine⟨U1,al fun g3 u2 e2 _ _=>?_⟩
  have U2:=btr U1 U1.size e2
  refine⟨U2,cpS U2 fun a u3 e3 ra=>⟨_,_,_,rfl,?_⟩⟩
  have U3:=btr U2 U2.size e3
  exact⟨U3,cpK U3 fun k u4 e4 rk=>⟨_,_,_,rfl,fin u4 a k (btr U3 U3.size e4) (ra.sub (nx e4)) rk⟩⟩
end
set_option maxRecDepth 100000
section
variable {w w1 w2 w0:World}{o o1 o2:Nat->Nat}{θ:Th}{S:PS}{M:Nat->Prop}{bs:List Nat}{R:RT}{loose:List Nat}
theorem slvF {v:Sv}{A:OA}{n c:Nat} (h:slV v=.slice A n c):v=(A,n,c):=by
 obtain⟨a1,a2,a3⟩:=v
 unfold slV at h
 simp only [Value.slice.injEq] at h
 obtain⟨rfl,rfl,rfl⟩:=h
 rfl
theorem handles_calls (h:PM w o θ S) {l:List Nat}{v:Sv} (hv:v.2.1=l.length) (hr:Rd LPt w v.1 v.2.2 (l.map (pb S.bs))) (hl:l.length<=1048576) (hll:∀x∈l,∃t,slA S.D.sl x=some t)
  (hK:∀v' w',Below w.heap.size w w'->Own LHn w' w.heap.size 42 (slV v') l->R (.returned (slV v')) w'):Calls P0 80 #[.slice v.1 v.2.1 v.2.2] w R:=by
 refine ok80 v.1 v.2.1 v.2.2 ?_
 unfold F80
 rw [hv]
 refine⟨om,om,om,?_⟩
 refine al fun g8 w1 hb1 b1 hge1=>?_
 have o1:Own LHn w1 w.heap.size 42 (.slice (some ⟨g8,0,none⟩) 0 l.length) []:=Own.made b1 hge1 (by simp [zrow,LHn]) (by simp [maxLen];omega)
 refine⟨fun A n c j w'=>∃k:Nat,j=k/\k<=l.length/\Below w.heap.size w w'/\Own LHn w' w.heap.size 42 (.slice A n c) (l.take k),fun _ _ _ j _=>l.length-j.toNat,⟨0,rfl,om,hb1,by simpa using o1⟩,?_⟩
 rintro A n c j w2 ⟨k,rfl,hk,hb2,ho⟩
 unfold F80_l3
 refine brd (fun hlt=>?_) (fun hge=>?_)
 ·have hk2:k < l.length:=by omega
  refine (hr.keep hb2).pt (by rw [lmp]) rfl (k:=k) (by rw [lmp];exact hk2) fun bb oo cc=>?_
  rw [gmp] at cc
  simp only [cc,lds]
  obtain⟨t,ht⟩:=hll l[k] (gem hk2)
  refine hnd_calls (h.below hb2) ht fun w3 hb3=>⟨_,rfl,?_⟩
  have B3:=btr hb2 hb2.size hb3
  refine ap1 (L:=LHn) (x:=l[k]) (xs:=l.take k) (.int .u64 0) 8 rfl kr kr kr (ho.keep hb3) B3.size (by rw [ltk];omega) (by rw [ltk];simp [maxLen];omega) fun A' c' w4 o4 g4=>⟨A',_,c',rfl,inR_i64 om om,⟨k+1,sm,om,B3.trans g4.below,?_⟩,(by first | omega | (dsimp only;omega))⟩
  rw [tsa hk2];exact o4
 ·have hk2:k=l.length:=by omega
  subst hk2
  rw [tkl] at ho
  exact hK (A,n,c) w2 hb2 ho
theorem Kids_calls (h:PM w o θ S) (hA:WfA (slA S.D.sl) S.D.roots loose) (hf:S.D.sl.length<=4096) {x:Nat}{s:Sl} (hx:slA S.D.sl x=some s)
  (hK:∀v' w',Below w.heap.size w w'->Own LHn w' w.heap.size 42 (slV v') s.kids->R (.returned (.tuple #[slV v',.int .i64 0])) w'):Calls P0 120 #[.pointer (some ⟨θ.g,0,none⟩),.int .u64 (x:Nat)] w R:=by
 refine ok120 (some ⟨θ.g,0,none⟩) x ?_
 unfold F120
 obtain⟨i,i1,i2,i3,i4⟩:=h.of hx
 have hgen:=(h.rng s (mog i3)).gen
 have hxl:x < 18446744073709551616:=by
  obtain⟨k,k1,k2,k3,k4⟩:=slA_iff.1 hx
  have:=(gsi.1 k2).1
  unfold hnd at k4;omega
 refine atL_calls h hxl fun w1 hb1=>⟨_,rfl,?_⟩
 have e:ptrL S x=some ⟨pb S.bs x,0,none⟩:=by unfold ptrL;rw [hx];rfl
 rw [e]
 simp only [nds,Option.isNone_some,Br_f]
 have h1:=h.below hb1
 obtain⟨v,cv,ov,rv⟩:=h1.cKids i2 i3
 obtain⟨A,c,hvf,hrd⟩:=ov.form
 have e1:=slvF hvf
 have cv':w1.cell? ⟨pb S.bs x,8,none⟩=some (.slice v.1 v.2.1 v.2.2):=cv
 simp only [cv',lds]
 refine handles_calls h1 (v:=v) (l:=s.kids) (by rw [e1];simp) (by rw [e1];exact hrd) (Nat.le_trans (live_few (fun y hy=>by obtain⟨_,t,ht,_⟩:=(hA.kid x s hx).2 y hy;exact⟨t,ht⟩) (hA.kid x s hx).1) om) (fun y hy=>by obtain⟨_,t,ht,_⟩:=(hA.kid x s hx).2 y hy;exact⟨t,ht⟩) fun v' w2 hb2 ho=>⟨_,_,_,rfl,?_⟩
 exact hK v' w2 (btr hb1 hb1.size hb2) (ho.rebase fun k hk=>Nat.le_trans hb1.size (ho.lt k hk).1)
theorem Roots_calls (h:PM w o θ S) (hA:WfA (slA S.D.sl) S.D.roots loose)
  (hK:∀v' w',Below w.heap.size w w'->Own LHn w' w.heap.size 42 (slV v') S.D.roots->R (.returned (slV v')) w'):Calls P0 77 #[.pointer (some ⟨θ.g,0,none⟩)] w R:=by
 refine ok77 (some ⟨θ.g,0,none⟩) ?_
 unfold F77
 obtain⟨nv,rv,hd⟩:=h.doc
 obtain⟨A,c,hvf,hrd⟩:=hd.r1.form
 have e1:=slvF hvf
 have cv':w.cell? ⟨θ.g,1,none⟩=some (.slice rv.1 rv.2.1 rv.2.2):=by rw [hd.blk.cell];rfl
 simp only [NonNil_some,cv',lds]
 exact handles_calls h (v:=rv) (l:=S.D.roots) (by rw [e1];simp) (by rw [e1];exact hrd) h.rts.2 (fun y hy=>by obtain⟨_,t,ht,_⟩:=hA.root.2 y hy;exact⟨t,ht⟩) fun v' w2 hb2 ho=>⟨_,_,_,rfl,hK v' w2 hb2 ho⟩
theorem hx_lt (h:PM w o θ S) {x:Nat}{s:Sl} (hx:slA S.D.sl x=some s):x < 18446744073709551616:=by
 obtain⟨i,i1,i2,i3,i4⟩:=h.of hx
 have hgen:=(h.rng s (mog i3)).gen
 have hf:=h.few
 obtain⟨k,k1,k2,k3,k4⟩:=slA_iff.1 hx
 have:=(gsi.1 k2).1
 unfold hnd at k4;omega
theorem Level_calls (h:PM w o θ S) {x c:Nat}{s:Sl} (hx:slA S.D.sl x=some s) (hc:Ch (slA S.D.sl) x c) (hc2:c<=64)
  (hK:∀w',Below w.heap.size w w'->R (.returned (.tuple #[.int .i64 ((c:Nat)-1:Int),.int .i64 0])) w'):Calls P0 166 #[.pointer (some ⟨θ.g,0,none⟩),.int .u64 (x:Nat)] w R:=by
 refine ok166 (some ⟨θ.g,0,none⟩) x ?_
 unfold F166
 refine atL_calls h (hx_lt h hx) fun w1 hb1=>⟨_,rfl,?_⟩
 have e:ptrL S x=some ⟨pb S.bs x,0,none⟩:=by unfold ptrL;rw [hx];rfl
 have x0:x≠0:=fun e=>by subst e;rw [slA_zero] at hx;cases hx
 have e2:ptrH S.bs x=some ⟨pb S.bs x,0,none⟩:=by unfold ptrH;rw [if_neg x0]
 rw [e]
 simp only [Option.isNone_some,Br_f]
 rw [<-e2]
 exact level_calls (h.below hb1) (slA_zero _) hc hc2 ⟨_,rfl,hK w1 hb1⟩
theorem Parent_calls (h:PM w o θ S) (hA:WfA (slA S.D.sl) S.D.roots loose) {x:Nat}{s:Sl} (hx:slA S.D.sl x=some s)
  (hK:∀w',Below w.heap.size w w'->R (.returned (.tuple #[.int .u64 (s.parent:Nat),.int .i64 0])) w'):Calls P0 121 #[.pointer (some ⟨θ.g,0,none⟩),.int .u64 (x:Nat)] w R:=by
 refine ok121 (some ⟨θ.g,0,none⟩) x ?_
 unfold F121
 obtain⟨i,i1,i2,i3,i4⟩:=h.of hx
 refine atL_calls h (hx_lt h hx) fun w1 hb1=>⟨_,rfl,?_⟩
 have e:ptrL S x=some ⟨pb S.bs x,0,none⟩:=by unfold ptrL;rw [hx];rfl
 rw [e]
 have h1:=h.below hb1
 simp only [Option.isNone_some,Br_f,NonNil_some,Addr.add_mk,Nat.zero_add,h1.cPar i2 i3,lds]
 rcases hA.par x s hx with hp | ⟨t,ht,_⟩
 ·have e2:ptrH S.bs s.parent=none:=by unfold ptrH;rw [if_pos hp]
  rw [e2]
  refine hndN_calls ⟨_,rfl,?_⟩
  have:=hK w1 hb1
  rw [hp] at this;exact this
 ·have p0:s.parent≠0:=fun e=>by rw [e,slA_zero] at ht;cases ht
  have e2:ptrH S.bs s.parent=some ⟨pb S.bs s.parent,0,none⟩:=by unfold ptrH;rw [if_neg p0]
  rw [e2]
  exact hnd_calls h1 ht fun w2 hb2=>⟨_,rfl,hK w2 (btr hb1 hb1.size hb2)⟩
theorem all_fewP {D:Im} (hS:WfS D.sl) (hA:WfA (slA D.sl) D.roots []) {r x:Nat} (hx:∃s,slA D.sl x=some s):(allA (slA D.sl) r x).length<=4096 :=
 Nat.le_trans (live_few (fun y hy=>all_live hA hx (fun z hz=>by simp at hz) hy) (all_nodup hA r x hx fun z hz=>by simp at hz)) hS.few
theorem allP_calls (h:PM w0 o θ S) (hA:WfA (slA S.D.sl) S.D.roots loose):∀(r:Nat) {l:List Nat}{v:Sv}{cc:Nat}{w:World}{A:OA}{n c:Nat}{xs:List Nat}{R:RT},v.2.1=l.length->Rd LPt w0 v.1 v.2.2 (l.map (pb S.bs))->l.length<=1048576->(∀x∈l,∃t,slA S.D.sl x=some t/\Ch (slA S.D.sl) x cc)->65<=cc+r ->
  Below w0.heap.size w0 w->Own LHn w w0.heap.size 42 (.slice A n c) xs->xs.length+(l.flatMap (allA (slA S.D.sl) r)).length<=4398046511104 ->
  (∀A' n' c' w',Below w0.heap.size w0 w'->Own LHn w' w0.heap.size 42 (.slice A' n' c') (xs++l.flatMap (allA (slA S.D.sl) r))->R (.returned (.slice A' n' c')) w') ->
  Calls P0 142 #[.slice v.1 v.2.1 v.2.2,.slice A n c] w R:=by
 intro r
 induction r with
 | zero =>
  intro l v cc w A n c xs R hv hr hl hll hcr hb ho hlen hK
  have hl0:l=[]:=by
   cases l with
   | nil=>rfl
   | cons x l =>
    obtain⟨t,t1,t2⟩:=hll x sm
    obtain⟨c',h1,h2⟩:=hA.chain x t t1
    have:=t2.fn h2;omega
  subst hl0
  refine ok142 v.1 v.2.1 v.2.2 A n c ?_
  unfold F142
  refine⟨fun A' n' c' j w'=>j=0/\A'=A/\n'=n/\c'=c/\w'=w,fun _ _ _ _ _=>0,⟨rfl,rfl,rfl,rfl,rfl⟩,?_⟩
  rintro _ _ _ _ _ ⟨rfl,rfl,rfl,rfl,rfl⟩
  unfold F142_l2
  refine brd (fun hlt=>absurd hlt (by rw [hv];simp)) (fun _=>hK _ _ _ _ hb (by simpa using ho))
 | succ r ih =>
  intro l v cc w A n c xs R hv hr hl hll hcr hb ho hlen hK
  refine ok142 v.1 v.2.1 v.2.2 A n c ?_
  unfold F142
  refine⟨fun A' n' c' j w'=>∃k:Nat,j=k/\k<=l.length/\Below w0.heap.size w0 w'/\Own LHn w' w0.heap.size 42 (.slice A' n' c') (xs++(l.take k).flatMap (allA (slA S.D.sl) (r+1))),fun _ _ _ j _=>l.length-j.toNat,⟨0,rfl,om,hb,by simpa using ho⟩,?_⟩
  rintro A1 n1 c1 j w1 ⟨k,rfl,hk,hb1,ho1⟩
  unfold F142_l2
  refine brd (fun hlt=>?_) (fun hge=>?_)
  ·have hk2:k < l.length:=by omega
   refine (hr.keep hb1).pt (by rw [lmp];exact hv) rfl (k:=k) (by rw [lmp];exact hk2) fun bb oo cx=>?_
   rw [gmp] at cx
   simp only [cx,lds]
   obtain⟨t,t1,t2⟩:=hll l[k] (gem hk2)
   obtain⟨i,i1,i2,i3,i4⟩:=h.of t1
   have hdr:Below w1.heap.size w1 w1.drew:=(Below.refl _ _).drew
   have B1d:=btr hb1 hb1.size hdr
   obtain⟨kv,ck,ok,rk⟩:=h.cKids i2 i3
   obtain⟨Ak,ckk,hkf,hkr⟩:=ok.form
   have ek:=slvF hkf
   have hkids:∀y∈t.kids,∃u,slA S.D.sl y=some u/\u.parent=l[k]:=fun y hy=>((hA.kid _ t t1).2 y hy).2
   have hst:(l.take (k+1)).flatMap (allA (slA S.D.sl) (r+1))=(l.take k).flatMap (allA (slA S.D.sl) (r+1))++(l[k] :: t.kids.flatMap (allA (slA S.D.sl) r)):=by
    rw [tsa hk2,fma,<-allA_some t1];simp
   have hle:((l.take (k+1)).flatMap (allA (slA S.D.sl) (r+1))).length<=(l.flatMap (allA (slA S.D.sl) (r+1))).length:=by
    have e:l.flatMap (allA (slA S.D.sl) (r+1))=(l.take (k+1)).flatMap (allA (slA S.D.sl) (r+1))++(l.drop (k+1)).flatMap (allA (slA S.D.sl) (r+1)):=by rw [<-fma,tad]
    rw [e,lap];omega
   rw [hst,lap,List.length_cons] at hle
   refine⟨fun w'=>Below w0.heap.size w0 w',B1d,?_⟩
   simp only [nds]
   refine⟨kv.1,kv.2.1,kv.2.2,fun w' hw=>(sub_below hw).cell ck,?_⟩
   refine hnd_calls (h.below B1d) t1 fun w2 hb2=>⟨_,rfl,?_⟩
   have B2:=btr B1d B1d.size hb2
   refine⟨B2,?_⟩
   refine ap1S (L:=LHn) (x:=l[k]) (S:=fun w'=>Below w0.heap.size w0 w') (.int .u64 0) 8 rfl kr kr kr ((ho1.keep hdr).keep hb2) B2.size (by simp only [lap];omega) (by simp only [maxLen,lap];omega) (fun w' hb'=>btr B2 B2.size hb') fun A3 c3 w3 o3 g3=>⟨A3,_,c3,rfl,?_⟩
   have B3:=B2.trans g3.below
   refine⟨B3,?_⟩
   refine ih (l:=t.kids) (v:=kv) (cc:=cc+1) (by rw [ek];simp) (by rw [ek];exact hkr) (Nat.le_trans (live_few (fun y hy=>by obtain⟨u,hu,_⟩:=hkids y hy;exact⟨u,hu⟩) (hA.kid _ t t1).1) (by have:=h.few;omega)) (fun y hy=>by
    obtain⟨u,u1,u2⟩:=hkids y hy
    exact⟨u,u1,.succ (hA.ne0 u1) u1 (by rw [u2];exact t2)⟩) om B3 o3 (by simp only [lap,List.length_singleton];omega) fun A4 n4 c4 w4 hb4 o4=>⟨A4,n4,c4,rfl,inR_i64 om om,⟨k+1,sm,om,hb4,?_⟩,(by first | omega | (dsimp only;omega))⟩
   rw [hst,<-laa]
   rw [laa _ [l[k]],List.singleton_append] at o4
   exact o4
  ·have hk2:k=l.length:=by omega
   subst hk2
   rw [tkl] at ho1
   exact hK _ _ _ _ hb1 ho1
theorem AllT_calls (h:PM w o θ S) (hS:WfS S.D.sl) (hA:WfA (slA S.D.sl) S.D.roots []) {x:Nat} (hxl:x < 18446744073709551616) (h0:x≠0)
  (hK:∀v' w',Below w.heap.size w w'->(∀s,slA S.D.sl x=some s->Own LHn w' w.heap.size 42 (slV v') (allA (slA S.D.sl) 65 x))->R (.returned (.tuple #[slV v',.int .i64 (if (slA S.D.sl x).isSome=true then 0 else 8)])) w'):Calls P0 90 #[.pointer (some ⟨θ.g,0,none⟩),.int .u64 (x:Nat)] w R:=by
 refine ok90 (some ⟨θ.g,0,none⟩) x ?_
 unfold F90
 refine bre (fun e=>absurd om h0) (fun _=>?_)
 refine atL_calls h hxl fun w1 hb1=>⟨_,rfl,?_⟩
 have h1:=h.below hb1
 cases hx:slA S.D.sl x with
 | none =>
  have e:ptrL S x=none:=by unfold ptrL;rw [hx];rfl
  rw [e]
  simp only [Option.isNone_none,Br_t]
  have:=hK (none,0,0) w1 hb1 (fun s hs=>by rw [hx] at hs;cases hs)
  rw [hx] at this
  exact this
 | some s =>
  have e:ptrL S x=some ⟨pb S.bs x,0,none⟩:=by unfold ptrL;rw [hx];rfl
  rw [e]
  simp only [Option.isNone_some,Br_f]
  refine al fun g20 w2 hb2 b2 hge2=>?_
  have B2:=btr hb1 hb1.size hb2
  obtain⟨c,c1,c2⟩:=hA.chain x s hx
  have hlen:=all_fewP hS hA (r:=65) ⟨s,hx⟩
  have hone:([x]:List Nat).flatMap (allA (slA S.D.sl) 65)=allA (slA S.D.sl) 65 x:=by simp
  refine allP_calls (h.below B2) hA 65 (l:=[x]) (v:=(some ⟨g20,0,none⟩,1,1)) (cc:=c) (xs:=[]) rfl ?_ sm (fun y hy=>by rw [List.mem_singleton] at hy;subst hy;exact⟨s,hx,c2⟩) om (Below.refl _ _) (.inl ⟨rfl,rfl⟩) (by rw [hone];simp only [List.length_nil];omega) fun A' n' c' w' hb' ho'=>⟨A',n',c',rfl,?_⟩
  ·refine⟨sm,by simp [maxLen],fun h0=>(by cases h0),fun _=>⟨g20,0,rfl,fun j u hj=>?_⟩⟩
   rw [List.map_singleton,LPt.all_one] at hj
   rw [b2.cell];simpa [LPt] using hj
  ·rw [hone,List.nil_append] at ho'
   have:=hK (A',n',c') w' (btr B2 B2.size hb') (fun s' _=>ho'.rebase fun k hk=>Nat.le_trans B2.size (ho'.lt k hk).1)
   rw [hx] at this
   exact this
end
set_option maxRecDepth 100000
section
variable {P:Program}{q:IntKind}{w:World}{b:Nat}{f:Int->Option Value}{t kt et:TypeId}
theorem erase_list (es:Array MapEntry) (j:Nat):(es.eraseIdxIfInBounds j).toList=es.toList.eraseIdx j:=by
 unfold Array.eraseIdxIfInBounds
 split
 ·simp
 ·rename_i h
  rw [List.eraseIdx_of_length_le (by simpa using h)]
theorem MpE.drop {es:Array MapEntry}{clock:Nat} (he:MpE q es clock f) {k:Int}{j:Nat}{y:MapEntry} (hj:es.toList[j]?=some y) (hy:y.key=.int q k):MpE q (es.eraseIdxIfInBounds j) clock (upd f k none):=by
 have hl:=erase_list es j
 have hsub:(es.toList.eraseIdx j).Sublist es.toList:=List.eraseIdx_sublist _ _
 have hmem:∀x∈es.toList.eraseIdx j,x∈es.toList/\x.key≠.int q k:=fun x hx=>by
  refine⟨hsub.subset hx,fun e=>?_⟩
  obtain⟨i,hi⟩:=List.mem_iff_getElem?.1 hx
  rw [List.getElem?_eraseIdx] at hi
  have hn:=he.one
  have key:∀i',i'≠j->es.toList[i']?=some x->False:=fun i' hne hi'=>by
   obtain⟨h1,h2⟩:=gsi.1 hi'
   obtain⟨h3,h4⟩:=gsi.1 hj
   have hp:=List.pairwise_iff_getElem.1 hn
   rcases Nat.lt_or_ge i' j with h | h
   ·have:=hp i' j (by simpa using h1) (by simpa using h3) h
    rw [gmp,gmp,h2,h4,e,hy] at this
    exact this rfl
   ·have:=hp j i' (by simpa using h3) (by simpa using h1) om
    rw [gmp,gmp,h2,h4,e,hy] at this
    exact this rfl
  split at hi
  ·exact key i om hi
  ·exact key (i+1) om hi
 refine⟨fun x hx=>?_,fun a u hu=>?_,?_,fun x hx=>?_,?_⟩
 ·rw [hl] at hx
  obtain⟨h1,h2⟩:=hmem x hx
  obtain⟨a,h3,h4⟩:=he.key x h1
  refine⟨a,h3,?_⟩
  unfold upd
  rw [if_neg (fun e=>h2 (by rw [h3,e]))];exact h4
 ·unfold upd at hu
  by_cases e:a=k
  ·rw [if_pos e] at hu;cases hu
  ·rw [if_neg e] at hu
   obtain⟨x,hx,h1⟩:=he.has a u hu
   refine⟨x,?_,h1⟩
   rw [hl]
   obtain⟨i,hi⟩:=List.mem_iff_getElem?.1 hx
   have hne:i≠j:=fun e2=>by
    subst e2;rw [hj] at hi;cases hi
    rw [hy] at h1;injection h1 with _ h1;exact e h1.symm
   rw [List.mem_iff_getElem?]
   rcases Nat.lt_or_ge i j with h | h
   ·exact⟨i,by rw [List.getElem?_eraseIdx,if_pos h];exact hi⟩
   ·exact⟨i-1,by rw [List.getElem?_eraseIdx,if_neg om,show i-1+1=i by omega];exact hi⟩
 ·rw [hl];exact he.one.sublist (hsub.map _)
 ·rw [hl] at hx;exact he.born x (hsub.subset hx)
 ·rw [hl];exact he.age.sublist (hsub.map _)
theorem Mp.del (h:Mp q w b f) (ht:P.underlying t=some (.map kt et)) (hk:P.underlying kt=some (.int q)) (k:Int) {ty:TypeId}{K:Value->World->Prop}
  (hK:∀w1,Mp q w1 b (upd f k none)->Fm (·=b) w w1->K (.tuple #[]) w1):Raw P (Builtin.delete_ #[t,kt] ty #[.map (some b),.int q k]) w K:=by
 obtain⟨es,clock,hb,he,h2⟩:=h.find k
 have hc:(Instr.checkKey es.isEmpty 10000 kt (.int q k)).run P w=.ok () w:=MapKept.run_checkKey (k:=.int q k) hk (by simp [MapKept.IsKey]) _ 9999
 rcases h2 with ⟨h1,h2⟩ | ⟨j,x,h3,h4,h1,h2⟩
 ·refine⟨_,_,?_,hK { w with heap:=w.heap.setIfInBounds b (.map es clock) } ⟨es,clock,(MapKept.heap_set hb).1,?_⟩ (set_fm w b _)⟩
  ·simp [Builtin.delete_,run_underlying ht,MapKept.run_getObj_map hb,hc,MapKept.run_findKey hk h2,MapKept.run_setObj_map _ hb,Result.andThen]
  ·have e:upd f k none=f:=funext fun a=>by
    unfold upd
    by_cases e:a=k
    ·rw [if_pos e,e,h1]
    ·rw [if_neg e]
   rw [e];exact he
 ·refine⟨_,_,?_,hK { w with heap:=w.heap.setIfInBounds b (.map (es.eraseIdxIfInBounds j) clock) } ⟨_,clock,(MapKept.heap_set hb).1,he.drop h3 h4⟩ (set_fm w b _)⟩
  simp [Builtin.delete_,run_underlying ht,MapKept.run_getObj_map hb,hc,MapKept.run_findKey hk h2,MapKept.run_setObj_map _ hb,Result.andThen]
theorem Mp.len (h:Mp q w b f) (ht:P.underlying t=some (.map kt et)) {l:List Int} (hn:l.Nodup) (hl:∀k,k∈l↔∃v,f k=some v) {ty:TypeId}{K:Value->World->Prop} (hK:K (.int .i64 (l.length:Nat)) w) :
  Raw P (Builtin.len_ #[t] ty #[.map (some b)]) w K:=by
 obtain⟨es,clock,hb,he⟩:=h
 have hsz:es.size=l.length:=by
  letI:DecidableEq Value:=fun a b=>Classical.propDecidable (a=b)
  have h1:(es.toList.map (·.key)).length<=(l.map (fun k=>Value.int q k)).length:=by
   refine nodup_sub he.one fun x hx=>?_
   obtain⟨e,he',rfl⟩:=List.mem_map.1 hx
   obtain⟨k,k1,k2⟩:=he.key e he'
   rw [k1]
   exact List.mem_map.2 ⟨k,(hl k).2 ⟨_,k2⟩,rfl⟩
  have h2:(l.map (fun k=>Value.int q k)).length<=(es.toList.map (·.key)).length:=by
   refine nodup_sub ?_ fun x hx=>?_
   ·refine List.pairwise_map.2 (hn.imp fun {a c} hac e=>hac ?_)
    injection e
   ·obtain⟨k,hk,rfl⟩:=List.mem_map.1 hx
    obtain⟨v,hv⟩:=(hl k).1 hk
    obtain⟨x,h3,h4⟩:=he.has k v hv
    exact List.mem_map.2 ⟨x,h3,h4⟩
  simp at h1 h2;omega
 refine⟨_,w,?_,hK⟩
 simp [Builtin.len_,run_underlying ht,MapKept.run_getObj_map hb,hsz,goInt]
end
end Go.Proofs.YtnbgiacnbheonaaGreatDoor
