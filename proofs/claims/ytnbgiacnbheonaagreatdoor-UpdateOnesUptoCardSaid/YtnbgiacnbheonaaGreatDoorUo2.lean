/- UpdateOnes: a list of edits comes to the same when they are made one by one, and when two that stand beside one another in unlike phases change places. -/
import Derived.Test.YtnbgiacnbheonaaGreatDoorProg
import Derived.Laws.CopyRow
import Derived.Laws.Append
import Derived.Test.YtnbgiacnbheonaaGreatDoorUo1
set_option linter.unusedVariables false
set_option maxRecDepth 100000
namespace Go.Proofs.YtnbgiacnbheonaaGreatDoor
open Go.Vc
def F90 (d:OA)(h_:Int)(p:Wd)(R:RT):Prop:=Br (h_==(0:Int)) (NonNil d fun p10=>LdSl (p.cell? (p10.add 1)) fun m b h=>CL 142 #[.slice m b h,.slice none 0 0] p (post R fun v w1=>∃j c i,v=(.slice j c i)/\R (.returned (.tuple #[.slice j c i,.int .i64 0])) w1)) (CL 114 #[.pointer d,.int .u64 h_] p (post R fun v w1=>∃n,v=(.pointer n)/\Br (n).isNone (R (.returned (.tuple #[.slice none 0 0,.int .i64 8])) w1) (Al w1 #[.pointer n] 140 fun g20 g=>CL 142 #[(.slice (some g20) 1 1),.slice none 0 0] g (post R fun v2 a=>∃k f e,v2=(.slice k f e)/\R (.returned (.tuple #[.slice k f e,.int .i64 0])) a))))
theorem ok90 (d:OA)(a:Int){w:Wd}{R:RT} (h:F90 d a w R):CL 90 #[.pointer d,.int .u64 a] w R:=
 vk ⟨22,⟨[]⟩,[],[]⟩ Tryz.func90 h
def F76_j16 (c:Int->Wd->Prop)(b:Int)(a:Wd)(R:RT):Prop:=InR .i64 (b+(1:Int))/\c (b+(1:Int)) a
def F76_l11 (d:OA)(c:Addr)(ga:OA)(ca:Nat)(ac:Int->Wd->Prop)(qa:Int)(ab:Wd)(R:RT):Prop:=Br (decide (qa<(ca:Int))) (∃J16:Wd->Prop,(∀w1,J16 w1->F76_j16 ac qa w1 R)/\(IdxA ga ca qa 1 fun ia=>LdP (ab.cell? ia) fun ja=>∃S:Wd->Prop,S ab.drew/\∃ya,Held S c (.pointer ya)/\NonNil ya fun p64=>∃va n s,Held S p64 (.slice va n s)/\IdxA va n qa 1 fun na=>∃cb,Held S na (.pointer cb)/\NonNil ja fun p72=>∃za k y,Held S (p72.add 8) (.slice za k y)/\CallV P0 (.func (.func 133) #[] #[(.pointer (some c))]) #[.slice za k y] ab.drew R (fun v aa=>∃ua ea m,v=(.slice ua ea m)/\S aa/\NonNil cb fun p76=>St aa (p76.add 8) (.slice ua ea m) fun ba=>NonNil ja fun p79=>LdP (ba.cell? (p79.add 7)) fun ha=>Br (!(ha).isNone) (∃S2:Wd->Prop,S2 ba.drew/\∃sa,Held S2 c (.pointer sa)/\NonNil sa fun p84=>∃pa da fa,Held S2 p84 (.slice pa da fa)/\IdxA pa da qa 1 fun ma=>∃ta,Held S2 ma (.pointer ta)/\∃ka,Held S2 c (.pointer ka)/\NonNil ka fun p91=>∃bb h p,Held S2 p91 (.slice bb h p)/\NonNil ja fun p95=>∃ra,Held S2 (p95.add 7) (.pointer ra)/\NonNil ra fun p98=>∃j,Held S2 p98 (.int .u32 j)/\InR .u32 (j-(1:Int))/\IdxA bb h (j-(1:Int)) 1 fun u=>∃i,Held S2 u (.pointer i)/\NonNil ta fun p104=>St ba.drew (p104.add 7) (.pointer i) fun q=>J16 q) (J16 ba)))) (∃S:Wd->Prop,S ab.drew/\∃g,Held S c (.pointer g)/\NonNil d fun p110=>∃r e a,Held S (p110.add 1) (.slice r e a)/\CallV P0 (.func (.func 133) #[] #[(.pointer (some c))]) #[.slice r e a] ab.drew R (fun v aa=>∃z b f,v=(.slice z b f)/\S aa/\NonNil g fun p114=>St aa (p114.add 1) (.slice z b f) fun ba=>LdP (ba.cell? c) fun t=>R (.returned (.pointer t)) ba))
def F76_l3 (d:OA)(c:Addr)(bb:OA)(va:Nat)(L3:Int->Wd->Prop)(jb:Int)(fb:Wd)(R:RT):Prop:=Br (decide (jb<(va:Int))) (IdxA bb va jb 1 fun kb=>LdP (fb.cell? kb) fun ya=>NonNil ya fun p34=>LdI .u32 (fb.cell? p34) fun n=>LdI .u32 (fb.cell? (p34.add 1)) fun z=>LdB (fb.cell? (p34.add 2)) fun i=>LdI .i64 (fb.cell? (p34.add 3)) fun j=>LdStr (fb.cell? (p34.add 4)) fun g=>LdSl (fb.cell? (p34.add 5)) fun s a f=>LdStr (fb.cell? (p34.add 6)) fun p=>LdP (fb.cell? (p34.add 7)) fun y=>LdSl (fb.cell? (p34.add 8)) fun r e b=>Al fb #[.int .u32 0,.int .u32 0,.bool false,.int .i64 0,eS,.slice none 0 0,eS,.pointer none,.slice none 0 0] 142 fun m_ w1=>St w1 m_ (.int .u32 n) fun qa=>St qa (m_.add 1) (.int .u32 z) fun sa=>St sa (m_.add 2) (.bool i) fun fa=>St fa (m_.add 3) (.int .i64 j) fun ca=>St ca (m_.add 4) (.string g) fun ja=>St ja (m_.add 5) (.slice s a f) fun ba=>St ba (m_.add 6) (.string p) fun da=>St da (m_.add 7) (.pointer y) fun ma=>St ma (m_.add 8) (.slice r e b) fun aa=>NonNil ya fun p37=>LdSl (aa.cell? (p37.add 5)) fun gb ka ia=>CL 78 #[.slice gb ka ia] aa (post R fun v u=>∃cb ra ua,v=(.slice cb ra ua)/\St u (m_.add 5) (.slice cb ra ua) fun k=>∃S:Wd->Prop,S k.drew/\∃hb,Held S c (.pointer hb)/\∃ib,Held S c (.pointer ib)/\NonNil ib fun p44=>∃za ea na,Held S p44 (.slice za ea na)/\Al k.drew #[(.pointer (some m_))] 140 fun g47 q=>S q/\Raw P0 (Builtin.append_ #[104,104] 104 #[.slice za ea na,(.slice (some g47) 1 1)]) q fun v2 h=>∃db ha ga,v2=(.slice db ha ga)/\S h/\NonNil hb fun p49=>St h p49 (.slice db ha ga) fun t=>InR .i64 (jb+(1:Int))/\L3 (jb+(1:Int)) t)) (NonNil d fun p54=>LdSl (fb.cell? p54) fun ab ta pa=>∃(I:Int->Wd->Prop)(m:Int->Wd->Nat),I (0:Int) fb/\∀eb w1,I eb w1->F76_l11 d c ab ta (fun eb' w2=>I eb' w2/\m eb' w2<m eb w1) eb w1 R)
def F76_j2 (d:OA)(c:Addr)(f:Wd)(R:RT):Prop:=NonNil d fun p25=>LdSl (f.cell? p25) fun e b a=>∃(I:Int->Wd->Prop)(m:Int->Wd->Nat),I (0:Int) f/\∀g w1,I g w1->F76_l3 d c e b (fun g' w2=>I g' w2/\m g' w2<m g w1) g w1 R
def F76 (d:OA)(i:Wd)(R:RT):Prop:=∃J2:Addr->Wd->Prop,(∀c w1,J2 c w1->F76_j2 d c w1 R)/\(∃S:Wd->Prop,S i.drew/\NonNil d fun p11=>∃f,Held S (p11.add 2) (.int .i64 f)/\NonNil d fun p15=>∃h,Held S (p15.add 3) (.int .i64 h)/\NonNil d fun p19=>∃g,Held S (p19.add 4) (.int .i64 g)/\(Al i.drew #[.slice none 0 0,.slice none 0 0,.int .i64 f,.int .i64 h,.int .i64 g] 106 fun g23 e=>Al e #[.pointer none] 74 fun c a=>St a c (.pointer (some g23)) fun b=>J2 c b)/\(Al i.drew #[.pointer none] 74 fun c e=>S e/\Al e #[.slice none 0 0,.slice none 0 0,.int .i64 f,.int .i64 h,.int .i64 g] 106 fun g23 a=>St a c (.pointer (some g23)) fun b=>J2 c b))
theorem ok76 (d:OA){w:Wd}{R:RT} (h:F76 d w R):CL 76 #[.pointer d] w R:=
 vk ⟨117,⟨[]⟩,[(16,⟨[],[(8,10),(60,106)]⟩),(2,⟨[(3,(.s .addr))],[(3,24)]⟩)],[(3,⟨[(29,(.s (.int .i64)))],[(5,7),(29,52)]⟩),(11,⟨[(58,(.s (.int .i64)))],[(8,10),(58,107)]⟩)]⟩ Tryz.func76 h
def F133_l3 (l:OA)(lN:Nat)(s:Addr)(L3:OA->Nat->Nat->Int->Wd->Prop)(t:OA)(u y:Nat)(r:Int)(p:Wd)(R:RT):Prop:=Br (decide (r<(lN:Int))) (IdxA l lN r 1 fun g=>LdP (p.cell? g) fun j=>∃S:Wd->Prop,S p.drew/\∃n,Held S s (.pointer n)/\NonNil n fun p15=>∃q c a,Held S p15 (.slice q c a)/\NonNil j fun p19=>∃i,Held S p19 (.int .u32 i)/\InR .u32 (i-(1:Int))/\IdxA q c (i-(1:Int)) 1 fun h=>∃m,Held S h (.pointer m)/\Al p.drew #[.pointer m] 140 fun g25 d=>Raw P0 (Builtin.append_ #[104,104] 104 #[.slice t u y,(.slice (some g25) 1 1)]) d fun v b=>∃k f e,v=(.slice k f e)/\InR .i64 (r+(1:Int))/\L3 k f e (r+(1:Int)) b) (R (.returned (.slice t u y)) p)
def F133 (l:OA)(lN lC:Nat)(c:Addr)(a:Wd)(R:RT):Prop:=∃(I:OA->Nat->Nat->Int->Wd->Prop)(m:OA->Nat->Nat->Int->Wd->Nat),I none 0 0 (0:Int) a/\∀out outN outC b w1,I out outN outC b w1->F133_l3 l lN c (fun out' outN' outC' b' w2=>I out' outN' outC' b' w2/\m out' outN' outC' b' w2<m out outN outC b w1) out outN outC b w1 R
theorem ok133 (l:OA)(a b:Nat)(c:Addr){w:Wd}{R:RT} (h:F133 l a b c w R):CL 133 #[.slice l a b,(.pointer (some c))] w R:=
 vk ⟨29,⟨[]⟩,[],[(3,⟨[(4,(.s .slice)),(9,(.s (.int .i64)))],[(4,7),(9,28)]⟩)]⟩ Tryz.func133 h
def F192 (d:OA)(h_:Int)(e:Wd)(R:RT):Prop:=CL 114 #[.pointer d,.int .u64 h_] e (post R fun v w1=>∃c,v=(.pointer c)/\Br (c).isNone (R (.returned (.int .i64 8)) w1) (CL 202 #[.pointer d,.pointer c] w1 (post R fun v2 a=>v2=(.tuple #[])/\CL 221 #[.pointer d,.pointer c] a (post R fun v3 b=>v3=(.tuple #[])/\R (.returned (.int .i64 0)) b))))
theorem ok192 (d:OA)(a:Int){w:Wd}{R:RT} (h:F192 d a w R):CL 192 #[.pointer d,.int .u64 a] w R:=
 vk ⟨17,⟨[]⟩,[],[]⟩ Tryz.func192 h
def F159 (d:OA)(h_:Int)(r:ByteArray)(q:Wd)(R:RT):Prop:=CL 195 #[.pointer d,.int .u64 h_,.int .i64 1] q (post R fun v w1=>∃e a,v=(.tuple #[.pointer e,.int .i64 a])/\Br (a != (0:Int)) (R (.returned (.int .i64 a)) w1) (CL 197 #[.pointer e,.string r] w1 (post R fun v2 m=>∃c b,v2=(.tuple #[.int .i64 c,.bool b])/\Br (!b) (R (.returned (.int .i64 35)) m) (NonNil e fun p30=>LdSl (m.cell? (p30.add 5)) fun n k h=>InR .i64 (c+(1:Int))/\CL 199 #[.slice n k h,.int .i64 c,(.int .i64 (c+(1:Int)))] m (post R fun v3 f=>∃p i g,v3=(.slice p i g)/\NonNil e fun p37=>St f (p37.add 5) (.slice p i g) fun j=>R (.returned (.int .i64 0)) j)))))
theorem ok159 (d:OA)(a:Int)(b:ByteArray){w:Wd}{R:RT} (h:F159 d a b w R):CL 159 #[.pointer d,.int .u64 a,.string b] w R:=
 vk ⟨39,⟨[]⟩,[],[]⟩ Tryz.func159 h
def F107_l3 (y:OA)(q:Nat)(L3:OA->Nat->Nat->Int->Wd->Prop)(z:OA)(aa ab:Nat)(p:Int)(r:Wd)(R:RT):Prop:=Br (decide (p<(q:Int))) (IdxA y q p 1 fun t=>LdP (r.cell? t) fun u=>CL 163 #[.pointer u] r (post R fun v w1=>∃i f h a b e g d c,v=(.agg #[.int .i64 i,.string f,.slice h a b,.string e,.slice g d c])/\Al w1 #[.int .i64 i,.string f,.slice h a b,.string e,.slice g d c] 48 fun g18 m=>Raw P0 (Builtin.append_ #[46,46] 46 #[.slice z aa ab,(.slice (some g18) 1 1)]) m fun v2 n=>∃s j k,v2=(.slice s j k)/\InR .i64 (p+(1:Int))/\L3 s j k (p+(1:Int)) n)) (R (.returned (.slice z aa ab)) r)
def F107 (d:OA)(e:Wd)(R:RT):Prop:=NonNil d fun p7=>LdSl (e.cell? (p7.add 1)) fun f b a=>∃(I:OA->Nat->Nat->Int->Wd->Prop)(m:OA->Nat->Nat->Int->Wd->Nat),I none 0 0 (0:Int) e/\∀out outN outC c w1,I out outN outC c w1->F107_l3 f b (fun out' outN' outC' c' w2=>I out' outN' outC' c' w2/\m out' outN' outC' c' w2<m out outN outC c w1) out outN outC c w1 R
theorem ok107 (d:OA){w:Wd}{R:RT} (h:F107 d w R):CL 107 #[.pointer d] w R:=
 vk ⟨22,⟨[]⟩,[],[(3,⟨[(3,(.s .slice)),(11,(.s (.int .i64)))],[(3,6),(11,21)]⟩)]⟩ Tryz.func107 h
def F31_j9 (g3:Addr)(L3:Int->Wd->Prop)(z:Int)(s:Addr)(y:Wd)(R:RT):Prop:=LdSl (y.cell? g3) fun aa r u=>LdI .u32 (y.cell? s) fun h=>LdB (y.cell? (s.add 1)) fun n=>LdI .i64 (y.cell? (s.add 2)) fun j=>LdStr (y.cell? (s.add 3)) fun k=>LdSl (y.cell? (s.add 4)) fun i b a=>LdStr (y.cell? (s.add 5)) fun g=>LdI .u64 (y.cell? (s.add 6)) fun e=>LdSl (y.cell? (s.add 7)) fun f c d=>Al y #[.int .u32 h,.bool n,.int .i64 j,.string k,.slice i b a,.string g,.int .u64 e,.slice f c d] 88 fun g68 q=>Raw P0 (Builtin.append_ #[22,22] 22 #[.slice aa r u,(.slice (some g68) 1 1)]) q fun v2 p=>∃ba v t,v2=(.slice ba v t)/\St p g3 (.slice ba v t) fun m=>InR .i64 (z+(1:Int))/\L3 (z+(1:Int)) m
def F31_l3 (g2 g3:Addr)(ua:OA)(pa:Nat)(L3:Int->Wd->Prop)(cb:Int)(ab:Wd)(R:RT):Prop:=Br (decide (cb<(pa:Int))) (IdxA ua pa cb 1 fun za=>LdP (ab.cell? za) fun va=>∃S:Wd->Prop,S ab.drew/\NonNil va fun p20=>∃ib,Held S (p20.add 1) (.int .u32 ib)/\NonNil va fun p24=>∃hb,Held S (p24.add 2) (.bool hb)/\Al ab.drew #[.int .u32 0,.bool false,.int .i64 0,eS,.slice none 0 0,eS,.int .u64 0,.slice none 0 0] 88 fun s da=>S da/\St da s (.int .u32 ib) fun ea=>St ea (s.add 1) (.bool hb) fun ha=>St ha (s.add 2) (.int .i64 0) fun aa=>St aa (s.add 3) eS fun z=>St z (s.add 4) (.slice none 0 0) fun m=>St m (s.add 5) eS fun g=>St g (s.add 6) (.int .u64 0) fun q=>St q (s.add 7) (.slice none 0 0) fun e=>∃J9:Wd->Prop,(∀y,J9 y->F31_j9 g3 L3 cb s y R)/\(NonNil va fun p29=>LdB (e.cell? (p29.add 2)) fun eb=>Br eb (∃S2:Wd->Prop,S2 e.drew/\NonNil va fun p33=>∃gb,Held S2 (p33.add 3) (.int .i64 gb)/\NonNil va fun p37=>∃bb,Held S2 (p37.add 4) (.string bb)/\NonNil va fun p41=>∃db ma fa,Held S2 (p41.add 5) (.slice db ma fa)/\NonNil va fun p46=>∃sa,Held S2 (p46.add 6) (.string sa)/\CL 78 #[.slice db ma fa] e.drew (post R fun v2 v=>∃ta na ia,v2=(.slice ta na ia)/\S2 v/\St v (s.add 2) (.int .i64 gb) fun n=>S2 n/\St n (s.add 3) (.string bb) fun j=>S2 j/\St j (s.add 4) (.slice ta na ia) fun i=>S2 i/\St i (s.add 5) (.string sa) fun t=>∃S3:Wd->Prop,S3 t.drew/\NonNil va fun p54=>∃qa,Held S3 (p54.add 7) (.pointer qa)/\NonNil va fun p59=>∃fb ba ca,Held S3 (p59.add 8) (.slice fb ba ca)/\CL 79 #[.pointer qa] t.drew (post R fun v3 k=>∃ya,v3=(.int .u64 ya)/\S3 k/\CL 80 #[.slice fb ba ca] k (post R fun v4 h=>∃ra ja ga,v4=(.slice ra ja ga)/\St h (s.add 6) (.int .u64 ya) fun r=>St r (s.add 7) (.slice ra ja ga) fun u=>J9 u)))) (J9 e))) (LdSl (ab.cell? g3) fun p c b=>LdSl (ab.cell? (g3.add 1)) fun f a d=>St ab g2 (.slice p c b) fun ka=>St ka (g2.add 1) (.slice f a d) fun da=>LdSl (da.cell? g2) fun res0_0 res0_0N res0_0C=>LdSl (da.cell? (g2.add 1)) fun res0_1 res0_1N res0_1C=>R (.returned (.agg #[.slice res0_0 res0_0N res0_0C,.slice res0_1 res0_1N res0_1C])) da)
def F31 (d:OA)(q:Wd)(R:RT):Prop:=Al q #[.slice none 0 0,.slice none 0 0] 25 fun g2 w1=>CL 77 #[.pointer d] w1 (post R fun v f=>∃p k n,v=(.slice p k n)/\Al f #[.slice none 0 0,.slice none 0 0] 25 fun g3 a=>St a g3 (.slice none 0 0) fun c=>St c (g3.add 1) (.slice p k n) fun g=>NonNil d fun p11=>LdSl (g.cell? p11) fun i b h=>∃(I:Int->Wd->Prop)(m:Int->Wd->Nat),I (0:Int) g/\∀j e,I j e->F31_l3 g2 g3 i b (fun j' w2=>I j' w2/\m j' w2<m j e) j e R)
theorem ok31 (d:OA){w:Wd}{R:RT} (h:F31 d w R):CL 31 #[.pointer d] w R:=
 vk ⟨73,⟨[]⟩,[(9,⟨[],[(28,65)]⟩)],[(3,⟨[(15,(.s (.int .i64)))],[(5,7),(15,72)]⟩)]⟩ Tryz.func31 h
def F64_j10 (d:OA)(ab:Int)(g7 l:Addr)(u:OA)(z:Wd)(R:RT):Prop:=CL 115 #[.pointer d,.int .i64 ab,.pointer u] z (post R fun v4 s=>∃m f,v4=(.tuple #[.pointer m,.int .i64 f])/\Br (f != (0:Int)) (R (.returned (.tuple #[.int .u64 0,.int .i64 f])) s) (∃S:Wd->Prop,S s.drew/\∃ca,Held S (l.add 1) (.int .i64 ca)/\CL 116 #[.pointer m] s.drew (post R fun v5 r=>∃aa,v5=(.int .i64 aa)/\S r/\InR .i64 (aa+(1:Int))/\InR .i64 ((aa+(1:Int))+ca)/\Br (decide (((aa+(1:Int))+ca) > (64:Int))) (R (.returned (.tuple #[.int .u64 0,.int .i64 32])) r) (Dr r fun t=>NonNil d fun p55=>LdI .i64 (t.cell? (p55.add 2)) fun y=>NonNil d fun p59=>LdI .i64 (t.cell? (p59.add 3)) fun da=>InR .i64 (y+da)/\LdI .i64 (t.cell? l) fun ba=>InR .i64 ((y+da)+ba)/\Br (decide (((y+da)+ba) > (4096:Int))) (R (.returned (.tuple #[.int .u64 0,.int .i64 33])) t) (LdI .i64 (t.cell? g7) fun h=>LdStr (t.cell? (g7.add 1)) fun k=>LdSl (t.cell? (g7.add 2)) fun g e a=>LdStr (t.cell? (g7.add 3)) fun j=>LdSl (t.cell? (g7.add 4)) fun q b c=>CL 117 #[.pointer d,.agg #[.int .i64 h,.string k,.slice g e a,.string j,.slice q b c],.pointer m] t (post R fun v6 p=>∃v,v6=(.pointer v)/\CL 118 #[.pointer d,.pointer v,.pointer m,.int .i64 ab,.pointer u] p (post R fun v7 n=>v7=(.tuple #[])/\CL 79 #[.pointer v] n (post R fun v8 i=>∃ea,v8=(.int .u64 ea)/\R (.returned (.tuple #[.int .u64 ea,.int .i64 0])) i))))))))
def F64 (d:OA)(y z aa:Int)(ab:ByteArray)(ac:OA)(ad ae:Nat)(af:ByteArray)(ag:OA)(ah ai:Nat)(u:Wd)(R:RT):Prop:=Al u #[.int .i64 aa,.string ab,.slice ac ad ae,.string af,.slice ag ah ai] 48 fun g7 w1=>CL 112 #[.int .i64 y,.int .u64 z] w1 (post R fun v p=>∃t,v=(.bool t)/\Br (!t) (R (.returned (.tuple #[.int .u64 0,.int .i64 1])) p) (Al p #[.int .i64 0,.int .i64 0] 204 fun l k=>LdI .i64 (k.cell? g7) fun j=>LdStr (k.cell? (g7.add 1)) fun h=>LdSl (k.cell? (g7.add 2)) fun f a e=>LdStr (k.cell? (g7.add 3)) fun g=>LdSl (k.cell? (g7.add 4)) fun i c b=>CL 113 #[(.pointer (some l)),.agg #[.int .i64 j,.string h,.slice f a e,.string g,.slice i c b],.int .i64 1] k (post R fun v2 m=>∃r,v2=(.int .i64 r)/\Br (r != (0:Int)) (R (.returned (.tuple #[.int .u64 0,.int .i64 r])) m) (CL 114 #[.pointer d,.int .u64 z] m (post R fun v3 q=>∃s,v3=(.pointer s)/\∃J10:Wd->Prop,(∀n,J10 n->F64_j10 d y g7 l s n R)/\(Br (z != (0:Int)) (Br (s).isNone (R (.returned (.tuple #[.int .u64 0,.int .i64 8])) q) (J10 q)) (J10 q)))))))
theorem ok64 (d:OA)(a b c:Int)(e:ByteArray)(f:OA)(g i:Nat)(j:ByteArray)(k:OA)(m n:Nat){w:Wd}{R:RT} (h:F64 d a b c e f g i j k m n w R):CL 64 #[.pointer d,.int .i64 a,.int .u64 b,.agg #[.int .i64 c,.string e,.slice f g i,.string j,.slice k m n]] w R:=
 vk ⟨79,⟨[]⟩,[(10,⟨[],[(8,10),(28,34)]⟩)],[]⟩ Tryz.func64 h
def F120 (d:OA)(h_:Int)(i:Wd)(R:RT):Prop:=CL 114 #[.pointer d,.int .u64 h_] i (post R fun v w1=>∃j,v=(.pointer j)/\Br (j).isNone (R (.returned (.tuple #[.slice none 0 0,.int .i64 8])) w1) (NonNil j fun p13=>LdSl (w1.cell? (p13.add 8)) fun g c f=>CL 80 #[.slice g c f] w1 (post R fun v2 b=>∃h a e,v2=(.slice h a e)/\R (.returned (.tuple #[.slice h a e,.int .i64 0])) b)))
theorem ok120 (d:OA)(a:Int){w:Wd}{R:RT} (h:F120 d a w R):CL 120 #[.pointer d,.int .u64 a] w R:=
 vk ⟨17,⟨[]⟩,[],[]⟩ Tryz.func120 h
def F105 (d:OA)(b:Wd)(R:RT):Prop:=NonNil d fun p4=>LdI .i64 (b.cell? (p4.add 2)) fun a=>R (.returned (.int .i64 a)) b
theorem ok105 (d:OA){w:Wd}{R:RT} (h:F105 d w R):CL 105 #[.pointer d] w R:=
 vk ⟨7,⟨[]⟩,[],[]⟩ Tryz.func105 h
def F166 (d:OA)(h_:Int)(c:Wd)(R:RT):Prop:=CL 114 #[.pointer d,.int .u64 h_] c (post R fun v w1=>∃e,v=(.pointer e)/\Br (e).isNone (R (.returned (.tuple #[.int .i64 0,.int .i64 8])) w1) (CL 116 #[.pointer e] w1 (post R fun v2 a=>∃b,v2=(.int .i64 b)/\R (.returned (.tuple #[.int .i64 b,.int .i64 0])) a)))
theorem ok166 (d:OA)(a:Int){w:Wd}{R:RT} (h:F166 d a w R):CL 166 #[.pointer d,.int .u64 a] w R:=
 vk ⟨14,⟨[]⟩,[],[]⟩ Tryz.func166 h
def F160_j8 (d:OA)(p:Int)(i n:OA)(m:Wd)(R:RT):Prop:=CL 115 #[.pointer d,.int .i64 p,.pointer n] m (post R fun v4 e=>∃a b,v4=(.tuple #[.pointer a,.int .i64 b])/\Br (b != (0:Int)) (R (.returned (.int .i64 b)) e) (CL 116 #[.pointer a] e (post R fun v5 h=>∃j,v5=(.int .i64 j)/\InR .i64 (j+(1:Int))/\CL 201 #[.pointer i] h (post R fun v6 f=>∃k,v6=(.int .i64 k)/\InR .i64 ((j+(1:Int))+k)/\Br (decide (((j+(1:Int))+k) > (64:Int))) (R (.returned (.int .i64 32)) f) (CL 202 #[.pointer d,.pointer i] f (post R fun v7 g=>v7=(.tuple #[])/\CL 118 #[.pointer d,.pointer i,.pointer a,.int .i64 p,.pointer n] g (post R fun v8 c=>v8=(.tuple #[])/\R (.returned (.int .i64 0)) c)))))))
def F160 (d:OA)(h_ j k:Int)(i:Wd)(R:RT):Prop:=CL 112 #[.int .i64 j,.int .u64 k] i (post R fun v w1=>∃f,v=(.bool f)/\Br (!f) (R (.returned (.int .i64 1)) w1) (CL 114 #[.pointer d,.int .u64 h_] w1 (post R fun v2 c=>∃e,v2=(.pointer e)/\CL 114 #[.pointer d,.int .u64 k] c (post R fun v3 a=>∃h,v3=(.pointer h)/\∃J8:Wd->Prop,(∀b,J8 b->F160_j8 d j e h b R)/\(Br (e).isNone (R (.returned (.int .i64 8)) a) (Br (k != (0:Int)) (Br (h).isNone (R (.returned (.int .i64 8)) a) (Br (!(h).isNone) (CL 200 #[.pointer h,.pointer e] a (post R fun v4 b=>∃g,v4=(.bool g)/\Br g (R (.returned (.int .i64 34)) b) (J8 b))) (J8 a))) (Br (!(h).isNone) (CL 200 #[.pointer h,.pointer e] a (post R fun v4 b=>∃g,v4=(.bool g)/\Br g (R (.returned (.int .i64 34)) b) (J8 b))) (J8 a))))))))
theorem ok160 (d:OA)(a b c:Int){w:Wd}{R:RT} (h:F160 d a b c w R):CL 160 #[.pointer d,.int .u64 a,.int .i64 b,.int .u64 c] w R:=
 vk ⟨70,⟨[]⟩,[(8,⟨[],[(8,9),(23,42)]⟩)],[]⟩ Tryz.func160 h
def F121 (d:OA)(h_:Int)(e:Wd)(R:RT):Prop:=CL 114 #[.pointer d,.int .u64 h_] e (post R fun v w1=>∃f,v=(.pointer f)/\Br (f).isNone (R (.returned (.tuple #[.int .u64 0,.int .i64 8])) w1) (NonNil f fun p13=>LdP (w1.cell? (p13.add 7)) fun b=>CL 79 #[.pointer b] w1 (post R fun v2 a=>∃c,v2=(.int .u64 c)/\R (.returned (.tuple #[.int .u64 c,.int .i64 0])) a)))
theorem ok121 (d:OA)(a:Int){w:Wd}{R:RT} (h:F121 d a w R):CL 121 #[.pointer d,.int .u64 a] w R:=
 vk ⟨17,⟨[]⟩,[],[]⟩ Tryz.func121 h
def F77 (d:OA)(f:Wd)(R:RT):Prop:=NonNil d fun p4=>LdSl (f.cell? (p4.add 1)) fun h c b=>CL 80 #[.slice h c b] f (post R fun v w1=>∃g e a,v=(.slice g e a)/\R (.returned (.slice g e a)) w1)
theorem ok77 (d:OA){w:Wd}{R:RT} (h:F77 d w R):CL 77 #[.pointer d] w R:=
 vk ⟨8,⟨[]⟩,[],[]⟩ Tryz.func77 h
def F158_j15  (a:Wd) (R:RT):Prop:=
 R (.returned (.int .i64 0)) a
def F158 (d:OA)(h_:Int)(ab ac:ByteArray)(w_:Wd)(R:RT):Prop:=CL 195 #[.pointer d,.int .u64 h_,.int .i64 1] w_ (post R fun v w1=>∃g e,v=(.tuple #[.pointer g,.int .i64 e])/\Br (e != (0:Int)) (R (.returned (.int .i64 e)) w1) (CL 196 #[.string ab] w1 (post R fun v2 s=>∃aa,v2=(.bool aa)/\Br (!aa) (R (.returned (.int .i64 6)) s) (CL 190 #[.string ac] s (post R fun v3 y=>∃f b,v3=(.tuple #[.int .i64 f,.int .i64 b])/\Br (b != (0:Int)) (R (.returned (.int .i64 b)) y) (CL 197 #[.pointer g,.string ab] y (post R fun v4 n=>∃a c,v4=(.tuple #[.int .i64 a,.bool c])/\∃J15:Wd->Prop,(∀m,J15 m->F158_j15 m R)/\(Br c (NonNil g fun p59=>LdSl (n.cell? (p59.add 5)) fun fa h i=>IdxA fa h a 2 fun ea=>St n (ea.add 1) (.string ac) fun m=>J15 m) (NonNil g fun p68=>LdSl (n.cell? (p68.add 5)) fun ca t u=>Br (decide ((t:Int)≥(32:Int))) (R (.returned (.int .i64 2)) n) (NonNil g fun p45=>LdSl (n.cell? (p45.add 5)) fun da q j=>Al n #[.string ab,.string ac] 145 fun g52 m=>CL 198 #[.slice da q j,.int .i64 a,(.slice (some g52) 1 1)] m (post R fun v5 p=>∃ba z r,v5=(.slice ba z r)/\NonNil g fun p54=>St p (p54.add 5) (.slice ba z r) fun k=>J15 k)))))))))))
theorem ok158 (d:OA)(a:Int)(b c:ByteArray){w:Wd}{R:RT} (h:F158 d a b c w R):CL 158 #[.pointer d,.int .u64 a,.string b,.string c] w R:=
 vk ⟨73,⟨[]⟩,[(15,⟨[],[(8,73)]⟩)],[]⟩ Tryz.func158 h
def F156 (d:OA)(h_:Int)(h:ByteArray)(g:Wd)(R:RT):Prop:=CL 195 #[.pointer d,.int .u64 h_,.int .i64 1] g (post R fun v w1=>∃b a,v=(.tuple #[.pointer b,.int .i64 a])/\Br (a != (0:Int)) (R (.returned (.int .i64 a)) w1) (CL 196 #[.string h] w1 (post R fun v2 e=>∃f,v2=(.bool f)/\Br (!f) (R (.returned (.int .i64 6)) e) (NonNil b fun p25=>St e (p25.add 4) (.string h) fun c=>R (.returned (.int .i64 0)) c))))
theorem ok156 (d:OA)(a:Int)(b:ByteArray){w:Wd}{R:RT} (h:F156 d a b w R):CL 156 #[.pointer d,.int .u64 a,.string b] w R:=
 vk ⟨27,⟨[]⟩,[],[]⟩ Tryz.func156 h
def F157 (d:OA)(h_:Int)(i:ByteArray)(h:Wd)(R:RT):Prop:=CL 195 #[.pointer d,.int .u64 h_,.int .i64 2] h (post R fun v w1=>∃c a,v=(.tuple #[.pointer c,.int .i64 a])/\Br (a != (0:Int)) (R (.returned (.int .i64 a)) w1) (CL 190 #[.string i] w1 (post R fun v2 g=>∃b e,v2=(.tuple #[.int .i64 b,.int .i64 e])/\Br (e != (0:Int)) (R (.returned (.int .i64 e)) g) (NonNil c fun p30=>St g (p30.add 6) (.string i) fun f=>R (.returned (.int .i64 0)) f))))
theorem ok157 (d:OA)(a:Int)(b:ByteArray){w:Wd}{R:RT} (h:F157 d a b w R):CL 157 #[.pointer d,.int .u64 a,.string b] w R:=
 vk ⟨32,⟨[]⟩,[],[]⟩ Tryz.func157 h
def F114_j7 (b:OA)(a:Wd)(R:RT):Prop:=R (.returned (.pointer b)) a
def F114_j4 (d:OA)(h_:Int)(h:Wd)(R:RT):Prop:=NonNil d fun p22=>LdSl (h.cell? p22) fun f a b=>InR .u64 ((bAnd .u64 h_ (4294967295:Int))-(1:Int))/\IdxA f a ((bAnd .u64 h_ (4294967295:Int))-(1:Int)) 1 fun e=>LdP (h.cell? e) fun g=>∃J7:Wd->Prop,(∀w1,J7 w1->F114_j7 g w1 R)/\(NonNil g fun p30=>LdB (h.cell? (p30.add 2)) fun c=>Br (!c) (R (.returned (.pointer none)) h) (CL 79 #[.pointer g] h (post R fun v w1=>∃i,v=(.int .u64 i)/\Br (i != h_) (R (.returned (.pointer none)) w1) (J7 w1))))
def F114 (d:OA)(h_:Int)(e:Wd)(R:RT):Prop:=∃J4:Wd->Prop,(∀w1,J4 w1->F114_j4 d h_ w1 R)/\(Br ((bAnd .u64 h_ (4294967295:Int))==(0:Int)) (R (.returned (.pointer none)) e) (NonNil d fun p14=>LdSl (e.cell? p14) fun c a b=>InR .u64 ((a:Int))/\Br (decide ((bAnd .u64 h_ (4294967295:Int)) > ((a:Int)))) (R (.returned (.pointer none)) e) (J4 e)))
theorem ok114 (d:OA)(a:Int){w:Wd}{R:RT} (h:F114 d a w R):CL 114 #[.pointer d,.int .u64 a] w R:=
 vk ⟨41,⟨[]⟩,[(7,⟨[],[(4,5),(29,40)]⟩),(4,⟨[],[(4,5),(9,21)]⟩)],[]⟩ Tryz.func114 h
def F168_j5 (d:OA)(n:Wd)(R:RT):Prop:=Dr n fun w1=>NonNil d fun p80=>LdSl (w1.cell? p80) fun k f b=>NonNil d fun p84=>LdI .i64 (w1.cell? (p84.add 4)) fun m=>IdxA k f m 1 fun i=>LdP (w1.cell? i) fun h=>NonNil h fun p90=>LdI .u32 (w1.cell? (p90.add 1)) fun j=>InR .u32 (j+(1:Int))/\NonNil h fun p94=>St w1 (p94.add 1) (.int .u32 (j+(1:Int))) fun g=>NonNil h fun p97=>St g (p97.add 2) (.bool true) fun a=>NonNil d fun p100=>LdI .i64 (a.cell? (p100.add 2)) fun e=>InR .i64 (e+(1:Int))/\NonNil d fun p104=>St a (p104.add 2) (.int .i64 (e+(1:Int))) fun c=>R (.returned (.pointer h)) c
def F168_j3 (d:OA)(s:Wd)(R:RT):Prop:=∃J5:Wd->Prop,(∀w1,J5 w1->F168_j5 d w1 R)/\(Dr s fun w1=>NonNil d fun p53=>LdI .i64 (w1.cell? (p53.add 4)) fun p=>NonNil d fun p57=>LdSl (w1.cell? p57) fun r b a=>Br (p==(b:Int)) (∃S:Wd->Prop,S w1.drew/\NonNil d fun p64=>∃n j g,Held S p64 (.slice n j g)/\NonNil d fun p68=>∃m,Held S (p68.add 4) (.int .i64 m)/\InR .i64 (m+(1:Int))/\InR .u32 ((m+(1:Int)))/\Al w1.drew #[(.int .u32 ((m+(1:Int)))),.int .u32 0,.bool false,.int .i64 0,eS,.slice none 0 0,eS,.pointer none,.slice none 0 0] 142 fun g74 f=>S f/\Al f #[(.pointer (some g74))] 140 fun g75 h=>S h/\Raw P0 (Builtin.append_ #[104,104] 104 #[.slice n j g,(.slice (some g75) 1 1)]) h fun v k=>∃q c e,v=(.slice q c e)/\NonNil d fun p77=>St k p77 (.slice q c e) fun i=>J5 i) (J5 w1))
def F168_j2 (d:OA)(L1:Wd->Prop)(b:Wd)(R:RT):Prop:=NonNil d fun p46=>LdI .i64 (b.cell? (p46.add 4)) fun a=>InR .i64 (a+(1:Int))/\NonNil d fun p50=>St b (p50.add 4) (.int .i64 (a+(1:Int))) fun w1=>L1 w1
def F168_l1 (d:OA)(J3 L1:Wd->Prop)(p:Wd)(R:RT):Prop:=∃J2:Wd->Prop,(∀w1,J2 w1->F168_j2 d L1 w1 R)/\(Dr p fun w1=>NonNil d fun p5=>LdI .i64 (w1.cell? (p5.add 4)) fun v=>NonNil d fun p9=>LdSl (w1.cell? p9) fun k a e=>Br (decide (v<(a:Int))) (NonNil d fun p16=>LdSl (w1.cell? p16) fun m f c=>NonNil d fun p20=>LdI .i64 (w1.cell? (p20.add 4)) fun t=>IdxA m f t 1 fun q=>LdP (w1.cell? q) fun r=>NonNil r fun p25=>LdB (w1.cell? (p25.add 2)) fun i=>Br i (J2 w1) (NonNil d fun p30=>LdSl (w1.cell? p30) fun h g b=>NonNil d fun p34=>LdI .i64 (w1.cell? (p34.add 4)) fun u=>IdxA h g u 1 fun n=>LdP (w1.cell? n) fun j=>NonNil j fun p39=>LdI .u32 (w1.cell? (p39.add 1)) fun s=>Br (s==(4294967295:Int)) (J2 w1) (J3 w1))) (J3 w1))
def F168 (d:OA)(a:Wd)(R:RT):Prop:=∃J3:Wd->Prop,(∀w1,J3 w1->F168_j3 d w1 R)/\(∃(I:Wd->Prop)(m:Wd->Nat),I  a/\∀w1,I  w1->F168_l1 d J3 (fun  w2=>I  w2/\m  w2<m  w1)  w1 R)
theorem ok168 (d:OA){w:Wd}{R:RT} (h:F168 d w R):CL 168 #[.pointer d] w R:=
 vk ⟨107,⟨[]⟩,[(2,⟨[],[(4,45)]⟩),(5,⟨[],[(52,79)]⟩),(3,⟨[],[(4,52)]⟩)],[(1,⟨[],[(4,52)]⟩)]⟩ Tryz.func168 h
def F221_j9 (d n:OA)(c:Wd)(R:RT):Prop:=∃S2:Wd->Prop,S2 c.drew/\NonNil d fun p51=>∃e,Held S2 (p51.add 4) (.int .i64 e)/\NonNil n fun p55=>∃b,Held S2 p55 (.int .u32 b)/\InR .i64 (b)/\InR .i64 ((b)-(1:Int))/\NonNil d fun p61=>St c.drew (p61.add 4) (.int .i64 (if ((b)-(1:Int))<e then ((b)-(1:Int)) else e)) fun a=>R (.returned (.tuple #[])) a
def F221_l1 (d n x9:OA)(s:Nat)(L1:Int->Wd->Prop)(r:Int)(t:Wd)(R:RT):Prop:=Br (decide (r<(s:Int))) (IdxA x9 s r 1 fun aa=>LdP (t.cell? aa) fun ba=>CL 221 #[.pointer d,.pointer ba] t (post R fun v w1=>v=(.tuple #[])/\InR .i64 (r+(1:Int))/\L1 (r+(1:Int)) w1)) (∃S:Wd->Prop,S t.drew/\NonNil n fun p21=>∃u,Held S p21 (.int .u32 u)/\NonNil n fun p25=>∃p,Held S (p25.add 1) (.int .u32 p)/\NonNil n fun p29=>St t.drew p29 (.int .u32 u) fun k=>St k (p29.add 1) (.int .u32 p) fun m=>St m (p29.add 2) (.bool false) fun h=>St h (p29.add 3) (.int .i64 0) fun f=>St f (p29.add 4) eS fun i=>St i (p29.add 5) (.slice none 0 0) fun e=>St e (p29.add 6) eS fun g=>St g (p29.add 7) (.pointer none) fun j=>St j (p29.add 8) (.slice none 0 0) fun c=>NonNil d fun p31=>LdI .i64 (c.cell? (p31.add 2)) fun z=>InR .i64 (z-(1:Int))/\NonNil d fun p35=>St c (p35.add 2) (.int .i64 (z-(1:Int))) fun b=>∃J9:Wd->Prop,(∀a,J9 a->F221_j9 d n a R)/\(NonNil n fun p38=>LdI .u32 (b.cell? (p38.add 1)) fun q=>Br (q==(4294967295:Int)) (NonNil d fun p43=>LdI .i64 (b.cell? (p43.add 3)) fun y=>InR .i64 (y+(1:Int))/\NonNil d fun p47=>St b (p47.add 3) (.int .i64 (y+(1:Int))) fun a=>J9 a) (J9 b)))
def F221 (d n:OA)(e:Wd)(R:RT):Prop:=NonNil n fun p7=>LdSl (e.cell? (p7.add 8)) fun f b a=>∃(I:Int->Wd->Prop)(m:Int->Wd->Nat),I (0:Int) e/\∀c w1,I c w1->F221_l1 d n f b (fun c' w2=>I c' w2/\m c' w2<m c w1) c w1 R
theorem ok221 (d n:OA){w:Wd}{R:RT} (h:F221 d n w R):CL 221 #[.pointer d,.pointer n] w R:=
 vk ⟨63,⟨[]⟩,[(9,⟨[],[(37,49)]⟩)],[(1,⟨[(11,(.s (.int .i64)))],[(5,6),(11,19)]⟩)]⟩ Tryz.func221 h
def F169 (d n:OA)(a:Wd)(R:RT):Prop:=Br (n).isNone (NonNil d fun p8=>R (.returned (.pointer (some (p8.add 1)))) a) (NonNil n fun p11=>R (.returned (.pointer (some (p11.add 8)))) a)
theorem ok169 (d n:OA){w:Wd}{R:RT} (h:F169 d n w R):CL 169 #[.pointer d,.pointer n] w R:=
 vk ⟨13,⟨[]⟩,[],[]⟩ Tryz.func169 h
def F117_l8 (d sa va:OA)(ja:Nat)(L8:Int->Wd->Prop)(qa:Int)(ua:Wd)(R:RT):Prop:=Br (decide (qa<(ja:Int))) (IdxA va ja qa 5 fun ya=>LdI .i64 (ua.cell? ya) fun m=>LdStr (ua.cell? (ya.add 1)) fun fa=>LdSl (ua.cell? (ya.add 2)) fun da c g=>LdStr (ua.cell? (ya.add 3)) fun z=>LdSl (ua.cell? (ya.add 4)) fun p b e=>Al ua #[.int .i64 0,eS,.slice none 0 0,eS,.slice none 0 0] 48 fun k ka=>St ka k (.int .i64 m) fun ga=>St ga (k.add 1) (.string fa) fun ea=>St ea (k.add 2) (.slice da c g) fun t=>St t (k.add 3) (.string z) fun r=>St r (k.add 4) (.slice p b e) fun y=>∃S2:Wd->Prop,S2 y.drew/\NonNil sa fun p50=>∃ta na ia,Held S2 (p50.add 8) (.slice ta na ia)/\∃aa,Held S2 k (.int .i64 aa)/\∃u,Held S2 (k.add 1) (.string u)/\∃n f a,Held S2 (k.add 2) (.slice n f a)/\∃j,Held S2 (k.add 3) (.string j)/\∃q h i,Held S2 (k.add 4) (.slice q h i)/\CL 117 #[.pointer d,.agg #[.int .i64 aa,.string u,.slice n f a,.string j,.slice q h i],.pointer sa] y.drew (post R fun v3 ca=>∃pa,v3=(.pointer pa)/\S2 ca/\Al ca #[.pointer pa] 140 fun g57 ba=>S2 ba/\Raw P0 (Builtin.append_ #[104,104] 104 #[.slice ta na ia,(.slice (some g57) 1 1)]) ba fun v4 v=>∃ra ha ma,v4=(.slice ra ha ma)/\NonNil sa fun p59=>St v (p59.add 8) (.slice ra ha ma) fun s=>InR .i64 (qa+(1:Int))/\L8 (qa+(1:Int)) s)) (R (.returned (.pointer sa)) ua)
def F117 (d:OA)(ab:Int)(ac:ByteArray)(ad:OA)(ae af:Nat)(ag:ByteArray)(ah:OA)(ai aj:Nat)(ak:OA)(w_:Wd)(R:RT):Prop:=Al w_ #[.int .i64 ab,.string ac,.slice ad ae af,.string ag,.slice ah ai aj] 48 fun g4 w1=>CL 168 #[.pointer d] w1 (post R fun v p=>∃t,v=(.pointer t)/\LdI .i64 (p.cell? g4) fun u=>NonNil t fun p17=>St p (p17.add 3) (.int .i64 u) fun q=>NonNil t fun p19=>St q (p19.add 7) (.pointer ak) fun j=>LdI .i64 (j.cell? g4) fun ca=>Br (ca==(2:Int)) (LdStr (j.cell? (g4.add 3)) fun ba=>NonNil t fun p27=>St j (p27.add 6) (.string ba) fun e=>R (.returned (.pointer t)) e) (∃S:Wd->Prop,S j.drew/\∃z,Held S (g4.add 1) (.string z)/\∃aa g i,Held S (g4.add 2) (.slice aa g i)/\CL 78 #[.slice aa g i] j.drew (post R fun v2 k=>∃da a r,v2=(.slice da a r)/\S k/\NonNil t fun p37=>St k (p37.add 4) (.string z) fun c=>NonNil t fun p39=>St c (p39.add 5) (.slice da a r) fun h=>LdSl (h.cell? (g4.add 4)) fun y f b=>∃(I:Int->Wd->Prop)(m:Int->Wd->Nat),I (0:Int) h/\∀s n,I s n->F117_l8 d t y f (fun s' w2=>I s' w2/\m s' w2<m s n) s n R)))
theorem ok117 (d:OA)(a:Int)(b:ByteArray)(c:OA)(e f:Nat)(g:ByteArray)(i:OA)(j k:Nat)(m:OA){w:Wd}{R:RT} (h:F117 d a b c e f g i j k m w R):CL 117 #[.pointer d,.agg #[.int .i64 a,.string b,.slice c e f,.string g,.slice i j k],.pointer m] w R:=
 vk ⟨63,⟨[]⟩,[],[(8,⟨[(44,(.s (.int .i64)))],[(9,10),(44,62)]⟩)]⟩ Tryz.func117 h
def F195 (d:OA)(h_ e:Int)(c:Wd)(R:RT):Prop:=CL 114 #[.pointer d,.int .u64 h_] c (post R fun v w1=>∃b,v=(.pointer b)/\Br (b).isNone (R (.returned (.tuple #[.pointer none,.int .i64 8])) w1) (NonNil b fun p17=>LdI .i64 (w1.cell? (p17.add 3)) fun a=>Br (a != e) (R (.returned (.tuple #[.pointer none,.int .i64 30])) w1) (R (.returned (.tuple #[.pointer b,.int .i64 0])) w1)))
theorem ok195 (d:OA)(a b:Int){w:Wd}{R:RT} (h:F195 d a b w R):CL 195 #[.pointer d,.int .u64 a,.int .i64 b] w R:=
 vk ⟨23,⟨[]⟩,[],[]⟩ Tryz.func195 h
def F202 (d n:OA)(t:Wd)(R:RT):Prop:=NonNil n fun p8=>LdP (t.cell? (p8.add 7)) fun r=>CL 169 #[.pointer d,.pointer r] t (post R fun v w1=>∃s,v=(.pointer s)/\NonNil s fun p13=>LdSl (w1.cell? p13) fun q c i=>CL 170 #[.slice q c i,.pointer n] w1 (post R fun v2 j=>∃m,v2=(.int .i64 m)/\NonNil s fun p19=>LdSl (j.cell? p19) fun k a e=>InR .i64 (m+(1:Int))/\CL 231 #[.slice k a e,.int .i64 m,(.int .i64 (m+(1:Int)))] j (post R fun v3 b=>∃p g h,v3=(.slice p g h)/\NonNil s fun p25=>St b p25 (.slice p g h) fun f=>R (.returned (.tuple #[])) f)))
theorem ok202 (d n:OA){w:Wd}{R:RT} (h:F202 d n w R):CL 202 #[.pointer d,.pointer n] w R:=
 vk ⟨26,⟨[]⟩,[],[]⟩ Tryz.func202 h
def F115_j5 (b:OA)(a:Wd)(R:RT):Prop:=R (.returned (.tuple #[.pointer b,.int .i64 0])) a
def F115 (d:OA)(e:Int)(f:OA)(c:Wd)(R:RT):Prop:=∃J5:Wd->Prop,(∀w1,J5 w1->F115_j5 f w1 R)/\(Br (decide (e > (2:Int))) (NonNil f fun p12=>LdP (c.cell? (p12.add 7)) fun a=>R (.returned (.tuple #[.pointer a,.int .i64 0])) c) (Br (!(f).isNone) (NonNil f fun p20=>LdI .i64 (c.cell? (p20.add 3)) fun b=>Br (b==(2:Int)) (R (.returned (.tuple #[.pointer none,.int .i64 31])) c) (J5 c)) (J5 c)))
theorem ok115 (d:OA)(a:Int)(b:OA){w:Wd}{R:RT} (h:F115 d a b w R):CL 115 #[.pointer d,.int .i64 a,.pointer b] w R:=
 vk ⟨26,⟨[]⟩,[(5,⟨[],[(6,25)]⟩)],[]⟩ Tryz.func115 h
def F118_j9 (n q m:OA)(i:Int)(p:Wd)(R:RT):Prop:=NonNil m fun p39=>LdSl (p.cell? p39) fun j b e=>Al p #[.pointer n] 140 fun g43 f=>CL 171 #[.slice j b e,.int .i64 i,(.slice (some g43) 1 1)] f (post R fun v2 c=>∃k a h,v2=(.slice k a h)/\NonNil m fun p45=>St c p45 (.slice k a h) fun d=>NonNil n fun p48=>St d (p48.add 7) (.pointer q) fun g=>R (.returned (.tuple #[])) g)
def F118 (d n t:OA)(u:Int)(y:OA)(s:Wd)(R:RT):Prop:=CL 169 #[.pointer d,.pointer t] s (post R fun v w1=>∃q,v=(.pointer q)/\∃J9:Int->Wd->Prop,(∀i h,J9 i h->F118_j9 n t q i h R)/\(Br (u==(2:Int)) (NonNil q fun p19=>LdSl (w1.cell? p19) fun j c e=>J9 (c:Int) w1) (Br (u==(3:Int)) (NonNil q fun p25=>LdSl (w1.cell? p25) fun m g f=>CL 170 #[.slice m g f,.pointer y] w1 (post R fun v2 h=>∃p,v2=(.int .i64 p)/\J9 p h)) (Br (u==(4:Int)) (NonNil q fun p32=>LdSl (w1.cell? p32) fun r a b=>CL 170 #[.slice r a b,.pointer y] w1 (post R fun v2 h=>∃k,v2=(.int .i64 k)/\InR .i64 (k+(1:Int))/\J9 (k+(1:Int)) h)) (J9 (0:Int) w1)))))
theorem ok118 (d n a:OA)(b:Int)(c:OA){w:Wd}{R:RT} (h:F118 d n a b c w R):CL 118 #[.pointer d,.pointer n,.pointer a,.int .i64 b,.pointer c] w R:=
 vk ⟨50,⟨[]⟩,[(9,⟨[(11,(.s (.int .i64)))],[(11,37)]⟩)],[]⟩ Tryz.func118 h
def F113_l11 (l:OA)(ab:Int)(ia:OA)(ea:Nat)(ac:Int->Wd->Prop)(ha:Int)(ga:Wd)(R:RT):Prop:=Br (decide (ha<(ea:Int))) (IdxA ia ea ha 5 fun fa=>LdI .i64 (ga.cell? fa) fun t=>LdStr (ga.cell? (fa.add 1)) fun p=>LdSl (ga.cell? (fa.add 2)) fun r f c=>LdStr (ga.cell? (fa.add 3)) fun i=>LdSl (ga.cell? (fa.add 4)) fun y b d=>Al ga #[.int .i64 0,eS,.slice none 0 0,eS,.slice none 0 0] 48 fun k aa=>St aa k (.int .i64 t) fun ca=>St ca (k.add 1) (.string p) fun z=>St z (k.add 2) (.slice r f c) fun ba=>St ba (k.add 3) (.string i) fun da=>St da (k.add 4) (.slice y b d) fun v=>LdI .i64 (v.cell? k) fun s=>LdStr (v.cell? (k.add 1)) fun m=>LdSl (v.cell? (k.add 2)) fun q g e=>LdStr (v.cell? (k.add 3)) fun n=>LdSl (v.cell? (k.add 4)) fun j a h=>InR .i64 (ab+(1:Int))/\CL 113 #[.pointer l,.agg #[.int .i64 s,.string m,.slice q g e,.string n,.slice j a h],(.int .i64 (ab+(1:Int)))] v (post R fun v2 u=>∃ja,v2=(.int .i64 ja)/\Br (ja != (0:Int)) (R (.returned (.int .i64 ja)) u) (InR .i64 (ha+(1:Int))/\ac (ha+(1:Int)) u))) (R (.returned (.int .i64 0)) ga)
def F113_j3 (l:OA)(ab:Int)(g4:Addr)(t:Wd)(R:RT):Prop:=LdI .i64 (t.cell? g4) fun h=>LdStr (t.cell? (g4.add 1)) fun g=>LdSl (t.cell? (g4.add 2)) fun f b c=>LdStr (t.cell? (g4.add 3)) fun i=>LdSl (t.cell? (g4.add 4)) fun e d a=>CL 167 #[.agg #[.int .i64 h,.string g,.slice f b c,.string i,.slice e d a]] t (post R fun v p=>∃s,v=(.int .i64 s)/\Br (s != (0:Int)) (R (.returned (.int .i64 s)) p) (NonNil l fun p26=>LdI .i64 (p.cell? p26) fun aa=>InR .i64 (aa+(1:Int))/\NonNil l fun p30=>St p p30 (.int .i64 (aa+(1:Int))) fun r=>NonNil l fun p34=>LdI .i64 (r.cell? (p34.add 1)) fun ba=>NonNil l fun p39=>St r (p39.add 1) (.int .i64 (if ab > ba then ab else ba)) fun k=>LdI .i64 (k.cell? g4) fun y=>Br (y==(2:Int)) (R (.returned (.int .i64 0)) k) (LdSl (k.cell? (g4.add 4)) fun z q n=>∃(I:Int->Wd->Prop)(m:Int->Wd->Nat),I (0:Int) k/\∀u j,I u j->F113_l11 l ab z q (fun u' w2=>I u' w2/\m u' w2<m u j) u j R)))
def F113 (l:OA)(d:Int)(e:ByteArray)(f:OA)(g h:Nat)(i:ByteArray)(j:OA)(k m:Nat)(n:Int)(c:Wd)(R:RT):Prop:=Al c #[.int .i64 d,.string e,.slice f g h,.string i,.slice j k m] 48 fun g4 w1=>∃J3:Wd->Prop,(∀a,J3 a->F113_j3 l n g4 a R)/\(Br (decide (n > (64:Int))) (R (.returned (.int .i64 2)) w1) (NonNil l fun p15=>LdI .i64 (w1.cell? p15) fun b=>Br (decide (b≥(4096:Int))) (R (.returned (.int .i64 2)) w1) (J3 w1)))
theorem ok113 (l:OA)(a:Int)(b:ByteArray)(c:OA)(d e:Nat)(f:ByteArray)(g:OA)(i j:Nat)(k:Int){w:Wd}{R:RT} (h:F113 l a b c d e f g i j k w R):CL 113 #[.pointer l,.agg #[.int .i64 a,.string b,.slice c d e,.string f,.slice g i j],.int .i64 k] w R:=
 vk ⟨60,⟨[]⟩,[(3,⟨[],[(6,20)]⟩)],[(11,⟨[(47,(.s (.int .i64)))],[(6,11),(47,60)]⟩)]⟩ Tryz.func113 h
def F197 (n:OA)(g:ByteArray)(e:Wd)(R:RT):Prop:=NonNil n fun p7=>LdSl (e.cell? (p7.add 5)) fun f d c=>CL 226 #[.slice f d c,.string g,(.func (.func 227) #[] #[])] e (post R fun v w1=>∃b a,v=(.tuple #[.int .i64 b,.bool a])/\R (.returned (.tuple #[.int .i64 b,.bool a])) w1)
theorem ok197 (n:OA)(a:ByteArray){w:Wd}{R:RT} (h:F197 n a w R):CL 197 #[.pointer n,.string a] w R:=
 vk ⟨14,⟨[]⟩,[],[]⟩ Tryz.func197 h
def F227 (f g s:ByteArray)(e:Wd)(R:RT):Prop:=Al e #[.string f,.string g] 145 fun a w1=>LdStr (w1.cell? a) fun d=>CL 228 #[.string d,.string s] w1 (post R fun v b=>∃c,v=(.int .i64 c)/\R (.returned (.int .i64 c)) b)
theorem ok227 (a b s:ByteArray){w:Wd}{R:RT} (h:F227 a b s w R):CL 227 #[.agg #[.string a,.string b],.string s] w R:=
 vk ⟨9,⟨[]⟩,[],[]⟩ Tryz.func227 h
def F201_l3 (g:OA)(b:Nat)(L3:Int->Int->Wd->Prop)(h f:Int)(d:Wd)(R:RT):Prop:=Br (decide (f<(b:Int))) (IdxA g b f 1 fun a=>LdP (d.cell? a) fun c=>CL 201 #[.pointer c] d (post R fun v w1=>∃e,v=(.int .i64 e)/\InR .i64 (f+(1:Int))/\L3 (if e > h then e else h) (f+(1:Int)) w1)) (InR .i64 (h+(1:Int))/\R (.returned (.int .i64 (h+(1:Int)))) d)
def F201 (n:OA)(d:Wd)(R:RT):Prop:=NonNil n fun p7=>LdSl (d.cell? (p7.add 8)) fun e b a=>∃(I:Int->Int->Wd->Prop)(m:Int->Int->Wd->Nat),I (0:Int) (0:Int) d/\∀most c w1,I most c w1->F201_l3 e b (fun most' c' w2=>I most' c' w2/\m most' c' w2<m most c w1) most c w1 R
theorem ok201 (n:OA){w:Wd}{R:RT} (h:F201 n w R):CL 201 #[.pointer n] w R:=
 vk ⟨22,⟨[]⟩,[],[(3,⟨[(3,(.s (.int .i64))),(11,(.s (.int .i64)))],[(3,6),(11,20)]⟩)]⟩ Tryz.func201 h
def F79 (n:OA)(c:Wd)(R:RT):Prop:=Br (n).isNone (R (.returned (.int .u64 0)) c) (Dr c fun w1=>NonNil n fun p6=>LdI .u32 (w1.cell? (p6.add 1)) fun b=>InR .u64 (b)/\InR .u64 ((b)*(2 ^ (min ((32:Int)).toNat 64)))/\NonNil n fun p12=>LdI .u32 (w1.cell? p12) fun a=>InR .u64 (a)/\R (.returned (.int .u64 (bOr .u64 ((b)*(2 ^ (min ((32:Int)).toNat 64))) (a)))) w1)
theorem ok79 (n:OA){w:Wd}{R:RT} (h:F79 n w R):CL 79 #[.pointer n] w R:=
 vk ⟨17,⟨[]⟩,[],[]⟩ Tryz.func79 h
def F203 (n:OA)(s:Wd)(R:RT):Prop:=Al s #[.int .i64 0,eS,.slice none 0 0,eS,.slice none 0 0] 48 fun g2 w1=>∃S:Wd->Prop,S w1.drew/\NonNil n fun p4=>∃r,Held S (p4.add 3) (.int .i64 r)/\NonNil n fun p8=>∃q,Held S (p8.add 4) (.string q)/\NonNil n fun p12=>∃p c h,Held S (p12.add 5) (.slice p c h)/\NonNil n fun p17=>∃k,Held S (p17.add 6) (.string k)/\CL 78 #[.slice p c h] w1.drew (post R fun v b=>∃m e i,v=(.slice m e i)/\S b/\St b g2 (.int .i64 r) fun d=>St d (g2.add 1) (.string q) fun j=>St j (g2.add 2) (.slice m e i) fun f=>St f (g2.add 3) (.string k) fun g=>St g (g2.add 4) (.slice none 0 0) fun a=>LdI .i64 (a.cell? g2) fun res0_0=>LdStr (a.cell? (g2.add 1)) fun res0_1=>LdSl (a.cell? (g2.add 2)) fun res0_2 res0_2N res0_2C=>LdStr (a.cell? (g2.add 3)) fun res0_3=>LdSl (a.cell? (g2.add 4)) fun res0_4 res0_4N res0_4C=>R (.returned (.agg #[.int .i64 res0_0,.string res0_1,.slice res0_2 res0_2N res0_2C,.string res0_3,.slice res0_4 res0_4N res0_4C])) a)
theorem ok203 (n:OA){w:Wd}{R:RT} (h:F203 n w R):CL 203 #[.pointer n] w R:=
 vk ⟨21,⟨[]⟩,[],[]⟩ Tryz.func203 h
def F163_l3 (g2 g3:Addr)(ha:OA)(aa:Nat)(L3:Int->Wd->Prop)(ia:Int)(ka:Wd)(R:RT):Prop:=Br (decide (ia<(aa:Int))) (IdxA ha aa ia 1 fun ma=>LdP (ka.cell? ma) fun ga=>∃S:Wd->Prop,S ka.drew/\∃ja fa ba,Held S (g3.add 4) (.slice ja fa ba)/\CL 163 #[.pointer ga] ka.drew (post R fun v2 z=>∃t s m c d y k f a,v2=(.agg #[.int .i64 t,.string s,.slice m c d,.string y,.slice k f a])/\S z/\Al z #[.int .i64 t,.string s,.slice m c d,.string y,.slice k f a] 48 fun g21 v=>S v/\Raw P0 (Builtin.append_ #[46,46] 46 #[.slice ja fa ba,(.slice (some g21) 1 1)]) v fun v3 q=>∃na da ea,v3=(.slice na da ea)/\St q (g3.add 4) (.slice na da ea) fun p=>InR .i64 (ia+(1:Int))/\L3 (ia+(1:Int)) p)) (LdI .i64 (ka.cell? g3) fun n=>LdStr (ka.cell? (g3.add 1)) fun i=>LdSl (ka.cell? (g3.add 2)) fun j e h=>LdStr (ka.cell? (g3.add 3)) fun r=>LdSl (ka.cell? (g3.add 4)) fun u g b=>St ka g2 (.int .i64 n) fun ca=>St ca (g2.add 1) (.string i) fun z=>St z (g2.add 2) (.slice j e h) fun v=>St v (g2.add 3) (.string r) fun q=>St q (g2.add 4) (.slice u g b) fun p=>LdI .i64 (p.cell? g2) fun res0_0=>LdStr (p.cell? (g2.add 1)) fun res0_1=>LdSl (p.cell? (g2.add 2)) fun res0_2 res0_2N res0_2C=>LdStr (p.cell? (g2.add 3)) fun res0_3=>LdSl (p.cell? (g2.add 4)) fun res0_4 res0_4N res0_4C=>R (.returned (.agg #[.int .i64 res0_0,.string res0_1,.slice res0_2 res0_2N res0_2C,.string res0_3,.slice res0_4 res0_4N res0_4C])) p)
def F163 (n:OA)(w_:Wd)(R:RT):Prop:=Al w_ #[.int .i64 0,eS,.slice none 0 0,eS,.slice none 0 0] 48 fun g2 w1=>CL 203 #[.pointer n] w1 (post R fun v t=>∃z i p a c y g b d,v=(.agg #[.int .i64 z,.string i,.slice p a c,.string y,.slice g b d])/\Al t #[.int .i64 0,eS,.slice none 0 0,eS,.slice none 0 0] 48 fun g3 u=>St u g3 (.int .i64 z) fun k=>St k (g3.add 1) (.string i) fun h=>St h (g3.add 2) (.slice p a c) fun q=>St q (g3.add 3) (.string y) fun f=>St f (g3.add 4) (.slice g b d) fun j=>NonNil n fun p9=>LdSl (j.cell? (p9.add 8)) fun aa e s=>∃(I:Int->Wd->Prop)(m:Int->Wd->Nat),I (0:Int) j/\∀ba r,I ba r->F163_l3 g2 g3 aa e (fun ba' w2=>I ba' w2/\m ba' w2<m ba r) ba r R)
theorem ok163 (n:OA){w:Wd}{R:RT} (h:F163 n w R):CL 163 #[.pointer n] w R:=
 vk ⟨26,⟨[]⟩,[],[(3,⟨[(13,(.s (.int .i64)))],[(5,6),(13,25)]⟩)]⟩ Tryz.func163 h
def F200_j3 (o n2:OA)(a:Wd)(R:RT):Prop:=PtrOk a n2 o/\R (.returned (.bool (decide (n2=o)))) a
def F200_j2 (L1:OA->Wd->Prop)(n2:OA)(a:Wd)(R:RT):Prop:=NonNil n2 fun p13=>LdP (a.cell? (p13.add 7)) fun b=>L1 b a
def F200_l1 (o:OA)(J3 L1:OA->Wd->Prop)(n2:OA)(a:Wd)(R:RT):Prop:=∃J2:Wd->Prop,(∀w1,J2 w1->F200_j2 L1 n2 w1 R)/\(Br (!(n2).isNone) (PtrOk a n2 o/\Br (!(decide (n2=o))) (J2 a) (J3 n2 a)) (J3 n2 a))
def F200 (n o:OA)(a:Wd)(R:RT):Prop:=∃J3:OA->Wd->Prop,(∀n2 w1,J3 n2 w1->F200_j3 o n2 w1 R)/\(∃(I:OA->Wd->Prop)(m:OA->Wd->Nat),I n a/\∀n2 w1,I n2 w1->F200_l1 o J3 (fun n2' w2=>I n2' w2/\m n2' w2<m n2 w1) n2 w1 R)
theorem ok200 (n o:OA){w:Wd}{R:RT} (h:F200 n o w R):CL 200 #[.pointer n,.pointer o] w R:=
 vk ⟨19,⟨[]⟩,[(2,⟨[],[(5,12)]⟩),(3,⟨[(0,(.s .ptr))],[(0,1),(5,16)]⟩)],[(1,⟨[(0,(.s .ptr))],[(0,1),(5,16)]⟩)]⟩ Tryz.func200 h
def F129 (p:Int)(q:ByteArray)(r:OA)(s t:Nat)(u:ByteArray)(y:OA)(z aa:Nat)(m:Wd)(R:RT):Prop:=Al m #[.int .i64 p,.string q,.slice r s t,.string u,.slice y z aa] 48 fun g1 w1=>Al w1 #[.int .i64 0,.int .i64 0] 204 fun g3 j=>LdI .i64 (j.cell? g1) fun g=>LdStr (j.cell? (g1.add 1)) fun f=>LdSl (j.cell? (g1.add 2)) fun e b a=>LdStr (j.cell? (g1.add 3)) fun k=>LdSl (j.cell? (g1.add 4)) fun i c d=>CL 113 #[(.pointer (some g3)),.agg #[.int .i64 g,.string f,.slice e b a,.string k,.slice i c d],.int .i64 1] j (post R fun v h=>∃n,v=(.int .i64 n)/\R (.returned (.int .i64 n)) h)
theorem ok129 (a:Int)(b:ByteArray)(c:OA)(d e:Nat)(f:ByteArray)(g:OA)(i j:Nat){w:Wd}{R:RT} (h:F129 a b c d e f g i j w R):CL 129 #[.agg #[.int .i64 a,.string b,.slice c d e,.string f,.slice g i j]] w R:=
 vk ⟨6,⟨[]⟩,[],[]⟩ Tryz.func129 h
def F142_l2 (l:OA)(lN:Nat)(L2:OA->Nat->Nat->Int->Wd->Prop)(u:OA)(y z:Nat)(t:Int)(r:Wd)(R:RT):Prop:=Br (decide (t<(lN:Int))) (IdxA l lN t 1 fun m=>LdP (r.cell? m) fun p=>∃S:Wd->Prop,S r.drew/\NonNil p fun p14=>∃q a h,Held S (p14.add 8) (.slice q a h)/\CL 79 #[.pointer p] r.drew (post R fun v i=>∃k,v=(.int .u64 k)/\S i/\Al i #[.int .u64 k] 42 fun g20 d=>S d/\Raw P0 (Builtin.append_ #[23,23] 23 #[.slice u y z,(.slice (some g20) 1 1)]) d fun v2 e=>∃n g f,v2=(.slice n g f)/\S e/\CL 142 #[.slice q a h,.slice n g f] e (post R fun v3 j=>∃s b c,v3=(.slice s b c)/\InR .i64 (t+(1:Int))/\L2 s b c (t+(1:Int)) j))) (R (.returned (.slice u y z)) r)
def F142 (l:OA)(lN lC:Nat)(c:OA)(d e:Nat)(a:Wd)(R:RT):Prop:=∃(I:OA->Nat->Nat->Int->Wd->Prop)(m:OA->Nat->Nat->Int->Wd->Nat),I c d e (0:Int) a/\∀out2 outN2 outC2 b w1,I out2 outN2 outC2 b w1->F142_l2 l lN (fun out2' outN2' outC2' b' w2=>I out2' outN2' outC2' b' w2/\m out2' outN2' outC2' b' w2<m out2 outN2 outC2 b w1) out2 outN2 outC2 b w1 R
theorem ok142 (l:OA)(a b:Nat)(c:OA)(d e:Nat){w:Wd}{R:RT} (h:F142 l a b c d e w R):CL 142 #[.slice l a b,.slice c d e] w R:=
 vk ⟨25,⟨[]⟩,[],[(2,⟨[(1,(.s .slice)),(9,(.s (.int .i64)))],[(1,7),(9,24)]⟩)]⟩ Tryz.func142 h
def F204_j8 (L4:Int->Wd->Prop)(f:Int)(a:Addr)(g:Wd)(R:RT):Prop:=LdStr (g.cell? (a.add 1)) fun e=>CL 190 #[.string e] g (post R fun v d=>∃c b,v=(.tuple #[.int .i64 c,.int .i64 b])/\Br (b != (0:Int)) (R (.returned (.int .i64 b)) d) (InR .i64 (f+(1:Int))/\L4 (f+(1:Int)) d))
def F204_l4 (l:OA)(lN:Nat)(L4:Int->Wd->Prop)(k:Int)(q:Wd)(R:RT):Prop:=Br (decide (k<(lN:Int))) (IdxA l lN k 2 fun n=>LdStr (q.cell? n) fun c=>LdStr (q.cell? (n.add 1)) fun b=>Al q #[eS,eS] 145 fun a w1=>St w1 a (.string c) fun f=>St f (a.add 1) (.string b) fun d=>∃J8:Wd->Prop,(∀e,J8 e->F204_j8 L4 k a e R)/\(∃S:Wd->Prop,S d.drew/\∃j,Held S a (.string j)/\CL 196 #[.string j] d.drew (post R fun v g=>∃h,v=(.bool h)/\S g/\Br (!h) (R (.returned (.int .i64 6)) g) (Br (decide (k > (0:Int))) (∃p,Held S a (.string p)/\InR .i64 (k-(1:Int))/\IdxA l lN (k-(1:Int)) 2 fun m=>∃i,Held S m (.string i)/\Br ((Op.bytesLess p.toList i.toList) || (p.toList==i.toList)) (R (.returned (.int .i64 6)) g) (J8 g)) (J8 g))))) (R (.returned (.int .i64 0)) q)
def F204 (l:OA)(lN lC:Nat)(b:Wd)(R:RT):Prop:=Br (decide ((lN:Int) > (32:Int))) (R (.returned (.int .i64 2)) b) (∃(I:Int->Wd->Prop)(m:Int->Wd->Nat),I (0:Int) b/\∀a w1,I a w1->F204_l4 l lN (fun a' w2=>I a' w2/\m a' w2<m a w1) a w1 R)
theorem ok204 (l:OA)(a b:Nat){w:Wd}{R:RT} (h:F204 l a b w R):CL 204 #[.slice l a b] w R:=
 vk ⟨46,⟨[]⟩,[(8,⟨[],[(2,3),(17,36)]⟩)],[(4,⟨[(12,(.s (.int .i64)))],[(2,7),(12,46)]⟩)]⟩ Tryz.func204 h
def F80_l3 (l:OA)(lN:Nat)(L3:OA->Nat->Nat->Int->Wd->Prop)(m:OA)(n p:Nat)(k:Int)(j:Wd)(R:RT):Prop:=Br (decide (k<(lN:Int))) (IdxA l lN k 1 fun g=>LdP (j.cell? g) fun i=>CL 79 #[.pointer i] j (post R fun v e=>∃f,v=(.int .u64 f)/\Al e #[.int .u64 f] 42 fun g18 a=>Raw P0 (Builtin.append_ #[23,23] 23 #[.slice m n p,(.slice (some g18) 1 1)]) a fun v2 c=>∃h b d,v2=(.slice h b d)/\InR .i64 (k+(1:Int))/\L3 h b d (k+(1:Int)) c)) (R (.returned (.slice m n p)) j)
def F80 (l:OA)(lN lC:Nat)(c:Wd)(R:RT):Prop:=0<=(0:Int)/\(0:Int)<=(lN:Int)/\((8:Nat):Int)*(lN:Int)<=281474976710656/\Al c (zrow #[.int .u64 0] (((lN:Int)).toNat*1)) 42 fun g8 w1=>∃(I:OA->Nat->Nat->Int->Wd->Prop)(m:OA->Nat->Nat->Int->Wd->Nat),I (some g8) ((0:Int)).toNat ((lN:Int)).toNat (0:Int) w1/\∀out outN outC b a,I out outN outC b a->F80_l3 l lN (fun out' outN' outC' b' w2=>I out' outN' outC' b' w2/\m out' outN' outC' b' w2<m out outN outC b a) out outN outC b a R
theorem ok80 (l:OA)(a b:Nat){w:Wd}{R:RT} (h:F80 l a b w R):CL 80 #[.slice l a b] w R:=
 vk ⟨22,⟨[]⟩,[],[(3,⟨[(3,(.s .slice)),(11,(.s (.int .i64)))],[(3,6),(11,21)]⟩)]⟩ Tryz.func80 h
def F116_l2 (L2:OA->Int->Wd->Prop)(n2:OA)(i:Int)(a:Wd)(R:RT):Prop:=Br (!(n2).isNone) (InR .i64 (i+(1:Int))/\NonNil n2 fun p7=>LdP (a.cell? (p7.add 7)) fun b=>L2 b (i+(1:Int)) a) (R (.returned (.int .i64 i)) a)
def F116 (n:OA)(a:Wd)(R:RT):Prop:=∃(I:OA->Int->Wd->Prop)(m:OA->Int->Wd->Nat),I n ((-1):Int) a/\∀n2 i w1,I n2 i w1->F116_l2 (fun n2' i' w2=>I n2' i' w2/\m n2' i' w2<m n2 i w1) n2 i w1 R
theorem ok116 (n:OA){w:Wd}{R:RT} (h:F116 n w R):CL 116 #[.pointer n] w R:=
 vk ⟨13,⟨[]⟩,[],[(2,⟨[(0,(.s .ptr)),(3,(.s (.int .i64)))],[(0,12)]⟩)]⟩ Tryz.func116 h
def F167 (p:Int)(q:ByteArray)(r:OA)(s t:Nat)(u:ByteArray)(y:OA)(z aa:Nat)(n:Wd)(R:RT):Prop:=Al n #[.int .i64 p,.string q,.slice r s t,.string u,.slice y z aa] 48 fun g1 w1=>LdI .i64 (w1.cell? g1) fun m=>Br (m==(1:Int)) (LdStr (w1.cell? (g1.add 1)) fun j=>CL 196 #[.string j] w1 (post R fun v f=>∃k,v=(.bool k)/\Br (!k) (R (.returned (.int .i64 6)) f) (LdSl (f.cell? (g1.add 2)) fun i d e=>CL 204 #[.slice i d e] f (post R fun v2 c=>∃g,v2=(.int .i64 g)/\R (.returned (.int .i64 g)) c)))) (Br (m==(2:Int)) (LdStr (w1.cell? (g1.add 3)) fun h=>CL 190 #[.string h] w1 (post R fun v f=>∃a b,v=(.tuple #[.int .i64 a,.int .i64 b])/\R (.returned (.int .i64 b)) f)) (R (.returned (.int .i64 1)) w1))
theorem ok167 (a:Int)(b:ByteArray)(c:OA)(d e:Nat)(f:ByteArray)(g:OA)(i j:Nat){w:Wd}{R:RT} (h:F167 a b c d e f g i j w R):CL 167 #[.agg #[.int .i64 a,.string b,.slice c d e,.string f,.slice g i j]] w R:=
 vk ⟨25,⟨[]⟩,[],[]⟩ Tryz.func167 h
def F112 (b c:Int)(a:Wd)(R:RT):Prop:=Br (decide (b≥(1:Int))) (Br (decide (b<=(4:Int))) (Br (c != (0:Int)) (R (.returned (.bool true)) a) (R (.returned (.bool (decide (b<=(2:Int))))) a)) (R (.returned (.bool false)) a)) (R (.returned (.bool false)) a)
theorem ok112 (a b:Int){w:Wd}{R:RT} (h:F112 a b w R):CL 112 #[.int .i64 a,.int .u64 b] w R:=
 vk ⟨19,⟨[]⟩,[],[]⟩ Tryz.func112 h
def F226_l3 (x:OA)(xN:Nat)(m:ByteArray)(n:Value)(L3:Int->Int->Wd->Prop)(i j:Int)(k:Wd)(R:RT):Prop:=Br (decide (i<j)) (InR .i64 (i+j)/\InR .u64 ((i+j))/\InR .i64 ((((i+j)).fdiv (2 ^ (min ((1:Int)).toNat 64))))/\IdxA x xN ((((i+j)).fdiv (2 ^ (min ((1:Int)).toNat 64)))) 2 fun g=>LdStr (k.cell? g) fun c=>LdStr (k.cell? (g.add 1)) fun b=>CallV P0 n #[.agg #[.string c,.string b],.string m] k R (fun v w1=>∃f,v=(.int .i64 f)/\Br (decide (f<(0:Int))) (InR .i64 (((((i+j)).fdiv (2 ^ (min ((1:Int)).toNat 64))))+(1:Int))/\L3 (((((i+j)).fdiv (2 ^ (min ((1:Int)).toNat 64))))+(1:Int)) j w1) (L3 i ((((i+j)).fdiv (2 ^ (min ((1:Int)).toNat 64)))) w1))) (Br (decide (i<(xN:Int))) (IdxA x xN i 2 fun h=>LdStr (k.cell? h) fun a=>LdStr (k.cell? (h.add 1)) fun d=>CallV P0 n #[.agg #[.string a,.string d],.string m] k R (fun v w1=>∃e,v=(.int .i64 e)/\R (.returned (.tuple #[.int .i64 i,(.bool (e==(0:Int)))])) w1)) (R (.returned (.tuple #[.int .i64 i,.bool false])) k))
def F226 (x:OA)(xN xC:Nat)(b:ByteArray)(c:Value)(a:Wd)(R:RT):Prop:=∃(I:Int->Int->Wd->Prop)(m:Int->Int->Wd->Nat),I (0:Int) (xN:Int) a/\∀i j w1,I i j w1->F226_l3 x xN b c (fun i' j' w2=>I i' j' w2/\m i' j' w2<m i j w1) i j w1 R
theorem ok226 (x:OA)(a b:Nat)(c:ByteArray)(d:Value){w:Wd}{R:RT} (h:F226 x a b c d w R):CL 226 #[.slice x a b,.string c,d] w R:=
 vk ⟨49,⟨[]⟩,[],[(3,⟨[(9,(.s (.int .i64))),(10,(.s (.int .i64)))],[(9,35)]⟩)]⟩ Tryz.func226 h
def F78 (s:OA)(sN sC:Nat)(d:Wd)(R:RT):Prop:=Br (s).isNone (R (.returned (.slice none 0 0)) d) (Al d #[] 145 fun g5 w1=>Raw P0 (Builtin.append_ #[45,45] 45 #[(.slice (some g5) 0 0),.slice s sN sC]) w1 fun v a=>∃e c b,v=(.slice e c b)/\R (.returned (.slice e c b)) a)
theorem ok78 (s:OA)(a b:Nat){w:Wd}{R:RT} (h:F78 s a b w R):CL 78 #[.slice s a b] w R:=
 vk ⟨8,⟨[]⟩,[],[]⟩ Tryz.func78 h
def F231 (s:OA)(sN sC:Nat)(i j:Int)(f:Wd)(R:RT):Prop:=SlB i j (sN:Int) ((sN:Int)<=(sC:Int)/\Br (i==j) (R (.returned (.slice s sN sC)) f) (∃S:Wd->Prop,S f.drew/\SlB 0 i (sC:Int) (SlB j (sN:Int) (sC:Int) (Raw P0 (Builtin.append_ #[104,104] 104 #[(.slice s (i).toNat sC),(.slice (SlA s sC (j).toNat 1) (((sN:Int)).toNat-(j).toNat) (sC-(j).toNat))]) f.drew fun v d=>∃e c b,v=(.slice e c b)/\SlB (c:Int) (sN:Int) (b:Int) (Raw P0 (Builtin.clear_ #[104] 0 #[(.slice (SlA e b ((c:Int)).toNat 1) (((sN:Int)).toNat-((c:Int)).toNat) (b-((c:Int)).toNat))]) d fun v2 a=>R (.returned (.slice e c b)) a)))))
theorem ok231 (s:OA)(a b:Nat)(i j:Int){w:Wd}{R:RT} (h:F231 s a b i j w R):CL 231 #[.slice s a b,.int .i64 i,.int .i64 j] w R:=
 vk ⟨33,⟨[]⟩,[],[]⟩ Tryz.func231 h
def F199 (s:OA)(sN sC:Nat)(i j:Int)(f:Wd)(R:RT):Prop:=SlB i j (sN:Int) ((sN:Int)<=(sC:Int)/\Br (i==j) (R (.returned (.slice s sN sC)) f) (∃S:Wd->Prop,S f.drew/\SlB 0 i (sC:Int) (SlB j (sN:Int) (sC:Int) (Raw P0 (Builtin.append_ #[45,45] 45 #[(.slice s (i).toNat sC),(.slice (SlA s sC (j).toNat 2) (((sN:Int)).toNat-(j).toNat) (sC-(j).toNat))]) f.drew fun v d=>∃e c b,v=(.slice e c b)/\SlB (c:Int) (sN:Int) (b:Int) (Raw P0 (Builtin.clear_ #[45] 0 #[(.slice (SlA e b ((c:Int)).toNat 2) (((sN:Int)).toNat-((c:Int)).toNat) (b-((c:Int)).toNat))]) d fun v2 a=>R (.returned (.slice e c b)) a)))))
theorem ok199 (s:OA)(a b:Nat)(i j:Int){w:Wd}{R:RT} (h:F199 s a b i j w R):CL 199 #[.slice s a b,.int .i64 i,.int .i64 j] w R:=
 vk ⟨33,⟨[]⟩,[],[]⟩ Tryz.func199 h
def F170_l2 (s:OA)(sN:Nat)(v:OA)(L2:Int->Wd->Prop)(d:Int)(a:Wd)(R:RT):Prop:=Br (decide (d<(sN:Int))) (IdxA s sN d 1 fun b=>LdP (a.cell? b) fun c=>PtrOk a v c/\Br (decide (v=c)) (R (.returned (.int .i64 d)) a) (InR .i64 (d+(1:Int))/\L2 (d+(1:Int)) a)) (R (.returned (.int .i64 (-1))) a)
def F170 (s:OA)(sN sC:Nat)(v:OA)(b:Wd)(R:RT):Prop:=∃(I:Int->Wd->Prop)(m:Int->Wd->Nat),I (0:Int) b/\∀a w1,I a w1->F170_l2 s sN v (fun a' w2=>I a' w2/\m a' w2<m a w1) a w1 R
theorem ok170 (s:OA)(a b:Nat)(v:OA){w:Wd}{R:RT} (h:F170 s a b v w R):CL 170 #[.slice s a b,.pointer v] w R:=
 vk ⟨19,⟨[]⟩,[],[(2,⟨[(8,(.s (.int .i64)))],[(4,6),(8,19)]⟩)]⟩ Tryz.func170 h
def F171 (s:OA)(sN sC:Nat)(i:Int)(v:OA)(vN vC:Nat)(t:Wd)(R:RT):Prop:=SlB i (sN:Int) (sC:Int) (Br ((vN:Int)==(0:Int)) (R (.returned (.slice s sN sC)) t) (Br (i==(sN:Int)) (Raw P0 (Builtin.append_ #[104,104] 104 #[.slice s sN sC,.slice v vN vC]) t fun v2 w1=>∃n d c,v2=(.slice n d c)/\R (.returned (.slice n d c)) w1) (InR .i64 ((sN:Int)+(vN:Int))/\Br (decide (((sN:Int)+(vN:Int)) > (sC:Int))) (SlB 0 i (sC:Int) (InR .i64 ((sN:Int)+(vN:Int))/\InR .i64 (((sN:Int)+(vN:Int))-i)/\Raw P0 (Builtin.append_ #[104,3] 104 #[(.slice s (i).toNat sC),(.int .i64 (((sN:Int)+(vN:Int))-i))]) t fun v2 w1=>∃m a e,v2=(.slice m a e)/\SlB i (a:Int) (e:Int) (Raw P0 (Builtin.copy_ #[104,104] 3 #[(.slice (SlA m e (i).toNat 1) (((a:Int)).toNat-(i).toNat) (e-(i).toNat)),.slice v vN vC]) w1 fun v3 g=>∃p,v3=(.int .i64 p)/\∃S:Wd->Prop,S g.drew/\InR .i64 (i+(vN:Int))/\SlB (i+(vN:Int)) (a:Int) (e:Int) (SlB i (sN:Int) (sC:Int) (Raw P0 (Builtin.copy_ #[104,104] 3 #[(.slice (SlA m e ((i+(vN:Int))).toNat 1) (((a:Int)).toNat-((i+(vN:Int))).toNat) (e-((i+(vN:Int))).toNat)),(.slice (SlA s sC (i).toNat 1) (((sN:Int)).toNat-(i).toNat) (sC-(i).toNat))]) g.drew fun v4 f=>∃j,v4=(.int .i64 j)/\R (.returned (.slice m a e)) f))))) (InR .i64 ((sN:Int)+(vN:Int))/\SlB 0 ((sN:Int)+(vN:Int)) (sC:Int) (InR .i64 (i+(vN:Int))/\SlB (i+(vN:Int)) (((((sN:Int)+(vN:Int))).toNat:Nat):Int) (sC:Int) (ByRow P0 205 #[.slice v vN vC,(.slice (SlA s sC ((i+(vN:Int))).toNat 1) (((((((sN:Int)+(vN:Int))).toNat:Nat):Int)).toNat-((i+(vN:Int))).toNat) (sC-((i+(vN:Int))).toNat))] t (fun v2 w1=>∃q,v2=(.bool q)/\Br (!q) (∃S:Wd->Prop,S w1.drew/\InR .i64 (i+(vN:Int))/\SlB (i+(vN:Int)) (((((sN:Int)+(vN:Int))).toNat:Nat):Int) (sC:Int) (SlB i (((((sN:Int)+(vN:Int))).toNat:Nat):Int) (sC:Int) (Raw P0 (Builtin.copy_ #[104,104] 3 #[(.slice (SlA s sC ((i+(vN:Int))).toNat 1) (((((((sN:Int)+(vN:Int))).toNat:Nat):Int)).toNat-((i+(vN:Int))).toNat) (sC-((i+(vN:Int))).toNat)),(.slice (SlA s sC (i).toNat 1) (((((((sN:Int)+(vN:Int))).toNat:Nat):Int)).toNat-(i).toNat) (sC-(i).toNat))]) w1.drew fun v3 b=>∃r,v3=(.int .i64 r)/\SlB i (((((sN:Int)+(vN:Int))).toNat:Nat):Int) (sC:Int) (Raw P0 (Builtin.copy_ #[104,104] 3 #[(.slice (SlA s sC (i).toNat 1) (((((((sN:Int)+(vN:Int))).toNat:Nat):Int)).toNat-(i).toNat) (sC-(i).toNat)),.slice v vN vC]) b fun v4 f=>∃k,v4=(.int .i64 k)/\R (.returned (.slice s (((sN:Int)+(vN:Int))).toNat sC)) f)))) (SlB (sN:Int) (((((sN:Int)+(vN:Int))).toNat:Nat):Int) (sC:Int) (Raw P0 (Builtin.copy_ #[104,104] 3 #[(.slice (SlA s sC ((sN:Int)).toNat 1) (((((((sN:Int)+(vN:Int))).toNat:Nat):Int)).toNat-((sN:Int)).toNat) (sC-((sN:Int)).toNat)),.slice v vN vC]) w1 fun v3 g=>∃h,v3=(.int .i64 h)/\SlB i (((((sN:Int)+(vN:Int))).toNat:Nat):Int) (sC:Int) (CL 206 #[(.slice (SlA s sC (i).toNat 1) (((((((sN:Int)+(vN:Int))).toNat:Nat):Int)).toNat-(i).toNat) (sC-(i).toNat)),(.int .i64 (vN:Int))] g (post R fun v4 b=>v4=(.tuple #[])/\R (.returned (.slice s (((sN:Int)+(vN:Int))).toNat sC)) b)))))))))))
theorem ok171 (s:OA)(a b:Nat)(i:Int)(v:OA)(c d:Nat){w:Wd}{R:RT} (h:F171 s a b i v c d w R):CL 171 #[.slice s a b,.int .i64 i,.slice v c d] w R:=
 vk ⟨95,⟨[]⟩,[],[]⟩ Tryz.func171 h
def F198 (s:OA)(sN sC:Nat)(i:Int)(v:OA)(vN vC:Nat)(t:Wd)(R:RT):Prop:=SlB i (sN:Int) (sC:Int) (Br ((vN:Int)==(0:Int)) (R (.returned (.slice s sN sC)) t) (Br (i==(sN:Int)) (Raw P0 (Builtin.append_ #[45,45] 45 #[.slice s sN sC,.slice v vN vC]) t fun v2 w1=>∃n d c,v2=(.slice n d c)/\R (.returned (.slice n d c)) w1) (InR .i64 ((sN:Int)+(vN:Int))/\Br (decide (((sN:Int)+(vN:Int)) > (sC:Int))) (SlB 0 i (sC:Int) (InR .i64 ((sN:Int)+(vN:Int))/\InR .i64 (((sN:Int)+(vN:Int))-i)/\Raw P0 (Builtin.append_ #[45,3] 45 #[(.slice s (i).toNat sC),(.int .i64 (((sN:Int)+(vN:Int))-i))]) t fun v2 w1=>∃m a e,v2=(.slice m a e)/\SlB i (a:Int) (e:Int) (Raw P0 (Builtin.copy_ #[45,45] 3 #[(.slice (SlA m e (i).toNat 2) (((a:Int)).toNat-(i).toNat) (e-(i).toNat)),.slice v vN vC]) w1 fun v3 g=>∃p,v3=(.int .i64 p)/\∃S:Wd->Prop,S g.drew/\InR .i64 (i+(vN:Int))/\SlB (i+(vN:Int)) (a:Int) (e:Int) (SlB i (sN:Int) (sC:Int) (Raw P0 (Builtin.copy_ #[45,45] 3 #[(.slice (SlA m e ((i+(vN:Int))).toNat 2) (((a:Int)).toNat-((i+(vN:Int))).toNat) (e-((i+(vN:Int))).toNat)),(.slice (SlA s sC (i).toNat 2) (((sN:Int)).toNat-(i).toNat) (sC-(i).toNat))]) g.drew fun v4 f=>∃j,v4=(.int .i64 j)/\R (.returned (.slice m a e)) f))))) (InR .i64 ((sN:Int)+(vN:Int))/\SlB 0 ((sN:Int)+(vN:Int)) (sC:Int) (InR .i64 (i+(vN:Int))/\SlB (i+(vN:Int)) (((((sN:Int)+(vN:Int))).toNat:Nat):Int) (sC:Int) (ByRow P0 229 #[.slice v vN vC,(.slice (SlA s sC ((i+(vN:Int))).toNat 2) (((((((sN:Int)+(vN:Int))).toNat:Nat):Int)).toNat-((i+(vN:Int))).toNat) (sC-((i+(vN:Int))).toNat))] t (fun v2 w1=>∃q,v2=(.bool q)/\Br (!q) (∃S:Wd->Prop,S w1.drew/\InR .i64 (i+(vN:Int))/\SlB (i+(vN:Int)) (((((sN:Int)+(vN:Int))).toNat:Nat):Int) (sC:Int) (SlB i (((((sN:Int)+(vN:Int))).toNat:Nat):Int) (sC:Int) (Raw P0 (Builtin.copy_ #[45,45] 3 #[(.slice (SlA s sC ((i+(vN:Int))).toNat 2) (((((((sN:Int)+(vN:Int))).toNat:Nat):Int)).toNat-((i+(vN:Int))).toNat) (sC-((i+(vN:Int))).toNat)),(.slice (SlA s sC (i).toNat 2) (((((((sN:Int)+(vN:Int))).toNat:Nat):Int)).toNat-(i).toNat) (sC-(i).toNat))]) w1.drew fun v3 b=>∃r,v3=(.int .i64 r)/\SlB i (((((sN:Int)+(vN:Int))).toNat:Nat):Int) (sC:Int) (Raw P0 (Builtin.copy_ #[45,45] 3 #[(.slice (SlA s sC (i).toNat 2) (((((((sN:Int)+(vN:Int))).toNat:Nat):Int)).toNat-(i).toNat) (sC-(i).toNat)),.slice v vN vC]) b fun v4 f=>∃k,v4=(.int .i64 k)/\R (.returned (.slice s (((sN:Int)+(vN:Int))).toNat sC)) f)))) (SlB (sN:Int) (((((sN:Int)+(vN:Int))).toNat:Nat):Int) (sC:Int) (Raw P0 (Builtin.copy_ #[45,45] 3 #[(.slice (SlA s sC ((sN:Int)).toNat 2) (((((((sN:Int)+(vN:Int))).toNat:Nat):Int)).toNat-((sN:Int)).toNat) (sC-((sN:Int)).toNat)),.slice v vN vC]) w1 fun v3 g=>∃h,v3=(.int .i64 h)/\SlB i (((((sN:Int)+(vN:Int))).toNat:Nat):Int) (sC:Int) (CL 230 #[(.slice (SlA s sC (i).toNat 2) (((((((sN:Int)+(vN:Int))).toNat:Nat):Int)).toNat-(i).toNat) (sC-(i).toNat)),(.int .i64 (vN:Int))] g (post R fun v4 b=>v4=(.tuple #[])/\R (.returned (.slice s (((sN:Int)+(vN:Int))).toNat sC)) b)))))))))))
theorem ok198 (s:OA)(a b:Nat)(i:Int)(v:OA)(c d:Nat){w:Wd}{R:RT} (h:F198 s a b i v c d w R):CL 198 #[.slice s a b,.int .i64 i,.slice v c d] w R:=
 vk ⟨95,⟨[]⟩,[],[]⟩ Tryz.func198 h
def F55_j3 (d:OA)(n:Int)(e:Wd)(R:RT):Prop:=Al e #[] 42 fun g16 w1=>CL 103 #[.pointer d,.int .u64 n,(.slice (some g16) 0 0)] w1 (post R fun v b=>∃f c a,v=(.slice f c a)/\R (.returned (.tuple #[.slice f c a,.int .i64 0])) b)
def F55 (d:OA)(n:Int)(b:Wd)(R:RT):Prop:=∃J3:Wd->Prop,(∀w1,J3 w1->F55_j3 d n w1 R)/\(Br (n != (0:Int)) (CL 95 #[.pointer d,.int .u64 n] b (post R fun v w1=>∃a,v=(.bool a)/\Br (!a) (R (.returned (.tuple #[.slice none 0 0,.int .i64 8])) w1) (J3 w1))) (J3 b))
theorem ok55 (d:OA)(n:Int){w:Wd}{R:RT} (h:F55 d n w R):CL 55 #[.pointer d,.int .u64 n] w R:=
 vk ⟨18,⟨[]⟩,[(3,⟨[],[(4,14)]⟩)],[]⟩ Tryz.func55 h
def F12 (d:OA)(t:Wd)(R:RT):Prop:=∃S:Wd->Prop,S t.drew/\NonNil d fun p5=>∃u r m,Held S p5 (.slice u r m)/\NonNil d fun p11=>∃k c j,Held S (p11.add 1) (.slice k c j)/\(Al t.drew #[] 88 fun g3 h=>S h/\(Raw P0 (Builtin.append_ #[22,22] 22 #[(.slice (some g3) 0 0),.slice u r m]) h fun v a=>∃s n p,v=(.slice s n p)/\S a/\Al a #[] 42 fun g9 e=>S e/\Raw P0 (Builtin.append_ #[23,23] 23 #[(.slice (some g9) 0 0),.slice k c j]) e fun v2 i=>∃q b g,v2=(.slice q b g)/\Al i #[.slice s n p,.slice q b g] 85 fun g16 f=>R (.returned (.pointer (some g16))) f)/\(Al h #[] 42 fun g9 a=>S a/\Raw P0 (Builtin.append_ #[22,22] 22 #[(.slice (some g3) 0 0),.slice u r m]) a fun v e=>∃s n p,v=(.slice s n p)/\S e/\Raw P0 (Builtin.append_ #[23,23] 23 #[(.slice (some g9) 0 0),.slice k c j]) e fun v2 i=>∃q b g,v2=(.slice q b g)/\Al i #[.slice s n p,.slice q b g] 85 fun g16 f=>R (.returned (.pointer (some g16))) f))/\(Al t.drew #[] 42 fun g9 h=>S h/\Al h #[] 88 fun g3 a=>S a/\Raw P0 (Builtin.append_ #[22,22] 22 #[(.slice (some g3) 0 0),.slice u r m]) a fun v e=>∃s n p,v=(.slice s n p)/\S e/\Raw P0 (Builtin.append_ #[23,23] 23 #[(.slice (some g9) 0 0),.slice k c j]) e fun v2 i=>∃q b g,v2=(.slice q b g)/\Al i #[.slice s n p,.slice q b g] 85 fun g16 f=>R (.returned (.pointer (some g16))) f)
theorem ok12 (d:OA){w:Wd}{R:RT} (h:F12 d w R):CL 12 #[.pointer d] w R:=
 vk ⟨17,⟨[]⟩,[],[]⟩ Tryz.func12 h
def F46_l7 (d c:OA)(a:Nat)(L7:Int->Wd->Prop)(i:Int)(v:Wd)(R:RT):Prop:=Br (decide (i<(a:Int))) (IdxA c a i 1 fun aa=>LdI .u64 (v.cell? aa) fun da=>CL 89 #[.pointer d,.int .u64 da] v (post R fun v5 m=>∃z,v5=(.int .i64 z)/\∃S:Wd->Prop,S m.drew/\NonNil d fun p44=>∃t n p,Held S p44 (.slice t n p)/\NonNil d fun p49=>∃u r s,Held S p49 (.slice u r s)/\IdxA u r z 8 fun y=>∃ca,Held S y (.int .u32 ca)/\IdxA t n z 8 fun ba=>St m.drew ba (.int .u32 ca) fun q=>St q (ba.add 1) (.bool false) fun k=>St k (ba.add 2) (.int .i64 0) fun j=>St j (ba.add 3) eS fun f=>St f (ba.add 4) (.slice none 0 0) fun e=>St e (ba.add 5) eS fun g=>St g (ba.add 6) (.int .u64 0) fun b=>St b (ba.add 7) (.slice none 0 0) fun h=>InR .i64 (i+(1:Int))/\L7 (i+(1:Int)) h)) (R (.returned (.int .i64 0)) v)
def F46 (d:OA)(n:Int)(w_:Wd)(R:RT):Prop:=CL 95 #[.pointer d,.int .u64 n] w_ (post R fun v w1=>∃u,v=(.bool u)/\Br (!u) (R (.returned (.int .i64 8)) w1) (CL 55 #[.pointer d,.int .u64 n] w1 (post R fun v2 s=>∃e b a c,v2=(.tuple #[.slice e b a,.int .i64 c])/\Al s #[] 88 fun g20 g=>NonNil d fun p22=>LdSl (g.cell? p22) fun z p q=>Raw P0 (Builtin.append_ #[22,22] 22 #[(.slice (some g20) 0 0),.slice z p q]) g fun v3 j=>∃y k h,v3=(.slice y k h)/\NonNil d fun p26=>St j p26 (.slice y k h) fun t=>CL 98 #[.pointer d,.int .u64 n] t (post R fun v4 r=>v4=(.tuple #[])/\∃(I:Int->Wd->Prop)(m:Int->Wd->Nat),I (0:Int) r/\∀i f,I i f->F46_l7 d e b (fun i' w2=>I i' w2/\m i' w2<m i f) i f R))))
theorem ok46 (d:OA)(n:Int){w:Wd}{R:RT} (h:F46 d n w R):CL 46 #[.pointer d,.int .u64 n] w R:=
 vk ⟨58,⟨[]⟩,[],[(7,⟨[(7,(.s (.int .i64)))],[(7,58)]⟩)]⟩ Tryz.func46 h
def F50_l6 (d:OA)(ab:ByteArray)(a:Int)(r:OA)(q j:Nat)(L6:Int->Wd->Prop)(k:Int)(v:Wd)(R:RT):Prop:=Br (decide (k<(q:Int))) (IdxA r q k 2 fun z=>LdStr (v.cell? z) fun s=>Br (s.toList==ab.toList) (∃S:Wd->Prop,S v.drew/\NonNil d fun p42=>∃t n i,Held S p42 (.slice t n i)/\SlB 0 k (j:Int) (InR .i64 (k+(1:Int))/\SlB (k+(1:Int)) (q:Int) (j:Int) (Al v.drew #[] 145 fun g46 p=>S p/\Raw P0 (Builtin.append_ #[45,45] 45 #[(.slice (some g46) 0 0),(.slice r (k).toNat j)]) p fun v2 g=>∃y c f,v2=(.slice y c f)/\S g/\Raw P0 (Builtin.append_ #[45,45] 45 #[.slice y c f,(.slice (SlA r j ((k+(1:Int))).toNat 2) (((q:Int)).toNat-((k+(1:Int))).toNat) (j-((k+(1:Int))).toNat))]) g fun v3 e=>∃aa m b,v3=(.slice aa m b)/\S e/\IdxA t n a 8 fun u=>St e (u.add 4) (.slice aa m b) fun h=>R (.returned (.int .i64 0)) h))) (InR .i64 (k+(1:Int))/\L6 (k+(1:Int)) v)) (R (.returned (.int .i64 35)) v)
def F50 (d:OA)(n:Int)(r:ByteArray)(q:Wd)(R:RT):Prop:=CL 99 #[.pointer d,.int .u64 n,.int .i64 1] q (post R fun v w1=>∃b a,v=(.tuple #[.int .i64 b,.int .i64 a])/\Br (a != (0:Int)) (R (.returned (.int .i64 a)) w1) (NonNil d fun p21=>LdSl (w1.cell? p21) fun p c h=>IdxA p c b 8 fun j=>LdSl (w1.cell? (j.add 4)) fun i f e=>∃(I:Int->Wd->Prop)(m:Int->Wd->Nat),I (0:Int) w1/\∀k g,I k g->F50_l6 d r b i f e (fun k' w2=>I k' w2/\m k' w2<m k g) k g R))
theorem ok50 (d:OA)(n:Int)(a:ByteArray){w:Wd}{R:RT} (h:F50 d n a w R):CL 50 #[.pointer d,.int .u64 n,.string a] w R:=
 vk ⟨58,⟨[]⟩,[],[(6,⟨[(10,(.s (.int .i64)))],[(6,7),(10,58)]⟩)]⟩ Tryz.func50 h
def F109_l3 (d:OA)(L3:OA->Nat->Nat->Int->Wd->Prop)(f:OA)(fN fC:Nat)(i:Int)(va:Wd)(R:RT):Prop:=NonNil d fun p10=>LdSl (va.cell? (p10.add 1)) fun ta ha ea=>Br (decide (i<(ha:Int))) (NonNil d fun p20=>LdSl (va.cell? (p20.add 1)) fun za ma na=>IdxA za ma i 1 fun ua=>LdI .u64 (va.cell? ua) fun ya=>CL 97 #[.pointer d,.int .u64 ya] va (post R fun v pa=>∃j g m e a h k c b z,v=(.tuple #[.agg #[.int .i64 j,.string g,.slice m e a,.string h,.slice k c b],.int .i64 z])/\Al pa #[.int .i64 0,eS,.slice none 0 0,eS,.slice none 0 0] 48 fun g5 qa=>St qa g5 (.int .i64 j) fun ia=>St ia (g5.add 1) (.string g) fun fa=>St fa (g5.add 2) (.slice m e a) fun ja=>St ja (g5.add 3) (.string h) fun da=>St da (g5.add 4) (.slice k c b) fun ga=>LdI .i64 (ga.cell? g5) fun y=>LdStr (ga.cell? (g5.add 1)) fun t=>LdSl (ga.cell? (g5.add 2)) fun u n q=>LdStr (ga.cell? (g5.add 3)) fun aa=>LdSl (ga.cell? (g5.add 4)) fun s r p=>Al ga #[.int .i64 y,.string t,.slice u n q,.string aa,.slice s r p] 48 fun g31 ka=>Raw P0 (Builtin.append_ #[46,46] 46 #[.slice f fN fC,(.slice (some g31) 1 1)]) ka fun v2 ba=>∃sa ra ca,v2=(.slice sa ra ca)/\InR .i64 (i+(1:Int))/\L3 sa ra ca (i+(1:Int)) ba)) (R (.returned (.slice f fN fC)) va)
def F109 (d:OA)(b:Wd)(R:RT):Prop:=Al b #[] 48 fun g7 w1=>∃(I:OA->Nat->Nat->Int->Wd->Prop)(m:OA->Nat->Nat->Int->Wd->Nat),I (some g7) 0 0 (0:Int) w1/\∀f fN fC i a,I f fN fC i a->F109_l3 d (fun f' fN' fC' i' w2=>I f' fN' fC' i' w2/\m f' fN' fC' i' w2<m f fN fC i a) f fN fC i a R
theorem ok109 (d:OA){w:Wd}{R:RT} (h:F109 d w R):CL 109 #[.pointer d] w R:=
 vk ⟨34,⟨[]⟩,[],[(3,⟨[(3,(.s .slice)),(4,(.s (.int .i64)))],[(3,33)]⟩)]⟩ Tryz.func109 h
def F153 (d:OA)(n:Int)(w_:Wd)(R:RT):Prop:=Al w_ #[.int .i64 0,eS,.slice none 0 0,eS,.slice none 0 0] 48 fun g4 w1=>CL 89 #[.pointer d,.int .u64 n] w1 (post R fun v ma=>∃ua,v=(.int .i64 ua)/\Br (decide (ua<(0:Int))) (St ma g4 (.int .i64 0) fun na=>St na (g4.add 1) eS fun fa=>St fa (g4.add 2) (.slice none 0 0) fun ca=>St ca (g4.add 3) eS fun ha=>St ha (g4.add 4) (.slice none 0 0) fun ba=>LdI .i64 (ba.cell? g4) fun res0_0=>LdStr (ba.cell? (g4.add 1)) fun res0_1=>LdSl (ba.cell? (g4.add 2)) fun res0_2 res0_2N res0_2C=>LdStr (ba.cell? (g4.add 3)) fun res0_3=>LdSl (ba.cell? (g4.add 4)) fun res0_4 res0_4N res0_4C=>R (.returned (.tuple #[.agg #[.int .i64 res0_0,.string res0_1,.slice res0_2 res0_2N res0_2C,.string res0_3,.slice res0_4 res0_4N res0_4C],.int .i64 8])) ba) (NonNil d fun p15=>LdSl (ma.cell? p15) fun pa ja da=>IdxA pa ja ua 8 fun ra=>LdI .u32 (ma.cell? ra) fun r=>LdB (ma.cell? (ra.add 1)) fun p=>LdI .i64 (ma.cell? (ra.add 2)) fun j=>LdStr (ma.cell? (ra.add 3)) fun y=>LdSl (ma.cell? (ra.add 4)) fun h e c=>LdStr (ma.cell? (ra.add 5)) fun aa=>LdI .u64 (ma.cell? (ra.add 6)) fun g=>LdSl (ma.cell? (ra.add 7)) fun i a b=>Al ma #[.int .u32 0,.bool false,.int .i64 0,eS,.slice none 0 0,eS,.int .u64 0,.slice none 0 0] 88 fun s na=>St na s (.int .u32 r) fun fa=>St fa (s.add 1) (.bool p) fun ca=>St ca (s.add 2) (.int .i64 j) fun ha=>St ha (s.add 3) (.string y) fun ba=>St ba (s.add 4) (.slice h e c) fun ea=>St ea (s.add 5) (.string aa) fun ia=>St ia (s.add 6) (.int .u64 g) fun z=>St z (s.add 7) (.slice i a b) fun u=>LdI .i64 (u.cell? (s.add 2)) fun va=>LdStr (u.cell? (s.add 3)) fun qa=>LdSl (u.cell? (s.add 4)) fun sa ga ka=>LdStr (u.cell? (s.add 5)) fun ta=>St u g4 (.int .i64 va) fun m=>St m (g4.add 1) (.string qa) fun k=>St k (g4.add 2) (.slice sa ga ka) fun q=>St q (g4.add 3) (.string ta) fun f=>St f (g4.add 4) (.slice none 0 0) fun t=>LdI .i64 (t.cell? g4) fun res0_0=>LdStr (t.cell? (g4.add 1)) fun res0_1=>LdSl (t.cell? (g4.add 2)) fun res0_2 res0_2N res0_2C=>LdStr (t.cell? (g4.add 3)) fun res0_3=>LdSl (t.cell? (g4.add 4)) fun res0_4 res0_4N res0_4C=>R (.returned (.tuple #[.agg #[.int .i64 res0_0,.string res0_1,.slice res0_2 res0_2N res0_2C,.string res0_3,.slice res0_4 res0_4N res0_4C],.int .i64 0])) t))
theorem ok153 (d:OA)(n:Int){w:Wd}{R:RT} (h:F153 d n w R):CL 153 #[.pointer d,.int .u64 n] w R:=
 vk ⟨30,⟨[]⟩,[],[]⟩ Tryz.func153 h
def F125 (d:OA)(i:Int)(g:Wd)(R:RT):Prop:=NonNil d fun p6=>LdSl (g.cell? p6) fun f b e=>IdxA f b i 8 fun a=>LdI .u32 (g.cell? a) fun c=>InR .u64 (c)/\InR .u64 ((c)*(2 ^ (min ((32:Int)).toNat 64)))/\InR .i64 (i+(1:Int))/\InR .u64 ((i+(1:Int)))/\R (.returned (.int .u64 (bOr .u64 ((c)*(2 ^ (min ((32:Int)).toNat 64))) ((i+(1:Int)))))) g
theorem ok125 (d:OA)(i:Int){w:Wd}{R:RT} (h:F125 d i w R):CL 125 #[.pointer d,.int .i64 i] w R:=
 vk ⟨19,⟨[]⟩,[],[]⟩ Tryz.func125 h
def F16 (d:OA)(j:Wd)(R:RT):Prop:=Al j #[.slice none 0 0,.slice none 0 0] 25 fun g2 w1=>∃S:Wd->Prop,S w1.drew/\NonNil d fun p4=>∃i g f,Held S p4 (.slice i g f)/\NonNil d fun p8=>∃h e b,Held S (p8.add 1) (.slice h e b)/\St w1.drew g2 (.slice i g f) fun a=>St a (g2.add 1) (.slice h e b) fun c=>LdSl (c.cell? g2) fun res0_0 res0_0N res0_0C=>LdSl (c.cell? (g2.add 1)) fun res0_1 res0_1N res0_1C=>R (.returned (.agg #[.slice res0_0 res0_0N res0_0C,.slice res0_1 res0_1N res0_1C])) c
theorem ok16 (d:OA){w:Wd}{R:RT} (h:F16 d w R):CL 16 #[.pointer d] w R:=
 vk ⟨12,⟨[]⟩,[],[]⟩ Tryz.func16 h
def F27 (d:OA)(ac ad ae:Int)(af:ByteArray)(ag:OA)(ah ai:Nat)(aj:ByteArray)(ak:OA)(am an:Nat)(w_:Wd)(R:RT):Prop:=Al w_ #[.int .i64 ae,.string af,.slice ag ah ai,.string aj,.slice ak am an] 48 fun g7 w1=>CL 67 #[.pointer d,.int .i64 ac,.int .u64 ad] w1 (post R fun v ab=>∃ia fa,v=(.tuple #[.int .u64 ia,.int .i64 fa])/\Br (fa==(1:Int)) (R (.returned (.tuple #[.int .u64 0,.int .i64 fa])) ab) (LdI .i64 (ab.cell? g7) fun aa=>LdStr (ab.cell? (g7.add 1)) fun z=>LdSl (ab.cell? (g7.add 2)) fun ga m n=>LdStr (ab.cell? (g7.add 3)) fun da=>LdSl (ab.cell? (g7.add 4)) fun y k h=>CL 68 #[.agg #[.int .i64 aa,.string z,.slice ga m n,.string da,.slice y k h]] ab (post R fun v2 bb=>∃eb,v2=(.int .i64 eb)/\Br (eb != (0:Int)) (R (.returned (.tuple #[.int .u64 0,.int .i64 eb])) bb) (Br (fa != (0:Int)) (R (.returned (.tuple #[.int .u64 0,.int .i64 fa])) bb) (LdI .i64 (bb.cell? g7) fun ea=>LdStr (bb.cell? (g7.add 1)) fun ma=>LdSl (bb.cell? (g7.add 2)) fun t g i=>LdStr (bb.cell? (g7.add 3)) fun ba=>LdSl (bb.cell? (g7.add 4)) fun p a j=>CL 69 #[.agg #[.int .i64 ea,.string ma,.slice t g i,.string ba,.slice p a j]] bb (post R fun v3 ta=>∃ca s,v3=(.tuple #[.int .i64 ca,.int .i64 s])/\CL 70 #[.pointer d,.int .u64 ia] ta (post R fun v4 qa=>∃ib,v4=(.int .i64 ib)/\InR .i64 (ib+(1:Int))/\InR .i64 ((ib+(1:Int))+s)/\Br (decide (((ib+(1:Int))+s) > (64:Int))) (R (.returned (.tuple #[.int .u64 0,.int .i64 32])) qa) (CL 71 #[.pointer d] qa (post R fun v5 va=>∃gb,v5=(.int .i64 gb)/\InR .i64 (gb+ca)/\Br (decide ((gb+ca) > (4096:Int))) (R (.returned (.tuple #[.int .u64 0,.int .i64 33])) va) (Al va #[] 88 fun g52 pa=>NonNil d fun p54=>LdSl (pa.cell? p54) fun db cb za=>Raw P0 (Builtin.append_ #[22,22] 22 #[(.slice (some g52) 0 0),.slice db cb za]) pa fun v6 ra=>∃fb ua sa,v6=(.slice fb ua sa)/\NonNil d fun p58=>St ra p58 (.slice fb ua sa) fun ya=>LdI .i64 (ya.cell? g7) fun u=>LdStr (ya.cell? (g7.add 1)) fun q=>LdSl (ya.cell? (g7.add 2)) fun ja e b=>LdStr (ya.cell? (g7.add 3)) fun ha=>LdSl (ya.cell? (g7.add 4)) fun r f c=>CL 72 #[.pointer d,.agg #[.int .i64 u,.string q,.slice ja e b,.string ha,.slice r f c],.int .u64 ia] ya (post R fun v7 na=>∃hb,v7=(.int .u64 hb)/\CL 73 #[.pointer d,.int .u64 hb,.int .u64 ia,.int .i64 ac,.int .u64 ad] na (post R fun v8 ka=>v8=(.tuple #[])/\R (.returned (.tuple #[.int .u64 hb,.int .i64 0])) ka))))))))))))
theorem ok27 (d:OA)(a b c:Int)(e:ByteArray)(f:OA)(g i:Nat)(j:ByteArray)(k:OA)(m n:Nat){w:Wd}{R:RT} (h:F27 d a b c e f g i j k m n w R):CL 27 #[.pointer d,.int .i64 a,.int .u64 b,.agg #[.int .i64 c,.string e,.slice f g i,.string j,.slice k m n]] w R:=
 vk ⟨71,⟨[]⟩,[],[]⟩ Tryz.func27 h
def F41_j4 (L3:Int->Int->Wd->Prop)(i n2:Int)(a:Wd)(R:RT):Prop:=InR .i64 (i+(1:Int))/\L3 n2 (i+(1:Int)) a
def F41_l3 (d:OA)(L3:Int->Int->Wd->Prop)(n i:Int)(h:Wd)(R:RT):Prop:=NonNil d fun p7=>LdSl (h.cell? p7) fun k g e=>Br (decide (i<(g:Int))) (∃J4:Int->Wd->Prop,(∀n2 w1,J4 n2 w1->F41_j4 L3 i n2 w1 R)/\(NonNil d fun p15=>LdSl (h.cell? p15) fun j b a=>IdxA j b i 8 fun f=>LdB (h.cell? (f.add 1)) fun c=>Br c (InR .i64 (n+(1:Int))/\J4 (n+(1:Int)) h) (J4 n h))) (R (.returned (.int .i64 n)) h)
def F41 (d:OA)(a:Wd)(R:RT):Prop:=∃(I:Int->Int->Wd->Prop)(m:Int->Int->Wd->Nat),I (0:Int) (0:Int) a/\∀n i w1,I n i w1->F41_l3 d (fun n' i' w2=>I n' i' w2/\m n' i' w2<m n i w1) n i w1 R
theorem ok41 (d:OA){w:Wd}{R:RT} (h:F41 d w R):CL 41 #[.pointer d] w R:=
 vk ⟨25,⟨[]⟩,[(4,⟨[(3,(.s (.int .i64)))],[(3,4),(14,24)]⟩)],[(3,⟨[(3,(.s (.int .i64))),(4,(.s (.int .i64)))],[(3,24)]⟩)]⟩ Tryz.func41 h
def F126 (d:OA)(h_:Int)(p:Wd)(R:RT):Prop:=Br (h_==(0:Int)) (NonNil d fun p8=>LdSl (p.cell? (p8.add 1)) fun n f e=>R (.returned (.slice n f e)) p) (∃S:Wd->Prop,S p.drew/\NonNil d fun p12=>∃m b g,Held S p12 (.slice m b g)/\CL 89 #[.pointer d,.int .u64 h_] p.drew (post R fun v h=>∃i,v=(.int .i64 i)/\S h/\IdxA m b i 8 fun j=>∃k a c,Held S (j.add 7) (.slice k a c)/\R (.returned (.slice k a c)) h))
theorem ok126 (d:OA)(a:Int){w:Wd}{R:RT} (h:F126 d a w R):CL 126 #[.pointer d,.int .u64 a] w R:=
 vk ⟨21,⟨[]⟩,[],[]⟩ Tryz.func126 h
def F95 (d:OA)(h_:Int)(a:Wd)(R:RT):Prop:=CL 89 #[.pointer d,.int .u64 h_] a (post R fun v w1=>∃b,v=(.int .i64 b)/\R (.returned (.bool (decide (b≥(0:Int))))) w1)
theorem ok95 (d:OA)(a:Int){w:Wd}{R:RT} (h:F95 d a w R):CL 95 #[.pointer d,.int .u64 a] w R:=
 vk ⟨9,⟨[]⟩,[],[]⟩ Tryz.func95 h
def F45_j8 (d:OA)(n ac ad da u:Int)(bb:Wd)(R:RT):Prop:=Br (u != (0:Int)) (R (.returned (.int .i64 u)) bb) (CL 97 #[.pointer d,.int .u64 n] bb (post R fun v2 ua=>∃f i h c b g j e a ia,v2=(.tuple #[.agg #[.int .i64 f,.string i,.slice h c b,.string g,.slice j e a],.int .i64 ia])/\Al ua #[.int .i64 0,eS,.slice none 0 0,eS,.slice none 0 0] 48 fun t va=>St va t (.int .i64 f) fun qa=>St qa (t.add 1) (.string i) fun na=>St na (t.add 2) (.slice h c b) fun ra=>St ra (t.add 3) (.string g) fun ma=>St ma (t.add 4) (.slice j e a) fun pa=>LdI .i64 (pa.cell? t) fun ga=>LdStr (pa.cell? (t.add 1)) fun ea=>LdSl (pa.cell? (t.add 2)) fun ha q p=>LdStr (pa.cell? (t.add 3)) fun v=>LdSl (pa.cell? (t.add 4)) fun aa k m=>CL 69 #[.agg #[.int .i64 ga,.string ea,.slice ha q p,.string v,.slice aa k m]] pa (post R fun v3 sa=>∃ca s,v3=(.tuple #[.int .i64 ca,.int .i64 s])/\CL 70 #[.pointer d,.int .u64 da] sa (post R fun v4 ja=>∃cb,v4=(.int .i64 cb)/\InR .i64 (cb+(1:Int))/\InR .i64 ((cb+(1:Int))+s)/\Br (decide (((cb+(1:Int))+s) > (64:Int))) (R (.returned (.int .i64 32)) ja) (Al ja #[] 88 fun g63 fa=>NonNil d fun p65=>LdSl (fa.cell? p65) fun ab ta za=>Raw P0 (Builtin.append_ #[22,22] 22 #[(.slice (some g63) 0 0),.slice ab ta za]) fa fun v5 z=>∃db ka ya,v5=(.slice db ka ya)/\NonNil d fun p69=>St z p69 (.slice db ka ya) fun y=>CL 98 #[.pointer d,.int .u64 n] y (post R fun v6 ba=>v6=(.tuple #[])/\CL 73 #[.pointer d,.int .u64 n,.int .u64 da,.int .i64 ac,.int .u64 ad] ba (post R fun v7 r=>v7=(.tuple #[])/\R (.returned (.int .i64 0)) r)))))))
def F45_j6 (d:OA)(n g h a b:Int)(e:Wd)(R:RT):Prop:=∃J8:Wd->Prop,(∀c,J8 c->F45_j8 d n g h a b c R)/\(Br (h != (0:Int)) (CL 96 #[.pointer d,.int .u64 h,.int .u64 n] e (post R fun v2 c=>∃f,v2=(.bool f)/\Br f (R (.returned (.int .i64 34)) c) (J8 c))) (J8 e))
def F45 (d:OA)(n g h:Int)(f:Wd)(R:RT):Prop:=CL 67 #[.pointer d,.int .i64 g,.int .u64 h] f (post R fun v w1=>∃a b,v=(.tuple #[.int .u64 a,.int .i64 b])/\Br (b==(1:Int)) (R (.returned (.int .i64 b)) w1) (∃J6:Wd->Prop,(∀c,J6 c->F45_j6 d n g h a b c R)/\(CL 95 #[.pointer d,.int .u64 n] w1 (post R fun v2 c=>∃e,v2=(.bool e)/\Br (!e) (R (.returned (.int .i64 8)) c) (Br (b==(8:Int)) (R (.returned (.int .i64 8)) c) (J6 c))))))
theorem ok45 (d:OA)(n a b:Int){w:Wd}{R:RT} (h:F45 d n a b w R):CL 45 #[.pointer d,.int .u64 n,.int .i64 a,.int .u64 b] w R:=
 vk ⟨80,⟨[]⟩,[(8,⟨[],[(8,9),(33,41)]⟩),(6,⟨[],[(8,9),(25,33)]⟩)],[]⟩ Tryz.func45 h
def F49_j18 (d:OA)(e:Int)(s:OA)(f k:Nat)(q:OA)(j g:Nat)(k2:Int)(r:Wd)(R:RT):Prop:=∃S:Wd->Prop,S r.drew/\NonNil d fun p93=>∃t p m,Held S p93 (.slice t p m)/\SlB k2 (f:Int) (k:Int) (Raw P0 (Builtin.append_ #[45,45] 45 #[.slice q j g,(.slice (SlA s k (k2).toNat 2) (((f:Int)).toNat-(k2).toNat) (k-(k2).toNat))]) r.drew fun v6 n=>∃i a b,v6=(.slice i a b)/\S n/\IdxA t p e 8 fun h=>St n (h.add 4) (.slice i a b) fun c=>R (.returned (.int .i64 0)) c)
def F49_j15 (d:OA)(t u:ByteArray)(a:Int)(s:OA)(b h:Nat)(v:Addr)(k:Int)(y:Bool)(p:Wd)(R:RT):Prop:=SlB 0 k (h:Int) (Raw P0 (Builtin.append_ #[45,45] 45 #[(.slice (some v) 0 0),(.slice s (k).toNat h)]) p fun v4 n=>∃q f m,v4=(.slice q f m)/\Al n #[.string t,.string u] 145 fun g87 i=>Raw P0 (Builtin.append_ #[45,45] 45 #[.slice q f m,(.slice (some g87) 1 1)]) i fun v5 j=>∃r g c,v5=(.slice r g c)/\∃J18:Int->Wd->Prop,(∀k2 e,J18 k2 e->F49_j18 d a s b h r g c k2 e R)/\(Br y (InR .i64 (k+(1:Int))/\J18 (k+(1:Int)) j) (J18 k j)))
def F49_j13 (d:OA)(h i:ByteArray)(a:Int)(f:OA)(b c:Nat)(j:Addr)(k:Int)(m:Bool)(g:Wd)(R:RT):Prop:=∃J15:Wd->Prop,(∀e,J15 e->F49_j15 d h i a f b c j k m e R)/\(Br (!m) (Br (decide ((b:Int)≥(32:Int))) (R (.returned (.int .i64 2)) g) (J15 g)) (J15 g))
def F49_j12 (d:OA)(j m:ByteArray)(a:Int)(g:OA)(b c:Nat)(n:Addr)(k:Int)(h:Wd)(R:RT):Prop:=∃J13:Bool->Wd->Prop,(∀there e,J13 there e->F49_j13 d j m a g b c n k there e R)/\(Br (decide (k<(b:Int))) (IdxA g b k 2 fun f=>LdStr (h.cell? f) fun i=>J13 (i.toList==j.toList) h) (J13 false h))
def F49_j11 (b:Int->Wd->Prop)(k:Int)(a:Wd)(R:RT):Prop:=InR .i64 (k+(1:Int))/\b (k+(1:Int)) a
def F49_l10 (g:ByteArray)(d:OA)(a:Nat)(h i:Int->Wd->Prop)(k:Int)(f:Wd)(R:RT):Prop:=∃J11:Wd->Prop,(∀b,J11 b->F49_j11 i k b R)/\(Br (decide (k<(a:Int))) (IdxA d a k 2 fun c=>LdStr (f.cell? c) fun e=>Br (Op.bytesLess e.toList g.toList) (J11 f) (h k f)) (h k f))
def F49 (d:OA)(n:Int)(aa ab:ByteArray)(z:Wd)(R:RT):Prop:=CL 99 #[.pointer d,.int .u64 n,.int .i64 1] z (post R fun v w1=>∃e c,v=(.tuple #[.int .i64 e,.int .i64 c])/\Br (c != (0:Int)) (R (.returned (.int .i64 c)) w1) (CL 100 #[.string aa] w1 (post R fun v2 p=>∃y,v2=(.bool y)/\Br (!y) (R (.returned (.int .i64 6)) p) (CL 94 #[.string ab] p (post R fun v3 g=>∃a b,v3=(.tuple #[.int .i64 a,.int .i64 b])/\Br (b != (0:Int)) (R (.returned (.int .i64 b)) g) (NonNil d fun p36=>LdSl (g.cell? p36) fun t h q=>IdxA t h e 8 fun s=>LdSl (g.cell? (s.add 4)) fun u f j=>Al g #[] 145 fun g43 i=>∃J12:Int->Wd->Prop,(∀k r,J12 k r->F49_j12 d aa ab e u f j g43 k r R)/\(∃(I:Int->Wd->Prop)(m:Int->Wd->Nat),I (0:Int) i/\∀k r,I k r->F49_l10 aa u f J12 (fun k' w2=>I k' w2/\m k' w2<m k r) k r R)))))))
theorem ok49 (d:OA)(n:Int)(a b:ByteArray){w:Wd}{R:RT} (h:F49 d n a b w R):CL 49 #[.pointer d,.int .u64 n,.string a,.string b] w R:=
 vk ⟨104,⟨[]⟩,[(11,⟨[],[(44,57)]⟩),(18,⟨[(13,(.s (.int .i64)))],[(13,92)]⟩),(15,⟨[],[(8,9),(72,79)]⟩),(13,⟨[(14,(.s .bool))],[(14,72)]⟩),(12,⟨[(13,(.s (.int .i64)))],[(13,59)]⟩)],[(10,⟨[(13,(.s (.int .i64)))],[(13,59)]⟩)]⟩ Tryz.func49 h
def F47 (d:OA)(n:Int)(m:ByteArray)(k:Wd)(R:RT):Prop:=CL 99 #[.pointer d,.int .u64 n,.int .i64 1] k (post R fun v w1=>∃b a,v=(.tuple #[.int .i64 b,.int .i64 a])/\Br (a != (0:Int)) (R (.returned (.int .i64 a)) w1) (CL 100 #[.string m] w1 (post R fun v2 g=>∃h,v2=(.bool h)/\Br (!h) (R (.returned (.int .i64 6)) g) (NonNil d fun p22=>LdSl (g.cell? p22) fun j e f=>IdxA j e b 8 fun i=>St g (i.add 3) (.string m) fun c=>R (.returned (.int .i64 0)) c))))
theorem ok47 (d:OA)(n:Int)(a:ByteArray){w:Wd}{R:RT} (h:F47 d n a w R):CL 47 #[.pointer d,.int .u64 n,.string a] w R:=
 vk ⟨29,⟨[]⟩,[],[]⟩ Tryz.func47 h
def F48 (d:OA)(n:Int)(p:ByteArray)(m:Wd)(R:RT):Prop:=CL 99 #[.pointer d,.int .u64 n,.int .i64 2] m (post R fun v w1=>∃b a,v=(.tuple #[.int .i64 b,.int .i64 a])/\Br (a != (0:Int)) (R (.returned (.int .i64 a)) w1) (CL 94 #[.string p] w1 (post R fun v2 i=>∃e c,v2=(.tuple #[.int .i64 e,.int .i64 c])/\Br (c != (0:Int)) (R (.returned (.int .i64 c)) i) (NonNil d fun p27=>LdSl (i.cell? p27) fun j g f=>IdxA j g b 8 fun k=>St i (k.add 5) (.string p) fun h=>R (.returned (.int .i64 0)) h))))
theorem ok48 (d:OA)(n:Int)(a:ByteArray){w:Wd}{R:RT} (h:F48 d n a w R):CL 48 #[.pointer d,.int .u64 n,.string a] w R:=
 vk ⟨34,⟨[]⟩,[],[]⟩ Tryz.func48 h
def F97_l6 (d:OA)(g4 g6:Addr)(fb:OA)(ya:Nat)(L6:Int->Wd->Prop)(i:Int)(eb:Wd)(R:RT):Prop:=Br (decide (i<(ya:Int))) (IdxA fb ya i 1 fun cb=>LdI .u64 (eb.cell? cb) fun hb=>CL 97 #[.pointer d,.int .u64 hb] eb (post R fun v3 ta=>∃h g m a b j f e c ua,v3=(.tuple #[.agg #[.int .i64 h,.string g,.slice m a b,.string j,.slice f e c],.int .i64 ua])/\Al ta #[.int .i64 0,eS,.slice none 0 0,eS,.slice none 0 0] 48 fun k sa=>St sa k (.int .i64 h) fun ea=>St ea (k.add 1) (.string g) fun ba=>St ba (k.add 2) (.slice m a b) fun ia=>St ia (k.add 3) (.string j) fun y=>St y (k.add 4) (.slice f e c) fun ra=>LdSl (ra.cell? (g6.add 4)) fun gb bb va=>LdI .i64 (ra.cell? k) fun ja=>LdStr (ra.cell? (k.add 1)) fun da=>LdSl (ra.cell? (k.add 2)) fun pa q t=>LdStr (ra.cell? (k.add 3)) fun ga=>LdSl (ra.cell? (k.add 4)) fun aa s p=>Al ra #[.int .i64 ja,.string da,.slice pa q t,.string ga,.slice aa s p] 48 fun g43 na=>Raw P0 (Builtin.append_ #[46,46] 46 #[.slice gb bb va,(.slice (some g43) 1 1)]) na fun v4 ha=>∃db ab za,v4=(.slice db ab za)/\St ha (g6.add 4) (.slice db ab za) fun ca=>InR .i64 (i+(1:Int))/\L6 (i+(1:Int)) ca)) (LdI .i64 (eb.cell? g6) fun ma=>LdStr (eb.cell? (g6.add 1)) fun ka=>LdSl (eb.cell? (g6.add 2)) fun fa u n=>LdStr (eb.cell? (g6.add 3)) fun z=>LdSl (eb.cell? (g6.add 4)) fun qa r v=>St eb g4 (.int .i64 ma) fun ta=>St ta (g4.add 1) (.string ka) fun sa=>St sa (g4.add 2) (.slice fa u n) fun ea=>St ea (g4.add 3) (.string z) fun ba=>St ba (g4.add 4) (.slice qa r v) fun ia=>LdI .i64 (ia.cell? g4) fun res0_0=>LdStr (ia.cell? (g4.add 1)) fun res0_1=>LdSl (ia.cell? (g4.add 2)) fun res0_2 res0_2N res0_2C=>LdStr (ia.cell? (g4.add 3)) fun res0_3=>LdSl (ia.cell? (g4.add 4)) fun res0_4 res0_4N res0_4C=>R (.returned (.tuple #[.agg #[.int .i64 res0_0,.string res0_1,.slice res0_2 res0_2N res0_2C,.string res0_3,.slice res0_4 res0_4N res0_4C],.int .i64 0])) ia)
def F97 (d:OA)(n:Int)(w_:Wd)(R:RT):Prop:=Al w_ #[.int .i64 0,eS,.slice none 0 0,eS,.slice none 0 0] 48 fun g4 w1=>CL 153 #[.pointer d,.int .u64 n] w1 (post R fun v qa=>∃k h f e b g j c a fa,v=(.tuple #[.agg #[.int .i64 k,.string h,.slice f e b,.string g,.slice j c a],.int .i64 fa])/\Al qa #[.int .i64 0,eS,.slice none 0 0,eS,.slice none 0 0] 48 fun g6 ra=>St ra g6 (.int .i64 k) fun ka=>St ka (g6.add 1) (.string h) fun ia=>St ia (g6.add 2) (.slice f e b) fun na=>St na (g6.add 3) (.string g) fun ga=>St ga (g6.add 4) (.slice j c a) fun ja=>Br (fa != (0:Int)) (LdI .i64 (ja.cell? g6) fun ba=>LdStr (ja.cell? (g6.add 1)) fun aa=>LdSl (ja.cell? (g6.add 2)) fun u q r=>LdStr (ja.cell? (g6.add 3)) fun da=>LdSl (ja.cell? (g6.add 4)) fun t s p=>St ja g4 (.int .i64 ba) fun pa=>St pa (g4.add 1) (.string aa) fun ea=>St ea (g4.add 2) (.slice u q r) fun ca=>St ca (g4.add 3) (.string da) fun z=>St z (g4.add 4) (.slice t s p) fun y=>LdI .i64 (y.cell? g4) fun res0_0=>LdStr (y.cell? (g4.add 1)) fun res0_1=>LdSl (y.cell? (g4.add 2)) fun res0_2 res0_2N res0_2C=>LdStr (y.cell? (g4.add 3)) fun res0_3=>LdSl (y.cell? (g4.add 4)) fun res0_4 res0_4N res0_4C=>R (.returned (.tuple #[.agg #[.int .i64 res0_0,.string res0_1,.slice res0_2 res0_2N res0_2C,.string res0_3,.slice res0_4 res0_4N res0_4C],.int .i64 fa])) y) (CL 126 #[.pointer d,.int .u64 n] ja (post R fun v2 pa=>∃sa ma ha,v2=(.slice sa ma ha)/\∃(I:Int->Wd->Prop)(m:Int->Wd->Nat),I (0:Int) pa/\∀i ea,I i ea->F97_l6 d g4 g6 sa ma (fun i' w2=>I i' w2/\m i' w2<m i ea) i ea R)))
theorem ok97 (d:OA)(n:Int){w:Wd}{R:RT} (h:F97 d n w R):CL 97 #[.pointer d,.int .u64 n] w R:=
 vk ⟨47,⟨[]⟩,[],[(6,⟨[(9,(.s (.int .i64)))],[(9,46)]⟩)]⟩ Tryz.func97 h
def F103_l5 (d k:OA)(c:Nat)(L5:OA->Nat->Nat->Int->Wd->Prop)(l3:OA)(m n:Nat)(i:Int)(j:Wd)(R:RT):Prop:=Br (decide (i<(c:Int))) (IdxA k c i 1 fun g=>LdI .u64 (j.cell? g) fun h=>CL 103 #[.pointer d,.int .u64 h,.slice l3 m n] j (post R fun v2 e=>∃f a b,v2=(.slice f a b)/\InR .i64 (i+(1:Int))/\L5 f a b (i+(1:Int)) e)) (R (.returned (.slice l3 m n)) j)
def F103_j3 (d:OA)(h_:Int)(l2:OA)(g h:Nat)(e:Wd)(R:RT):Prop:=CL 126 #[.pointer d,.int .u64 h_] e (post R fun v w1=>∃f c a,v=(.slice f c a)/\∃(I:OA->Nat->Nat->Int->Wd->Prop)(m:OA->Nat->Nat->Int->Wd->Nat),I l2 g h (0:Int) w1/\∀l3 lN3 lC3 i b,I l3 lN3 lC3 i b->F103_l5 d f c (fun l3' lN3' lC3' i' w2=>I l3' lN3' lC3' i' w2/\m l3' lN3' lC3' i' w2<m l3 lN3 lC3 i b) l3 lN3 lC3 i b R)
def F103 (d:OA)(h_:Int)(l:OA)(lN lC:Nat)(f:Wd)(R:RT):Prop:=∃J3:OA->Nat->Nat->Wd->Prop,(∀l2 lN2 lC2 w1,J3 l2 lN2 lC2 w1->F103_j3 d h_ l2 lN2 lC2 w1 R)/\(Br (h_ != (0:Int)) (Al f #[.int .u64 h_] 42 fun g13 w1=>Raw P0 (Builtin.append_ #[23,23] 23 #[.slice l lN lC,(.slice (some g13) 1 1)]) w1 fun v c=>∃e a b,v=(.slice e a b)/\J3 e a b c) (J3 l lN lC f))
theorem ok103 (d:OA)(a:Int)(l:OA)(b c:Nat){w:Wd}{R:RT} (h:F103 d a l b c w R):CL 103 #[.pointer d,.int .u64 a,.slice l b c] w R:=
 vk ⟨32,⟨[]⟩,[(3,⟨[(2,(.s .slice))],[(2,15)]⟩)],[(5,⟨[(2,(.s .slice)),(8,(.s (.int .i64)))],[(2,3),(8,31)]⟩)]⟩ Tryz.func103 h
def F89_j4 (h_:Int)(a:Wd)(R:RT):Prop:=R (.returned (.int .i64 (((h_.tmod (4294967296:Int)))-(1:Int)))) a
def F89 (d:OA)(h_:Int)(k:Wd)(R:RT):Prop:=InR .i64 ((h_.tmod (4294967296:Int)))/\InR .i64 (((h_.tmod (4294967296:Int)))-(1:Int))/\∃J4:Wd->Prop,(∀w1,J4 w1->F89_j4 h_ w1 R)/\(Br (decide ((((h_.tmod (4294967296:Int)))-(1:Int))<(0:Int))) (R (.returned (.int .i64 (-1))) k) (NonNil d fun p15=>LdSl (k.cell? p15) fun i c a=>Br (decide ((((h_.tmod (4294967296:Int)))-(1:Int))≥(c:Int))) (R (.returned (.int .i64 (-1))) k) (NonNil d fun p23=>LdSl (k.cell? p23) fun h e b=>IdxA h e (((h_.tmod (4294967296:Int)))-(1:Int)) 8 fun f=>LdB (k.cell? (f.add 1)) fun j=>Br (!j) (R (.returned (.int .i64 (-1))) k) (CL 125 #[.pointer d,(.int .i64 (((h_.tmod (4294967296:Int)))-(1:Int)))] k (post R fun v w1=>∃g,v=(.int .u64 g)/\Br (g != h_) (R (.returned (.int .i64 (-1))) w1) (J4 w1))))))
theorem ok89 (d:OA)(a:Int){w:Wd}{R:RT} (h:F89 d a w R):CL 89 #[.pointer d,.int .u64 a] w R:=
 vk ⟨40,⟨[]⟩,[(4,⟨[],[(4,5),(10,39)]⟩)],[]⟩ Tryz.func89 h
def F99 (d:OA)(n u:Int)(t:Wd)(R:RT):Prop:=CL 89 #[.pointer d,.int .u64 n] t (post R fun v w1=>∃s,v=(.int .i64 s)/\Br (decide (s<(0:Int))) (R (.returned (.tuple #[.int .i64 0,.int .i64 8])) w1) (NonNil d fun p15=>LdSl (w1.cell? p15) fun r i a=>IdxA r i s 8 fun q=>LdI .i64 (w1.cell? (q.add 2)) fun m=>Br (m != u) (R (.returned (.tuple #[.int .i64 0,.int .i64 30])) w1) (Al w1 #[] 88 fun g25 j=>NonNil d fun p27=>LdSl (j.cell? p27) fun p f b=>Raw P0 (Builtin.append_ #[22,22] 22 #[(.slice (some g25) 0 0),.slice p f b]) j fun v2 c=>∃k e g,v2=(.slice k e g)/\NonNil d fun p31=>St c p31 (.slice k e g) fun h=>R (.returned (.tuple #[.int .i64 s,.int .i64 0])) h)))
theorem ok99 (d:OA)(n a:Int){w:Wd}{R:RT} (h:F99 d n a w R):CL 99 #[.pointer d,.int .u64 n,.int .i64 a] w R:=
 vk ⟨34,⟨[]⟩,[],[]⟩ Tryz.func99 h
def F124_j3 (L2:Int->Wd->Prop)(i:Int)(a:Wd)(R:RT):Prop:=InR .i64 (i+(1:Int))/\L2 (i+(1:Int)) a
def F124_l2 (d:OA)(L2:Int->Wd->Prop)(i:Int)(ba:Wd)(R:RT):Prop:=NonNil d fun p6=>LdSl (ba.cell? p6) fun x8 fa ha=>Br (decide (i<(fa:Int))) (∃J3:Wd->Prop,(∀w1,J3 w1->F124_j3 L2 i w1 R)/\(NonNil d fun p14=>LdSl (ba.cell? p14) fun aa j a=>IdxA aa j i 8 fun ea=>LdB (ba.cell? (ea.add 1)) fun ia=>Br (!ia) (NonNil d fun p24=>LdSl (ba.cell? p24) fun ja h m=>IdxA ja h i 8 fun y=>LdI .u32 (ba.cell? y) fun u=>Br (decide (u<(4294967295:Int))) (R (.returned (.int .i64 i)) ba) (J3 ba)) (J3 ba))) (Al ba #[] 88 fun g35 w1=>NonNil d fun p37=>LdSl (w1.cell? p37) fun ca g f=>Raw P0 (Builtin.append_ #[22,22] 22 #[(.slice (some g35) 0 0),.slice ca g f]) w1 fun v n=>∃z q s,v=(.slice z q s)/\Al n #[.int .u32 0,.bool false,.int .i64 0,eS,.slice none 0 0,eS,.int .u64 0,.slice none 0 0] 88 fun g42 r=>Raw P0 (Builtin.append_ #[22,22] 22 #[.slice z q s,(.slice (some g42) 1 1)]) r fun v2 e=>∃ga k c,v2=(.slice ga k c)/\NonNil d fun p44=>St e p44 (.slice ga k c) fun b=>NonNil d fun p47=>LdSl (b.cell? p47) fun da t p=>InR .i64 ((t:Int)-(1:Int))/\R (.returned (.int .i64 ((t:Int)-(1:Int)))) b)
def F124 (d:OA)(a:Wd)(R:RT):Prop:=∃(I:Int->Wd->Prop)(m:Int->Wd->Nat),I (0:Int) a/\∀i w1,I i w1->F124_l2 d (fun i' w2=>I i' w2/\m i' w2<m i w1) i w1 R
theorem ok124 (d:OA){w:Wd}{R:RT} (h:F124 d w R):CL 124 #[.pointer d] w R:=
 vk ⟨52,⟨[]⟩,[(3,⟨[],[(2,3),(13,34)]⟩)],[(2,⟨[(3,(.s (.int .i64)))],[(2,34)]⟩)]⟩ Tryz.func124 h
def F70_l2 (d:OA)(L2:Int->Int->Wd->Prop)(j n:Int)(i:Wd)(R:RT):Prop:=Br (j != (0:Int)) (InR .i64 (n+(1:Int))/\∃S:Wd->Prop,S i.drew/\NonNil d fun p11=>∃f a c,Held S p11 (.slice f a c)/\CL 89 #[.pointer d,.int .u64 j] i.drew (post R fun v b=>∃g,v=(.int .i64 g)/\S b/\IdxA f a g 8 fun h=>∃e,Held S (h.add 6) (.int .u64 e)/\L2 e (n+(1:Int)) b)) (R (.returned (.int .i64 n)) i)
def F70 (d:OA)(h_:Int)(a:Wd)(R:RT):Prop:=∃(I:Int->Int->Wd->Prop)(m:Int->Int->Wd->Nat),I h_ ((-1):Int) a/\∀h_2 n w1,I h_2 n w1->F70_l2 d (fun h_2' n' w2=>I h_2' n' w2/\m h_2' n' w2<m h_2 n w1) h_2 n w1 R
theorem ok70 (d:OA)(a:Int){w:Wd}{R:RT} (h:F70 d a w R):CL 70 #[.pointer d,.int .u64 a] w R:=
 vk ⟨21,⟨[]⟩,[],[(2,⟨[(1,(.s (.int .u64))),(5,(.s (.int .i64)))],[(1,20)]⟩)]⟩ Tryz.func70 h
def F72_l10 (d:OA)(na ga:Int)(da:OA)(aa:Nat)(ab:Int->Wd->Prop)(k:Int)(ea:Wd)(R:RT):Prop:=Br (decide (k<(aa:Int))) (IdxA da aa k 5 fun ka=>LdI .i64 (ea.cell? ka) fun q=>LdStr (ea.cell? (ka.add 1)) fun h=>LdSl (ea.cell? (ka.add 2)) fun f a b=>LdStr (ea.cell? (ka.add 3)) fun m=>LdSl (ea.cell? (ka.add 4)) fun i e c=>CL 72 #[.pointer d,.agg #[.int .i64 q,.string h,.slice f a b,.string m,.slice i e c],.int .u64 ga] ea (post R fun v4 j=>∃ja,v4=(.int .u64 ja)/\∃S3:Wd->Prop,S3 j.drew/\NonNil d fun p68=>∃fa u v,Held S3 p68 (.slice fa u v)/\NonNil d fun p73=>∃ia ba s,Held S3 p73 (.slice ia ba s)/\IdxA ia ba na 8 fun ca=>∃pa z r,Held S3 (ca.add 7) (.slice pa z r)/\Al j.drew #[.int .u64 ja] 42 fun g81 p=>S3 p/\Raw P0 (Builtin.append_ #[23,23] 23 #[.slice pa z r,(.slice (some g81) 1 1)]) p fun v5 g=>∃ma t y,v5=(.slice ma t y)/\S3 g/\IdxA fa u na 8 fun ha=>St g (ha.add 7) (.slice ma t y) fun n=>InR .i64 (k+(1:Int))/\ab (k+(1:Int)) n)) (R (.returned (.int .u64 ga)) ea)
def F72_j6 (d:OA)(g4:Addr)(bb:Int)(s:Addr)(za:Wd)(R:RT):Prop:=∃S2:Wd->Prop,S2 za.drew/\NonNil d fun p43=>∃ab sa ra,Held S2 p43 (.slice ab sa ra)/\∃n,Held S2 s (.int .u32 n)/\∃na,Held S2 (s.add 1) (.bool na)/\∃ma,Held S2 (s.add 2) (.int .i64 ma)/\∃ia,Held S2 (s.add 3) (.string ia)/\∃t b c,Held S2 (s.add 4) (.slice t b c)/\∃pa,Held S2 (s.add 5) (.string pa)/\∃da,Held S2 (s.add 6) (.int .u64 da)/\∃u f e,Held S2 (s.add 7) (.slice u f e)/\IdxA ab sa bb 8 fun ua=>St za.drew ua (.int .u32 n) fun fa=>St fa (ua.add 1) (.bool na) fun j=>St j (ua.add 2) (.int .i64 ma) fun ka=>St ka (ua.add 3) (.string ia) fun ja=>St ja (ua.add 4) (.slice t b c) fun ea=>St ea (ua.add 5) (.string pa) fun aa=>St aa (ua.add 6) (.int .u64 da) fun y=>St y (ua.add 7) (.slice u f e) fun ha=>CL 125 #[.pointer d,.int .i64 bb] ha (post R fun v2 ba=>∃ya,v2=(.int .u64 ya)/\LdI .i64 (ba.cell? g4) fun ga=>LdStr (ba.cell? (g4.add 1)) fun q=>LdSl (ba.cell? (g4.add 2)) fun z h g=>LdStr (ba.cell? (g4.add 3)) fun r=>LdSl (ba.cell? (g4.add 4)) fun p a i=>CL 123 #[.agg #[.int .i64 ga,.string q,.slice z h g,.string r,.slice p a i]] ba (post R fun v3 ca=>∃va ta qa,v3=(.slice va ta qa)/\∃(I:Int->Wd->Prop)(m:Int->Wd->Nat),I (0:Int) ca/\∀k v,I k v->F72_l10 d bb ya va ta (fun k' w2=>I k' w2/\m k' w2<m k v) k v R))
def F72 (d:OA)(ab:Int)(ac:ByteArray)(ad:OA)(ae af:Nat)(ag:ByteArray)(ah:OA)(ai aj:Nat)(ak:Int)(w_:Wd)(R:RT):Prop:=Al w_ #[.int .i64 ab,.string ac,.slice ad ae af,.string ag,.slice ah ai aj] 48 fun g4 w1=>CL 124 #[.pointer d] w1 (post R fun v aa=>∃ka,v=(.int .i64 ka)/\∃S:Wd->Prop,S aa.drew/\NonNil d fun p16=>∃fa z r,Held S p16 (.slice fa z r)/\IdxA fa z ka 8 fun da=>∃ma,Held S da (.int .u32 ma)/\InR .u32 (ma+(1:Int))/\∃ha,Held S g4 (.int .i64 ha)/\Al aa.drew #[.int .u32 0,.bool false,.int .i64 0,eS,.slice none 0 0,eS,.int .u64 0,.slice none 0 0] 88 fun s p=>S p/\St p s (.int .u32 (ma+(1:Int))) fun k=>St k (s.add 1) (.bool true) fun t=>St t (s.add 2) (.int .i64 ha) fun j=>St j (s.add 3) eS fun n=>St n (s.add 4) (.slice none 0 0) fun u=>St u (s.add 5) eS fun i=>St i (s.add 6) (.int .u64 ak) fun h=>St h (s.add 7) (.slice none 0 0) fun c=>∃J6:Wd->Prop,(∀b,J6 b->F72_j6 d g4 ka s b R)/\(LdI .i64 (c.cell? g4) fun ia=>Br (ia==(2:Int)) (LdStr (c.cell? (g4.add 3)) fun ca=>St c (s.add 5) (.string ca) fun b=>J6 b) (∃S2:Wd->Prop,S2 c.drew/\∃ja,Held S2 (g4.add 1) (.string ja)/\∃ea ba m,Held S2 (g4.add 2) (.slice ea ba m)/\Al c.drew #[] 145 fun g36 e=>S2 e/\Raw P0 (Builtin.append_ #[45,45] 45 #[(.slice (some g36) 0 0),.slice ea ba m]) e fun v2 a=>∃ga y q,v2=(.slice ga y q)/\S2 a/\St a (s.add 3) (.string ja) fun g=>St g (s.add 4) (.slice ga y q) fun f=>J6 f)))
theorem ok72 (d:OA)(a:Int)(b:ByteArray)(c:OA)(e f:Nat)(g:ByteArray)(i:OA)(j k:Nat)(m:Int){w:Wd}{R:RT} (h:F72 d a b c e f g i j k m w R):CL 72 #[.pointer d,.agg #[.int .i64 a,.string b,.slice c e f,.string g,.slice i j k],.int .u64 m] w R:=
 vk ⟨86,⟨[]⟩,[(6,⟨[],[(28,42)]⟩)],[(10,⟨[(11,(.s (.int .i64)))],[(11,85)]⟩)]⟩ Tryz.func72 h
def F98 (d:OA)(n:Int)(w_:Wd)(R:RT):Prop:=∃S:Wd->Prop,S w_.drew/\NonNil d fun p8=>∃ca m a,Held S p8 (.slice ca m a)/\CL 89 #[.pointer d,.int .u64 n] w_.drew (post R fun v r=>∃y,v=(.int .i64 y)/\S r/\IdxA ca m y 8 fun u=>∃t,Held S (u.add 6) (.int .u64 t)/\CL 126 #[.pointer d,.int .u64 t] r (post R fun v2 s=>∃ba h q,v2=(.slice ba h q)/\CL 127 #[.slice ba h q,.int .u64 n] s (post R fun v3 f=>∃da,v3=(.int .i64 da)/\∃S2:Wd->Prop,S2 f.drew/\SlB 0 da (q:Int) (InR .i64 (da+(1:Int))/\SlB (da+(1:Int)) (h:Int) (q:Int) (Al f.drew #[] 42 fun g25 i=>Raw P0 (Builtin.append_ #[23,23] 23 #[(.slice (some g25) 0 0),(.slice ba (da).toNat q)]) i fun v4 b=>∃aa e k,v4=(.slice aa e k)/\Raw P0 (Builtin.append_ #[23,23] 23 #[.slice aa e k,(.slice (SlA ba q ((da+(1:Int))).toNat 1) (((h:Int)).toNat-((da+(1:Int))).toNat) (q-((da+(1:Int))).toNat))]) b fun v5 c=>∃z g p,v5=(.slice z g p)/\CL 128 #[.pointer d,.int .u64 t,.slice z g p] c (post R fun v6 j=>v6=(.tuple #[])/\R (.returned (.tuple #[])) j))))))
theorem ok98 (d:OA)(n:Int){w:Wd}{R:RT} (h:F98 d n w R):CL 98 #[.pointer d,.int .u64 n] w R:=
 vk ⟨36,⟨[]⟩,[],[]⟩ Tryz.func98 h
def F67_j8 (b:Int)(a:Wd)(R:RT):Prop:=R (.returned (.tuple #[.int .u64 b,.int .i64 0])) a
def F67_j5 (d:OA)(r s:Int)(q:Wd)(R:RT):Prop:=Br (decide (r<=(2:Int))) (∃J8:Wd->Prop,(∀w1,J8 w1->F67_j8 s w1 R)/\(∃S:Wd->Prop,S q.drew/\Br (s != (0:Int)) (NonNil d fun p36=>∃i c f,Held S p36 (.slice i c f)/\CL 89 #[.pointer d,.int .u64 s] q.drew (post R fun v e=>∃p,v=(.int .i64 p)/\S e/\IdxA i c p 8 fun n=>∃m,Held S (n.add 2) (.int .i64 m)/\Br (m==(2:Int)) (R (.returned (.tuple #[.int .u64 0,.int .i64 31])) e) (J8 e))) (J8 q.drew))) (∃S:Wd->Prop,S q.drew/\NonNil d fun p49=>∃k a b,Held S p49 (.slice k a b)/\CL 89 #[.pointer d,.int .u64 s] q.drew (post R fun v e=>∃g,v=(.int .i64 g)/\S e/\IdxA k a g 8 fun h=>∃j,Held S (h.add 6) (.int .u64 j)/\R (.returned (.tuple #[.int .u64 j,.int .i64 0])) e))
def F67_j3 (d:OA)(c e:Int)(b:Wd)(R:RT):Prop:=∃J5:Wd->Prop,(∀w1,J5 w1->F67_j5 d c e w1 R)/\(Br (e != (0:Int)) (CL 95 #[.pointer d,.int .u64 e] b (post R fun v w1=>∃a,v=(.bool a)/\Br (!a) (R (.returned (.tuple #[.int .u64 0,.int .i64 8])) w1) (J5 w1))) (J5 b))
def F67 (d:OA)(b c:Int)(a:Wd)(R:RT):Prop:=∃J3:Wd->Prop,(∀w1,J3 w1->F67_j3 d b c w1 R)/\(Br (decide (b<(1:Int))) (R (.returned (.tuple #[.int .u64 0,.int .i64 1])) a) (Br (decide (b > (4:Int))) (R (.returned (.tuple #[.int .u64 0,.int .i64 1])) a) (Br (c==(0:Int)) (Br (decide (b > (2:Int))) (R (.returned (.tuple #[.int .u64 0,.int .i64 1])) a) (J3 a)) (J3 a))))
theorem ok67 (d:OA)(a b:Int){w:Wd}{R:RT} (h:F67 d a b w R):CL 67 #[.pointer d,.int .i64 a,.int .u64 b] w R:=
 vk ⟨58,⟨[]⟩,[(8,⟨[],[(6,47)]⟩),(5,⟨[],[(6,30)]⟩),(3,⟨[],[(6,22)]⟩)],[]⟩ Tryz.func67 h
def F73_j9 (d:OA)(n ab:Int)(fa:OA)(y i:Nat)(k:Int)(da:Wd)(R:RT):Prop:=Al da #[] 42 fun g32 r=>SlB 0 k (i:Int) (Raw P0 (Builtin.append_ #[23,23] 23 #[(.slice (some g32) 0 0),(.slice fa (k).toNat i)]) r fun v2 u=>∃ga b v,v2=(.slice ga b v)/\Al u #[.int .u64 n] 42 fun g38 g=>Raw P0 (Builtin.append_ #[23,23] 23 #[.slice ga b v,(.slice (some g38) 1 1)]) g fun v3 e=>∃ea j h,v3=(.slice ea j h)/\SlB k (y:Int) (i:Int) (Raw P0 (Builtin.append_ #[23,23] 23 #[.slice ea j h,(.slice (SlA fa i (k).toNat 1) (((y:Int)).toNat-(k).toNat) (i-(k).toNat))]) e fun v4 p=>∃z f m,v4=(.slice z f m)/\CL 128 #[.pointer d,.int .u64 ab,.slice z f m] p (post R fun v5 c=>v5=(.tuple #[])/\∃S:Wd->Prop,S c.drew/\NonNil d fun p49=>∃ca s t,Held S p49 (.slice ca s t)/\CL 89 #[.pointer d,.int .u64 n] c.drew (post R fun v6 q=>∃aa,v6=(.int .i64 aa)/\S q/\IdxA ca s aa 8 fun ba=>St q (ba.add 6) (.int .u64 ab) fun a=>R (.returned (.tuple #[])) a))))
def F73 (d:OA)(n i j m:Int)(h:Wd)(R:RT):Prop:=CL 126 #[.pointer d,.int .u64 i] h (post R fun v w1=>∃f b a,v=(.slice f b a)/\∃J9:Int->Wd->Prop,(∀k c,J9 k c->F73_j9 d n i f b a k c R)/\(Br (j==(2:Int)) (J9 (b:Int) w1) (Br (j==(3:Int)) (CL 127 #[.slice f b a,.int .u64 m] w1 (post R fun v2 c=>∃g,v2=(.int .i64 g)/\J9 g c)) (Br (j==(4:Int)) (CL 127 #[.slice f b a,.int .u64 m] w1 (post R fun v2 c=>∃e,v2=(.int .i64 e)/\InR .i64 (e+(1:Int))/\J9 (e+(1:Int)) c)) (J9 (0:Int) w1)))))
theorem ok73 (d:OA)(n a b c:Int){w:Wd}{R:RT} (h:F73 d n a b c w R):CL 73 #[.pointer d,.int .u64 n,.int .u64 a,.int .i64 b,.int .u64 c] w R:=
 vk ⟨58,⟨[]⟩,[(9,⟨[(11,(.s (.int .i64)))],[(11,32)]⟩)],[]⟩ Tryz.func73 h
def F128 (d:OA)(h_:Int)(l:OA)(lN lC:Nat)(i:Wd)(R:RT):Prop:=Br (h_==(0:Int)) (NonNil d fun p10=>St i (p10.add 1) (.slice l lN lC) fun w1=>R (.returned (.tuple #[])) w1) (∃S:Wd->Prop,S i.drew/\NonNil d fun p13=>∃f c b,Held S p13 (.slice f c b)/\CL 89 #[.pointer d,.int .u64 h_] i.drew (post R fun v e=>∃h,v=(.int .i64 h)/\S e/\IdxA f c h 8 fun g=>St e (g.add 7) (.slice l lN lC) fun a=>R (.returned (.tuple #[])) a))
theorem ok128 (d:OA)(a:Int)(l:OA)(b c:Nat){w:Wd}{R:RT} (h:F128 d a l b c w R):CL 128 #[.pointer d,.int .u64 a,.slice l b c] w R:=
 vk ⟨22,⟨[]⟩,[],[]⟩ Tryz.func128 h
def F71_j4 (L3:Int->Int->Wd->Prop)(i n2:Int)(a:Wd)(R:RT):Prop:=InR .i64 (i+(1:Int))/\L3 n2 (i+(1:Int)) a
def F71_l3 (d:OA)(L3:Int->Int->Wd->Prop)(n i:Int)(q:Wd)(R:RT):Prop:=NonNil d fun p7=>LdSl (q.cell? p7) fun s p j=>Br (decide (i<(p:Int))) (∃J4:Int->Wd->Prop,(∀n2 w1,J4 n2 w1->F71_j4 L3 i n2 w1 R)/\(NonNil d fun p15=>LdSl (q.cell? p15) fun r b a=>IdxA r b i 8 fun k=>LdB (q.cell? (k.add 1)) fun g=>Br g (InR .i64 (n+(1:Int))/\J4 (n+(1:Int)) q) (NonNil d fun p24=>LdSl (q.cell? p24) fun m e c=>IdxA m e i 8 fun h=>LdI .u32 (q.cell? h) fun f=>Br (f==(4294967295:Int)) (InR .i64 (n+(1:Int))/\J4 (n+(1:Int)) q) (J4 n q)))) (R (.returned (.int .i64 n)) q)
def F71 (d:OA)(a:Wd)(R:RT):Prop:=∃(I:Int->Int->Wd->Prop)(m:Int->Int->Wd->Nat),I (0:Int) (0:Int) a/\∀n i w1,I n i w1->F71_l3 d (fun n' i' w2=>I n' i' w2/\m n' i' w2<m n i w1) n i w1 R
theorem ok71 (d:OA){w:Wd}{R:RT} (h:F71 d w R):CL 71 #[.pointer d] w R:=
 vk ⟨36,⟨[]⟩,[(4,⟨[(3,(.s (.int .i64)))],[(3,4),(14,35)]⟩)],[(3,⟨[(3,(.s (.int .i64))),(4,(.s (.int .i64)))],[(3,35)]⟩)]⟩ Tryz.func71 h
def F96_j3 (n b:Int)(a:Wd)(R:RT):Prop:=R (.returned (.bool (b==n))) a
def F96_j2 (d:OA)(L1:Int->Wd->Prop)(j:Int)(g:Wd)(R:RT):Prop:=∃S:Wd->Prop,S g.drew/\NonNil d fun p15=>∃h b a,Held S p15 (.slice h b a)/\CL 89 #[.pointer d,.int .u64 j] g.drew (post R fun v c=>∃e,v=(.int .i64 e)/\S c/\IdxA h b e 8 fun f=>∃i,Held S (f.add 6) (.int .u64 i)/\L1 i c)
def F96_l1 (d:OA)(n:Int)(J3 L1:Int->Wd->Prop)(b:Int)(a:Wd)(R:RT):Prop:=∃J2:Wd->Prop,(∀w1,J2 w1->F96_j2 d L1 b w1 R)/\(Br (b != (0:Int)) (Br (b != n) (J2 a) (J3 b a)) (J3 b a))
def F96 (d:OA)(h_ n:Int)(a:Wd)(R:RT):Prop:=∃J3:Int->Wd->Prop,(∀h_2 w1,J3 h_2 w1->F96_j3 n h_2 w1 R)/\(∃(I:Int->Wd->Prop)(m:Int->Wd->Nat),I h_ a/\∀h_2 w1,I h_2 w1->F96_l1 d n J3 (fun h_2' w2=>I h_2' w2/\m h_2' w2<m h_2 w1) h_2 w1 R)
theorem ok96 (d:OA)(a n:Int){w:Wd}{R:RT} (h:F96 d a n w R):CL 96 #[.pointer d,.int .u64 a,.int .u64 n] w R:=
 vk ⟨27,⟨[]⟩,[(2,⟨[],[(7,14)]⟩),(3,⟨[(1,(.s (.int .u64)))],[(1,2),(7,24)]⟩)],[(1,⟨[(1,(.s (.int .u64)))],[(1,2),(7,24)]⟩)]⟩ Tryz.func96 h
def F68 (p:Int)(q:ByteArray)(r:OA)(s t:Nat)(u:ByteArray)(y:OA)(z aa:Nat)(n:Wd)(R:RT):Prop:=Al n #[.int .i64 p,.string q,.slice r s t,.string u,.slice y z aa] 48 fun g1 w1=>LdI .i64 (w1.cell? g1) fun f=>LdStr (w1.cell? (g1.add 1)) fun g=>LdSl (w1.cell? (g1.add 2)) fun e a d=>LdStr (w1.cell? (g1.add 3)) fun h=>LdSl (w1.cell? (g1.add 4)) fun m c b=>CL 122 #[.agg #[.int .i64 f,.string g,.slice e a d,.string h,.slice m c b],.int .i64 1,.int .i64 0] w1 (post R fun v j=>∃k i,v=(.tuple #[.int .i64 k,.int .i64 i])/\R (.returned (.int .i64 i)) j)
theorem ok68 (a:Int)(b:ByteArray)(c:OA)(d e:Nat)(f:ByteArray)(g:OA)(i j:Nat){w:Wd}{R:RT} (h:F68 a b c d e f g i j w R):CL 68 #[.agg #[.int .i64 a,.string b,.slice c d e,.string f,.slice g i j]] w R:=
 vk ⟨11,⟨[]⟩,[],[]⟩ Tryz.func68 h
def F141_j8 (l:OA)(lN:Nat)(L4:Int->Wd->Prop)(i:Int)(d:Wd)(R:RT):Prop:=IdxA l lN i 2 fun e=>LdStr (d.cell? (e.add 1)) fun c=>CL 94 #[.string c] d (post R fun v w1=>∃a b,v=(.tuple #[.int .i64 a,.int .i64 b])/\Br (b != (0:Int)) (R (.returned (.int .i64 b)) w1) (InR .i64 (i+(1:Int))/\L4 (i+(1:Int)) w1))
def F141_l4 (l:OA)(lN:Nat)(L4:Int->Wd->Prop)(i:Int)(h:Wd)(R:RT):Prop:=Br (decide (i<(lN:Int))) (∃J8:Wd->Prop,(∀w1,J8 w1->F141_j8 l lN L4 i w1 R)/\(∃S:Wd->Prop,S h.drew/\IdxA l lN i 2 fun f=>∃b,Held S f (.string b)/\CL 100 #[.string b] h.drew (post R fun v a=>∃g,v=(.bool g)/\S a/\Br (!g) (R (.returned (.int .i64 6)) a) (Br (decide (i > (0:Int))) (IdxA l lN i 2 fun d=>∃c,Held S d (.string c)/\InR .i64 (i-(1:Int))/\IdxA l lN (i-(1:Int)) 2 fun e=>∃j,Held S e (.string j)/\Br ((Op.bytesLess c.toList j.toList) || (c.toList==j.toList)) (R (.returned (.int .i64 6)) a) (J8 a)) (J8 a))))) (R (.returned (.int .i64 0)) h)
def F141 (l:OA)(lN lC:Nat)(a:Wd)(R:RT):Prop:=Br (decide ((lN:Int) > (32:Int))) (R (.returned (.int .i64 2)) a) (∃(I:Int->Wd->Prop)(m:Int->Wd->Nat),I (0:Int) a/\∀i w1,I i w1->F141_l4 l lN (fun i' w2=>I i' w2/\m i' w2<m i w1) i w1 R)
theorem ok141 (l:OA)(a b:Nat){w:Wd}{R:RT} (h:F141 l a b w R):CL 141 #[.slice l a b] w R:=
 vk ⟨52,⟨[]⟩,[(8,⟨[],[(2,3),(15,40)]⟩)],[(4,⟨[(3,(.s (.int .i64)))],[(2,52)]⟩)]⟩ Tryz.func141 h
def F122_l9 (t:Int)(r:OA)(n:Nat)(L9:Int->Int->Wd->Prop)(n2 i:Int)(s:Wd)(R:RT):Prop:=Br (decide (i<(n:Int))) (IdxA r n i 5 fun q=>LdI .i64 (s.cell? q) fun h=>LdStr (s.cell? (q.add 1)) fun e=>LdSl (s.cell? (q.add 2)) fun g d c=>LdStr (s.cell? (q.add 3)) fun m=>LdSl (s.cell? (q.add 4)) fun f b a=>InR .i64 (t+(1:Int))/\CL 122 #[.agg #[.int .i64 h,.string e,.slice g d c,.string m,.slice f b a],(.int .i64 (t+(1:Int))),.int .i64 n2] s (post R fun v3 p=>∃j k,v3=(.tuple #[.int .i64 j,.int .i64 k])/\Br (k != (0:Int)) (R (.returned (.tuple #[.int .i64 j,.int .i64 k])) p) (InR .i64 (i+(1:Int))/\L9 j (i+(1:Int)) p))) (R (.returned (.tuple #[.int .i64 n2,.int .i64 0])) s)
def F122_j3 (ab n:Int)(g3:Addr)(fa:Wd)(R:RT):Prop:=LdI .i64 (fa.cell? g3) fun y=>LdStr (fa.cell? (g3.add 1)) fun r=>LdSl (fa.cell? (g3.add 2)) fun z e c=>LdStr (fa.cell? (g3.add 3)) fun k=>LdSl (fa.cell? (g3.add 4)) fun s b h=>CL 88 #[.agg #[.int .i64 y,.string r,.slice z e c,.string k,.slice s b h]] fa (post R fun v da=>∃ga,v=(.int .i64 ga)/\Br (ga != (0:Int)) (R (.returned (.tuple #[.int .i64 n,.int .i64 ga])) da) (InR .i64 (n+(1:Int))/\LdI .i64 (da.cell? g3) fun u=>LdStr (da.cell? (g3.add 1)) fun p=>LdSl (da.cell? (g3.add 2)) fun j f a=>LdStr (da.cell? (g3.add 3)) fun q=>LdSl (da.cell? (g3.add 4)) fun t d g=>CL 123 #[.agg #[.int .i64 u,.string p,.slice j f a,.string q,.slice t d g]] da (post R fun v2 ea=>∃ha ba ca,v2=(.slice ha ba ca)/\∃(I:Int->Int->Wd->Prop)(m:Int->Int->Wd->Nat),I (n+(1:Int)) (0:Int) ea/\∀n2 i aa,I n2 i aa->F122_l9 ab ha ba (fun n2' i' w2=>I n2' i' w2/\m n2' i' w2<m n2 i aa) n2 i aa R)))
def F122 (c:Int)(d:ByteArray)(e:OA)(f g:Nat)(h:ByteArray)(i:OA)(j k:Nat)(m n:Int)(b:Wd)(R:RT):Prop:=Al b #[.int .i64 c,.string d,.slice e f g,.string h,.slice i j k] 48 fun g3 w1=>∃J3:Wd->Prop,(∀a,J3 a->F122_j3 m n g3 a R)/\(Br (decide (m > (64:Int))) (R (.returned (.tuple #[.int .i64 n,.int .i64 2])) w1) (Br (decide (n≥(4096:Int))) (R (.returned (.tuple #[.int .i64 n,.int .i64 2])) w1) (J3 w1)))
theorem ok122 (a:Int)(b:ByteArray)(c:OA)(d e:Nat)(f:ByteArray)(g:OA)(i j:Nat)(k n:Int){w:Wd}{R:RT} (h:F122 a b c d e f g i j k n w R):CL 122 #[.agg #[.int .i64 a,.string b,.slice c d e,.string f,.slice g i j],.int .i64 k,.int .i64 n] w R:=
 vk ⟨51,⟨[]⟩,[(3,⟨[],[(6,19)]⟩)],[(9,⟨[(2,(.s (.int .i64))),(10,(.s (.int .i64)))],[(2,8),(10,50)]⟩)]⟩ Tryz.func122 h
def F127_l2 (l:OA)(lN:Nat)(h_:Int)(L2:Int->Wd->Prop)(i:Int)(a:Wd)(R:RT):Prop:=Br (decide (i<(lN:Int))) (IdxA l lN i 1 fun b=>LdI .u64 (a.cell? b) fun c=>Br (c==h_) (R (.returned (.int .i64 i)) a) (InR .i64 (i+(1:Int))/\L2 (i+(1:Int)) a)) (R (.returned (.int .i64 (-1))) a)
def F127 (l:OA)(lN lC:Nat)(h_:Int)(a:Wd)(R:RT):Prop:=∃(I:Int->Wd->Prop)(m:Int->Wd->Nat),I (0:Int) a/\∀i w1,I i w1->F127_l2 l lN h_ (fun i' w2=>I i' w2/\m i' w2<m i w1) i w1 R
theorem ok127 (l:OA)(a b:Nat)(c:Int){w:Wd}{R:RT} (h:F127 l a b c w R):CL 127 #[.slice l a b,.int .u64 c] w R:=
 vk ⟨19,⟨[]⟩,[],[(2,⟨[(5,(.s (.int .i64)))],[(4,19)]⟩)]⟩ Tryz.func127 h
def F123 (f:Int)(g:ByteArray)(h:OA)(i j:Nat)(k:ByteArray)(m:OA)(n p:Nat)(c:Wd)(R:RT):Prop:=Al c #[.int .i64 f,.string g,.slice h i j,.string k,.slice m n p] 48 fun g1 w1=>LdI .i64 (w1.cell? g1) fun e=>Br (e==(1:Int)) (LdSl (w1.cell? (g1.add 4)) fun d b a=>R (.returned (.slice d b a)) w1) (R (.returned (.slice none 0 0)) w1)
theorem ok123 (a:Int)(b:ByteArray)(c:OA)(d e:Nat)(f:ByteArray)(g:OA)(i j:Nat){w:Wd}{R:RT} (h:F123 a b c d e f g i j w R):CL 123 #[.agg #[.int .i64 a,.string b,.slice c d e,.string f,.slice g i j]] w R:=
 vk ⟨8,⟨[]⟩,[],[]⟩ Tryz.func123 h
def F88 (p:Int)(q:ByteArray)(r:OA)(s t:Nat)(u:ByteArray)(y:OA)(z aa:Nat)(n:Wd)(R:RT):Prop:=Al n #[.int .i64 p,.string q,.slice r s t,.string u,.slice y z aa] 48 fun g1 w1=>LdI .i64 (w1.cell? g1) fun m=>Br (m==(1:Int)) (LdStr (w1.cell? (g1.add 1)) fun j=>CL 100 #[.string j] w1 (post R fun v f=>∃k,v=(.bool k)/\Br (!k) (R (.returned (.int .i64 6)) f) (LdSl (f.cell? (g1.add 2)) fun i d e=>CL 141 #[.slice i d e] f (post R fun v2 c=>∃g,v2=(.int .i64 g)/\R (.returned (.int .i64 g)) c)))) (Br (m==(2:Int)) (LdStr (w1.cell? (g1.add 3)) fun h=>CL 94 #[.string h] w1 (post R fun v f=>∃a b,v=(.tuple #[.int .i64 a,.int .i64 b])/\R (.returned (.int .i64 b)) f)) (R (.returned (.int .i64 1)) w1))
theorem ok88 (a:Int)(b:ByteArray)(c:OA)(d e:Nat)(f:ByteArray)(g:OA)(i j:Nat){w:Wd}{R:RT} (h:F88 a b c d e f g i j w R):CL 88 #[.agg #[.int .i64 a,.string b,.slice c d e,.string f,.slice g i j]] w R:=
 vk ⟨25,⟨[]⟩,[],[]⟩ Tryz.func88 h
def F69_j5 (L4:Int->Int->Int->Wd->Prop)(i n2 b:Int)(a:Wd)(R:RT):Prop:=InR .i64 (i+(1:Int))/\L4 n2 b (i+(1:Int)) a
def F69_l4 (t:OA)(p:Nat)(L4:Int->Int->Int->Wd->Prop)(n u i:Int)(s:Wd)(R:RT):Prop:=Br (decide (i<(p:Int))) (∃J5:Int->Int->Wd->Prop,(∀n2 deep2 q,J5 n2 deep2 q->F69_j5 L4 i n2 deep2 q R)/\(IdxA t p i 5 fun r=>LdI .i64 (s.cell? r) fun g=>LdStr (s.cell? (r.add 1)) fun k=>LdSl (s.cell? (r.add 2)) fun m b a=>LdStr (s.cell? (r.add 3)) fun h=>LdSl (s.cell? (r.add 4)) fun e c d=>CL 69 #[.agg #[.int .i64 g,.string k,.slice m b a,.string h,.slice e c d]] s (post R fun v2 q=>∃j f,v2=(.tuple #[.int .i64 j,.int .i64 f])/\InR .i64 (n+j)/\Br (decide (f > u)) (J5 (n+j) f q) (J5 (n+j) u q)))) (InR .i64 (u+(1:Int))/\R (.returned (.tuple #[.int .i64 n,(.int .i64 (u+(1:Int)))])) s)
def F69 (u:Int)(y:ByteArray)(z:OA)(aa ab:Nat)(ac:ByteArray)(ad:OA)(ae af:Nat)(t:Wd)(R:RT):Prop:=Al t #[.int .i64 u,.string y,.slice z aa ab,.string ac,.slice ad ae af] 48 fun g1 w1=>LdI .i64 (w1.cell? g1) fun g=>LdStr (w1.cell? (g1.add 1)) fun j=>LdSl (w1.cell? (g1.add 2)) fun h c d=>LdStr (w1.cell? (g1.add 3)) fun f=>LdSl (w1.cell? (g1.add 4)) fun e b a=>CL 123 #[.agg #[.int .i64 g,.string j,.slice h c d,.string f,.slice e b a]] w1 (post R fun v r=>∃s k q,v=(.slice s k q)/\∃(I:Int->Int->Int->Wd->Prop)(m:Int->Int->Int->Wd->Nat),I (1:Int) (0:Int) (0:Int) r/\∀n deep i p,I n deep i p->F69_l4 s k (fun n' deep' i' w2=>I n' deep' i' w2/\m n' deep' i' w2<m n deep i p) n deep i p R)
theorem ok69 (a:Int)(b:ByteArray)(c:OA)(d e:Nat)(f:ByteArray)(g:OA)(i j:Nat){w:Wd}{R:RT} (h:F69 a b c d e f g i j w R):CL 69 #[.agg #[.int .i64 a,.string b,.slice c d e,.string f,.slice g i j]] w R:=
 vk ⟨36,⟨[]⟩,[(5,⟨[(4,(.s (.int .i64))),(5,(.s (.int .i64)))],[(4,6),(8,33)]⟩)],[(4,⟨[(4,(.s (.int .i64))),(5,(.s (.int .i64))),(7,(.s (.int .i64)))],[(4,6),(7,33)]⟩)]⟩ Tryz.func69 h
end Go.Proofs.YtnbgiacnbheonaaGreatDoor
namespace Go.Proofs.YtnbgiacnbheonaaGreatDoor
open Go.RowKit Go.Vc
set_option linter.unusedSimpArgs false
theorem textC {f:FuncId}{s:ByteArray}{w:Wd}{R:RT} (hc:CL f #[.string s] w fun e w'=>e=.returned (.tuple #[.int .i64 (textS s).1,.int .i64 (textS s).2])/\Below w.heap.size w w')
  (h:∀w',Below w.heap.size w w'->R (.returned (.tuple #[.int .i64 (textS s).1,.int .i64 (textS s).2])) w'):CL f #[.string s] w R:=
 hc.mono fun e w' ⟨he,hb⟩=>by rw [he];exact h w' hb
theorem charsText_calls (s:ByteArray) {w:Wd} (hT:Tabs w) {R:RT} (h:∀w',Below w.heap.size w w'->R (.returned (.tuple #[.int .i64 (textS s).1,.int .i64 (textS s).2])) w'):CL 190 #[.string s] w R:=by
 refine ok190 s ?_
 unfold F190
 exact textC (text_calls s w hT) fun w' hb=>⟨_,_,rfl,h w' hb⟩
theorem refText_calls (s:ByteArray) {w:Wd}{R:RT} (h:∀w',Below w.heap.size w w'->R (.returned (.tuple #[.int .i64 (textS s).1,.int .i64 (textS s).2])) w'):CL 94 #[.string s] w R:=
 textC (textR_calls s w) h
def behindB (p:Option ByteArray) (a:ByteArray):Bool:=match p with
 | none=>true
 | some b=>!(Op.bytesLess a.toList b.toList || (a.toList == b.toList))
def attrsF:Option ByteArray->List At->Int
 | _,[]=>0
 | p,a :: l=>if isName a.nm=true then if behindB p a.nm=true then if (textS a.val).2=0 then attrsF (some a.nm) l else ((textS a.val).2:Nat) else 6 else 6
def attrF (l:List At):Int:=if 32<l.length then 2 else attrsF none l
def prevN (l:List At) (k:Nat):Option ByteArray:=if k=0 then none else (l[k-1]?).map (·.nm)
theorem prevN_succ {l:List At}{k:Nat} (h:k<l.length):prevN l (k+1)=some l[k].nm:=by
 unfold prevN;rw [if_neg om,nasc,gge h];rfl
theorem attrs_calls (l:List At) (v:Sv) {w:Wd}{R:RT} (hT:Tabs w) (hl:RR LAt w l v) (h:∀w',Below w.heap.size w w'->R (.returned (.int .i64 (attrF l))) w') :
  CL 204 #[.slice v.1 v.2.1 v.2.2] w R:=by
 obtain⟨z0,z1,z2⟩:=hl
 refine ok204 v.1 v.2.1 v.2.2 ?_
 unfold F204
 unfold attrF at h
 refine brd (fun hgt=>?_) (fun hle=>?_)
 ·rw [if_pos om] at h;exact h w (Below.refl _ _)
 rw [if_neg om] at h
 refine⟨fun i w'=>∃k:Nat,i=k/\k<=l.length/\Below w.heap.size w w'/\attrsF (prevN l k) (l.drop k)=attrsF none l,fun i _=>l.length-i.toNat,⟨0,rfl,om,Below.refl _ _,by simp [prevN]⟩,?_⟩
 rintro i w1 ⟨k,rfl,hk,hb1,hF⟩
 unfold F204_l4
 refine brd (fun hlt=>?_) (fun hge=>?_)
 ·have hk2:k<l.length:=by omega
  rw [dgc hk2,attrsF] at hF
  refine (z2.keep hb1).at2 z1 rfl (k:=k) hk2 fun b o c0 c1=>?_
  simp only [c0,c1,lds]
  refine al fun ga w2 hb2 b2 hge2=>?_
  refine st_blk b2 sm fun w3 b3 f3=>st_blk b3 sm fun w4 b4 f4=>?_
  simp only [sls] at b4
  have D4:Below w1.heap.size w1 w4:=hb2.trans ((Fm.trans f3 f4:Fm (·=ga) w2 w4).toBelow hb2.size fun b hb e=>by have e:b=ga:=e;omega)
  have B4:=btr hb1 hb1.size D4
  refine⟨fun w'=>Below w4.heap.size w4 w'/\isName l[k].nm=true/\behindB (prevN l k) l[k].nm=true,?_,?_⟩
  ·rintro w5 ⟨hb5,hn,hbh⟩
   unfold F204_j8
   have b5:=b4.keep hb5
   have B5:=btr B4 B4.size hb5
   rw [if_pos hn,if_pos hbh] at hF
   simp only [b5.cell,lds]
   refine charsText_calls l[k].val (hT.keep B5) fun w6 hb6=>⟨_,_,rfl,?_⟩
   have B6:=btr B5 B5.size hb6
   refine brn (fun hne=>?_) (fun he=>?_)
   ·rw [if_neg om] at hF
    rw [hF];exact h w6 B6
   ·rw [if_pos om] at hF
    exact⟨inR_i64 om om,⟨k+1,sm,om,B6,by rw [prevN_succ hk2];exact hF⟩,odz⟩
  ·have hd:Below w4.heap.size w4 w4.drew:=(Below.refl _ _).drew
   refine⟨fun w'=>Below w4.heap.size w4 w',hd,?_⟩
   refine⟨_,fun w2 h2=>by rw [(b4.keep h2).cell];rfl,?_⟩
   refine name_calls ⟨_,rfl,hd,?_⟩
   rw [brnot]
   refine br (fun hn=>?_) (fun hn=>?_)
   ·refine brd (fun hpos=>?_) (fun hz=>?_)
    ·refine⟨_,fun w2 h2=>by rw [(b4.keep h2).cell];rfl,inR_i64 om om,?_⟩
     refine (z2.keep B4).at2H (fun _ h=>h) z1 (show (k:Int)-1=((k-1:Nat):Int) by omega) om fun b o d0 d1=>⟨_,d0,?_⟩
     have hpv:prevN l k=some l[k-1].nm:=by unfold prevN;rw [if_neg om,gge om];rfl
     refine br (fun hb=>?_) (fun hb=>⟨hd,hn,by rw [hpv];show (!(_ || _))=true;rw [hb];rfl⟩)
     rw [if_pos hn,if_neg (by rw [hpv];show ¬(!(_ || _))=true;rw [hb];decide)] at hF
     rw [hF];exact h _ (btr B4 B4.size hd)
    ·refine⟨hd,hn,?_⟩
     have:k=0:=by omega
     subst this;simp [prevN,behindB]
   ·rw [if_neg (by rw [hn];decide)] at hF
    rw [hF];exact h _ (btr B4 B4.size hd)
 ·have hk2:k=l.length:=by omega
  subst hk2
  rw [List.drop_length,attrsF] at hF
  rw [hF];exact h w1 hb1
theorem attrs2_calls (l:List At) (v:Sv) {w:Wd}{R:RT} (hl:RR LAt w l v) (h:∀w',Below w.heap.size w w'->R (.returned (.int .i64 (attrF l))) w') :
  CL 141 #[.slice v.1 v.2.1 v.2.2] w R:=by
 obtain⟨z0,z1,z2⟩:=hl
 refine ok141 v.1 v.2.1 v.2.2 ?_
 unfold F141
 unfold attrF at h
 refine brd (fun hgt=>?_) (fun hle=>?_)
 ·rw [if_pos om] at h;exact h w (Below.refl _ _)
 rw [if_neg om] at h
 refine⟨fun i w'=>∃k:Nat,i=k/\k<=l.length/\Below w.heap.size w w'/\attrsF (prevN l k) (l.drop k)=attrsF none l,fun i _=>l.length-i.toNat,⟨0,rfl,om,Below.refl _ _,by simp [prevN]⟩,?_⟩
 rintro i w1 ⟨k,rfl,hk,hb1,hF⟩
 unfold F141_l4
 refine brd (fun hlt=>?_) (fun hge=>?_)
 ·have hk2:k<l.length:=by omega
  rw [dgc hk2,attrsF] at hF
  refine⟨fun w'=>Below w1.heap.size w1 w'/\isName l[k].nm=true/\behindB (prevN l k) l[k].nm=true,?_,?_⟩
  ·rintro w5 ⟨hb5,hn,hbh⟩
   unfold F141_j8
   have B5:=btr hb1 hb1.size hb5
   rw [if_pos hn,if_pos hbh] at hF
   refine (z2.keep B5).at2 z1 rfl (k:=k) hk2 fun b o c0 c1=>?_
   simp only [c0,c1,lds]
   refine refText_calls l[k].val fun w6 hb6=>⟨_,_,rfl,?_⟩
   have B6:=btr B5 B5.size hb6
   refine brn (fun hne=>?_) (fun he=>?_)
   ·rw [if_neg om] at hF
    rw [hF];exact h w6 B6
   ·rw [if_pos om] at hF
    exact⟨inR_i64 om om,⟨k+1,sm,om,B6,by rw [prevN_succ hk2];exact hF⟩,odz⟩
  ·have hd:Below w1.heap.size w1 w1.drew:=(Below.refl _ _).drew
   refine⟨fun w'=>Below w1.heap.size w1 w',hd,?_⟩
   refine (z2.keep hb1).at2H (fun _ h=>h) z1 rfl (k:=k) hk2 fun b o d0 d1=>⟨_,d0,?_⟩
   refine name2_calls ⟨_,rfl,hd,?_⟩
   rw [brnot]
   refine br (fun hn=>?_) (fun hn=>?_)
   ·refine brd (fun hpos=>?_) (fun hz=>?_)
    ·refine (z2.keep hb1).at2H (fun _ h=>h) z1 rfl (k:=k) hk2 fun b o d0 d1=>⟨_,d0,inR_i64 om om,?_⟩
     refine (z2.keep hb1).at2H (fun _ h=>h) z1 (show (k:Int)-1=((k-1:Nat):Int) by omega) om fun b o d0 d1=>⟨_,d0,?_⟩
     have hpv:prevN l k=some l[k-1].nm:=by unfold prevN;rw [if_neg om,gge om];rfl
     refine br (fun hb=>?_) (fun hb=>⟨hd,hn,by rw [hpv];show (!(_ || _))=true;rw [hb];rfl⟩)
     rw [if_pos hn,if_neg (by rw [hpv];show ¬(!(_ || _))=true;rw [hb];decide)] at hF
     rw [hF];exact h _ (btr hb1 hb1.size hd)
    ·refine⟨hd,hn,?_⟩
     have:k=0:=by omega
     subst this;simp [prevN,behindB]
   ·rw [if_neg (by rw [hn];decide)] at hF
    rw [hF];exact h _ (btr hb1 hb1.size hd)
 ·have hk2:k=l.length:=by omega
  subst hk2
  rw [List.drop_length,attrsF] at hF
  rw [hF];exact h w1 hb1
def ownF (kind:Int) (nm:ByteArray) (l:List At) (t:ByteArray):Int:=if kind=1 then if isName nm=true then attrF l else 6 else if kind=2 then ((textS t).2:Nat) else 1
theorem own1_calls (kind:Int) (nm:ByteArray) (l:List At) (v:Sv) (t:ByteArray) (u:Sv) {w:Wd}{R:RT} (hT:Tabs w) (hl:RR LAt w l v) (h:∀w',Below w.heap.size w w'->R (.returned (.int .i64 (ownF kind nm l t))) w') :
  CL 167 #[.agg #[.int .i64 kind,.string nm,.slice v.1 v.2.1 v.2.2,.string t,.slice u.1 u.2.1 u.2.2]] w R:=by
 refine ok167 kind nm v.1 v.2.1 v.2.2 t u.1 u.2.1 u.2.2 ?_
 unfold F167
 unfold ownF at h
 refine al fun g w1 hb1 b1 hge=>?_
 simp only [b1.cell,lds]
 refine bre (fun hk=>?_) (fun hk=>?_)
 ·rw [if_pos hk] at h
  refine name_calls ⟨_,rfl,?_⟩
  rw [brnot]
  refine br (fun hn=>?_) (fun hn=>?_)
  ·rw [if_pos hn] at h
   simp only [b1.cell,lds]
   exact attrs_calls l v (hT.keep hb1) (hl.keep hb1) fun w2 hb2=>⟨_,rfl,h w2 (btr hb1 hb1.size hb2)⟩
  ·rw [if_neg (by rw [hn];decide)] at h
   exact h w1 hb1
 ·rw [if_neg hk] at h
  refine bre (fun hk2=>?_) (fun hk2=>?_)
  ·rw [if_pos hk2] at h
   exact charsText_calls t (hT.keep hb1) fun w2 hb2=>⟨_,_,rfl,h w2 (btr hb1 hb1.size hb2)⟩
  ·rw [if_neg hk2] at h
   exact h w1 hb1
theorem own2_calls (kind:Int) (nm:ByteArray) (l:List At) (v:Sv) (t:ByteArray) (u:Sv) {w:Wd}{R:RT} (hl:RR LAt w l v) (h:∀w',Below w.heap.size w w'->R (.returned (.int .i64 (ownF kind nm l t))) w') :
  CL 88 #[.agg #[.int .i64 kind,.string nm,.slice v.1 v.2.1 v.2.2,.string t,.slice u.1 u.2.1 u.2.2]] w R:=by
 refine ok88 kind nm v.1 v.2.1 v.2.2 t u.1 u.2.1 u.2.2 ?_
 unfold F88
 unfold ownF at h
 refine al fun g w1 hb1 b1 hge=>?_
 simp only [b1.cell,lds]
 refine bre (fun hk=>?_) (fun hk=>?_)
 ·rw [if_pos hk] at h
  refine name2_calls ⟨_,rfl,?_⟩
  rw [brnot]
  refine br (fun hn=>?_) (fun hn=>?_)
  ·rw [if_pos hn] at h
   simp only [b1.cell,lds]
   exact attrs2_calls l v (hl.keep hb1) fun w2 hb2=>⟨_,rfl,h w2 (btr hb1 hb1.size hb2)⟩
  ·rw [if_neg (by rw [hn];decide)] at h
   exact h w1 hb1
 ·rw [if_neg hk] at h
  refine bre (fun hk2=>?_) (fun hk2=>?_)
  ·rw [if_pos hk2] at h
   exact refText_calls t fun w2 hb2=>⟨_,_,rfl,h w2 (btr hb1 hb1.size hb2)⟩
  ·rw [if_neg hk2] at h
   exact h w1 hb1
theorem apC {P:Program}{α:Type}{L:Lay α}{e t ty:TypeId} (z:Value) (bytes:Nat) (ht:P.underlying t=some (.slice e)) (hinfo:(P.info? e).map (fun i=>(i.zero,i.size,i.bytes))=some (some z,L.n,bytes)) (hz:z.cells.size=L.n)
  (hby:bytes<=134217728) {u:Wd}{l:List α}{v:Sv} (hv:RR L u l v) {j:Nat} (hj:j<=u.heap.size) {g:Addr}{K:Value->Wd->Prop}
  (hK:∀v' u',Below u.heap.size u u'->RR L (above j u') l v'->K (.slice v'.1 v'.2.1 v'.2.2) u'):Raw P (Builtin.append_ #[t,t] ty #[.slice (some g) 0 0,.slice v.1 v.2.1 v.2.2]) u K:=by
 obtain⟨h1,h2,h3⟩:=hv
 have hm:l.length*bytes<=1048576*134217728:=Nat.mul_le_mul h1 hby
 refine ap (L:=L) (xs:=[]) (ys:=l) (base:=u.heap.size) z bytes h2 ht hinfo hz (Own.bare _ _ _ _ _) h3 (nlr _) (by simp only [List.length_nil,nza];omega) (by simp [maxLen];omega) fun A' c' w1 o1 g1=>?_
 refine hK (A',_,c') w1 g1.below ⟨h1,sm,?_⟩
 have:=(own_above o1 hj).rd.2
 simpa using this
theorem nodup_sub {α:Type} [DecidableEq α]:∀{a b:List α},a.Nodup->(∀x∈a,x∈b)->a.length<=b.length
 | [],_,_,_=>by simp
 | x :: a,b,h,hs=>by
  have h2:=List.nodup_cons.1 h
  have hx:x∈b:=hs x sm
  have ih:=nodup_sub (b:=b.erase x) h2.2 fun y hy=>by
   have hne:y≠x:=fun e=>h2.1 (e ▸ hy)
   exact (List.mem_erase_of_ne hne).2 (hs y (by simp [hy]))
  rw [List.length_erase_of_mem hx] at ih
  have:0<b.length:=lpm hx
  rw [lcn];omega
def noB:ByteArray:=⟨#[]⟩
theorem rr_nil {α:Type}{L:Lay α}{w:Wd}:RR L w [] (none,0,0):=⟨sm,rfl,⟨sm,by simp [maxLen],fun _=>rfl,fun h=>by simp at h⟩⟩
def newOr (ok:Nat->Bool) (k:Nat) (w:Wd):Wd:=wOnly (fun b=>ok b || Nat.ble k b) w
theorem old_but {w w':Wd}{g:Nat} (hb:Below w.heap.size w w') (hg:w.heap.size<=g):Sub w (but g w'):=fun b c t fr hc=>by
 have hlt:=(agi.1 hc).1
 have hne:Nat.beq b g=false:=by
  cases h:Nat.beq b g with
  | false=>rfl
  | true=>have:=nbe h;omega
 exact cells_only (by rw [hne];rfl) (by rw [hb.block b hlt];exact hc)
--PURE
inductive Tr where
 | mk (kind:Int) (nm:ByteArray) (attrs:List At) (text:ByteArray) (kids:List Tr)
def slA (sl:List Sl) (h:Nat):Option Sl:=(atF sl h).bind (sl[·]?)
theorem atF_iff {sl:List Sl}{h k:Nat}:atF sl h=some k↔h % 4294967296=k+1/\∃s,sl[k]?=some s/\s.live=true/\hnd s.gen k=h:=by
 unfold atF
 constructor
 ·intro e
  by_cases h0:h % 4294967296=0
  ·rw [if_pos h0] at e;cases e
  ·rw [if_neg h0] at e
   cases hs:sl[h % 4294967296-1]? with
   | none=>rw [hs] at e;cases e
   | some s=>
    rw [hs] at e
    simp only at e
    by_cases hc:s.live=true/\hnd s.gen (h % 4294967296-1)=h
    ·rw [if_pos hc] at e
     cases e
     exact⟨om,s,hs,hc.1,hc.2⟩
    ·rw [if_neg hc] at e;cases e
 ·rintro ⟨h1,s,h2,h3,h4⟩
  rw [if_neg om,h1,nasc,h2]
  simp only
  rw [if_pos ⟨h3,h4⟩]
theorem slA_iff {sl:List Sl}{h:Nat}{s:Sl}:slA sl h=some s↔∃k,h % 4294967296=k+1/\sl[k]?=some s/\s.live=true/\hnd s.gen k=h:=by
 unfold slA
 constructor
 ·intro e
  cases ha:atF sl h with
  | none=>rw [ha] at e;cases e
  | some k=>
   rw [ha] at e
   obtain⟨h1,t,h2,h3,h4⟩:=atF_iff.1 ha
   have:sl[k]?=some s:=e
   rw [h2] at this;cases this
   exact⟨k,h1,h2,h3,h4⟩
 ·rintro ⟨k,h1,h2,h3,h4⟩
  rw [atF_iff.2 ⟨h1,s,h2,h3,h4⟩];exact h2
theorem hnd_mod {g k:Nat} (hk:k+1<4294967296):hnd g k % 4294967296=k+1:=by
 unfold hnd;omega
theorem slA_hnd {sl:List Sl}{k:Nat}{s:Sl} (hk:k+1<4294967296) (h:sl[k]?=some s) (hl:s.live=true):slA sl (hnd s.gen k)=some s:=
 slA_iff.2 ⟨k,hnd_mod hk,h,hl,rfl⟩
theorem slA_zero (sl:List Sl):slA sl 0=none:=by
 cases h:slA sl 0 with
 | none=>rfl
 | some s=>obtain⟨k,h1,-⟩:=slA_iff.1 h;simp at h1
theorem slA_at {sl:List Sl}{h k:Nat}{s:Sl} (ha:atF sl h=some k) (hs:sl[k]?=some s):slA sl h=some s:=by unfold slA;rw [ha];exact hs
theorem atF_slA {sl:List Sl}{h:Nat}{s:Sl} (hs:slA sl h=some s):∃k,atF sl h=some k/\sl[k]?=some s:=by
 obtain⟨k,h1,h2,h3,h4⟩:=slA_iff.1 hs
 exact⟨k,atF_iff.2 ⟨h1,s,h2,h3,h4⟩,h2⟩
theorem atF_none {sl:List Sl}{h:Nat}:atF sl h=none↔slA sl h=none:=by
 constructor
 ·intro e;unfold slA;rw [e];rfl
 ·intro e
  cases ha:atF sl h with
  | none=>rfl
  | some k=>
   obtain⟨h1,s,h2,h3,h4⟩:=atF_iff.1 ha
   rw [slA_at ha h2] at e;cases e
theorem slA_set {sl:List Sl}{h:Nat}{s s':Sl}{k:Nat} (hk:h % 4294967296=k+1) (hs:slA sl h=some s) (hg:s'.gen=s.gen) (hl:s'.live=true) (x:Nat) :
  slA (sl.set k s') x=if x=h then some s' else slA sl x:=by
 obtain⟨k',h1,h2,h3,h4⟩:=slA_iff.1 hs
 obtain rfl:k'=k:=by omega
 have hlt:k' < sl.length:=(gsi.1 h2).1
 by_cases e:x=h
 ·subst e
  rw [if_pos rfl]
  exact slA_iff.2 ⟨k',h1,by simp [hlt],hl,by rw [hg];exact h4⟩
 ·rw [if_neg e]
  cases hx:slA sl x with
  | none=>
   cases hy:slA (sl.set k' s') x with
   | none=>rfl
   | some t=>
    obtain⟨j,j1,j2,j3,j4⟩:=slA_iff.1 hy
    by_cases ej:k'=j
    ·subst ej
     rw [List.getElem?_set_self hlt] at j2
     cases j2
     rw [hg,h4] at j4;exact absurd j4.symm e
    ·rw [gsn ej] at j2
     rw [slA_iff.2 ⟨j,j1,j2,j3,j4⟩] at hx;cases hx
  | some t=>
   obtain⟨j,j1,j2,j3,j4⟩:=slA_iff.1 hx
   refine slA_iff.2 ⟨j,j1,?_,j3,j4⟩
   rw [gsn,j2]
   rintro rfl
   rw [h2] at j2;cases j2
   exact e (j4.symm.trans h4)
def lstA (A:Nat->Option Sl) (roots:List Nat) (p:Nat):List Nat:=if p=0 then roots else match A p with | some s=>s.kids | none=>[]
inductive Ch (A:Nat->Option Sl):Nat->Nat->Prop where
 | zero:Ch A 0 0
 | succ {h c:Nat}{s:Sl}:h≠0->A h=some s->Ch A s.parent c->Ch A h (c+1)
theorem Ch.fn {A:Nat->Option Sl}{h c d:Nat} (h1:Ch A h c) (h2:Ch A h d):c=d:=by
 induction h1 generalizing d with
 | zero=>cases h2 with
  | zero=>rfl
  | succ h0=>exact absurd rfl h0
 | succ h0 ha _ ih=>cases h2 with
  | zero=>exact absurd rfl h0
  | succ _ hb hc=>rw [ha] at hb;cases hb;rw [ih hc]
theorem Ch.mono {A B:Nat->Option Sl}{h c:Nat} (hk:∀x s,A x=some s->∃t,B x=some t/\t.parent=s.parent) (h1:Ch A h c):Ch B h c:=by
 induction h1 with
 | zero=>exact .zero
 | succ h0 ha _ ih=>
  obtain⟨t,h2,h3⟩:=hk _ _ ha
  exact .succ h0 h2 (by rw [h3];exact ih)
inductive Wi (A:Nat->Option Sl) (h:Nat):Nat->Prop where
 | self:Wi A h h
 | up {x:Nat}{s:Sl}:A x=some s->Wi A h s.parent->Wi A h x
def updA (A:Nat->Option Sl) (h:Nat) (s:Option Sl):Nat->Option Sl:=fun x=>if x=h then s else A x
theorem updA_self (A:Nat->Option Sl) (h:Nat) (s:Option Sl):updA A h s h=s:=by unfold updA;rw [if_pos rfl]
theorem updA_ne {A:Nat->Option Sl}{h x:Nat}{s:Option Sl} (e:x≠h):updA A h s x=A x:=by unfold updA;rw [if_neg e]
def okSl (s:Sl):Prop:=ownF s.kind s.nm s.attrs s.text=0/\(s.kind=1/\s.text=noB\/s.kind=2/\s.nm=noB/\s.attrs=[]/\s.kids=[])
structure WfA (A:Nat->Option Sl) (roots loose:List Nat):Prop where
 zero:A 0=none
 ok:∀h s,A h=some s->okSl s
 par:∀h s,A h=some s->s.parent=0\/∃t,A s.parent=some t/\t.kind=1
 chain:∀h s,A h=some s->∃c,c<=64/\Ch A h c
 kid:∀h s,A h=some s->s.kids.Nodup/\∀x∈s.kids,x∉loose/\∃t,A x=some t/\t.parent=h
 root:roots.Nodup/\∀x∈roots,x∉loose/\∃t,A x=some t/\t.parent=0
 mem:∀h s,A h=some s->h∉loose->h∈lstA A roots s.parent
 lo:∀h∈loose,∃s,A h=some s
section
variable {A:Nat->Option Sl}{roots loose:List Nat}
theorem WfA.lst (h:WfA A roots loose) (p:Nat):(lstA A roots p).Nodup/\∀x∈lstA A roots p,x∉loose/\∃t,A x=some t/\t.parent=p:=by
 unfold lstA
 by_cases h0:p=0
 ·subst h0;rw [if_pos rfl];exact h.root
 ·rw [if_neg h0]
  cases ha:A p with
  | none=>simp
  | some s=>exact h.kid p s ha
theorem lstA_some {p:Nat}{s:Sl} (h0:p≠0) (h:A p=some s):lstA A roots p=s.kids:=by unfold lstA;rw [if_neg h0,h]
theorem lstA_zero:lstA A roots 0=roots:=by unfold lstA;rw [if_pos rfl]
theorem WfA.ne0 (h:WfA A roots loose) {x:Nat}{s:Sl} (hx:A x=some s):x≠0:=fun e=>by subst e;rw [h.zero] at hx;cases hx
theorem WfA.fresh (h:WfA A roots loose) {n p c:Nat}{s:Sl} (h0:n≠0) (hn:A n=none) (hs:okSl s) (hk:s.kids=[]) (hp:s.parent=p) (hpk:p=0\/∃t,A p=some t/\t.kind=1) (hc:Ch A p c) (hc2:c+1<=64) :
  WfA (updA A n (some s)) roots (n :: loose):=by
 have hext:∀x t,A x=some t->updA A n (some s) x=some t:=fun x t hx=>by
  rw [updA_ne];exact hx
  rintro rfl;rw [hn] at hx;cases hx
 have hext2:∀x t,A x=some t->∃u,updA A n (some s) x=some u/\u.parent=t.parent:=fun x t hx=>⟨t,hext x t hx,rfl⟩
 have hold:∀x t,updA A n (some s) x=some t->(x=n/\t=s)\/A x=some t:=fun x t hx=>by
  by_cases e:x=n
  ·subst e;rw [updA_self] at hx;cases hx;exact .inl ⟨rfl,rfl⟩
  ·rw [updA_ne e] at hx;exact .inr hx
 have hpar:∀q,(q=0\/∃t,A q=some t/\t.kind=1)->(q=0\/∃t,updA A n (some s) q=some t/\t.kind=1):=fun q hq=>by
  rcases hq with hq | ⟨t,h1,h2⟩
  ·exact .inl hq
  ·exact .inr ⟨t,hext _ _ h1,h2⟩
 refine⟨by rw [updA_ne (Ne.symm h0)];exact h.zero,fun x t hx=>?_,fun x t hx=>?_,fun x t hx=>?_,fun x t hx=>?_,⟨h.root.1,fun x hx=>?_⟩,fun x t hx hl=>?_,fun x hx=>?_⟩
 rotate_right
 ·rcases mcn.1 hx with rfl | hx
  ·exact⟨s,updA_self _ _ _⟩
  ·obtain⟨t,ht⟩:=h.lo x hx
   exact⟨t,hext _ _ ht⟩
 ·rcases hold x t hx with ⟨rfl,rfl⟩ | hx
  ·exact hs
  ·exact h.ok x t hx
 ·rcases hold x t hx with ⟨rfl,rfl⟩ | hx
  ·rw [hp];exact hpar _ hpk
  ·exact hpar _ (h.par x t hx)
 ·rcases hold x t hx with ⟨rfl,rfl⟩ | hx
  ·exact⟨c+1,hc2,.succ h0 (updA_self _ _ _) (by rw [hp];exact hc.mono hext2)⟩
  ·obtain⟨d,h1,h2⟩:=h.chain x t hx
   exact⟨d,h1,h2.mono hext2⟩
 ·rcases hold x t hx with ⟨rfl,rfl⟩ | hx
  ·rw [hk];simp
  ·obtain⟨h1,h2⟩:=h.kid x t hx
   refine⟨h1,fun y hy=>?_⟩
   obtain⟨h3,u,h4,h5⟩:=h2 y hy
   refine⟨?_,u,hext _ _ h4,h5⟩
   simp only [mcn,not_or]
   exact⟨fun e=>(by subst e;rw [hn] at h4;cases h4),h3⟩
 ·obtain⟨h3,u,h4,h5⟩:=h.root.2 x hx
  refine⟨?_,u,hext _ _ h4,h5⟩
  simp only [mcn,not_or]
  exact⟨fun e=>(by subst e;rw [hn] at h4;cases h4),h3⟩
 ·simp only [mcn,not_or] at hl
  rcases hold x t hx with ⟨rfl,rfl⟩ | hx
  ·exact absurd rfl hl.1
  ·have h1:=h.mem x t hx hl.2
   rcases h.par x t hx with h2 | ⟨u,h2,-⟩
   ·rw [h2,lstA_zero] at h1 |-;exact h1
   ·rw [lstA_some (h.ne0 h2) h2] at h1
    rw [lstA_some (h.ne0 h2) (hext _ _ h2)];exact h1
def setA (A:Nat->Option Sl) (p:Nat) (l:List Nat):Nat->Option Sl:=fun x=>if x=p/\p≠0 then (A x).map fun s=>{ s with kids:=l } else A x
def setR (roots:List Nat) (p:Nat) (l:List Nat):List Nat:=if p=0 then l else roots
theorem setA_some {p x:Nat}{l:List Nat}{t:Sl} (h:setA A p l x=some t):∃s,A x=some s/\t=(if x=p/\p≠0 then { s with kids:=l } else s):=by
 unfold setA at h
 by_cases e:x=p/\p≠0
 ·rw [if_pos e] at h
  obtain⟨s,h1,h2⟩:=Option.map_eq_some_iff.1 h
  exact⟨s,h1,by rw [if_pos e];exact h2.symm⟩
 ·rw [if_neg e] at h
  exact⟨t,h,by rw [if_neg e]⟩
theorem setA_of {p x:Nat}{l:List Nat}{s:Sl} (h:A x=some s):setA A p l x=some (if x=p/\p≠0 then { s with kids:=l } else s):=by
 unfold setA
 by_cases e:x=p/\p≠0
 ·rw [if_pos e,if_pos e,h];rfl
 ·rw [if_neg e,if_neg e,h]
theorem setA_of' {p x:Nat}{l:List Nat}{s:Sl} (h:A x=some s):∃t,setA A p l x=some t/\t.parent=s.parent/\t.kind=s.kind:=by
 refine⟨_,setA_of h,?_,?_⟩ <;> split <;> rfl
theorem lst_setA {p q:Nat}{l:List Nat} (hq:q=0\/∃s,A q=some s) (h0:A 0=none):lstA (setA A p l) (setR roots p l) q=if q=p then l else lstA A roots q:=by
 unfold lstA setR
 by_cases e:q=0
 ·subst e
  rw [if_pos rfl]
  by_cases e2:p=0
  ·subst e2;simp
  ·rw [if_neg e2,if_neg (Ne.symm e2),if_pos rfl]
 ·rw [if_neg e,if_neg e]
  rcases hq with hq | ⟨s,hs⟩
  ·exact absurd hq e
  ·rw [setA_of hs,hs]
   simp only
   by_cases e2:q=p
   ·subst e2;rw [if_pos ⟨rfl,e⟩,if_pos rfl]
   ·rw [if_neg (fun h=>e2 h.1),if_neg e2]
theorem WfA.setL (h:WfA A roots loose) {p:Nat}{l:List Nat}{loose':List Nat} (hp:p=0\/∃t,A p=some t/\t.kind=1) (hn:l.Nodup) (hl:∀x∈l,x∉loose'/\∃t,A x=some t/\t.parent=p)
  (hm:∀x s,A x=some s->s.parent=p->x∉loose'->x∈l) (ho:∀x s,A x=some s->s.parent≠p->(x∈loose'↔x∈loose)) (hlo:∀x∈loose',∃s,A x=some s):WfA (setA A p l) (setR roots p l) loose':=by
 have hpe:∀q,(q=0\/∃t,A q=some t/\t.kind=1)->(q=0\/∃t,setA A p l q=some t/\t.kind=1):=fun q hq=>by
  rcases hq with hq | ⟨t,h1,h2⟩
  ·exact .inl hq
  ·obtain⟨u,h3,h4,h5⟩:=setA_of' (p:=p) (l:=l) h1
   exact .inr ⟨u,h3,by rw [h5,h2]⟩
 have hch:∀x s,A x=some s->∃t,setA A p l x=some t/\t.parent=s.parent:=fun x s hx=>by
  obtain⟨u,h3,h4,h5⟩:=setA_of' (p:=p) (l:=l) hx
  exact⟨u,h3,h4⟩
 refine⟨by unfold setA;rw [if_neg (by rintro ⟨e,h2⟩;exact h2 e.symm)];exact h.zero,fun x t hx=>?_,fun x t hx=>?_,fun x t hx=>?_,fun x t hx=>?_,?_,fun x t hx hlo=>?_,fun x hx=>?_⟩
 rotate_right
 ·obtain⟨s,hs⟩:=hlo x hx
  exact⟨_,setA_of hs⟩
 ·obtain⟨s,h1,rfl⟩:=setA_some hx
  have h2:=h.ok x s h1
  split
  ·rename_i e
   rcases hp with hp | ⟨t,h3,h4⟩
   ·exact absurd hp e.2
   ·rw [<-e.1,h1] at h3;cases h3
    obtain⟨h5,h6⟩:=h2
    refine⟨h5,.inl ⟨h4,?_⟩⟩
    rcases h6 with h6 | h6
    ·exact h6.2
    ·rw [h4] at h6;exact absurd h6.1 dc
  ·exact h2
 ·obtain⟨s,h1,rfl⟩:=setA_some hx
  have:(if x=p/\p≠0 then { s with kids:=l } else s).parent=s.parent:=by split <;> rfl
  rw [this]
  exact hpe _ (h.par x s h1)
 ·obtain⟨s,h1,rfl⟩:=setA_some hx
  obtain⟨c,h2,h3⟩:=h.chain x s h1
  exact⟨c,h2,h3.mono hch⟩
 ·obtain⟨s,h1,rfl⟩:=setA_some hx
  split
  ·rename_i e
   refine⟨hn,fun y hy=>?_⟩
   obtain⟨h3,u,h4,h5⟩:=hl y hy
   obtain⟨v,h6,h7⟩:=hch y u h4
   exact⟨h3,v,h6,by rw [h7,h5,e.1]⟩
  ·rename_i e
   obtain⟨h2,h3⟩:=h.kid x s h1
   refine⟨h2,fun y hy=>?_⟩
   obtain⟨h4,u,h5,h6⟩:=h3 y hy
   obtain⟨v,h7,h8⟩:=hch y u h5
   refine⟨fun hy2=>h4 ((ho y u h5 ?_).1 hy2),v,h7,by rw [h8,h6]⟩
   rw [h6]
   rintro rfl
   exact e ⟨rfl,h.ne0 h1⟩
 ·unfold setR
  split
  ·rename_i e
   refine⟨hn,fun y hy=>?_⟩
   obtain⟨h3,u,h4,h5⟩:=hl y hy
   obtain⟨v,h6,h7⟩:=hch y u h4
   exact⟨h3,v,h6,by rw [h7,h5,e]⟩
  ·rename_i e
   refine⟨h.root.1,fun y hy=>?_⟩
   obtain⟨h4,u,h5,h6⟩:=h.root.2 y hy
   obtain⟨v,h7,h8⟩:=hch y u h5
   exact⟨fun hy2=>h4 ((ho y u h5 (by rw [h6];exact Ne.symm e)).1 hy2),v,h7,by rw [h8,h6]⟩
 ·obtain⟨s,h1,rfl⟩:=setA_some hx
  have hpe2:(if x=p/\p≠0 then { s with kids:=l } else s).parent=s.parent:=by split <;> rfl
  rw [hpe2]
  rw [lst_setA ((h.par x s h1).imp id fun⟨t,h2,_⟩=>⟨t,h2⟩) h.zero]
  by_cases e:s.parent=p
  ·rw [if_pos e];exact hm x s h1 e hlo
  ·rw [if_neg e];exact h.mem x s h1 fun h2=>hlo ((ho x s h1 e).2 h2)
theorem WfA.node (h:WfA A roots loose) {n:Nat}{s s':Sl} (hn:A n=some s) (hs:okSl s') (h1:s'.parent=s.parent) (h2:s'.kids=s.kids) (h3:s'.kind=s.kind):WfA (updA A n (some s')) roots loose:=by
 have hold:∀x t,updA A n (some s') x=some t->∃u,A x=some u/\t.parent=u.parent/\t.kids=u.kids/\t.kind=u.kind/\okSl t:=fun x t hx=>by
  by_cases e:x=n
  ·subst e;rw [updA_self] at hx;cases hx;exact⟨s,hn,h1,h2,h3,hs⟩
  ·rw [updA_ne e] at hx;exact⟨t,hx,rfl,rfl,rfl,h.ok x t hx⟩
 have hnew:∀x u,A x=some u->∃t,updA A n (some s') x=some t/\t.parent=u.parent/\t.kids=u.kids/\t.kind=u.kind:=fun x u hx=>by
  by_cases e:x=n
  ·subst e;rw [hn] at hx;cases hx;exact⟨s',updA_self _ _ _,h1,h2,h3⟩
  ·exact⟨u,by rw [updA_ne e];exact hx,rfl,rfl,rfl⟩
 refine⟨?_,fun x t hx=>?_,fun x t hx=>?_,fun x t hx=>?_,fun x t hx=>?_,⟨h.root.1,fun x hx=>?_⟩,fun x t hx hlo=>?_,fun x hx=>?_⟩
 rotate_right
 ·obtain⟨t,ht⟩:=h.lo x hx
  obtain⟨u,hu,_⟩:=hnew x t ht
  exact⟨u,hu⟩
 ·rw [updA_ne (Ne.symm (h.ne0 hn))];exact h.zero
 ·obtain⟨u,k1,k2,k3,k4,k5⟩:=hold x t hx;exact k5
 ·obtain⟨u,k1,k2,k3,k4,k5⟩:=hold x t hx
  rw [k2]
  rcases h.par x u k1 with k6 | ⟨v,k6,k7⟩
  ·exact .inl k6
  ·obtain⟨y,y1,y2,y3,y4⟩:=hnew _ _ k6
   exact .inr ⟨y,y1,by rw [y4,k7]⟩
 ·obtain⟨u,k1,k2,k3,k4,k5⟩:=hold x t hx
  obtain⟨c,c1,c2⟩:=h.chain x u k1
  exact⟨c,c1,c2.mono fun y v hy=>by obtain⟨z,z1,z2,_⟩:=hnew y v hy;exact⟨z,z1,z2⟩⟩
 ·obtain⟨u,k1,k2,k3,k4,k5⟩:=hold x t hx
  obtain⟨m1,m2⟩:=h.kid x u k1
  rw [k3]
  refine⟨m1,fun y hy=>?_⟩
  obtain⟨q1,v,q2,q3⟩:=m2 y hy
  obtain⟨z,z1,z2,_⟩:=hnew y v q2
  exact⟨q1,z,z1,by rw [z2,q3]⟩
 ·obtain⟨q1,v,q2,q3⟩:=h.root.2 x hx
  obtain⟨z,z1,z2,_⟩:=hnew x v q2
  exact⟨q1,z,z1,by rw [z2,q3]⟩
 ·obtain⟨u,k1,k2,k3,k4,k5⟩:=hold x t hx
  have k6:=h.mem x u k1 hlo
  rw [k2]
  rcases h.par x u k1 with k7 | ⟨v,k7,-⟩
  ·rw [k7,lstA_zero] at k6 |-;exact k6
  ·rw [lstA_some (h.ne0 k7) k7] at k6
   obtain⟨y,y1,y2,y3,y4⟩:=hnew _ _ k7
   rw [lstA_some (h.ne0 k7) y1,y3];exact k6
end
--PURE
theorem Tr.ind {M:Tr->Prop} (h:∀kind nm attrs text kids,(∀k∈kids,M k)->M (.mk kind nm attrs text kids)):∀t,M t:=by
 intro t
 refine Tr.rec (motive_1:=M) (motive_2:=fun ks=>∀k∈ks,M k) (fun kind nm attrs text ks ih=>h kind nm attrs text ks ih) (fun k hk=>by simp at hk) (fun a l h1 h2 k hk=>?_) t
 rcases mcn.1 hk with rfl | hk
 ·exact h1
 ·exact h2 k hk
mutual
def szT:Tr->Nat
 | .mk kind _ _ _ kids=>if kind=2 then 1 else 1+szL kids
def szL:List Tr->Nat
 | []=>0
 | x :: l=>szT x+szL l
end
mutual
def dpT:Tr->Nat
 | .mk kind _ _ _ kids=>if kind=2 then 1 else 1+dpL kids
def dpL:List Tr->Nat
 | []=>0
 | x :: l=>max (dpT x) (dpL l)
end
mutual
def okT:Tr->Prop
 | .mk kind nm attrs text kids=>ownF kind nm attrs text=0/\(kind=1\/kind=2)/\(kind=1->okL kids)
def okL:List Tr->Prop
 | []=>True
 | x :: l=>okT x/\okL l
end
theorem szT_pos:∀x:Tr,1<=szT x
 | .mk kind _ _ _ kids=>by unfold szT;split <;> omega
theorem dpT_pos:∀x:Tr,1<=dpT x
 | .mk kind _ _ _ kids=>by unfold dpT;split <;> omega
theorem szL_snoc (l:List Tr) (x:Tr):szL (l++[x])=szL l+szT x:=by
 induction l with
 | nil=>simp [szL]
 | cons y l ih=>simp only [List.cons_append,szL,ih];omega
mutual
def lookF:Tr->Nat->Nat->Nat × Int
 | .mk kind nm attrs text kids,deep,n=>
  if 64<deep\/4096<=n then (n,2) else if ownF kind nm attrs text≠0 then (n,ownF kind nm attrs text) else if kind=2 then (n+1,0) else looksF kids (deep+1) (n+1)
def looksF:List Tr->Nat->Nat->Nat × Int
 | [],_,n=>(n,0)
 | x :: l,deep,n=>if (lookF x deep n).2≠0 then lookF x deep n else looksF l deep (lookF x deep n).1
end
def freeI (sl:List Sl):Nat:=sl.findIdx fun s=>!s.live && decide (s.gen<4294967295)
def deadS (g:Nat):Sl:=⟨g,false,0,noB,[],noB,0,[]⟩
def roomF (sl:List Sl):List Sl:=if freeI sl<sl.length then sl else sl++[deadS 0]
def genI (sl:List Sl):Nat:=match (roomF sl)[freeI sl]? with | some s=>s.gen+1 | none=>0
def freshH (sl:List Sl):Nat:=hnd (genI sl) (freeI sl)
mutual
def makeF:Tr->Nat->List Sl->List Sl
 | .mk kind nm attrs text kids,p,sl=>
  if kind=2 then (roomF sl).set (freeI sl) ⟨genI sl,true,kind,noB,[],text,p,[]⟩
  else makesF kids (freshH sl) (freeI sl) ((roomF sl).set (freeI sl) ⟨genI sl,true,kind,nm,attrs,noB,p,[]⟩)
def makesF:List Tr->Nat->Nat->List Sl->List Sl
 | [],_,_,sl=>sl
 | x :: l,h,i,sl=>makesF l h i ((makeF x h sl).modify i fun s=>{ s with kids:=s.kids++[freshH sl] })
end
structure WfS (sl:List Sl):Prop where
 few:sl.length<=4096
 gen:∀s∈sl,s.gen<4294967296
 dead:∀s∈sl,s.live=false->s=deadS s.gen
 live:∀s∈sl,s.live=true->1<=s.gen
def tk (sl:List Sl):Nat:=(sl.filter fun s=>s.live || decide (4294967295<=s.gen)).length
theorem hnd_inj {g g' i i':Nat} (hi:i+1<4294967296) (hi':i'+1<4294967296) (h:hnd g i=hnd g' i'):g=g'/\i=i':=by unfold hnd at h;omega
section
variable {sl:List Sl}
theorem freeI_lt (h:freeI sl<sl.length):∃s,sl[freeI sl]?=some s/\s.live=false/\s.gen<4294967295:=by
 have h1:=List.findIdx_getElem (w:=h)
 refine⟨sl[freeI sl],gge h,?_⟩
 unfold freeI
 simpa using h1
theorem freeI_le:freeI sl<=sl.length:=List.findIdx_le_length
theorem tk_le:tk sl<=sl.length:=List.length_filter_le _ _
theorem tk_full (h:¬freeI sl<sl.length):tk sl=sl.length:=by
 unfold tk
 rw [List.filter_eq_self.2]
 intro s hs
 have h1:sl.findIdx (fun s=>!s.live && decide (s.gen<4294967295))=sl.length:=by
  have:=freeI_le (sl:=sl);unfold freeI at this h;omega
 have h2:=List.findIdx_eq_length.1 h1 s hs
 cases hl:s.live
 ·simp [hl] at h2 |-;omega
 ·simp
theorem room_get (hw:WfS sl):∃s,(roomF sl)[freeI sl]?=some s/\s=deadS s.gen/\s.gen<4294967295/\s.live=false:=by
 unfold roomF
 by_cases h:freeI sl<sl.length
 ·rw [if_pos h]
  obtain⟨s,h1,h2,h3⟩:=freeI_lt h
  exact⟨s,h1,hw.dead s (mog h1) h2,h3,h2⟩
 ·rw [if_neg h]
  have h2:freeI sl=sl.length:=by have:=freeI_le (sl:=sl);omega
  exact⟨deadS 0,by rw [h2];simp,rfl,dc,rfl⟩
theorem genI_eq {s:Sl} (h:(roomF sl)[freeI sl]?=some s):genI sl=s.gen+1:=by unfold genI;rw [h]
theorem room_old {k:Nat}{s:Sl} (h:sl[k]?=some s):(roomF sl)[k]?=some s:=by
 unfold roomF
 split
 ·exact h
 ·rw [gal (gsi.1 h).1];exact h
theorem room_len:sl.length<=(roomF sl).length/\(roomF sl).length<=tk sl+1\/(roomF sl).length=sl.length:=by
 unfold roomF
 by_cases h:freeI sl<sl.length
 ·rw [if_pos h];exact .inr rfl
 ·rw [if_neg h]
  have:=tk_full h
  exact .inl (by simp;omega)
theorem room_wf (hw:WfS sl) (ht:tk sl<4096):WfS (roomF sl):=by
 unfold roomF
 by_cases h:freeI sl<sl.length
 ·rw [if_pos h];exact hw
 ·rw [if_neg h]
  have h2:=tk_full h
  refine⟨by simp;omega,fun s hs=>?_,fun s hs hl=>?_,fun s hs hl=>?_⟩ <;> rcases List.mem_append.1 hs with hs | hs
  ·exact hw.gen s hs
  ·rw [msg] at hs;subst hs;decide
  ·exact hw.dead s hs hl
  ·rw [msg] at hs;subst hs;rfl
  ·exact hw.live s hs hl
  ·rw [msg] at hs;subst hs;cases hl
theorem slA_room (hw:WfS sl) (x:Nat):slA (roomF sl) x=slA sl x:=by
 unfold roomF
 by_cases h:freeI sl<sl.length
 ·rw [if_pos h]
 ·rw [if_neg h]
  cases hx:slA sl x with
  | some s=>
   obtain⟨k,h1,h2,h3,h4⟩:=slA_iff.1 hx
   exact slA_iff.2 ⟨k,h1,by rw [gal (gsi.1 h2).1];exact h2,h3,h4⟩
  | none=>
   cases hy:slA (sl++[deadS 0]) x with
   | none=>rfl
   | some s=>
    obtain⟨k,h1,h2,h3,h4⟩:=slA_iff.1 hy
    rcases Nat.lt_or_ge k sl.length with hk | hk
    ·rw [gal hk] at h2
     rw [slA_iff.2 ⟨k,h1,h2,h3,h4⟩] at hx;cases hx
    ·rw [gar hk] at h2
     have:s∈[deadS 0]:=mog h2
     rw [msg] at this;subst this;cases h3
theorem slA_born {k:Nat}{s s':Sl} (hk:k+1<4294967296) (hs:sl[k]?=some s) (hd:s.live=false) (hl:s'.live=true) (x:Nat) :
  slA (sl.set k s') x=updA (slA sl) (hnd s'.gen k) (some s') x:=by
 have hlt:k<sl.length:=(gsi.1 hs).1
 by_cases e:x=hnd s'.gen k
 ·subst e
  rw [updA_self]
  exact slA_hnd hk (by simp [hlt]) hl
 ·rw [updA_ne e]
  cases hx:slA sl x with
  | some t=>
   obtain⟨j,j1,j2,j3,j4⟩:=slA_iff.1 hx
   refine slA_iff.2 ⟨j,j1,?_,j3,j4⟩
   rw [gsn,j2]
   rintro rfl
   rw [hs] at j2;cases j2;rw [hd] at j3;cases j3
  | none=>
   cases hy:slA (sl.set k s') x with
   | none=>rfl
   | some t=>
    obtain⟨j,j1,j2,j3,j4⟩:=slA_iff.1 hy
    by_cases ej:k=j
    ·subst ej
     rw [List.getElem?_set_self hlt] at j2
     cases j2
     exact absurd j4.symm e
    ·rw [gsn ej] at j2
     rw [slA_iff.2 ⟨j,j1,j2,j3,j4⟩] at hx;cases hx
theorem slA_dead {k h:Nat}{s:Sl} (hk:k+1<4294967296) (hs:sl[k]?=some s) (hd:s.live=false) (hm:h % 4294967296=k+1):slA sl h=none:=by
 cases hx:slA sl h with
 | none=>rfl
 | some t=>
  obtain⟨j,j1,j2,j3,j4⟩:=slA_iff.1 hx
  obtain rfl:j=k:=by omega
  rw [hs] at j2;cases j2;rw [hd] at j3;cases j3
theorem WfS.set (hw:WfS sl) {k:Nat}{s':Sl} (h1:s'.gen<4294967296) (h2:s'.live=false->s'=deadS s'.gen) (h3:s'.live=true->1<=s'.gen):WfS (sl.set k s'):=by
 refine⟨by simpa using hw.few,fun s hs=>?_,fun s hs hl=>?_,fun s hs hl=>?_⟩ <;> rcases List.mem_or_eq_of_mem_set hs with hs | hs
 ·exact hw.gen s hs
 ·subst hs;exact h1
 ·exact hw.dead s hs hl
 ·subst hs;exact h2 hl
 ·exact hw.live s hs hl
 ·subst hs;exact h3 hl
theorem filter_set_len {α:Type} (q:α->Bool):∀(l:List α) (k:Nat) (a b:α),l[k]?=some a->((l.set k b).filter q).length+(if q a then 1 else 0)=(l.filter q).length+(if q b then 1 else 0)
 | [],k,a,b,h=>by simp at h
 | x :: l,0,a,b,h=>by
  simp at h;subst h
  simp only [List.set_cons_zero,List.filter_cons]
  cases q x <;> cases q b <;> simp
 | x :: l,k+1,a,b,h=>by
  have ih:=filter_set_len q l k a b (by simpa using h)
  simp only [List.set_cons_succ,List.filter_cons]
  cases q x
  ·simpa using ih
  ·simp only [if_true,lcn];omega
theorem tk_set {k:Nat}{a b:Sl} (h:sl[k]?=some a):tk (sl.set k b)+(if a.live || decide (4294967295<=a.gen) then 1 else 0)=tk sl+(if b.live || decide (4294967295<=b.gen) then 1 else 0):=
 filter_set_len (fun s:Sl=>s.live || decide (4294967295<=s.gen)) sl k a b h
theorem tk_room:tk (roomF sl)=tk sl:=by
 unfold roomF tk
 split
 ·rfl
 ·rw [List.filter_append];simp [deadS]
theorem modify_set {α:Type} (f:α->α):∀(l:List α) (k:Nat) (a:α),l[k]?=some a->l.modify k f=l.set k (f a)
 | [],k,a,h=>by simp at h
 | x :: l,0,a,h=>by simp at h;subst h;rfl
 | x :: l,k+1,a,h=>by
  have ih:=modify_set f l k a (by simpa using h)
  simp [ih]
end
structure Made (roots loose:List Nat) (sl sl':List Sl) (p h n:Nat):Prop where
 wfs:WfS sl'
 wf:WfA (slA sl') roots (h :: loose)
 new:slA sl h=none
 ext:∀y s,slA sl y=some s->slA sl' y=some s
 top:∃s,slA sl' h=some s/\s.parent=p
 tk:tk sl'=tk sl+n
 len:sl.length<=sl'.length
section
variable {sl:List Sl}{roots loose:List Nat}{p c:Nat}
theorem one_wf {s:Sl} (hs:okSl s) (hk:s.kids=[]) (hsp:s.parent=p) (hsl:s.live=true) (hsg:s.gen=genI sl) (hw:WfS sl) (hA:WfA (slA sl) roots loose) (hp:p=0\/∃t,slA sl p=some t/\t.kind=1) (hc:Ch (slA sl) p c) (hc2:c+1<=64) (ht:tk sl+1<=4096) :
  Made roots loose sl ((roomF sl).set (freeI sl) s) p (freshH sl) 1/\slA ((roomF sl).set (freeI sl) s) (freshH sl)=some s:=by
 obtain⟨d,h1,h2,h3,h4⟩:=room_get hw
 have hg:=genI_eq h1
 have hR:=room_wf hw om
 have hi:freeI sl<(roomF sl).length:=(gsi.1 h1).1
 have hfew:=hR.few
 have e:∀x,slA ((roomF sl).set (freeI sl) s) x=updA (slA sl) (freshH sl) (some s) x:=fun x=>by
  have e1:=slA_born (sl:=roomF sl) (k:=freeI sl) (s:=d) (s':=s) om h1 h4 hsl x
  rw [e1]
  have e2:(slA (roomF sl))=slA sl:=funext (slA_room hw)
  rw [e2,hsg];rfl
 have e':=funext e
 have hnew:slA sl (freshH sl)=none:=by
  rw [<-slA_room hw]
  exact slA_dead (k:=freeI sl) (s:=d) om h1 h4 (by unfold freshH;exact hnd_mod om)
 have h0:freshH sl≠0:=by unfold freshH hnd;omega
 refine⟨⟨hR.set (by rw [hsg];omega) (by rw [hsl];simp) (fun _=>by rw [hsg];omega),?_,hnew,fun y t hy=>?_,⟨s,by rw [e,updA_self],hsp⟩,?_,?_⟩,by rw [e,updA_self]⟩
 ·rw [e'];exact hA.fresh h0 hnew hs hk hsp hp hc hc2
 ·rw [e,updA_ne];exact hy
  rintro rfl;rw [hnew] at hy;cases hy
 ·have:=tk_set (b:=s) h1
  rw [tk_room] at this
  rw [h4,hsl] at this
  simp only [Bool.true_or,if_true,Bool.false_or] at this
  rw [if_neg (by simp;omega)] at this
  omega
 ·rw [List.length_set]
  rcases room_len (sl:=sl) with h | h <;> omega
theorem WfA.hang1 {A:Nat->Option Sl}{h hk:Nat}{s:Sl} (hA:WfA A roots (hk :: loose)) (hh:A h=some s) (hs1:s.kind=1) (hkp:∃t,A hk=some t/\t.parent=h) (hnl:hk∉loose) :
  WfA (setA A h (s.kids++[hk])) roots loose:=by
 have h0:=hA.ne0 hh
 have hr:setR roots h (s.kids++[hk])=roots:=by unfold setR;rw [if_neg h0]
 have:=hA.setL (p:=h) (l:=s.kids++[hk]) (loose':=loose) (.inr ⟨s,hh,hs1⟩) ?_ (fun x hx=>?_) (fun x t hx hp hl=>?_) (fun x t hx hp=>?_) (fun x hx=>hA.lo x (mcm _ hx))
 ·rw [hr] at this;exact this
 ·obtain⟨k1,k2⟩:=hA.kid h s hh
  rw [List.nodup_append]
  refine⟨k1,sm,fun a ha b hb e=>?_⟩
  rw [msg] at hb;subst hb;subst e
  exact (k2 a ha).1 sm
 ·rcases List.mem_append.1 hx with hx | hx
  ·obtain⟨k1,k2⟩:=(hA.kid h s hh).2 x hx
   exact⟨fun e=>k1 (mcm _ e),k2⟩
  ·rw [msg] at hx;subst hx
   exact⟨hnl,hkp⟩
 ·by_cases e:x=hk
  ·subst e;simp
  ·have:=hA.mem x t hx (by simp [e,hl])
   rw [hp,lstA_some h0 hh] at this
   exact List.mem_append_left _ this
 ·constructor
  ·intro k;exact mcm _ k
  ·intro k
   rcases mcn.1 k with rfl | k
   ·obtain⟨u,u1,u2⟩:=hkp
    rw [hx] at u1;cases u1;exact absurd u2 hp
   ·exact k
theorem makes_wf:∀(l:List Tr),(∀x∈l,∀{sl:List Sl}{loose:List Nat}{p c:Nat},okT x->WfS sl->WfA (slA sl) roots loose->(p=0\/∃t,slA sl p=some t/\t.kind=1)->Ch (slA sl) p c->c+dpT x<=64->tk sl+szT x<=4096->Made roots loose sl (makeF x p sl) p (freshH sl) (szT x)) ->
  ∀{sl:List Sl}{loose:List Nat}{h c i:Nat}{s:Sl},okL l->WfS sl->WfA (slA sl) roots loose->h % 4294967296=i+1->slA sl h=some s->s.kind=1->Ch (slA sl) h c->c+dpL l<=64->tk sl+szL l<=4096 ->
  WfS (makesF l h i sl)/\WfA (slA (makesF l h i sl)) roots loose/\(∀y t,y≠h->slA sl y=some t->slA (makesF l h i sl) y=some t)/\(∃ks,slA (makesF l h i sl) h=some { s with kids:=s.kids++ks })/\tk (makesF l h i sl)=tk sl+szL l/\sl.length<=(makesF l h i sl).length
 | [],_,sl,loose,h,c,i,s,ho,hw,hA,hi,hs,hs1,hc,hd,ht=>by
  unfold makesF
  exact⟨hw,hA,fun _ _ _ h=>h,⟨[],by simpa using hs⟩,by simp [szL],nlr _⟩
 | x :: l,ih,sl,loose,h,c,i,s,ho,hw,hA,hi,hs,hs1,hc,hd,ht=>by
  simp only [okL,dpL,szL] at ho hd ht
  have M:=ih x sm ho.1 hw hA (.inr ⟨s,hs,hs1⟩) hc om om
  unfold makesF
  generalize hsl1:makeF x h sl=sl1 at M |-
  generalize hhk:freshH sl=hk at M |-
  have hs':=M.ext h s hs
  obtain⟨k,k1,k2,k3,k4⟩:=slA_iff.1 hs'
  obtain rfl:k=i:=by omega
  have hfew:=M.wfs.few
  have hlt:k<sl1.length:=(gsi.1 k2).1
  rw [modify_set _ _ _ _ k2]
  have e:∀y,slA (sl1.set k { s with kids:=s.kids++[hk] }) y=setA (slA sl1) h (s.kids++[hk]) y:=fun y=>by
   rw [slA_set (s':={ s with kids:=s.kids++[hk] }) k1 hs' rfl k3]
   unfold setA
   have h0:=hA.ne0 hs
   by_cases ey:y=h
   ·subst ey;rw [if_pos rfl,if_pos ⟨rfl,h0⟩,hs'];rfl
   ·rw [if_neg ey,if_neg (fun e=>ey e.1)]
  have e':=funext e
  have hnl:hk∉loose:=fun hm=>by
   obtain⟨t,ht⟩:=hA.lo hk hm
   rw [M.new] at ht;cases ht
  have A2:WfA (slA (sl1.set k { s with kids:=s.kids++[hk] })) roots loose:=by rw [e'];exact M.wf.hang1 hs' hs1 M.top hnl
  have w2:WfS (sl1.set k { s with kids:=s.kids++[hk] }):=M.wfs.set (M.wfs.gen s (mog k2)) (by rw [k3];simp) (fun _=>M.wfs.live s (mog k2) k3)
  have s2:slA (sl1.set k { s with kids:=s.kids++[hk] }) h=some { s with kids:=s.kids++[hk] }:=by rw [slA_set (s':={ s with kids:=s.kids++[hk] }) k1 hs' rfl k3,if_pos rfl]
  have c2:Ch (slA (sl1.set k { s with kids:=s.kids++[hk] })) h c:=(hc.mono fun y t hy=>⟨t,M.ext y t hy,rfl⟩).mono fun y t hy=>by
   rw [e]
   obtain⟨u,u1,u2,_⟩:=setA_of' (p:=h) (l:=s.kids++[hk]) hy
   exact⟨u,u1,u2⟩
  have t2:tk (sl1.set k { s with kids:=s.kids++[hk] })=tk sl+szT x:=by
   have:=tk_set (b:={ s with kids:=s.kids++[hk] }) k2
   have mt:=M.tk
   simp only at this
   omega
  obtain⟨r1,r2,r3,⟨ks,r4⟩,r5,r6⟩:=makes_wf l (fun y hy=>ih y (by simp [hy])) (i:=k) ho.2 w2 A2 k1 s2 hs1 c2 om om
  refine⟨r1,r2,fun y t hy ht=>r3 y t hy ?_,⟨hk :: ks,by rw [r4];simp⟩,by simp only [szL];omega,?_⟩
  ·rw [e]
   unfold setA
   rw [if_neg (fun e=>hy e.1)]
   exact M.ext y t ht
  ·have ml:=M.len
   rw [List.length_set] at r6
   omega
theorem make_wf:∀(x:Tr) {sl:List Sl}{loose:List Nat}{p c:Nat},okT x->WfS sl->WfA (slA sl) roots loose->(p=0\/∃t,slA sl p=some t/\t.kind=1)->Ch (slA sl) p c->c+dpT x<=64->tk sl+szT x<=4096->Made roots loose sl (makeF x p sl) p (freshH sl) (szT x):=by
 refine Tr.ind fun kind nm attrs text kids ih sl loose p c ho hw hA hp hc hd ht=>?_
 unfold okT at ho
 obtain⟨o1,o2,o3⟩:=ho
 unfold makeF
 unfold dpT at hd
 unfold szT at ht |-
 by_cases hk:kind=2
 ·subst hk
  rw [if_pos rfl] at hd ht |-
  rw [if_pos rfl]
  refine (one_wf (s:=⟨genI sl,true,2,noB,[],text,p,[]⟩) ⟨?_,.inr ⟨rfl,rfl,rfl,rfl⟩⟩ rfl rfl rfl rfl hw hA hp hc om om).1
  unfold ownF at o1 |-
  rw [if_neg dc,if_pos rfl] at o1
  rw [if_neg (show ¬(2:Int)=1 by decide),if_pos rfl]
  exact o1
 ·have hk1:kind=1:=o2.resolve_right hk
  subst hk1
  rw [if_neg hk] at hd ht |-
  rw [if_neg hk]
  have hok:okSl ⟨genI sl,true,1,nm,attrs,noB,p,[]⟩:=⟨by unfold ownF at o1 |-;exact o1,.inl ⟨rfl,rfl⟩⟩
  obtain⟨M,hs⟩:=one_wf (s:=⟨genI sl,true,1,nm,attrs,noB,p,[]⟩) hok rfl rfl rfl rfl hw hA hp hc om om
  generalize hsl1:(roomF sl).set (freeI sl) ⟨genI sl,true,1,nm,attrs,noB,p,[]⟩=sl1 at M hs |-
  have h0:freshH sl≠0:=by unfold freshH hnd;omega
  have hi:freshH sl % 4294967296=freeI sl+1:=by
   obtain⟨d,d1,_⟩:=room_get hw
   have:=(room_wf hw om).few
   have:=(gsi.1 d1).1
   unfold freshH;exact hnd_mod om
  have hc1:Ch (slA sl1) (freshH sl) (c+1):=.succ h0 hs (hc.mono fun y t hy=>⟨t,M.ext y t hy,rfl⟩)
  have mt:=M.tk
  obtain⟨r1,r2,r3,⟨ks,r4⟩,r5,r6⟩:=makes_wf kids ih (o3 rfl) M.wfs M.wf hi hs rfl hc1 om om
  refine⟨r1,r2,M.new,fun y t hy=>r3 y t ?_ (M.ext y t hy),⟨_,r4,rfl⟩,om,nlt M.len r6⟩
  rintro rfl
  rw [M.new] at hy;cases hy
end
--PURE
inductive De (A:Nat->Option Sl) (x:Nat):Nat->Nat->Prop where
 | self:De A x x 0
 | up {y d:Nat}{s:Sl}:A y=some s->De A x s.parent d->De A x y (d+1)
def allA (A:Nat->Option Sl):Nat->Nat->List Nat
 | 0,_=>[]
 | r+1,x=>x :: (match A x with | some s=>s.kids.flatMap (allA A r) | none=>[])
def dpA (A:Nat->Option Sl):Nat->Nat->Nat
 | 0,_=>0
 | r+1,x=>1+(match A x with | some s=>(s.kids.map (dpA A r)).foldl max 0 | none=>0)
theorem allA_some {A:Nat->Option Sl}{r x:Nat}{s:Sl} (h:A x=some s):allA A (r+1) x=x :: s.kids.flatMap (allA A r):=by
 rw [allA,h]
theorem dpA_some {A:Nat->Option Sl}{r x:Nat}{s:Sl} (h:A x=some s):dpA A (r+1) x=1+(s.kids.map (dpA A r)).foldl max 0:=by
 rw [dpA,h]
theorem foldl_max_ge:∀(l:List Nat) (a:Nat),a<=l.foldl max a/\∀y∈l,y<=l.foldl max a
 | [],a=>by simp
 | x :: l,a=>by
  obtain⟨h1,h2⟩:=foldl_max_ge l (max a x)
  rw [List.foldl_cons]
  refine⟨om,fun y hy=>?_⟩
  rcases mcn.1 hy with rfl | hy
  ·omega
  ·exact h2 y hy
theorem le_foldl_max {l:List Nat}{a y:Nat} (h:y∈l):y<=l.foldl max a:=(foldl_max_ge l a).2 y h
section
variable {A:Nat->Option Sl}{roots loose:List Nat}
theorem De.wi {x y d:Nat} (h:De A x y d):Wi A x y:=by
 induction h with
 | self=>exact .self
 | up ha _ ih=>exact .up ha ih
theorem Wi.de {x y:Nat} (h:Wi A x y):∃d,De A x y d:=by
 induction h with
 | self=>exact⟨0,.self⟩
 | up ha _ ih=>obtain⟨d,hd⟩:=ih;exact⟨d+1,.up ha hd⟩
theorem De.ch {x y d c:Nat} (h0:A 0=none) (h:De A x y d) (hc:Ch A x c):Ch A y (c+d):=by
 induction h with
 | self=>exact hc
 | up ha _ ih=>exact .succ (fun e=>by subst e;rw [h0] at ha;cases ha) ha ih
theorem De.fn {x x' y d:Nat} (h:De A x y d) (h':De A x' y d):x=x':=by
 induction h with
 | self=>cases h';rfl
 | up ha _ ih=>cases h' with
  | up hb h2=>rw [ha] at hb;cases hb;exact ih h2
theorem De.down {x k y d:Nat}{s:Sl} (hk:A k=some s) (hp:s.parent=x) (h:De A k y d):De A x y (d+1):=by
 induction h with
 | self=>exact .up hk (by rw [hp];exact .self)
 | up ha _ ih=>exact .up ha ih
theorem De.split (hA:WfA A roots loose) {x y d:Nat} (h:De A x y (d+1)) (hx:x≠0) (hl:∀z,z∈loose->z=x\/¬Wi A x z) (hne:∀z e,De A x z (e+1)->z≠x):∃k s,A x=some s/\k∈s.kids/\De A k y d:=by
 generalize hn:d+1=n at h
 induction h generalizing d with
 | self=>omega
 | @up y d' s ha h2 ih=>
  obtain rfl:d'=d:=by omega
  cases d' with
  | zero=>
   cases h2
   have hy:y≠s.parent:=hne y 0 (.up ha .self)
   have hm:y∉loose:=fun hy2=>by
    rcases hl y hy2 with e | e
    ·exact hy e
    ·exact e (.up ha .self)
   have h3:=hA.mem y s ha hm
   rcases hA.par y s ha with e | ⟨t,ht,_⟩
   ·exact absurd e hx
   ·rw [lstA_some hx ht] at h3
    exact⟨y,t,ht,h3,.self⟩
  | succ d=>
   obtain⟨k,t,h3,h4,h5⟩:=ih rfl
   exact⟨k,t,h3,h4,.up ha h5⟩
theorem WfA.de_ne (hA:WfA A roots loose) {x:Nat} (hx:∃s,A x=some s):∀z e,De A x z (e+1)->z≠x:=by
 rintro z e h rfl
 obtain⟨s,hs⟩:=hx
 obtain⟨c,_,hc⟩:=hA.chain z s hs
 have:=(h.ch hA.zero hc).fn hc
 omega
theorem mem_allA (hA:WfA A roots loose):∀(r x y:Nat),(∃s,A x=some s)->(∀z,z∈loose->z=x\/¬Wi A x z)->(y∈allA A r x↔∃d,d<r/\De A x y d):=by
 intro r
 induction r with
 | zero=>intro x y hx hl;simp [allA]
 | succ r ih=>
  intro x y hx hl
  obtain⟨s,hs⟩:=hx
  rw [allA_some hs,mcn,mfm]
  have hkid:∀k∈s.kids,∃t,A k=some t/\t.parent=x:=fun k hk=>((hA.kid x s hs).2 k hk).2
  have hkl:∀k∈s.kids,∀z,z∈loose->z=k\/¬Wi A k z:=fun k hk z hz=>by
   refine .inr fun hw=>?_
   obtain⟨t,t1,t2⟩:=hkid k hk
   obtain⟨d,hd⟩:=hw.de
   have h2:=hd.down t1 t2
   rcases hl z hz with e | e
   ·exact hA.de_ne ⟨s,hs⟩ z d h2 e
   ·exact e h2.wi
  constructor
  ·rintro (rfl | ⟨k,hk,hy⟩)
   ·exact⟨0,om,.self⟩
   ·obtain⟨t,t1,t2⟩:=hkid k hk
    obtain⟨d,d1,d2⟩:=(ih k y ⟨t,t1⟩ (hkl k hk)).1 hy
    exact⟨d+1,om,d2.down t1 t2⟩
  ·rintro ⟨d,d1,d2⟩
   cases d with
   | zero=>cases d2;exact .inl rfl
   | succ d=>
    obtain⟨k,t,k1,k2,k3⟩:=d2.split hA (hA.ne0 hs) hl (hA.de_ne ⟨s,hs⟩)
    rw [hs] at k1;cases k1
    obtain⟨t,t1,t2⟩:=hkid k k2
    exact .inr ⟨k,k2,(ih k y ⟨t,t1⟩ (hkl k k2)).2 ⟨d,om,k3⟩⟩
theorem mem_all (hA:WfA A roots loose) {r x y c:Nat} (hx:∃s,A x=some s) (hl:∀z,z∈loose->z=x\/¬Wi A x z) (hc:Ch A x c) (hr:65<=c+r):y∈allA A r x↔Wi A x y:=by
 rw [mem_allA hA r x y hx hl]
 constructor
 ·rintro ⟨d,_,hd⟩;exact hd.wi
 ·intro h
  obtain⟨d,hd⟩:=h.de
  refine⟨d,?_,hd⟩
  have h2:=hd.ch hA.zero hc
  have:∃s,A y=some s:=by
   cases hd with
   | self=>exact hx
   | up ha _=>exact⟨_,ha⟩
  obtain⟨s,hs⟩:=this
  obtain⟨c',h3,h4⟩:=hA.chain y s hs
  have:=h2.fn h4
  omega
theorem all_live (hA:WfA A roots loose) {r x y:Nat} (hx:∃s,A x=some s) (hl:∀z,z∈loose->z=x\/¬Wi A x z) (h:y∈allA A r x):∃s,A y=some s:=by
 obtain⟨d,_,hd⟩:=(mem_allA hA r x y hx hl).1 h
 cases hd with
 | self=>exact hx
 | up ha _=>exact⟨_,ha⟩
theorem flatMap_nodup {α β:Type} (f:α->List β):∀(l:List α),l.Nodup->(∀a∈l,(f a).Nodup)->(∀a∈l,∀b∈l,a≠b->∀y,y∈f a->y∉f b)->(l.flatMap f).Nodup
 | [],_,_,_=>by simp
 | a :: l,h1,h2,h3=>by
  rw [fmc,List.nodup_append]
  have h4:=List.nodup_cons.1 h1
  refine⟨h2 a sm,flatMap_nodup f l h4.2 (fun b hb=>h2 b (by simp [hb])) (fun b hb c hc=>h3 b (by simp [hb]) c (by simp [hc])),fun y hy z hz e=>?_⟩
  subst e
  obtain⟨b,hb,hz⟩:=mfm.1 hz
  exact h3 a sm b (by simp [hb]) (fun e=>h4.1 (e ▸ hb)) y hy hz
theorem all_nodup (hA:WfA A roots loose):∀(r x:Nat),(∃s,A x=some s)->(∀z,z∈loose->z=x\/¬Wi A x z)->(allA A r x).Nodup:=by
 intro r
 induction r with
 | zero=>intro x hx hl;simp [allA]
 | succ r ih=>
  intro x hx hl
  obtain⟨s,hs⟩:=hx
  rw [allA_some hs,List.nodup_cons]
  have hkid:∀k∈s.kids,∃t,A k=some t/\t.parent=x:=fun k hk=>((hA.kid x s hs).2 k hk).2
  have hkl:∀k∈s.kids,∀z,z∈loose->z=k\/¬Wi A k z:=fun k hk z hz=>by
   refine .inr fun hw=>?_
   obtain⟨t,t1,t2⟩:=hkid k hk
   obtain⟨d,hd⟩:=hw.de
   have h2:=hd.down t1 t2
   rcases hl z hz with e | e
   ·exact hA.de_ne ⟨s,hs⟩ z d h2 e
   ·exact e h2.wi
  refine⟨fun hm=>?_,flatMap_nodup _ _ (hA.kid x s hs).1 (fun k hk=>?_) (fun a ha b hb hab y h1 h2=>?_)⟩
  ·obtain⟨k,k1,k2⟩:=mfm.1 hm
   obtain⟨t,t1,t2⟩:=hkid k k1
   obtain⟨d,_,hd⟩:=(mem_allA hA r k x ⟨t,t1⟩ (hkl k k1)).1 k2
   exact hA.de_ne ⟨s,hs⟩ x d (hd.down t1 t2) rfl
  ·obtain⟨t,t1,t2⟩:=hkid k hk
   exact ih k ⟨t,t1⟩ (hkl k hk)
  ·obtain⟨t,t1,t2⟩:=hkid a ha
   obtain⟨u,u1,u2⟩:=hkid b hb
   obtain⟨d,_,hd⟩:=(mem_allA hA r a y ⟨t,t1⟩ (hkl a ha)).1 h1
   obtain⟨e,_,he⟩:=(mem_allA hA r b y ⟨u,u1⟩ (hkl b hb)).1 h2
   obtain⟨c,_,hc⟩:=hA.chain x s hs
   have c1:Ch A a (c+1):=.succ (hA.ne0 t1) t1 (by rw [t2];exact hc)
   have c2:Ch A b (c+1):=.succ (hA.ne0 u1) u1 (by rw [u2];exact hc)
   have:=(hd.ch hA.zero c1).fn (he.ch hA.zero c2)
   obtain rfl:d=e:=by omega
   exact hab (hd.fn he)
theorem dp_de (hA:WfA A roots loose):∀(r x y d:Nat),(∃s,A x=some s)->(∀z,z∈loose->z=x\/¬Wi A x z)->d<r->De A x y d->d+1<=dpA A r x:=by
 intro r
 induction r with
 | zero=>intro x y d hx hl hd;omega
 | succ r ih=>
  intro x y d hx hl hd h
  obtain⟨s,hs⟩:=hx
  rw [dpA_some hs]
  cases d with
  | zero=>omega
  | succ d=>
   obtain⟨k,t,k1,k2,k3⟩:=h.split hA (hA.ne0 hs) hl (hA.de_ne ⟨s,hs⟩)
   rw [hs] at k1;cases k1
   obtain⟨t,t1,t2⟩:=((hA.kid x s hs).2 k k2).2
   have hkl:∀z,z∈loose->z=k\/¬Wi A k z:=fun z hz=>by
    refine .inr fun hw=>?_
    obtain⟨d,hd⟩:=hw.de
    have h2:=hd.down t1 t2
    rcases hl z hz with e | e
    ·exact hA.de_ne ⟨s,hs⟩ z d h2 e
    ·exact e h2.wi
   have h3:=ih k y d ⟨t,t1⟩ hkl om k3
   have h4:dpA A r k<=(s.kids.map (dpA A r)).foldl max 0:=le_foldl_max (List.mem_map.2 ⟨k,k2,rfl⟩)
   omega
theorem WfA.out (h:WfA A roots []) {n:Nat}{s:Sl} (hn:A n=some s):WfA (setA A s.parent ((lstA A roots s.parent).erase n)) (setR roots s.parent ((lstA A roots s.parent).erase n)) [n]:=by
 obtain⟨l1,l2⟩:=h.lst s.parent
 refine h.setL (h.par n s hn) (l1.erase _) (fun x hx=>?_) (fun x t hx hp hl=>?_) (fun x t hx hp=>?_) (fun x hx=>?_)
 ·obtain⟨h1,h2⟩:=l2 x (List.mem_of_mem_erase hx)
  refine⟨?_,h2⟩
  rw [msg]
  rintro rfl
  exact (l1.not_mem_erase hx).elim
 ·have h1:=h.mem x t hx sm
  rw [hp] at h1
  exact (List.mem_erase_of_ne (by simpa using hl)).2 h1
 ·simp only [msg,List.not_mem_nil,iff_false]
  rintro rfl
  rw [hn] at hx;cases hx;exact hp rfl
 ·rw [msg] at hx;subst hx;exact⟨s,hn⟩
theorem WfA.rep (h:WfA A roots loose) {n p c:Nat}{s:Sl} (hn:A n=some s) (hl:n∈loose) (hp:p=0\/∃t,A p=some t/\t.kind=1) (hc:Ch A p c) (hw:¬Wi A n p) (hd:∀y d,De A n y d->c+1+d<=64) :
  WfA (updA A n (some { s with parent:=p })) roots loose:=by
 have hold:∀x t,updA A n (some { s with parent:=p }) x=some t->∃u,A x=some u/\t.kids=u.kids/\t.kind=u.kind/\okSl t/\(x≠n->t=u):=fun x t hx=>by
  by_cases e:x=n
  ·subst e;rw [updA_self] at hx;cases hx;exact⟨s,hn,rfl,rfl,h.ok x s hn,fun h=>absurd rfl h⟩
  ·rw [updA_ne e] at hx;exact⟨t,hx,rfl,rfl,h.ok x t hx,fun _=>rfl⟩
 have hnew:∀x u,A x=some u->∃t,updA A n (some { s with parent:=p }) x=some t/\t.kids=u.kids/\t.kind=u.kind/\(x≠n->t=u):=fun x u hx=>by
  by_cases e:x=n
  ·subst e;rw [hn] at hx;cases hx;exact⟨_,updA_self _ _ _,rfl,rfl,fun h=>absurd rfl h⟩
  ·exact⟨u,by rw [updA_ne e];exact hx,rfl,rfl,fun _=>rfl⟩
 have hpe:∀q,(q=0\/∃t,A q=some t/\t.kind=1)->(q=0\/∃t,updA A n (some { s with parent:=p }) q=some t/\t.kind=1):=fun q hq=>by
  rcases hq with hq | ⟨t,h1,h2⟩
  ·exact .inl hq
  ·obtain⟨u,u1,u2,u3,u4⟩:=hnew _ _ h1
   exact .inr ⟨u,u1,by rw [u3,h2]⟩
 have hch:∀x c,Ch A x c->¬Wi A n x->Ch (updA A n (some { s with parent:=p })) x c:=fun x c hx=>by
  induction hx with
  | zero=>intro _;exact .zero
  | @succ y c t h0 ha _ ih=>
   intro hw2
   have e:y≠n:=fun e=>hw2 (by rw [e];exact .self)
   exact .succ h0 (by rw [updA_ne e];exact ha) (ih fun h3=>hw2 (.up ha h3))
 have hcn:Ch (updA A n (some { s with parent:=p })) n (c+1):=.succ (h.ne0 hn) (updA_self _ _ _) (hch p c hc hw)
 have hcd:∀y d,De A n y d->Ch (updA A n (some { s with parent:=p })) y (c+1+d):=fun y d hy=>by
  induction hy with
  | self=>exact hcn
  | @up y d t ha h2 ih=>
   have e:y≠n:=h.de_ne ⟨s,hn⟩ y d (.up ha h2)
   exact .succ (h.ne0 ha) (by rw [updA_ne e];exact ha) ih
 refine⟨?_,fun x t hx=>?_,fun x t hx=>?_,fun x t hx=>?_,fun x t hx=>?_,⟨h.root.1,fun x hx=>?_⟩,fun x t hx hlo=>?_,fun x hx=>?_⟩
 ·rw [updA_ne (Ne.symm (h.ne0 hn))];exact h.zero
 ·obtain⟨u,k1,k2,k3,k4,k5⟩:=hold x t hx;exact k4
 ·by_cases e:x=n
  ·subst e;rw [updA_self] at hx;cases hx;exact hpe _ hp
  ·rw [updA_ne e] at hx;exact hpe _ (h.par x t hx)
 ·by_cases hw2:Wi A n x
  ·obtain⟨d,hd2⟩:=hw2.de
   exact⟨_,hd x d hd2,hcd x d hd2⟩
  ·obtain⟨u,k1,-⟩:=hold x t hx
   obtain⟨c',c1,c2⟩:=h.chain x u k1
   exact⟨c',c1,hch x c' c2 hw2⟩
 ·obtain⟨u,k1,k2,k3,k4,k5⟩:=hold x t hx
  rw [k2]
  obtain⟨m1,m2⟩:=h.kid x u k1
  refine⟨m1,fun y hy=>?_⟩
  obtain⟨q1,v,q2,q3⟩:=m2 y hy
  refine⟨q1,v,?_,q3⟩
  rw [updA_ne (fun e:y=n=>q1 (e ▸ hl))];exact q2
 ·obtain⟨q1,v,q2,q3⟩:=h.root.2 x hx
  exact⟨q1,v,by rw [updA_ne (fun e:x=n=>q1 (e ▸ hl))];exact q2,q3⟩
 ·have e:x≠n:=fun e=>hlo (e ▸ hl)
  rw [updA_ne e] at hx
  have k6:=h.mem x t hx hlo
  rcases h.par x t hx with k7 | ⟨v,k7,-⟩
  ·rw [k7,lstA_zero] at k6 |-;exact k6
  ·rw [lstA_some (h.ne0 k7) k7] at k6
   obtain⟨y,y1,y2,_⟩:=hnew _ _ k7
   rw [lstA_some (h.ne0 k7) y1,y2];exact k6
 ·obtain⟨t,ht⟩:=h.lo x hx
  obtain⟨u,hu,_⟩:=hnew x t ht
  exact⟨u,hu⟩
theorem WfA.kill {n:Nat} (h:WfA A roots [n]) {s:Sl} (hn:A n=some s) {L:List Nat} (hL:∀x t,A x=some t->(x∈L↔Wi A n x)):WfA (fun x=>if x∈L then none else A x) roots []:=by
 have hold:∀x t,(if x∈L then none else A x)=some t->A x=some t/\¬Wi A n x:=fun x t hx=>by
  by_cases e:x∈L
  ·rw [if_pos e] at hx;cases hx
  ·rw [if_neg e] at hx;exact⟨hx,fun h2=>e ((hL x t hx).2 h2)⟩
 have hnew:∀x t,A x=some t->¬Wi A n x->(if x∈L then none else A x)=some t:=fun x t hx hw=>by
  rw [if_neg (fun e=>hw ((hL x t hx).1 e))];exact hx
 have hpar:∀x t,A x=some t->¬Wi A n x->¬Wi A n t.parent:=fun x t hx hw h2=>hw (.up hx h2)
 have hkid:∀p x,¬Wi A n p->x∉[n]->(∃t,A x=some t/\t.parent=p)->¬Wi A n x:=fun p x hp hx ⟨t,t1,t2⟩ hw=>by
  cases hw with
  | self=>exact hx sm
  | up ha h2=>rw [t1] at ha;cases ha;rw [t2] at h2;exact hp h2
 have h00:¬Wi A n 0:=fun hw=>by
  cases hw with
  | self=>exact h.ne0 hn rfl
  | up ha h2=>rw [h.zero] at ha;cases ha
 refine⟨by split;rfl;exact h.zero,fun x t hx=>?_,fun x t hx=>?_,fun x t hx=>?_,fun x t hx=>?_,⟨h.root.1,fun x hx=>?_⟩,fun x t hx hlo=>?_,fun x hx=>by simp at hx⟩
 ·exact h.ok x t (hold x t hx).1
 ·obtain⟨h1,h2⟩:=hold x t hx
  rcases h.par x t h1 with h3 | ⟨u,h3,h4⟩
  ·exact .inl h3
  ·exact .inr ⟨u,hnew _ _ h3 (hpar x t h1 h2),h4⟩
 ·obtain⟨h1,h2⟩:=hold x t hx
  obtain⟨c,c1,c2⟩:=h.chain x t h1
  refine⟨c,c1,?_⟩
  clear c1
  induction c2 generalizing t with
  | zero=>exact .zero
  | @succ y c u h0 ha h3 ih=>
   obtain rfl:u=t:=by rw [h1] at ha;cases ha;rfl
   refine .succ h0 (hnew _ _ h1 h2) ?_
   rcases h.par y _ h1 with h4 | ⟨v,h4,-⟩
   ·rw [h4] at h3 |-
    cases h3 with
    | zero=>exact .zero
    | succ h5=>exact absurd rfl h5
   ·exact ih v (hnew _ _ h4 (hpar y _ h1 h2)) h4 (hpar y _ h1 h2)
 ·obtain⟨h1,h2⟩:=hold x t hx
  obtain⟨m1,m2⟩:=h.kid x t h1
  refine⟨m1,fun y hy=>⟨sm,?_⟩⟩
  obtain⟨q1,v,q2,q3⟩:=m2 y hy
  exact⟨v,hnew y v q2 (hkid x y h2 q1 ⟨v,q2,q3⟩),q3⟩
 ·obtain⟨q1,v,q2,q3⟩:=h.root.2 x hx
  exact⟨sm,v,hnew x v q2 (hkid 0 x h00 q1 ⟨v,q2,q3⟩),q3⟩
 ·obtain⟨h1,h2⟩:=hold x t hx
  have h3:=h.mem x t h1 fun e=>by
   rw [msg] at e;subst e;exact h2 .self
  rcases h.par x t h1 with k7 | ⟨v,k7,-⟩
  ·rw [k7,lstA_zero] at h3 |-;exact h3
  ·rw [lstA_some (h.ne0 k7) k7] at h3
   rw [lstA_some (h.ne0 k7) (hnew _ _ k7 (hpar x t h1 h2))];exact h3
end
--PURE
structure Wf (D:Im):Prop where
 s:WfS D.sl
 a:WfA (slA D.sl) D.roots []
def lstI (D:Im) (p:Nat):List Nat:=lstA (slA D.sl) D.roots p
def setI (D:Im) (p:Nat) (l:List Nat):Im:=if p=0 then { D with roots:=l } else { D with sl:=D.sl.modify (p % 4294967296-1) fun s=>{ s with kids:=l } }
def updI (D:Im) (h:Nat) (f:Sl->Sl):Im:={ D with sl:=D.sl.modify (h % 4294967296-1) f }
def cntF (A:Nat->Option Sl):Nat->Nat->Nat
 | 0,_=>0
 | r+1,p=>if p=0 then 0 else match A p with | some s=>cntF A r s.parent+1 | none=>0
def cntI (D:Im) (p:Nat):Nat:=cntF (slA D.sl) 65 p
def wiB (A:Nat->Option Sl):Nat->Nat->Nat->Bool
 | 0,_,_=>false
 | r+1,n,x=>if x=0 then false else if x=n then true else match A x with | some s=>wiB A r n s.parent | none=>false
def wiI (D:Im) (n x:Nat):Bool:=wiB (slA D.sl) 65 n x
def posF (wh:Int) (a:Nat) (l:List Nat):Nat:=if wh=2 then l.length else if wh=3 then l.idxOf a else if wh=4 then l.idxOf a+1 else 0
def insAt (l:List Nat) (k h:Nat):List Nat:=l.take k++h :: l.drop k
def placeF (D:Im) (wh:Int) (a:Nat):Nat × Int:=
 if wh<1\/4<wh\/(a=0/\2<wh) then (0,1) else
 if a=0 then (0,0) else match slA D.sl a with
  | none=>(0,8)
  | some s=>if wh<=2 then (if s.kind=2 then (0,31) else (a,0)) else (s.parent,0)
def putI (D:Im) (n p:Nat) (wh:Int) (a:Nat):Im:=setI D p (insAt (lstI D p) (posF wh a (lstI D p)) n)
def insF (D:Im) (wh:Int) (a:Nat) (x:Tr):Im × Nat × Int:=
 if (placeF D wh a).2=1 then (D,0,1) else if (lookF x 1 0).2≠0 then (D,0,(lookF x 1 0).2) else if (placeF D wh a).2≠0 then (D,0,(placeF D wh a).2) else
 if 64<cntI D (placeF D wh a).1+dpT x then (D,0,32) else if 4096<tk D.sl+szT x then (D,0,33) else
 (putI { D with sl:=makeF x (placeF D wh a).1 D.sl } (freshH D.sl) (placeF D wh a).1 wh a,freshH D.sl,0)
def outI (D:Im) (n:Nat):Im:=match slA D.sl n with
 | some s=>setI D s.parent ((lstI D s.parent).erase n)
 | none=>D
def movF (D:Im) (n:Nat) (wh:Int) (a:Nat):Im × Int:=
 if (placeF D wh a).2=1 then (D,1) else if slA D.sl n=none\/(placeF D wh a).2=8 then (D,8) else if a≠0/\wiI D n a=true then (D,34) else if (placeF D wh a).2≠0 then (D,(placeF D wh a).2) else
 if 64<cntI D (placeF D wh a).1+dpA (slA D.sl) 65 n then (D,32) else
 (updI (putI (outI D n) n (placeF D wh a).1 wh a) n fun s=>{ s with parent:=(placeF D wh a).1 },0)
def killF (sl:List Sl) (L:List Nat):List Sl:=L.foldl (fun sl h=>sl.modify (h % 4294967296-1) fun s=>deadS s.gen) sl
def delF (D:Im) (n:Nat):Im × Int:=match slA D.sl n with
 | none=>(D,8)
 | some _=>({ outI D n with sl:=killF (outI D n).sl (allA (slA D.sl) 65 n) },0)
section
variable {D:Im}
theorem slA_modify {sl:List Sl}{h:Nat}{s:Sl}{f:Sl->Sl} (hs:slA sl h=some s) (hg:(f s).gen=s.gen) (hl:(f s).live=true) (x:Nat) :
  slA (sl.modify (h % 4294967296-1) f) x=if x=h then some (f s) else slA sl x:=by
 obtain⟨k,h1,h2,h3,h4⟩:=slA_iff.1 hs
 rw [h1,nasc,modify_set _ _ _ _ h2]
 exact slA_set h1 hs hg hl x
theorem WfS.modify {sl:List Sl} (hw:WfS sl) {h:Nat}{s:Sl}{f:Sl->Sl} (hs:slA sl h=some s) (hg:(f s).gen=s.gen) (hl:(f s).live=true):WfS (sl.modify (h % 4294967296-1) f):=by
 obtain⟨k,h1,h2,h3,h4⟩:=slA_iff.1 hs
 rw [h1,nasc,modify_set _ _ _ _ h2]
 have hm:=mog h2
 exact hw.set (by rw [hg];exact hw.gen s hm) (by rw [hl];simp) (fun _=>by rw [hg];exact hw.live s hm h3)
theorem setI_A {p:Nat}{l:List Nat} (hp:p=0\/∃s,slA D.sl p=some s):slA (setI D p l).sl=setA (slA D.sl) p l/\(setI D p l).roots=setR D.roots p l:=by
 unfold setI setR
 by_cases h0:p=0
 ·rw [if_pos h0,if_pos h0]
  refine⟨funext fun x=>?_,rfl⟩
  unfold setA
  rw [if_neg (fun e=>e.2 h0)]
 ·rw [if_neg h0,if_neg h0]
  obtain⟨s,hs⟩:=hp.resolve_left h0
  have hlive:=(slA_iff.1 hs).choose_spec.2.2.1
  refine⟨funext fun x=>?_,rfl⟩
  rw [slA_modify (f:=fun s=>{ s with kids:=l }) hs rfl hlive]
  unfold setA
  by_cases e:x=p
  ·subst e;rw [if_pos rfl,if_pos ⟨rfl,h0⟩,hs];rfl
  ·rw [if_neg e,if_neg (fun h=>e h.1)]
theorem slA_live {sl:List Sl}{h:Nat}{s:Sl} (hs:slA sl h=some s):s.live=true:=by
 obtain⟨k,h1,h2,h3,h4⟩:=slA_iff.1 hs;exact h3
theorem setI_S {p:Nat}{l:List Nat} (hw:WfS D.sl) (hp:p=0\/∃s,slA D.sl p=some s):WfS (setI D p l).sl:=by
 unfold setI
 by_cases h0:p=0
 ·rw [if_pos h0];exact hw
 ·rw [if_neg h0]
  obtain⟨s,hs⟩:=hp.resolve_left h0
  exact hw.modify (s:=s) (f:=fun s=>{ s with kids:=l }) hs rfl (show s.live=true from slA_live hs)
theorem cnt_ch {A:Nat->Option Sl}{p c:Nat} (h:Ch A p c):∀r,c<=r->0<r->cntF A r p=c:=by
 induction h with
 | zero=>intro r h1 h2;cases r with
  | zero=>omega
  | succ r=>rw [cntF,if_pos rfl]
 | @succ q d s h0 ha h3 ih=>
  intro r h1 h2
  cases r with
  | zero=>omega
  | succ r=>
   rw [cntF,if_neg h0,ha]
   dsimp only
   by_cases hr:r=0
   ·subst hr
    obtain rfl:d=0:=by omega
    rw [cntF]
   ·rw [ih r om om]
theorem Wf.cnt (hw:Wf D) {p:Nat} (hp:p=0\/∃s,slA D.sl p=some s):cntI D p<=64/\Ch (slA D.sl) p (cntI D p):=by
 rcases hp with rfl | ⟨s,hs⟩
 ·have:cntI D 0=0:=by unfold cntI;rw [cntF,if_pos rfl]
  rw [this];exact⟨om,.zero⟩
 ·obtain⟨c,h1,h2⟩:=hw.a.chain p s hs
  have:cntI D p=c:=cnt_ch h2 65 om om
  rw [this];exact⟨h1,h2⟩
theorem wiB_iff {A:Nat->Option Sl}{roots loose:List Nat} (hA:WfA A roots loose) {n x c:Nat} (hn:n≠0) (h:Ch A x c):∀r,c<r->(wiB A r n x=true↔Wi A n x):=by
 induction h with
 | zero=>
  intro r hr
  cases r with
  | zero=>omega
  | succ r=>
   rw [wiB,if_pos rfl]
   constructor
   ·intro h;cases h
   ·intro h
    cases h with
    | self=>exact absurd rfl hn
    | up ha _=>rw [hA.zero] at ha;cases ha
 | @succ q d s h0 ha h3 ih=>
  intro r hr
  cases r with
  | zero=>omega
  | succ r=>
   rw [wiB,if_neg h0]
   by_cases e:q=n
   ·subst e;rw [if_pos rfl];exact⟨fun _=>.self,fun _=>rfl⟩
   ·rw [if_neg e,ha]
    dsimp only
    rw [ih r om]
    constructor
    ·intro h;exact .up ha h
    ·intro h
     cases h with
     | self=>exact absurd rfl e
     | up hb h2=>rw [ha] at hb;cases hb;exact h2
theorem Wf.wi (hw:Wf D) {n x:Nat} (hn:n≠0) {s:Sl} (hx:slA D.sl x=some s):wiI D n x=true↔Wi (slA D.sl) n x:=by
 obtain⟨c,h1,h2⟩:=hw.a.chain x s hx
 exact wiB_iff hw.a hn h2 65 om
theorem place_ok (hw:Wf D) {wh:Int}{a:Nat} (h:(placeF D wh a).2=0) :
  ((placeF D wh a).1=0\/∃t,slA D.sl (placeF D wh a).1=some t/\t.kind=1)/\1<=wh/\wh<=4/\(2<wh->∃s,slA D.sl a=some s/\s.parent=(placeF D wh a).1)/\(wh<=2->(placeF D wh a).1=a)/\(a=0\/∃s,slA D.sl a=some s):=by
 unfold placeF at h |-
 by_cases h1:wh<1\/4<wh\/(a=0/\2<wh)
 ·rw [if_pos h1] at h;cases h
 ·rw [if_neg h1] at h |-
  by_cases h0:a=0
  ·rw [if_pos h0] at h |-
   refine⟨.inl rfl,om,om,fun h2=>by omega,fun _=>h0.symm,.inl h0⟩
  ·rw [if_neg h0] at h |-
   cases hs:slA D.sl a with
   | none=>rw [hs] at h;cases h
   | some s=>
    rw [hs] at h
    dsimp only at h |-
    have ho:=(hw.a.ok a s hs).2
    by_cases h2:wh<=2
    ·rw [if_pos h2] at h |-
     by_cases hk:s.kind=2
     ·rw [if_pos hk] at h;cases h
     ·rw [if_neg hk] at h |-
      refine⟨.inr ⟨s,hs,?_⟩,om,om,fun h3=>by omega,fun _=>rfl,.inr ⟨s,rfl⟩⟩
      rcases ho with ho | ho
      ·exact ho.1
      ·exact absurd ho.1 hk
    ·rw [if_neg h2] at h |-
     exact⟨hw.a.par a s hs,om,om,fun _=>⟨s,rfl,rfl⟩,fun h3=>absurd h3 h2,.inr ⟨s,rfl⟩⟩
theorem mem_insAt {l:List Nat}{k h x:Nat}:x∈insAt l k h↔x=h\/x∈l:=by
 unfold insAt
 rw [List.mem_append,mcn]
 constructor
 ·rintro (h1 | h1 | h1)
  ·exact .inr (List.mem_of_mem_take h1)
  ·exact .inl h1
  ·exact .inr (List.mem_of_mem_drop h1)
 ·rintro (h1 | h1)
  ·exact .inr (.inl h1)
  ·rw [<-tad k l,List.mem_append] at h1
   rcases h1 with h1 | h1
   ·exact .inl h1
   ·exact .inr (.inr h1)
theorem nodup_insAt {l:List Nat}{k h:Nat} (hl:l.Nodup) (hh:h∉l):(insAt l k h).Nodup:=by
 unfold insAt
 have h1:(l.take k++l.drop k).Nodup:=by rw [tad];exact hl
 rw [List.nodup_append] at h1 |-
 obtain⟨a1,a2,a3⟩:=h1
 refine⟨a1,List.nodup_cons.2 ⟨fun hm=>hh (List.mem_of_mem_drop hm),a2⟩,fun x hx y hy e=>?_⟩
 rcases mcn.1 hy with rfl | hy
 ·subst e;exact hh (List.mem_of_mem_take hx)
 ·exact a3 x hx y hy e
theorem WfA.hang {A:Nat->Option Sl}{roots:List Nat}{n p k:Nat}{s:Sl} (h:WfA A roots [n]) (hn:A n=some s) (hp:s.parent=p):WfA (setA A p (insAt (lstA A roots p) k n)) (setR roots p (insAt (lstA A roots p) k n)) []:=by
 obtain⟨l1,l2⟩:=h.lst p
 refine h.setL (hp ▸ h.par n s hn) (nodup_insAt l1 fun hm=>(l2 n hm).1 sm) (fun x hx=>⟨sm,?_⟩) (fun x t hx hxp _=>?_) (fun x t hx hxp=>?_) (fun x hx=>by simp at hx)
 ·rcases mem_insAt.1 hx with rfl | hx
  ·exact⟨s,hn,hp⟩
  ·exact (l2 x hx).2
 ·rw [mem_insAt]
  by_cases e:x=n
  ·exact .inl e
  ·have:=h.mem x t hx (by simpa using e)
   rw [hxp] at this;exact .inr this
 ·simp only [msg,List.not_mem_nil,false_iff]
  rintro rfl
  rw [hn] at hx;cases hx;exact hxp hp
end
mutual
theorem look_ok:∀(x:Tr) (deep n:Nat),(lookF x deep n).2=0->okT x/\(lookF x deep n).1=n+szT x/\deep+dpT x<=65/\n+szT x<=4096
 | .mk kind nm attrs text kids,deep,n=>by
  intro h
  unfold lookF at h |-
  unfold okT szT dpT
  by_cases h1:64<deep\/4096<=n
  ·rw [if_pos h1] at h;cases h
  ·rw [if_neg h1] at h |-
   by_cases h2:ownF kind nm attrs text≠0
   ·rw [if_pos h2] at h;exact absurd h h2
   ·rw [if_neg h2] at h |-
    have h2':ownF kind nm attrs text=0:=by simpa using h2
    have hk:kind=1\/kind=2:=by
     unfold ownF at h2'
     by_cases k1:kind=1
     ·exact .inl k1
     ·rw [if_neg k1] at h2'
      by_cases k2:kind=2
      ·exact .inr k2
      ·rw [if_neg k2] at h2';exact absurd h2' dc
    by_cases h3:kind=2
    ·simp only [if_pos h3] at h |-
     refine⟨⟨h2',hk,fun h4=>?_⟩,trivial,om,om⟩
     rw [h3] at h4;exact absurd h4 dc
    ·simp only [if_neg h3] at h |-
     obtain⟨a1,a2,a3,a4⟩:=looks_ok kids (deep+1) (n+1) h
     refine⟨⟨h2',hk,fun _=>a1⟩,by rw [a2];omega,?_,?_⟩
     ·rcases a3 with a3 | rfl
      ·omega
      ·unfold dpL;omega
     ·rcases a4 with a4 | rfl
      ·omega
      ·unfold szL;omega
theorem looks_ok:∀(l:List Tr) (deep n:Nat),(looksF l deep n).2=0->okL l/\(looksF l deep n).1=n+szL l/\(deep+dpL l<=65\/l=[])/\(n+szL l<=4096\/l=[])
 | [],deep,n=>by intro _;unfold okL looksF szL;exact⟨trivial,rfl,.inr rfl,.inr rfl⟩
 | x :: l,deep,n=>by
  intro h
  unfold looksF at h |-
  unfold okL szL dpL
  by_cases h1:(lookF x deep n).2≠0
  ·rw [if_pos h1] at h;exact absurd h h1
  ·rw [if_neg h1] at h |-
   obtain⟨a1,a2,a3,a4⟩:=look_ok x deep n (by simpa using h1)
   rw [a2] at h |-
   obtain⟨b1,b2,b3,b4⟩:=looks_ok l deep (n+szT x) h
   refine⟨⟨a1,b1⟩,by rw [b2];omega,.inl ?_,.inl ?_⟩
   ·rcases b3 with b3 | rfl
    ·omega
    ·unfold dpL;omega
   ·rcases b4 with b4 | rfl
    ·omega
    ·unfold szL;omega
end
section
variable {D:Im}{A B:Nat->Option Sl}
theorem Wi.mono {n x:Nat} (hk:∀x s,A x=some s->∃t,B x=some t/\t.parent=s.parent) (h:Wi A n x):Wi B n x:=by
 induction h with
 | self=>exact .self
 | up ha _ ih=>
  obtain⟨t,h2,h3⟩:=hk _ _ ha
  exact .up h2 (by rw [h3];exact ih)
theorem De.mono {n x d:Nat} (hk:∀x s,A x=some s->∃t,B x=some t/\t.parent=s.parent) (h:De A n x d):De B n x d:=by
 induction h with
 | self=>exact .self
 | up ha _ ih=>
  obtain⟨t,h2,h3⟩:=hk _ _ ha
  exact .up h2 (by rw [h3];exact ih)
theorem setA_pa {p:Nat}{l:List Nat}:∀x s,A x=some s->∃t,setA A p l x=some t/\t.parent=s.parent:=fun x s h=>by
 obtain⟨t,h1,h2,_⟩:=setA_of' (p:=p) (l:=l) h;exact⟨t,h1,h2⟩
theorem setA_ap {p:Nat}{l:List Nat}:∀x s,setA A p l x=some s->∃t,A x=some t/\t.parent=s.parent:=fun x s h=>by
 obtain⟨t,h1,rfl⟩:=setA_some h
 refine⟨t,h1,?_⟩
 split <;> rfl
theorem par_ex {roots loose:List Nat}{p:Nat} (hp:p=0\/∃t,A p=some t/\t.kind=1):p=0\/∃s,A p=some s:=hp.imp id fun⟨t,h,_⟩=>⟨t,h⟩
theorem put_wf {n p:Nat}{wh:Int}{a:Nat}{s:Sl} (hw:WfS D.sl) (hA:WfA (slA D.sl) D.roots [n]) (hn:slA D.sl n=some s) (hp:s.parent=p):Wf (putI D n p wh a):=by
 have hpe:p=0\/∃s,slA D.sl p=some s:=by rw [<-hp];exact (hA.par n s hn).imp id fun⟨t,h,_⟩=>⟨t,h⟩
 unfold putI
 obtain⟨e1,e2⟩:=setI_A (l:=insAt (lstI D p) (posF wh a (lstI D p)) n) hpe
 refine⟨setI_S hw hpe,?_⟩
 rw [e1,e2]
 exact hA.hang hn hp
theorem ins_wf (hw:Wf D) (wh:Int) (a:Nat) (x:Tr):Wf (insF D wh a x).1:=by
 unfold insF
 by_cases h1:(placeF D wh a).2=1
 ·rw [if_pos h1];exact hw
 rw [if_neg h1]
 by_cases h2:(lookF x 1 0).2≠0
 ·rw [if_pos h2];exact hw
 rw [if_neg h2]
 by_cases h3:(placeF D wh a).2≠0
 ·rw [if_pos h3];exact hw
 rw [if_neg h3]
 by_cases h4:64<cntI D (placeF D wh a).1+dpT x
 ·rw [if_pos h4];exact hw
 rw [if_neg h4]
 by_cases h5:4096<tk D.sl+szT x
 ·rw [if_pos h5];exact hw
 rw [if_neg h5]
 obtain⟨p1,p2,p3,p4,p5,p6⟩:=place_ok hw (by simpa using h3)
 obtain⟨k1,k2,k3,k4⟩:=look_ok x 1 0 (by simpa using h2)
 obtain⟨c1,c2⟩:=hw.cnt (p1.imp id fun⟨t,h,_⟩=>⟨t,h⟩)
 have M:=make_wf x k1 hw.s hw.a p1 c2 om om
 obtain⟨s,s1,s2⟩:=M.top
 exact put_wf (D:={ D with sl:=makeF x (placeF D wh a).1 D.sl }) M.wfs M.wf s1 s2
theorem out_wf (hw:Wf D) {n:Nat}{s:Sl} (hn:slA D.sl n=some s):WfS (outI D n).sl/\WfA (slA (outI D n).sl) (outI D n).roots [n]/\slA (outI D n).sl=setA (slA D.sl) s.parent ((lstI D s.parent).erase n)/\(outI D n).roots=setR D.roots s.parent ((lstI D s.parent).erase n):=by
 have hpe:s.parent=0\/∃t,slA D.sl s.parent=some t:=(hw.a.par n s hn).imp id fun⟨t,h,_⟩=>⟨t,h⟩
 unfold outI
 rw [hn]
 obtain⟨e1,e2⟩:=setI_A (l:=(lstI D s.parent).erase n) hpe
 refine⟨setI_S hw.s hpe,?_,e1,e2⟩
 dsimp only
 rw [e1,e2]
 exact hw.a.out hn
theorem wi_par {roots loose:List Nat} (hA:WfA A roots loose) {n:Nat}{s:Sl} (hn:A n=some s):¬Wi A n s.parent:=fun h=>by
 obtain⟨d,hd⟩:=h.de
 exact hA.de_ne ⟨s,hn⟩ n d (.up hn hd) rfl
theorem mov_wf (hw:Wf D) (n:Nat) (wh:Int) (a:Nat):Wf (movF D n wh a).1:=by
 unfold movF
 by_cases h1:(placeF D wh a).2=1
 ·rw [if_pos h1];exact hw
 rw [if_neg h1]
 by_cases h2:slA D.sl n=none\/(placeF D wh a).2=8
 ·rw [if_pos h2];exact hw
 rw [if_neg h2]
 by_cases h3:a≠0/\wiI D n a=true
 ·rw [if_pos h3];exact hw
 rw [if_neg h3]
 by_cases h4:(placeF D wh a).2≠0
 ·rw [if_pos h4];exact hw
 rw [if_neg h4]
 by_cases h5:64<cntI D (placeF D wh a).1+dpA (slA D.sl) 65 n
 ·rw [if_pos h5];exact hw
 rw [if_neg h5]
 dsimp only
 obtain⟨p1,p2,p3,p4,p5,p6⟩:=place_ok hw (by simpa using h4)
 generalize hp:(placeF D wh a).1=p at *
 obtain⟨s,hs⟩:∃s,slA D.sl n=some s:=by
  cases hs:slA D.sl n with
  | none=>exact absurd (.inl hs) h2
  | some s=>exact⟨s,rfl⟩
 have n0:=hw.a.ne0 hs
 obtain⟨c1,c2⟩:=hw.cnt (p1.imp id fun⟨t,h,_⟩=>⟨t,h⟩)
 have hwp:¬Wi (slA D.sl) n p:=fun hwi=>by
  have hwa:a≠0->∀t,slA D.sl a=some t->Wi (slA D.sl) n a->False:=fun a0 t ht hwi=>h3 ⟨a0,(hw.wi n0 ht).2 hwi⟩
  by_cases hwh:wh<=2
  ·have:=p5 hwh
   subst this
   rcases p6 with e | ⟨t,ht⟩
   ·rw [e] at hwi
    cases hwi with
    | self=>exact n0 rfl
    | up ha _=>rw [hw.a.zero] at ha;cases ha
   ·exact hwa (hw.a.ne0 ht) t ht hwi
  ·obtain⟨t,t1,t2⟩:=p4 om
   rw [<-t2] at hwi
   exact hwa (hw.a.ne0 t1) t t1 (.up t1 hwi)
 obtain⟨o1,o2,o3,o4⟩:=out_wf hw hs
 have hnp:n≠p:=fun e=>hwp (by rw [<-e];exact .self)
 have hnq:n≠s.parent:=fun e=>wi_par hw.a hs (by rw [<-e];exact .self)
 have hs1:slA (outI D n).sl n=some s:=by
  rw [o3,setA_of hs,if_neg (fun e=>hnq e.1)]
 have pe1:p=0\/∃t,slA (outI D n).sl p=some t/\t.kind=1:=by
  rcases p1 with e | ⟨t,ht,hk⟩
  ·exact .inl e
  ·rw [o3]
   obtain⟨u,u1,u2,u3⟩:=setA_of' (p:=s.parent) (l:=(lstI D s.parent).erase n) ht
   exact .inr ⟨u,u1,by rw [u3,hk]⟩
 have hap:∀x t,slA (outI D n).sl x=some t->∃u,slA D.sl x=some u/\u.parent=t.parent:=by rw [o3];exact setA_ap
 have hpa:∀x t,slA D.sl x=some t->∃u,slA (outI D n).sl x=some u/\u.parent=t.parent:=by rw [o3];exact setA_pa
 have R:=o2.rep (p:=p) (c:=cntI D p) hs1 sm pe1 (c2.mono hpa) (fun h=>hwp (h.mono hap)) fun y d hd=>by
  have hd2:=hd.mono hap
  obtain⟨c,k1,k2⟩:=hw.a.chain n s hs
  have k3:=hd2.ch hw.a.zero k2
  have:d<=64:=by
   have:∃u,slA D.sl y=some u:=by
    cases hd2 with
    | self=>exact⟨s,hs⟩
    | up ha _=>exact⟨_,ha⟩
   obtain⟨u,hu⟩:=this
   obtain⟨c',m1,m2⟩:=hw.a.chain y u hu
   have:=m2.fn k3
   omega
  have:=dp_de hw.a 65 n y d ⟨s,hs⟩ (fun z hz=>by simp at hz) om hd2
  omega
 have pe2:p=0\/∃t,slA (outI D n).sl p=some t:=pe1.imp id fun⟨t,h,_⟩=>⟨t,h⟩
 obtain⟨e1,e2⟩:=setI_A (D:=outI D n) (l:=insAt (lstI (outI D n) p) (posF wh a (lstI (outI D n) p)) n) pe2
 have hs2:slA (putI (outI D n) n p wh a).sl n=some s:=by
  unfold putI;rw [e1,setA_of hs1,if_neg (fun e=>hnp e.1)]
 refine⟨?_,?_⟩
 ·unfold updI
  refine WfS.modify (s:=s) (f:=fun s=>{ s with parent:=p }) ?_ hs2 rfl (show s.live=true from slA_live hs)
  unfold putI
  exact setI_S o1 pe2
 ·have eA:slA (updI (putI (outI D n) n p wh a) n fun s=>{ s with parent:=p }).sl=setA (updA (slA (outI D n).sl) n (some { s with parent:=p })) p (insAt (lstI (outI D n) p) (posF wh a (lstI (outI D n) p)) n):=by
   funext x
   unfold updI
   rw [slA_modify (f:=fun s=>{ s with parent:=p }) hs2 rfl (show s.live=true from slA_live hs)]
   by_cases e:x=n
   ·subst e
    rw [if_pos rfl]
    unfold setA
    rw [if_neg (fun e=>hnp e.1),updA_self]
   ·rw [if_neg e]
    unfold putI
    rw [e1]
    unfold setA
    rw [updA_ne e]
  have eR:(updI (putI (outI D n) n p wh a) n fun s=>{ s with parent:=p }).roots=setR (outI D n).roots p (insAt (lstI (outI D n) p) (posF wh a (lstI (outI D n) p)) n):=by
   unfold updI putI
   dsimp only
   rw [e2]
  rw [eA,eR]
  have eL:lstI (outI D n) p=lstA (updA (slA (outI D n).sl) n (some { s with parent:=p })) (outI D n).roots p:=by
   unfold lstI lstA
   rw [updA_ne (Ne.symm hnp)]
  rw [eL]
  exact R.hang (updA_self _ _ _) rfl
theorem killF_A:∀(L:List Nat) (sl:List Sl),WfS sl->L.Nodup->(∀x∈L,∃s,slA sl x=some s)->WfS (killF sl L)/\∀x,slA (killF sl L) x=if x∈L then none else slA sl x
 | [],sl,hw,_,_=>⟨hw,fun x=>by simp [killF]⟩
 | h :: L,sl,hw,hn,hl=>by
  obtain⟨s,hs⟩:=hl h sm
  obtain⟨k,h1,h2,h3,h4⟩:=slA_iff.1 hs
  have hlt:k<sl.length:=(gsi.1 h2).1
  have hnd:=List.nodup_cons.1 hn
  have hm:=mog h2
  have e:killF sl (h :: L)=killF (sl.set k (deadS s.gen)) L:=by
   unfold killF
   rw [List.foldl_cons,h1,nasc,modify_set _ _ _ _ h2]
  have hset:∀x,slA (sl.set k (deadS s.gen)) x=if x=h then none else slA sl x:=fun x=>by
   by_cases ex:x=h
   ·subst ex
    rw [if_pos rfl]
    have:=hw.few
    exact slA_dead (k:=k) (s:=deadS s.gen) om (by simp [hlt]) rfl h1
   ·rw [if_neg ex]
    cases hx:slA sl x with
    | some t=>
     obtain⟨j,j1,j2,j3,j4⟩:=slA_iff.1 hx
     refine slA_iff.2 ⟨j,j1,?_,j3,j4⟩
     rw [gsn,j2]
     rintro rfl
     rw [h2] at j2;cases j2;exact ex (j4.symm.trans h4)
    | none=>
     cases hy:slA (sl.set k (deadS s.gen)) x with
     | none=>rfl
     | some t=>
      obtain⟨j,j1,j2,j3,j4⟩:=slA_iff.1 hy
      by_cases ej:k=j
      ·subst ej
       rw [List.getElem?_set_self hlt] at j2
       cases j2;cases j3
      ·rw [gsn ej] at j2
       rw [slA_iff.2 ⟨j,j1,j2,j3,j4⟩] at hx;cases hx
  obtain⟨r1,r2⟩:=killF_A L (sl.set k (deadS s.gen)) (hw.set (hw.gen s hm) (fun _=>rfl) (fun h=>by cases h)) hnd.2 fun x hx=>by
   rw [hset,if_neg (fun e:x=h=>hnd.1 (e ▸ hx))];exact hl x (by simp [hx])
  rw [e]
  refine⟨r1,fun x=>?_⟩
  rw [r2,hset]
  by_cases ex:x=h
  ·subst ex;simp
  ·rw [if_neg ex];simp [ex]
theorem del_wf (hw:Wf D) (n:Nat):Wf (delF D n).1:=by
 unfold delF
 cases hs:slA D.sl n with
 | none=>exact hw
 | some s=>
  dsimp only
  obtain⟨o1,o2,o3,o4⟩:=out_wf hw hs
  have hl0:∀z,z∈([]:List Nat)->z=n\/¬Wi (slA D.sl) n z:=fun z hz=>by simp at hz
  obtain⟨c,k1,k2⟩:=hw.a.chain n s hs
  have hnq:n≠s.parent:=fun e=>wi_par hw.a hs (by rw [<-e];exact .self)
  have hap:∀x t,slA (outI D n).sl x=some t->∃u,slA D.sl x=some u/\u.parent=t.parent:=by rw [o3];exact setA_ap
  have hpa:∀x t,slA D.sl x=some t->∃u,slA (outI D n).sl x=some u/\u.parent=t.parent:=by rw [o3];exact setA_pa
  obtain⟨r1,r2⟩:=killF_A (allA (slA D.sl) 65 n) (outI D n).sl o1 (all_nodup hw.a 65 n ⟨s,hs⟩ hl0) fun x hx=>by
   obtain⟨t,ht⟩:=all_live hw.a ⟨s,hs⟩ hl0 hx
   obtain⟨u,hu,_⟩:=hpa x t ht
   exact⟨u,hu⟩
  refine⟨r1,?_⟩
  have e:slA (killF (outI D n).sl (allA (slA D.sl) 65 n))=fun x=>if x∈allA (slA D.sl) 65 n then none else slA (outI D n).sl x:=funext r2
  dsimp only
  rw [e]
  refine o2.kill (s:=s) (by rw [o3,setA_of hs,if_neg (fun e=>hnq e.1)]) fun x t hx=>?_
  obtain⟨u,hu,_⟩:=hap x t hx
  rw [mem_all hw.a ⟨s,hs⟩ hl0 k2 om]
  exact⟨fun h=>h.mono hpa,fun h=>h.mono hap⟩
theorem node_wf (hw:Wf D) {n:Nat}{s:Sl}{f:Sl->Sl} (hs:slA D.sl n=some s) (h1:(f s).parent=s.parent) (h2:(f s).kids=s.kids) (h3:(f s).kind=s.kind) (h4:(f s).gen=s.gen) (h5:(f s).live=s.live) (h6:okSl (f s)):Wf (updI D n f):=by
 have hl:(f s).live=true:=by rw [h5];exact slA_live hs
 refine⟨hw.s.modify hs h4 hl,?_⟩
 have e:slA (updI D n f).sl=updA (slA D.sl) n (some (f s)):=funext fun x=>by
  unfold updI
  rw [slA_modify hs h4 hl];rfl
 rw [e]
 exact hw.a.node hs h6 h1 h2 h3
theorem nil_wf:Wf ⟨[],[]⟩:=by
 have h:∀x,slA [] x=none:=fun x=>by
  cases h:slA [] x with
  | none=>rfl
  | some s=>obtain⟨k,h1,h2,_⟩:=slA_iff.1 h;simp at h2
 refine⟨⟨sm,sm,sm,sm⟩,⟨h 0,?_,?_,?_,?_,sm,?_,sm⟩⟩ <;> intro x s hx <;> dsimp only at hx <;> rw [h] at hx <;> cases hx
end
structure E5 where
 kind:Int
 nm:ByteArray
 ats:Sv
 text:ByteArray
 kids:Sv
def E5.cells (e:E5):List Value:=[.int .i64 e.kind,.string e.nm,.slice e.ats.1 e.ats.2.1 e.ats.2.2,.string e.text,.slice e.kids.1 e.kids.2.1 e.kids.2.2]
def LE5:Lay E5:=⟨5,E5.cells,fun _=>rfl,fun _=>by simp [E5.cells,Value.oneCell'],dc⟩
mutual
def RTr (w:Wd):Tr->E5->Prop
 | .mk kind nm attrs text ks,e=>e.kind=kind/\e.nm=nm/\e.text=text/\RR LAt w attrs e.ats/\ks.length<=1048576/\∃es,e.kids.2.1=es.length/\Rd LE5 w e.kids.1 e.kids.2.2 es/\RTl w ks es
def RTl (w:Wd):List Tr->List E5->Prop
 | [],es=>es=[]
 | t :: ts,es=>∃e es',es=e :: es'/\RTr w t e/\RTl w ts es'
end
mutual
theorem RTr.sub {w w1:Wd} (h:Sub w w1):∀(t:Tr) (e:E5),RTr w t e->RTr w1 t e
 | .mk kind nm attrs text ks,e,hp=>by
  simp only [RTr] at hp |-
  obtain⟨h1,h2,h3,h4,h0,es,h5,h6,h7⟩:=hp
  exact⟨h1,h2,h3,h4.sub h,h0,es,h5,h.rd h6,RTl.sub h ks es h7⟩
theorem RTl.sub {w w1:Wd} (h:Sub w w1):∀(ts:List Tr) (es:List E5),RTl w ts es->RTl w1 ts es
 | [],es,hp=>by simp only [RTl] at hp |-;exact hp
 | t :: ts,es,hp=>by
  simp only [RTl] at hp |-
  obtain⟨e,es',h1,h2,h3⟩:=hp
  exact⟨e,es',h1,RTr.sub h t e h2,RTl.sub h ts es' h3⟩
end
theorem RTr.keep {w w1:Wd}{t:Tr}{e:E5} (h:RTr w t e) (hb:Below w.heap.size w w1):RTr w1 t e:=RTr.sub (sub_below hb) t e h
theorem RTl.keep {w w1:Wd}{t:List Tr}{e:List E5} (h:RTl w t e) (hb:Below w.heap.size w w1):RTl w1 t e:=RTl.sub (sub_below hb) t e h
theorem RTl.len {w:Wd}:∀{ts:List Tr}{es:List E5},RTl w ts es->es.length=ts.length
 | [],es,hp=>by simp only [RTl] at hp;subst hp;rfl
 | t :: ts,es,hp=>by
  simp only [RTl] at hp
  obtain⟨e,es',rfl,_,h3⟩:=hp
  simp [h3.len]
theorem RTl.snoc {w:Wd}{q:Tr}{f:E5} (hq:RTr w q f):∀{ts:List Tr}{es:List E5},RTl w ts es->RTl w (ts++[q]) (es++[f])
 | [],es,hp=>by simp only [RTl] at hp;subst hp;simp only [lna,RTl];exact⟨f,[],rfl,hq,rfl⟩
 | t :: ts,es,hp=>by
  simp only [RTl] at hp
  obtain⟨e,es',rfl,h2,h3⟩:=hp
  simp only [List.cons_append,RTl]
  exact⟨e,_,rfl,h2,RTl.snoc hq h3⟩
theorem RTl.get {w:Wd}:∀{ts:List Tr}{es:List E5},RTl w ts es->∀(i:Nat) (h:i<ts.length) (h':i<es.length),RTr w ts[i] es[i]
 | [],es,_,i,h,_=>by simp at h
 | t :: ts,es,hp,i,h,h'=>by
  simp only [RTl] at hp
  obtain⟨e,es',rfl,h2,h3⟩:=hp
  cases i with
  | zero=>exact h2
  | succ i=>exact RTl.get h3 i (by simpa using h) (by simpa using h')
section
variable {w:Wd}{A:OA}{c:Nat}
theorem Rd.e5 {xs:List E5} (h:Rd LE5 w A c xs) {n:Nat} (hn:n=xs.length) {i:Int}{k:Nat} (hi:i=k) (hk:k<xs.length) {K:Addr->Prop}
  (hK:∀b o,w.cell? ⟨b,o,none⟩=some (.int .i64 xs[k].kind)->w.cell? ⟨b,o+1,none⟩=some (.string xs[k].nm)->w.cell? ⟨b,o+2,none⟩=some (.slice xs[k].ats.1 xs[k].ats.2.1 xs[k].ats.2.2)->w.cell? ⟨b,o+3,none⟩=some (.string xs[k].text) ->
   w.cell? ⟨b,o+4,none⟩=some (.slice xs[k].kids.1 xs[k].kids.2.1 xs[k].kids.2.2)->K ⟨b,o,none⟩):IdxA A n i 5 K:=by
 subst hi
 refine h.idx hn om om rfl fun b o hc=>?_
 simp only [tnc] at hc
 exact hK b o (hc 0 _ rfl) (hc 1 _ rfl) (hc 2 _ rfl) (hc 3 _ rfl) (hc 4 _ rfl)
end
section
variable {P:Program}{w:Wd}
theorem setRow_fm {g:Nat}{cur c':Array Value}{t:TypeId} (hg:Blk w g cur t):Blk (w.setRow g c') g c' t/\Fm (·=g) w (w.setRow g c'):=by
 refine⟨setRow_heap w g cur c' t _ hg,⟨rfl,rfl,rfl,by simp [World.setRow],fun b hb hm=>?_⟩⟩
 have hm:¬g=b:=fun e=>hm e.symm
 simp [World.setRow,Array.getElem?_modify,hm]
theorem sizeT_info {e:TypeId}{sz:Nat} (h:sizeT P e=some sz):∃i,P.info? e=some i/\i.size=sz:=by
 unfold sizeT at h
 split at h
 ·rename_i i hi;exact⟨i,hi,by simpa using h⟩
 ·cases h
theorem copy_blk {g:Nat}{l:List Value}{t dT sT ty elem:TypeId}{sz:Nat} (hg:Blk w g l.toArray t) (hu:P.underlying dT=some (.slice elem)) (hsz:sizeT P elem=some sz) {o dLen dCap:Nat}{a:Addr}{sLen sCap:Nat}{cs:List Value}
  (hn:cs.length=Nat.min sLen dLen*sz) (hsrc:∀j v,cs[j]?=some v->w.cell? (a.add j)=some v) (hfit:o+cs.length<=l.length) (h1:∀v∈cs,v.oneCell'=true) {K:Value->Wd->Prop}
  (hK:∀w',Blk w' g (l.take o++cs++l.drop (o+cs.length)).toArray t->Fm (·=g) w w'->K (goInt (Nat.min sLen dLen)) w') :
  Raw P (Builtin.copy_ #[dT,sT] ty #[.slice (some ⟨g,o,none⟩) dLen dCap,.slice (some a) sLen sCap]) w K:=by
 obtain⟨i,hi,hiz⟩:=sizeT_info hsz
 have hl:=run_loadCells_list (P:=P) w a cs hsrc
 have hst:=run_storeCells_at P g o t cs 0 l.toArray w hg (by simpa using hfit) h1
 obtain⟨q1,q2⟩:=setRow_fm (w:=w) (c':=(l.take o++cs++l.drop (o+cs.length)).toArray) hg
 refine⟨_,_,?_,hK _ q1 q2⟩
 subst hiz
 simp [Builtin.copy_,run_underlying hu,Builtin.lenOf,Builtin.firstCells,sizeOf,typeInfo,hi,<-hn,hl,hst]
theorem clear_blk {g:Nat}{l:List Value}{t dT ty elem:TypeId}{z:Value} (hg:Blk w g l.toArray t) (hu:P.underlying dT=some (.slice elem)) (hz:zeroT P elem=some z) {o n c:Nat} (hfit:o+n*z.cells.size<=l.length) (h1:∀v∈z.cells.toList,v.oneCell'=true) {K:Value->Wd->Prop}
  (hK:∀w' cs,cs.length=n*z.cells.size->Blk w' g (l.take o++cs++l.drop (o+n*z.cells.size)).toArray t->Fm (·=g) w w'->K (.tuple #[]) w') :
  Raw P (Builtin.clear_ #[dT] ty #[.slice (some ⟨g,o,none⟩) n c]) w K:=by
 cases n with
 | zero=>
  refine⟨.tuple #[],w,by simp [Builtin.clear_,run_underlying hu],hK w [] sm ?_ (Fm.refl _ _)⟩
  simpa using hg
 | succ m=>
  have hcl:(Builtin.zeroCells z.cells (m+1)).toList.length=(m+1)*z.cells.size:=by simp [Builtin.zeroCells]
  have h1':∀v∈(Builtin.zeroCells z.cells (m+1)).toList,v.oneCell'=true:=fun v hv=>by
   simp only [Builtin.zeroCells,Array.toList_map,List.mem_map] at hv
   obtain⟨k,hk,rfl⟩:=hv
   have hk':k<(m+1)*z.cells.size:=by simpa using hk
   have hpos:0<z.cells.size:=Nat.pos_of_ne_zero fun e=>by rw [e] at hk';omega
   have hm:k % z.cells.size<z.cells.size:=Nat.mod_lt _ hpos
   rw [getElem!_pos z.cells _ hm]
   exact h1 _ sm
  have hst:=run_storeCells_at P g o t (Builtin.zeroCells z.cells (m+1)).toList 0 l.toArray w hg (by rw [hcl];simpa using hfit) h1'
  obtain⟨q1,q2⟩:=setRow_fm (w:=w) (c':=(l.take o++(Builtin.zeroCells z.cells (m+1)).toList++l.drop (o+(m+1)*z.cells.size)).toArray) hg
  rw [hcl] at hst
  refine⟨_,_,?_,hK _ _ hcl q1 q2⟩
  simp only [Nat.add_zero] at hst
  simp [Builtin.clear_,run_underlying hu,zeroT_run hz,hst]
theorem app_room {g:Nat}{l:List Value}{t sT ty elem:TypeId}{sz:Nat} (hg:Blk w g l.toArray t) (hu:P.underlying sT=some (.slice elem)) (hsz:sizeT P elem=some sz) {sLen sCap:Nat}{a:Addr}{n c:Nat}{cs:List Value}
  (hn:cs.length=n*sz) (hsrc:∀j v,cs[j]?=some v->w.cell? (a.add j)=some v) (hroom:sLen+n<=sCap) (hfit:sLen*sz+cs.length<=l.length) (h1:∀v∈cs,v.oneCell'=true) {K:Value->Wd->Prop}
  (hK:∀w',Blk w' g (l.take (sLen*sz)++cs++l.drop (sLen*sz+cs.length)).toArray t->Fm (·=g) w w'->K (.slice (some ⟨g,0,none⟩) (sLen+n) sCap) w') :
  Raw P (Builtin.append_ #[sT,sT] ty #[.slice (some ⟨g,0,none⟩) sLen sCap,.slice (some a) n c]) w K:=by
 obtain⟨i,hi,hiz⟩:=sizeT_info hsz
 have hl:=run_loadCells_list (P:=P) w a cs hsrc
 have hst:=run_storeCells_at P g (sLen*sz) t cs 0 l.toArray w hg (by simpa using hfit) h1
 obtain⟨q1,q2⟩:=setRow_fm (w:=w) (c':=(l.take (sLen*sz)++cs++l.drop (sLen*sz+cs.length)).toArray) hg
 refine⟨_,_,?_,hK _ q1 q2⟩
 subst hiz
 have hadd:(⟨g,0,none⟩:Addr).add (sLen*i.size)=⟨g,sLen*i.size,none⟩:=by rw [Addr.add_mk,nza]
 simp [Builtin.append_,run_underlying hu,Builtin.lenOf,Builtin.firstCells,sizeOf,typeInfo,hi,<-hn,hl,hst,hroom,hadd]
theorem apz {t u ty e:TypeId}{i:TypeInfo}{z:Value}{k:IntKind} (ht:P.underlying t=some (.slice e)) (hu:P.underlying u=some (.int k)) (hi:P.info? e=some i) (hz:i.zero=some z)
  {b:Addr}{sLen sCap:Nat}{olds:List Value} (hlo:olds.length=sLen*i.size) (holds:∀j v,olds[j]?=some v->w.cell? (b.add j)=some v) {n:Nat} (h0:0<n)
  (hg:sCap<sLen+n) (h63:((sLen+n:Nat):Int)<=9223372036854775807) (hfit:Builtin.nextslicecap (sLen+n) sCap*i.bytes<=281474976710656) (hb:n*i.bytes<=281474976710656) {K:Value->Wd->Prop}
  (hK:K (.slice (some ⟨w.heap.size,0,none⟩) (sLen+n) (grownCap w (sLen+n) sCap e)) (w.drew.alloc (.cells (olds.toArray++(if n*i.size=0 then #[] else Builtin.zeroCells z.cells n)++Builtin.zeroCells z.cells (grownCap w (sLen+n) sCap e-(sLen+n))) e))) :
  Raw P (Builtin.append_ #[t,u] ty #[.slice (some b) sLen sCap,.int .i64 (n:Nat)]) w K:=by
 have hn:¬(sLen+n<=sCap):=by omega
 have h63':¬(9223372036854775807<((sLen:Int)+(n:Int))):=by omega
 have h48':¬(281474976710656<Builtin.nextslicecap (sLen+n) sCap*i.bytes):=by omega
 have hfo:=run_firstCells_some (P:=P) w.drew i.size sLen b sLen sCap olds hlo (by simpa using holds)
 refine⟨_,_,?_,hK⟩
 have hw:IntKind.i64.wrap (n:Int)=n:=by
  simp [IntKind.wrap,IntKind.signed,IntKind.bits];omega
 have hneg:¬((n:Int)<0):=by omega
 have hb':¬((281474976710656:Int)<(n:Int)*(i.bytes:Nat)):=by
  have:(n:Int)*(i.bytes:Nat)=((n*i.bytes:Nat):Int):=by simp
  rw [this];omega
 by_cases hz0:n*i.size=0
 ·rw [if_pos hz0]
  simp [Builtin.append_,run_underlying ht,run_underlying hu,sizeOf,typeInfo,zeroValue,asInt,asIntOf,hi,hz,hw,hneg,hb',hn,h63',h48',Question.forced,hfo,newRow,grownCap,hz0]
 ·rw [if_neg hz0]
  simp [Builtin.append_,run_underlying ht,run_underlying hu,sizeOf,typeInfo,zeroValue,asInt,asIntOf,hi,hz,hw,hneg,hb',hn,h63',h48',Question.forced,hfo,newRow,grownCap,hz0]
end
def nodeC (i:Nat) (s:Sl) (a:Sv) (par:OA) (kv:Sv):Array Value:=#[.int .u32 (i+1:Nat),.int .u32 (s.gen:Nat),.bool s.live,.int .i64 s.kind,.string s.nm,.slice a.1 a.2.1 a.2.2,.string s.text,.pointer par,.slice kv.1 kv.2.1 kv.2.2]
def LPt:Lay Nat:=⟨1,fun b=>[.pointer (some ⟨b,0,none⟩)],fun _=>rfl,fun _=>by simp [Value.oneCell'],dc⟩
theorem Rd.pt {w:Wd}{A:OA}{c:Nat}{xs:List Nat} (h:Rd LPt w A c xs) {n:Nat} (hn:n=xs.length) {i:Int}{k:Nat} (hi:i=k) (hk:k<xs.length) {K:Addr->Prop}
  (hK:∀b o,w.cell? ⟨b,o,none⟩=some (.pointer (some ⟨xs[k],0,none⟩))->K ⟨b,o,none⟩):IdxA A n i 1 K:=by
 subst hi
 refine h.idx hn om om rfl fun b o hc=>?_
 simp only [tnc] at hc
 exact hK b o (hc 0 _ rfl)
end Go.Proofs.YtnbgiacnbheonaaGreatDoor
