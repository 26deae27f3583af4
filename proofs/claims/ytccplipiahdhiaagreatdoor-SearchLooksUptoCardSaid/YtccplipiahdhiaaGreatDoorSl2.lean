/- Search: SearchLooks, the card. -/
import Derived.Lib.TrimUEq
import Derived.Lib.Strings
import Derived.Test.YtccplipiahdhiaaGreatDoorProg
import Derived.Laws.CopyRow
import Derived.Laws.Append
import Derived.Lib.Overlaps
import Derived.Laws.Externs
import Derived.Test.YtccplipiahdhiaaGreatDoorSl1
namespace Go.Proofs.YtccplipiahdhiaaGreatDoor
open Go.RowKit
theorem decGo_extract (s:ByteArray) (pos:Nat) (h:pos < s.size):Lib.decodeGo (s.extract pos s.size)=Utf8.decode s pos:=by
 have hx:(s.extract pos s.size).data.toList=s.data.toList.drop pos:=by
  rw [Lib.extract_data,List.take_of_length_le (by rw [List.length_drop,←Lib.size_eq];omega)]
 have hsz:(s.extract pos s.size).size≠0:=by rw [Lib.size_eq,hx,List.length_drop,←Lib.size_eq];omega
 unfold Lib.decodeGo
 rw [if_neg hsz,←Lib.decodeL_drop s pos,←hx]
 rfl
theorem atR_extract (s:ByteArray) (i:Nat) (hi:i < s.size):atR (s.extract i s.size) 0=atR s i:=by
 have h:=decGo_extract s i hi
 have hz:0 < (s.extract i s.size).size:=by simp;omega
 rw [←dec_at _ 0 hz,←dec_at s i hi,←h]
 unfold Lib.decodeGo
 rw [if_neg (by omega)]
theorem Tabs.keep {w w1:World} (h:Tabs w) (hb:Below w.heap.size w w1):Tabs w1:=⟨fun c hc=>kcell hb (h.1 c hc),fun i hi=>⟨kcell hb (h.2 i hi).1,kcell hb (h.2 i hi).2⟩⟩
set_option maxHeartbeats 4000000
set_option maxRecDepth 100000
theorem text_calls (s:ByteArray) (w:World) (hT:Tabs w):Calls Tryz.prog 112 #[.string s] w fun e w'=>e=.returned (.tuple #[.int .i64 (textS s).1,.int .i64 (textS s).2])∧Below w.heap.size w w':=by
 by_cases h:16384 < s.size
 ·have h0:(16384:Int) < s.size:=by omega
  have hX:textS s=(0,2):=by unfold textS;rw [if_pos h]
  go_enter Tryz.func112,Tryz.ntmps112
  go_wp2_with (go_at_call 151;fail)
  go_ret2
  exact⟨by first | rfl | (rw [hX];rfl),Below.refl _ _⟩
 have hX:textS s=badF s (s.size+1) 0:=by unfold textS;rw [if_neg h]
 have h0:¬(16384:Int) < s.size:=by omega
 have HX:=Lib.hid hX
 have HT:=Lib.hid hT
 clear hX hT
 go_enter Tryz.func112,Tryz.ntmps112
 go_wp2
 go_loopw [4] (fun v wr=>∃(i f:Nat),s.size < i+f∧v=.int .i64 i∧i≤s.size+4∧Below w.heap.size w wr∧Hid (badF s (s.size+1) 0=badF s f i)) (fun v wr=>s.size-(intOf v).toNat)
 case atStart=>exact⟨0,s.size+1,by omega,rfl,by omega,Below.refl _ _,Lib.hid rfl⟩
 case round =>
  obtain⟨i,f,hf,rfl,hi4,HB,HF⟩:=hrel
  by_cases hi:i < s.size
  ·have hi0:(i:Int) < s.size:=by omega
   obtain⟨f,rfl⟩:∃g,f=g+1:=⟨f-1,by omega⟩
   obtain⟨n,hn⟩:∃n,(atR s i).2=n:=⟨_,rfl⟩
   obtain⟨r,hr⟩:∃r,(atR s i).1=r:=⟨_,rfl⟩
   have hn4:=atR_le s i
   rw [hn] at hn4
   have hF:textS s=if n=0 then (i,7) else badF s f (i+n):=by rw [HX.out,HF.out,badF,if_neg (by omega),hn]
   have HF2:Hid (n≠0→badF s (s.size+1) 0=badF s f (i+n)):=Lib.hid (fun h=>by rw [HF.out,badF,if_neg (by omega),hn,if_neg h])
   have HF:=Lib.hid hF
   have cA:=fun (w:World) (hT:Tabs w)=>first_calls (s.extract i s.size) (by simp;omega) w hT
   rw [atR_extract s i hi] at cA
   simp only [hn,hr] at cA
   have HI:=Lib.hid (And.intro hf (And.intro hi4 (And.intro hi hn4)))
   clear hF hn hr hf hi4 hi hn4
   obtain⟨wo,rfl⟩:∃wo:World,wo=wr:=⟨_,rfl⟩
   by_cases hn0:n=0
   ·subst hn0
    go_wp2_with (go_at_call 151;(with_reducible refine (cA _ (HT.out.keep HB)).mono ?_);rintro e w1 ⟨rfl,hb⟩;replace HB:=bt1 HB hb;clear hb)
    go_ret2
    have hF0:textS s=(i,7):=by rw [HF.out];simp
    exact⟨by rw [hF0];rfl,HB⟩
   ·have hn1:¬(n:Int)=0:=by omega
    have hn2:((n:Int) == 0)=false:=by simpa using hn1
    simp only [if_neg hn0] at cA
    go_wp2_with (go_at_call 151;(with_reducible refine (cA _ (HT.out.keep HB)).mono ?_);rintro e w1 ⟨rfl,hb⟩;replace HB:=bt1 HB hb;clear hb)
    obtain⟨hf,hi4,hi,hn4⟩:=HI.out
    refine⟨⟨i+n,f,by omega,?_,by omega,HB,Lib.hid (HF2.out hn0)⟩,?_⟩
    ·rw [IntWalk.wrap64_in _ (by omega)];congr 1
    ·rw [IntWalk.wrap64_in _ (by omega)];simp only [intOf];omega
  ·have hi0:¬(i:Int) < s.size:=by omega
   have hF:textS s=(0,0):=by
    rw [HX.out,HF.out];cases f with
    | zero=>rfl
    | succ f=>rw [badF,if_pos (by omega)]
   have HF:=Lib.hid hF
   clear hF
   go_wp2
   go_ret2
   exact⟨by rw [HF.out];rfl,HB⟩
end Go.Proofs.YtccplipiahdhiaaGreatDoor
set_option linter.unusedVariables false
set_option maxRecDepth 100000
namespace Go.Proofs.YtccplipiahdhiaaGreatDoor
open Go.Vc
def F56 (d:Option Addr) (h_:Int) (p:World) (R:Ending→World→Prop):Prop :=
 Br (h_ == (0:Int))
 (NonNil d fun p10 =>
 LdSl (p.cell? (p10.add 1)) fun j a i =>
 Calls Tryz.prog 96 #[(.slice j a i),(.slice none 0 0)] p (post R fun v w1 =>
 ∃(n:Option Addr) (h:Nat) (b:Nat),v=(.slice n h b) ∧
 R (.returned (.tuple #[(.slice n h b),(.int .i64 0)])) w1))
 (Calls Tryz.prog 65 #[(.pointer d),(.int .u64 h_)] p (post R fun v w1 =>
 ∃(k:Option Addr),v=(.pointer k) ∧
 Br (k).isNone
 (R (.returned (.tuple #[(.slice none 0 0),(.int .i64 8)])) w1)
 (Al w1 #[(.pointer k)] 152 fun g20 c =>
 Calls Tryz.prog 96 #[(.slice (some g20) 1 1),(.slice none 0 0)] c (post R fun v2 e =>
 ∃(m:Option Addr) (f:Nat) (g:Nat),v2=(.slice m f g) ∧
 R (.returned (.tuple #[(.slice m f g),(.int .i64 0)])) e))))
theorem ok56 (d:Option Addr) (h_:Int) {w:World}{R:Ending→World→Prop} (h:F56 d h_ w R):Calls Tryz.prog 56 #[(.pointer d),(.int .u64 h_)] w R :=
 vc_calls (pl:=⟨22,⟨[]⟩,[],[]⟩) Tryz.func56 (by kernel_rfl) (by kernel_rfl) (by kernel_rfl) (Eq.mp (by kernel_rfl) h)
def F64_j16 (L11:Int→World→Prop) (a:Int) (b:World) (R:Ending→World→Prop):Prop :=
 InR .i64 (a+(1:Int))∧L11 (a+(1:Int)) b
def F64_l11 (d:Option Addr) (c:Addr) (va:Option Addr) (g:Nat) (L11:Int→World→Prop) (cb:Int) (ja:World) (R:Ending→World→Prop):Prop :=
 Br (decide (cb < ((g:Nat):Int)))
 (∃J16:World→Prop,(∀ (w1:World),J16 w1→F64_j16 L11 cb w1 R) ∧
 (IdxA va g cb 1 fun pa =>
 LdP (ja.cell? pa) fun qa =>
 ∃S:World→Prop,S ja.drew∧∃(na:Option Addr),Held S c (.pointer na)∧NonNil na fun p64 =>
 ∃(za:Option Addr) (da:Nat) (m:Nat),Held S p64 (.slice za da m)∧IdxA za da cb 1 fun ha =>
 ∃(bb:Option Addr),Held S ha (.pointer bb)∧NonNil qa fun p72 =>
 ∃(ka:Option Addr) (i:Nat) (aa:Nat),Held S (p72.add 8) (.slice ka i aa)∧CallV Tryz.prog (.func (.func 110) #[] #[(.pointer (some c))]) #[(.slice ka i aa)] ja.drew R (fun v n =>
 ∃(ia:Option Addr) (r:Nat) (t:Nat),v=(.slice ia r t) ∧
 S n∧NonNil bb fun p76 =>
 St n (p76.add 8) (.slice ia r t) fun q =>
 NonNil qa fun p79 =>
 LdP (q.cell? (p79.add 7)) fun ta =>
 Br (!(ta).isNone)
 (∃S2:World→Prop,S2 q.drew∧∃(ua:Option Addr),Held S2 c (.pointer ua)∧NonNil ua fun p84 =>
 ∃(ga:Option Addr) (j:Nat) (ea:Nat),Held S2 p84 (.slice ga j ea)∧IdxA ga j cb 1 fun ra =>
 ∃(ma:Option Addr),Held S2 ra (.pointer ma)∧∃(sa:Option Addr),Held S2 c (.pointer sa)∧NonNil sa fun p91 =>
 ∃(ab:Option Addr) (h:Nat) (fa:Nat),Held S2 p91 (.slice ab h fa)∧NonNil qa fun p95 =>
 ∃(ya:Option Addr),Held S2 (p95.add 7) (.pointer ya)∧NonNil ya fun p98 =>
 ∃(ba:Int),Held S2 p98 (.int .u32 ba)∧InR .u32 (ba-(1:Int))∧IdxA ab h (ba-(1:Int)) 1 fun u =>
 ∃(k:Option Addr),Held S2 u (.pointer k)∧NonNil ma fun p104 =>
 St q.drew (p104.add 7) (.pointer k) fun y =>
 J16 y)
 (J16 q))))
 (∃S:World→Prop,S ja.drew∧∃(p:Option Addr),Held S c (.pointer p)∧NonNil d fun p110 =>
 ∃(ca:Option Addr) (a:Nat) (e:Nat),Held S (p110.add 1) (.slice ca a e)∧CallV Tryz.prog (.func (.func 110) #[] #[(.pointer (some c))]) #[(.slice ca a e)] ja.drew R (fun v n =>
 ∃(z:Option Addr) (f:Nat) (b:Nat),v=(.slice z f b) ∧
 S n∧NonNil p fun p114 =>
 St n (p114.add 1) (.slice z f b) fun q =>
 LdP (q.cell? c) fun s =>
 R (.returned (.pointer s)) q))
def F64_l3 (d:Option Addr) (c:Addr) (kb:Option Addr) (va:Nat) (L3:Int→World→Prop) (hb:Int) (ya:World) (R:Ending→World→Prop):Prop :=
 Br (decide (hb < ((va:Nat):Int)))
 (IdxA kb va hb 1 fun fb =>
 LdP (ya.cell? fb) fun jb =>
 NonNil jb fun p34 =>
 LdI .u32 (ya.cell? p34) fun u =>
 LdI .u32 (ya.cell? (p34.add 1)) fun s =>
 LdB (ya.cell? (p34.add 2)) fun r =>
 LdI .i64 (ya.cell? (p34.add 3)) fun aa =>
 LdStr (ya.cell? (p34.add 4)) fun j =>
 LdSl (ya.cell? (p34.add 5)) fun p e b =>
 LdStr (ya.cell? (p34.add 6)) fun i =>
 LdP (ya.cell? (p34.add 7)) fun y =>
 LdSl (ya.cell? (p34.add 8)) fun n a f =>
 Al ya #[(.int .u32 0),(.int .u32 0),(.bool false),(.int .i64 0),(.string (ByteArray.mk #[])),(.slice none 0 0),(.string (ByteArray.mk #[])),(.pointer none),(.slice none 0 0)] 202 fun m_ w1 =>
 St w1 m_ (.int .u32 u) fun fa =>
 St fa (m_.add 1) (.int .u32 s) fun ia =>
 St ia (m_.add 2) (.bool r) fun ga =>
 St ga (m_.add 3) (.int .i64 aa) fun na =>
 St na (m_.add 4) (.string j) fun ja =>
 St ja (m_.add 5) (.slice p e b) fun ua =>
 St ua (m_.add 6) (.string i) fun ra =>
 St ra (m_.add 7) (.pointer y) fun ma =>
 St ma (m_.add 8) (.slice n a f) fun k =>
 NonNil jb fun p37 =>
 LdSl (k.cell? (p37.add 5)) fun za ea pa =>
 Calls Tryz.prog 109 #[(.slice za ea pa)] k (post R fun v z =>
 ∃(cb:Option Addr) (qa:Nat) (ta:Nat),v=(.slice cb qa ta) ∧
 St z (m_.add 5) (.slice cb qa ta) fun h =>
 ∃S:World→Prop,S h.drew∧∃(ab:Option Addr),Held S c (.pointer ab)∧∃(eb:Option Addr),Held S c (.pointer eb)∧NonNil eb fun p44 =>
 ∃(bb:Option Addr) (ha:Nat) (ca:Nat),Held S p44 (.slice bb ha ca)∧Al h.drew #[(.pointer (some m_))] 152 fun g47 g =>
 S g∧Raw Tryz.prog (Builtin.append_ #[96,96] 96 #[(.slice bb ha ca),(.slice (some g47) 1 1)]) g fun v2 t =>
 ∃(db:Option Addr) (ka:Nat) (sa:Nat),v2=(.slice db ka sa) ∧
 S t∧NonNil ab fun p49 =>
 St t p49 (.slice db ka sa) fun q =>
 InR .i64 (hb+(1:Int))∧L3 (hb+(1:Int)) q))
 (NonNil d fun p54 =>
 LdSl (ya.cell? p54) fun gb ba da =>
 ∃(I:Int→World→Prop) (m:Int→World→Nat),I (0:Int) ya ∧
 ∀(ib:Int) (w1:World),I ib w1→F64_l11 d c gb ba (fun ib' w2=>I ib' w2∧m ib' w2 < m ib w1) ib w1 R)
def F64_j2 (d:Option Addr) (c:Addr) (e:World) (R:Ending→World→Prop):Prop :=
 NonNil d fun p25 =>
 LdSl (e.cell? p25) fun g b a =>
 ∃(I:Int→World→Prop) (m:Int→World→Nat),I (0:Int) e ∧
 ∀(f:Int) (w1:World),I f w1→F64_l3 d c g b (fun f' w2=>I f' w2∧m f' w2 < m f w1) f w1 R
def F64 (d:Option Addr) (i:World) (R:Ending→World→Prop):Prop :=
 ∃J2:Addr→World→Prop,(∀(c:Addr) (w1:World),J2 c w1→F64_j2 d c w1 R) ∧
 (∃S:World→Prop,S i.drew∧NonNil d fun p11 =>
 ∃(h:Int),Held S (p11.add 2) (.int .i64 h)∧NonNil d fun p15 =>
 ∃(f:Int),Held S (p15.add 3) (.int .i64 f)∧NonNil d fun p19 =>
 ∃(g:Int),Held S (p19.add 4) (.int .i64 g)∧(Al i.drew #[(.slice none 0 0),(.slice none 0 0),(.int .i64 h),(.int .i64 f),(.int .i64 g)] 98 fun g23 a =>
 Al a #[(.pointer none)] 77 fun c e =>
 St e c (.pointer (some g23)) fun b =>
 J2 c b)
 ∧ (Al i.drew #[(.pointer none)] 77 fun c a =>
 S a∧Al a #[(.slice none 0 0),(.slice none 0 0),(.int .i64 h),(.int .i64 f),(.int .i64 g)] 98 fun g23 e =>
 St e c (.pointer (some g23)) fun b =>
 J2 c b))
theorem ok64 (d:Option Addr) {w:World}{R:Ending→World→Prop} (h:F64 d w R):Calls Tryz.prog 64 #[(.pointer d)] w R :=
 vc_calls (pl:=⟨117,⟨[]⟩,[(16,⟨[],[(8,10),(60,106)]⟩),(2,⟨[(3,(.s .addr))],[(3,24)]⟩)],[(3,⟨[(29,(.s (.int .i64)))],[(5,7),(29,52)]⟩),(11,⟨[(58,(.s (.int .i64)))],[(8,10),(58,107)]⟩)]⟩) Tryz.func64 (by kernel_rfl) (by kernel_rfl) (by kernel_rfl) (Eq.mp (by kernel_rfl) h)
def F110_l3 (l:Option Addr) (lN:Nat) (cap0:Addr) (L3:Option Addr→Nat→Nat→Int→World→Prop) (out:Option Addr) (outN:Nat) (outC:Nat) (r:Int) (m:World) (R:Ending→World→Prop):Prop :=
 Br (decide (r < ((lN:Nat):Int)))
 (IdxA l lN r 1 fun g =>
 LdP (m.cell? g) fun h =>
 ∃S:World→Prop,S m.drew∧∃(k:Option Addr),Held S cap0 (.pointer k)∧NonNil k fun p15 =>
 ∃(j:Option Addr) (c:Nat) (a:Nat),Held S p15 (.slice j c a)∧NonNil h fun p19 =>
 ∃(p:Int),Held S p19 (.int .u32 p)∧InR .u32 (p-(1:Int))∧IdxA j c (p-(1:Int)) 1 fun n =>
 ∃(i:Option Addr),Held S n (.pointer i)∧Al m.drew #[(.pointer i)] 152 fun g25 b =>
 Raw Tryz.prog (Builtin.append_ #[96,96] 96 #[(.slice out outN outC),(.slice (some g25) 1 1)]) b fun v d =>
 ∃(q:Option Addr) (e:Nat) (f:Nat),v=(.slice q e f) ∧
 InR .i64 (r+(1:Int))∧L3 q e f (r+(1:Int)) d)
 (R (.returned (.slice out outN outC)) m)
def F110 (l:Option Addr) (lN:Nat) (lC:Nat) (cap0:Addr) (b:World) (R:Ending→World→Prop):Prop :=
 ∃(I:Option Addr→Nat→Nat→Int→World→Prop) (m:Option Addr→Nat→Nat→Int→World→Nat),I none 0 0 (0:Int) b ∧
 ∀(out:Option Addr) (outN:Nat) (outC:Nat) (a:Int) (w1:World),I out outN outC a w1→F110_l3 l lN cap0 (fun out' outN' outC' a' w2=>I out' outN' outC' a' w2∧m out' outN' outC' a' w2 < m out outN outC a w1) out outN outC a w1 R
theorem ok110 (l:Option Addr) (lN:Nat) (lC:Nat) (cap0:Addr) {w:World}{R:Ending→World→Prop} (h:F110 l lN lC cap0 w R):Calls Tryz.prog 110 #[(.slice l lN lC),(.pointer (some cap0))] w R :=
 vc_calls (pl:=⟨29,⟨[]⟩,[],[(3,⟨[(4,(.s .slice)),(9,(.s (.int .i64)))],[(4,7),(9,28)]⟩)]⟩) Tryz.func110 (by kernel_rfl) (by kernel_rfl) (by kernel_rfl) (Eq.mp (by kernel_rfl) h)
def F35 (d:Option Addr) (h_:Int) (t:World) (R:Ending→World→Prop):Prop :=
 Al t #[(.int .i64 0),(.string (ByteArray.mk #[])),(.slice none 0 0),(.string (ByteArray.mk #[])),(.slice none 0 0)] 84 fun g4 w1 =>
 Calls Tryz.prog 65 #[(.pointer d),(.int .u64 h_)] w1 (post R fun v k =>
 ∃(u:Option Addr),v=(.pointer u) ∧
 Br (u).isNone
 (St k g4 (.int .i64 0) fun n =>
 St n (g4.add 1) (.string (ByteArray.mk #[])) fun m =>
 St m (g4.add 2) (.slice none 0 0) fun s =>
 St s (g4.add 3) (.string (ByteArray.mk #[])) fun p =>
 St p (g4.add 4) (.slice none 0 0) fun q =>
 LdI .i64 (q.cell? g4) fun res0_0 =>
 LdStr (q.cell? (g4.add 1)) fun res0_1 =>
 LdSl (q.cell? (g4.add 2)) fun res0_2 res0_2N res0_2C =>
 LdStr (q.cell? (g4.add 3)) fun res0_3 =>
 LdSl (q.cell? (g4.add 4)) fun res0_4 res0_4N res0_4C =>
 R (.returned (.tuple #[(.agg #[(.int .i64 res0_0),(.string res0_1),(.slice res0_2 res0_2N res0_2C),(.string res0_3),(.slice res0_4 res0_4N res0_4C)]),(.int .i64 8)])) q)
 (Calls Tryz.prog 66 #[(.pointer u)] k (post R fun v2 n =>
 ∃(f:Int) (j:ByteArray) (i:Option Addr) (c:Nat) (a:Nat) (h:ByteArray) (g:Option Addr) (e:Nat) (b:Nat),v2=(.agg #[(.int .i64 f),(.string j),(.slice i c a),(.string h),(.slice g e b)]) ∧
 St n g4 (.int .i64 f) fun m =>
 St m (g4.add 1) (.string j) fun s =>
 St s (g4.add 2) (.slice i c a) fun p =>
 St p (g4.add 3) (.string h) fun q =>
 St q (g4.add 4) (.slice g e b) fun r =>
 LdI .i64 (r.cell? g4) fun res0_0 =>
 LdStr (r.cell? (g4.add 1)) fun res0_1 =>
 LdSl (r.cell? (g4.add 2)) fun res0_2 res0_2N res0_2C =>
 LdStr (r.cell? (g4.add 3)) fun res0_3 =>
 LdSl (r.cell? (g4.add 4)) fun res0_4 res0_4N res0_4C =>
 R (.returned (.tuple #[(.agg #[(.int .i64 res0_0),(.string res0_1),(.slice res0_2 res0_2N res0_2C),(.string res0_3),(.slice res0_4 res0_4N res0_4C)]),(.int .i64 0)])) r)))
theorem ok35 (d:Option Addr) (h_:Int) {w:World}{R:Ending→World→Prop} (h:F35 d h_ w R):Calls Tryz.prog 35 #[(.pointer d),(.int .u64 h_)] w R :=
 vc_calls (pl:=⟨15,⟨[]⟩,[],[]⟩) Tryz.func35 (by kernel_rfl) (by kernel_rfl) (by kernel_rfl) (Eq.mp (by kernel_rfl) h)
def F73_j10 (d:Option Addr) (where_:Int) (g7:Addr) (l:Addr) (ea:Option Addr) (u:World) (R:Ending→World→Prop):Prop :=
 Calls Tryz.prog 121 #[(.pointer d),(.int .i64 where_),(.pointer ea)] u (post R fun v4 r =>
 ∃(i:Option Addr) (m:Int),v4=(.tuple #[(.pointer i),(.int .i64 m)]) ∧
 Br (m != (0:Int))
 (R (.returned (.tuple #[(.int .u64 0),(.int .i64 m)])) r)
 (∃S:World→Prop,S r.drew∧∃(v:Int),Held S (l.add 1) (.int .i64 v)∧Calls Tryz.prog 108 #[(.pointer i)] r.drew (post R fun v5 t =>
 ∃(da:Int),v5=(.int .i64 da) ∧
 S t∧InR .i64 (da+(1:Int))∧InR .i64 ((da+(1:Int))+v)∧Br (decide (((da+(1:Int))+v) > (64:Int)))
 (R (.returned (.tuple #[(.int .u64 0),(.int .i64 32)])) t)
 (Dr t fun s =>
 NonNil d fun p55 =>
 LdI .i64 (s.cell? (p55.add 2)) fun y =>
 NonNil d fun p59 =>
 LdI .i64 (s.cell? (p59.add 3)) fun ba =>
 InR .i64 (y+ba)∧LdI .i64 (s.cell? l) fun ca =>
 InR .i64 ((y+ba)+ca)∧Br (decide (((y+ba)+ca) > (4096:Int)))
 (R (.returned (.tuple #[(.int .u64 0),(.int .i64 33)])) s)
 (LdI .i64 (s.cell? g7) fun g =>
 LdStr (s.cell? (g7.add 1)) fun p =>
 LdSl (s.cell? (g7.add 2)) fun n c e =>
 LdStr (s.cell? (g7.add 3)) fun j =>
 LdSl (s.cell? (g7.add 4)) fun q b a =>
 Calls Tryz.prog 122 #[(.pointer d),(.agg #[(.int .i64 g),(.string p),(.slice n c e),(.string j),(.slice q b a)]),(.pointer i)] s (post R fun v6 h =>
 ∃(z:Option Addr),v6=(.pointer z) ∧
 Calls Tryz.prog 123 #[(.pointer d),(.pointer z),(.pointer i),(.int .i64 where_),(.pointer ea)] h (post R fun v7 k =>
 v7=(.tuple #[]) ∧
 Calls Tryz.prog 111 #[(.pointer z)] k (post R fun v8 f =>
 ∃(aa:Int),v8=(.int .u64 aa) ∧
 R (.returned (.tuple #[(.int .u64 aa),(.int .i64 0)])) f))))))))
def F73 (d:Option Addr) (where_:Int) (at_:Int) (x_0:Int) (x_1:ByteArray) (x_2:Option Addr) (x_2N:Nat) (x_2C:Nat) (x_3:ByteArray) (x_4:Option Addr) (x_4N:Nat) (x_4C:Nat) (u:World) (R:Ending→World→Prop):Prop :=
 Al u #[(.int .i64 x_0),(.string x_1),(.slice x_2 x_2N x_2C),(.string x_3),(.slice x_4 x_4N x_4C)] 84 fun g7 w1 =>
 Calls Tryz.prog 119 #[(.int .i64 where_),(.int .u64 at_)] w1 (post R fun v k =>
 ∃(r:Bool),v=(.bool r) ∧
 Br (!r)
 (R (.returned (.tuple #[(.int .u64 0),(.int .i64 1)])) k)
 (Al k #[(.int .i64 0),(.int .i64 0)] 222 fun l n =>
 LdI .i64 (n.cell? g7) fun h =>
 LdStr (n.cell? (g7.add 1)) fun f =>
 LdSl (n.cell? (g7.add 2)) fun j e a =>
 LdStr (n.cell? (g7.add 3)) fun g =>
 LdSl (n.cell? (g7.add 4)) fun i b c =>
 Calls Tryz.prog 120 #[(.pointer (some l)),(.agg #[(.int .i64 h),(.string f),(.slice j e a),(.string g),(.slice i b c)]),(.int .i64 1)] n (post R fun v2 m =>
 ∃(s:Int),v2=(.int .i64 s) ∧
 Br (s != (0:Int))
 (R (.returned (.tuple #[(.int .u64 0),(.int .i64 s)])) m)
 (Calls Tryz.prog 65 #[(.pointer d),(.int .u64 at_)] m (post R fun v3 q =>
 ∃(t:Option Addr),v3=(.pointer t) ∧
 ∃J10:World→Prop,(∀ (p:World),J10 p→F73_j10 d where_ g7 l t p R) ∧
 (Br (at_ != (0:Int))
 (Br (t).isNone
 (R (.returned (.tuple #[(.int .u64 0),(.int .i64 8)])) q)
 (J10 q))
 (J10 q)))))))
theorem ok73 (d:Option Addr) (where_:Int) (at_:Int) (x_0:Int) (x_1:ByteArray) (x_2:Option Addr) (x_2N:Nat) (x_2C:Nat) (x_3:ByteArray) (x_4:Option Addr) (x_4N:Nat) (x_4C:Nat) {w:World}{R:Ending→World→Prop} (h:F73 d where_ at_ x_0 x_1 x_2 x_2N x_2C x_3 x_4 x_4N x_4C w R):Calls Tryz.prog 73 #[(.pointer d),(.int .i64 where_),(.int .u64 at_),(.agg #[(.int .i64 x_0),(.string x_1),(.slice x_2 x_2N x_2C),(.string x_3),(.slice x_4 x_4N x_4C)])] w R :=
 vc_calls (pl:=⟨79,⟨[]⟩,[(10,⟨[],[(8,10),(28,34)]⟩)],[]⟩) Tryz.func73 (by kernel_rfl) (by kernel_rfl) (by kernel_rfl) (Eq.mp (by kernel_rfl) h)
def F117 (d:Option Addr) (h_:Int) (i:World) (R:Ending→World→Prop):Prop :=
 Calls Tryz.prog 65 #[(.pointer d),(.int .u64 h_)] i (post R fun v w1 =>
 ∃(j:Option Addr),v=(.pointer j) ∧
 Br (j).isNone
 (R (.returned (.tuple #[(.slice none 0 0),(.int .i64 8)])) w1)
 (NonNil j fun p13 =>
 LdSl (w1.cell? (p13.add 8)) fun g e f =>
 Calls Tryz.prog 115 #[(.slice g e f)] w1 (post R fun v2 b =>
 ∃(h:Option Addr) (c:Nat) (a:Nat),v2=(.slice h c a) ∧
 R (.returned (.tuple #[(.slice h c a),(.int .i64 0)])) b)))
theorem ok117 (d:Option Addr) (h_:Int) {w:World}{R:Ending→World→Prop} (h:F117 d h_ w R):Calls Tryz.prog 117 #[(.pointer d),(.int .u64 h_)] w R :=
 vc_calls (pl:=⟨17,⟨[]⟩,[],[]⟩) Tryz.func117 (by kernel_rfl) (by kernel_rfl) (by kernel_rfl) (Eq.mp (by kernel_rfl) h)
def F124 (d:Option Addr) (h_:Int) (e:World) (R:Ending→World→Prop):Prop :=
 Calls Tryz.prog 65 #[(.pointer d),(.int .u64 h_)] e (post R fun v w1 =>
 ∃(f:Option Addr),v=(.pointer f) ∧
 Br (f).isNone
 (R (.returned (.tuple #[(.int .u64 0),(.int .i64 8)])) w1)
 (NonNil f fun p13 =>
 LdP (w1.cell? (p13.add 7)) fun b =>
 Calls Tryz.prog 111 #[(.pointer b)] w1 (post R fun v2 a =>
 ∃(c:Int),v2=(.int .u64 c) ∧
 R (.returned (.tuple #[(.int .u64 c),(.int .i64 0)])) a)))
theorem ok124 (d:Option Addr) (h_:Int) {w:World}{R:Ending→World→Prop} (h:F124 d h_ w R):Calls Tryz.prog 124 #[(.pointer d),(.int .u64 h_)] w R :=
 vc_calls (pl:=⟨17,⟨[]⟩,[],[]⟩) Tryz.func124 (by kernel_rfl) (by kernel_rfl) (by kernel_rfl) (Eq.mp (by kernel_rfl) h)
def F69 (d:Option Addr) (f:World) (R:Ending→World→Prop):Prop :=
 NonNil d fun p4 =>
 LdSl (f.cell? (p4.add 1)) fun h e a =>
 Calls Tryz.prog 115 #[(.slice h e a)] f (post R fun v w1 =>
 ∃(g:Option Addr) (b:Nat) (c:Nat),v=(.slice g b c) ∧
 R (.returned (.slice g b c)) w1)
theorem ok69 (d:Option Addr) {w:World}{R:Ending→World→Prop} (h:F69 d w R):Calls Tryz.prog 69 #[(.pointer d)] w R :=
 vc_calls (pl:=⟨8,⟨[]⟩,[],[]⟩) Tryz.func69 (by kernel_rfl) (by kernel_rfl) (by kernel_rfl) (Eq.mp (by kernel_rfl) h)
def F65_j7 (a:Option Addr) (b:World) (R:Ending→World→Prop):Prop :=
 R (.returned (.pointer a)) b
def F65_j4 (d:Option Addr) (h_:Int) (g:World) (R:Ending→World→Prop):Prop :=
 NonNil d fun p22 =>
 LdSl (g.cell? p22) fun c a b =>
 InR .u64 ((bAnd .u64 h_ (4294967295:Int))-(1:Int))∧IdxA c a ((bAnd .u64 h_ (4294967295:Int))-(1:Int)) 1 fun i =>
 LdP (g.cell? i) fun h =>
 ∃J7:World→Prop,(∀ (w1:World),J7 w1→F65_j7 h w1 R) ∧
 (NonNil h fun p30 =>
 LdB (g.cell? (p30.add 2)) fun e =>
 Br (!e)
 (R (.returned (.pointer none)) g)
 (Calls Tryz.prog 111 #[(.pointer h)] g (post R fun v w1 =>
 ∃(f:Int),v=(.int .u64 f) ∧
 Br (f != h_)
 (R (.returned (.pointer none)) w1)
 (J7 w1))))
def F65 (d:Option Addr) (h_:Int) (e:World) (R:Ending→World→Prop):Prop :=
 ∃J4:World→Prop,(∀ (w1:World),J4 w1→F65_j4 d h_ w1 R) ∧
 (Br ((bAnd .u64 h_ (4294967295:Int)) == (0:Int))
 (R (.returned (.pointer none)) e)
 (NonNil d fun p14 =>
 LdSl (e.cell? p14) fun c a b =>
 InR .u64 (((a:Nat):Int))∧Br (decide ((bAnd .u64 h_ (4294967295:Int)) > (((a:Nat):Int))))
 (R (.returned (.pointer none)) e)
 (J4 e)))
theorem ok65 (d:Option Addr) (h_:Int) {w:World}{R:Ending→World→Prop} (h:F65 d h_ w R):Calls Tryz.prog 65 #[(.pointer d),(.int .u64 h_)] w R :=
 vc_calls (pl:=⟨41,⟨[]⟩,[(7,⟨[],[(4,5),(29,40)]⟩),(4,⟨[],[(4,5),(9,21)]⟩)],[]⟩) Tryz.func65 (by kernel_rfl) (by kernel_rfl) (by kernel_rfl) (Eq.mp (by kernel_rfl) h)
def F159_j5 (d:Option Addr) (m:World) (R:Ending→World→Prop):Prop :=
 Dr m fun w1 =>
 NonNil d fun p80 =>
 LdSl (w1.cell? p80) fun h c a =>
 NonNil d fun p84 =>
 LdI .i64 (w1.cell? (p84.add 4)) fun i =>
 IdxA h c i 1 fun j =>
 LdP (w1.cell? j) fun k =>
 NonNil k fun p90 =>
 LdI .u32 (w1.cell? (p90.add 1)) fun n =>
 InR .u32 (n+(1:Int))∧NonNil k fun p94 =>
 St w1 (p94.add 1) (.int .u32 (n+(1:Int))) fun b =>
 NonNil k fun p97 =>
 St b (p97.add 2) (.bool true) fun f =>
 NonNil d fun p100 =>
 LdI .i64 (f.cell? (p100.add 2)) fun g =>
 InR .i64 (g+(1:Int))∧NonNil d fun p104 =>
 St f (p104.add 2) (.int .i64 (g+(1:Int))) fun e =>
 R (.returned (.pointer k)) e
def F159_j3 (d:Option Addr) (p:World) (R:Ending→World→Prop):Prop :=
 ∃J5:World→Prop,(∀ (w1:World),J5 w1→F159_j5 d w1 R) ∧
 (Dr p fun w1 =>
 NonNil d fun p53 =>
 LdI .i64 (w1.cell? (p53.add 4)) fun s =>
 NonNil d fun p57 =>
 LdSl (w1.cell? p57) fun q j e =>
 Br (s == ((j:Nat):Int))
 (∃S:World→Prop,S w1.drew∧NonNil d fun p64 =>
 ∃(m:Option Addr) (i:Nat) (a:Nat),Held S p64 (.slice m i a)∧NonNil d fun p68 =>
 ∃(r:Int),Held S (p68.add 4) (.int .i64 r)∧InR .i64 (r+(1:Int))∧InR .u32 ((r+(1:Int)))∧Al w1.drew #[(.int .u32 ((r+(1:Int)))),(.int .u32 0),(.bool false),(.int .i64 0),(.string (ByteArray.mk #[])),(.slice none 0 0),(.string (ByteArray.mk #[])),(.pointer none),(.slice none 0 0)] 202 fun g74 g =>
 S g∧Al g #[(.pointer (some g74))] 152 fun g75 f =>
 S f∧Raw Tryz.prog (Builtin.append_ #[96,96] 96 #[(.slice m i a),(.slice (some g75) 1 1)]) f fun v k =>
 ∃(n:Option Addr) (c:Nat) (b:Nat),v=(.slice n c b) ∧
 NonNil d fun p77 =>
 St k p77 (.slice n c b) fun h =>
 J5 h)
 (J5 w1))
def F159_j2 (d:Option Addr) (L1:World→Prop) (b:World) (R:Ending→World→Prop):Prop :=
 NonNil d fun p46 =>
 LdI .i64 (b.cell? (p46.add 4)) fun a =>
 InR .i64 (a+(1:Int))∧NonNil d fun p50 =>
 St b (p50.add 4) (.int .i64 (a+(1:Int))) fun w1 =>
 L1 w1
def F159_l1 (d:Option Addr) (J3:World→Prop) (L1:World→Prop) (k:World) (R:Ending→World→Prop):Prop :=
 ∃J2:World→Prop,(∀ (w1:World),J2 w1→F159_j2 d L1 w1 R) ∧
 (Dr k fun w1 =>
 NonNil d fun p5 =>
 LdI .i64 (w1.cell? (p5.add 4)) fun v =>
 NonNil d fun p9 =>
 LdSl (w1.cell? p9) fun q f c =>
 Br (decide (v < ((f:Nat):Int)))
 (NonNil d fun p16 =>
 LdSl (w1.cell? p16) fun h a g =>
 NonNil d fun p20 =>
 LdI .i64 (w1.cell? (p20.add 4)) fun m =>
 IdxA h a m 1 fun i =>
 LdP (w1.cell? i) fun j =>
 NonNil j fun p25 =>
 LdB (w1.cell? (p25.add 2)) fun u =>
 Br u
 (J2 w1)
 (NonNil d fun p30 =>
 LdSl (w1.cell? p30) fun t b e =>
 NonNil d fun p34 =>
 LdI .i64 (w1.cell? (p34.add 4)) fun n =>
 IdxA t b n 1 fun s =>
 LdP (w1.cell? s) fun p =>
 NonNil p fun p39 =>
 LdI .u32 (w1.cell? (p39.add 1)) fun r =>
 Br (r == (4294967295:Int))
 (J2 w1)
 (J3 w1)))
 (J3 w1))
def F159 (d:Option Addr) (a:World) (R:Ending→World→Prop):Prop :=
 ∃J3:World→Prop,(∀ (w1:World),J3 w1→F159_j3 d w1 R) ∧
 (∃(I:World→Prop) (m:World→Nat),I  a ∧
 ∀ (w1:World),I  w1→F159_l1 d J3 (fun  w2=>I  w2∧m  w2 < m  w1)  w1 R)
theorem ok159 (d:Option Addr) {w:World}{R:Ending→World→Prop} (h:F159 d w R):Calls Tryz.prog 159 #[(.pointer d)] w R :=
 vc_calls (pl:=⟨107,⟨[]⟩,[(2,⟨[],[(4,45)]⟩),(5,⟨[],[(52,79)]⟩),(3,⟨[],[(4,52)]⟩)],[(1,⟨[],[(4,52)]⟩)]⟩) Tryz.func159 (by kernel_rfl) (by kernel_rfl) (by kernel_rfl) (Eq.mp (by kernel_rfl) h)
def F153 (d:Option Addr) (n:Option Addr) (a:World) (R:Ending→World→Prop):Prop :=
 Br (n).isNone
 (NonNil d fun p8 =>
 R (.returned (.pointer (some (p8.add 1)))) a)
 (NonNil n fun p11 =>
 R (.returned (.pointer (some (p11.add 8)))) a)
theorem ok153 (d:Option Addr) (n:Option Addr) {w:World}{R:Ending→World→Prop} (h:F153 d n w R):Calls Tryz.prog 153 #[(.pointer d),(.pointer n)] w R :=
 vc_calls (pl:=⟨13,⟨[]⟩,[],[]⟩) Tryz.func153 (by kernel_rfl) (by kernel_rfl) (by kernel_rfl) (Eq.mp (by kernel_rfl) h)
def F122_l8 (d:Option Addr) (ta:Option Addr) (qa:Option Addr) (ha:Nat) (L8:Int→World→Prop) (pa:Int) (ra:World) (R:Ending→World→Prop):Prop :=
 Br (decide (pa < ((ha:Nat):Int)))
 (IdxA qa ha pa 5 fun va =>
 LdI .i64 (ra.cell? va) fun y =>
 LdStr (ra.cell? (va.add 1)) fun m =>
 LdSl (ra.cell? (va.add 2)) fun z i b =>
 LdStr (ra.cell? (va.add 3)) fun ea =>
 LdSl (ra.cell? (va.add 4)) fun q a e =>
 Al ra #[(.int .i64 0),(.string (ByteArray.mk #[])),(.slice none 0 0),(.string (ByteArray.mk #[])),(.slice none 0 0)] 84 fun k ja =>
 St ja k (.int .i64 y) fun s =>
 St s (k.add 1) (.string m) fun ca =>
 St ca (k.add 2) (.slice z i b) fun p =>
 St p (k.add 3) (.string ea) fun fa =>
 St fa (k.add 4) (.slice q a e) fun n =>
 ∃S2:World→Prop,S2 n.drew∧NonNil ta fun p50 =>
 ∃(sa:Option Addr) (ma:Nat) (ka:Nat),Held S2 (p50.add 8) (.slice sa ma ka)∧∃(r:Int),Held S2 k (.int .i64 r)∧∃(da:ByteArray),Held S2 (k.add 1) (.string da)∧∃(aa:Option Addr) (h:Nat) (f:Nat),Held S2 (k.add 2) (.slice aa h f)∧∃(j:ByteArray),Held S2 (k.add 3) (.string j)∧∃(t:Option Addr) (g:Nat) (c:Nat),Held S2 (k.add 4) (.slice t g c)∧Calls Tryz.prog 122 #[(.pointer d),(.agg #[(.int .i64 r),(.string da),(.slice aa h f),(.string j),(.slice t g c)]),(.pointer ta)] n.drew (post R fun v3 v =>
 ∃(ua:Option Addr),v3=(.pointer ua) ∧
 S2 v∧Al v #[(.pointer ua)] 152 fun g57 u =>
 S2 u∧Raw Tryz.prog (Builtin.append_ #[96,96] 96 #[(.slice sa ma ka),(.slice (some g57) 1 1)]) u fun v4 ba =>
 ∃(ya:Option Addr) (na:Nat) (ia:Nat),v4=(.slice ya na ia) ∧
 NonNil ta fun p59 =>
 St ba (p59.add 8) (.slice ya na ia) fun ga =>
 InR .i64 (pa+(1:Int))∧L8 (pa+(1:Int)) ga))
 (R (.returned (.pointer ta)) ra)
def F122 (d:Option Addr) (x_0:Int) (x_1:ByteArray) (x_2:Option Addr) (x_2N:Nat) (x_2C:Nat) (x_3:ByteArray) (x_4:Option Addr) (x_4N:Nat) (x_4C:Nat) (parent:Option Addr) (w_:World) (R:Ending→World→Prop):Prop :=
 Al w_ #[(.int .i64 x_0),(.string x_1),(.slice x_2 x_2N x_2C),(.string x_3),(.slice x_4 x_4N x_4C)] 84 fun g4 w1 =>
 Calls Tryz.prog 159 #[(.pointer d)] w1 (post R fun v b =>
 ∃(ba:Option Addr),v=(.pointer ba) ∧
 LdI .i64 (b.cell? g4) fun s =>
 NonNil ba fun p17 =>
 St b (p17.add 3) (.int .i64 s) fun e =>
 NonNil ba fun p19 =>
 St e (p19.add 7) (.pointer parent) fun c =>
 LdI .i64 (c.cell? g4) fun z =>
 Br (z == (2:Int))
 (LdStr (c.cell? (g4.add 3)) fun ca =>
 NonNil ba fun p27 =>
 St c (p27.add 6) (.string ca) fun i =>
 R (.returned (.pointer ba)) i)
 (∃S:World→Prop,S c.drew∧∃(da:ByteArray),Held S (g4.add 1) (.string da)∧∃(t:Option Addr) (g:Nat) (j:Nat),Held S (g4.add 2) (.slice t g j)∧Calls Tryz.prog 109 #[(.slice t g j)] c.drew (post R fun v2 f =>
 ∃(aa:Option Addr) (r:Nat) (k:Nat),v2=(.slice aa r k) ∧
 S f∧NonNil ba fun p37 =>
 St f (p37.add 4) (.string da) fun q =>
 NonNil ba fun p39 =>
 St q (p39.add 5) (.slice aa r k) fun p =>
 LdSl (p.cell? (g4.add 4)) fun y a n =>
 ∃(I:Int→World→Prop) (m:Int→World→Nat),I (0:Int) p ∧
 ∀(u:Int) (h:World),I u h→F122_l8 d ba y a (fun u' w2=>I u' w2∧m u' w2 < m u h) u h R)))
theorem ok122 (d:Option Addr) (x_0:Int) (x_1:ByteArray) (x_2:Option Addr) (x_2N:Nat) (x_2C:Nat) (x_3:ByteArray) (x_4:Option Addr) (x_4N:Nat) (x_4C:Nat) (parent:Option Addr) {w:World}{R:Ending→World→Prop} (h:F122 d x_0 x_1 x_2 x_2N x_2C x_3 x_4 x_4N x_4C parent w R):Calls Tryz.prog 122 #[(.pointer d),(.agg #[(.int .i64 x_0),(.string x_1),(.slice x_2 x_2N x_2C),(.string x_3),(.slice x_4 x_4N x_4C)]),(.pointer parent)] w R :=
 vc_calls (pl:=⟨63,⟨[]⟩,[],[(8,⟨[(44,(.s (.int .i64)))],[(9,10),(44,62)]⟩)]⟩) Tryz.func122 (by kernel_rfl) (by kernel_rfl) (by kernel_rfl) (Eq.mp (by kernel_rfl) h)
def F121_j5 (at_:Option Addr) (a:World) (R:Ending→World→Prop):Prop :=
 R (.returned (.tuple #[(.pointer at_),(.int .i64 0)])) a
def F121 (d:Option Addr) (where_:Int) (at_:Option Addr) (c:World) (R:Ending→World→Prop):Prop :=
 ∃J5:World→Prop,(∀ (w1:World),J5 w1→F121_j5 at_ w1 R) ∧
 (Br (decide (where_ > (2:Int)))
 (NonNil at_ fun p12 =>
 LdP (c.cell? (p12.add 7)) fun b =>
 R (.returned (.tuple #[(.pointer b),(.int .i64 0)])) c)
 (Br (!(at_).isNone)
 (NonNil at_ fun p20 =>
 LdI .i64 (c.cell? (p20.add 3)) fun a =>
 Br (a == (2:Int))
 (R (.returned (.tuple #[(.pointer none),(.int .i64 31)])) c)
 (J5 c))
 (J5 c)))
theorem ok121 (d:Option Addr) (where_:Int) (at_:Option Addr) {w:World}{R:Ending→World→Prop} (h:F121 d where_ at_ w R):Calls Tryz.prog 121 #[(.pointer d),(.int .i64 where_),(.pointer at_)] w R :=
 vc_calls (pl:=⟨26,⟨[]⟩,[(5,⟨[],[(6,25)]⟩)],[]⟩) Tryz.func121 (by kernel_rfl) (by kernel_rfl) (by kernel_rfl) (Eq.mp (by kernel_rfl) h)
def F123_j9 (n:Option Addr) (parent:Option Addr) (j:Option Addr) (i:Int) (k:World) (R:Ending→World→Prop):Prop :=
 NonNil j fun p39 =>
 LdSl (k.cell? p39) fun m c e =>
 Al k #[(.pointer n)] 152 fun g43 a =>
 Calls Tryz.prog 161 #[(.slice m c e),(.int .i64 i),(.slice (some g43) 1 1)] a (post R fun v2 d =>
 ∃(p:Option Addr) (h:Nat) (f:Nat),v2=(.slice p h f) ∧
 NonNil j fun p45 =>
 St d p45 (.slice p h f) fun b =>
 NonNil n fun p48 =>
 St b (p48.add 7) (.pointer parent) fun g =>
 R (.returned (.tuple #[])) g)
def F123 (d:Option Addr) (n:Option Addr) (parent:Option Addr) (where_:Int) (at_:Option Addr) (s:World) (R:Ending→World→Prop):Prop :=
 Calls Tryz.prog 153 #[(.pointer d),(.pointer parent)] s (post R fun v w1 =>
 ∃(m:Option Addr),v=(.pointer m) ∧
 ∃J9:Int→World→Prop,(∀(i:Int) (b:World),J9 i b→F123_j9 n parent m i b R) ∧
 (Br (where_ == (2:Int))
 (NonNil m fun p19 =>
 LdSl (w1.cell? p19) fun j a e =>
 J9 ((a:Nat):Int) w1)
 (Br (where_ == (3:Int))
 (NonNil m fun p25 =>
 LdSl (w1.cell? p25) fun r c f =>
 Calls Tryz.prog 160 #[(.slice r c f),(.pointer at_)] w1 (post R fun v2 b =>
 ∃(q:Int),v2=(.int .i64 q) ∧
 J9 q b))
 (Br (where_ == (4:Int))
 (NonNil m fun p32 =>
 LdSl (w1.cell? p32) fun k h g =>
 Calls Tryz.prog 160 #[(.slice k h g),(.pointer at_)] w1 (post R fun v2 b =>
 ∃(p:Int),v2=(.int .i64 p) ∧
 InR .i64 (p+(1:Int))∧J9 (p+(1:Int)) b))
 (J9 (0:Int) w1)))))
theorem ok123 (d:Option Addr) (n:Option Addr) (parent:Option Addr) (where_:Int) (at_:Option Addr) {w:World}{R:Ending→World→Prop} (h:F123 d n parent where_ at_ w R):Calls Tryz.prog 123 #[(.pointer d),(.pointer n),(.pointer parent),(.int .i64 where_),(.pointer at_)] w R :=
 vc_calls (pl:=⟨50,⟨[]⟩,[(9,⟨[(11,(.s (.int .i64)))],[(11,37)]⟩)],[]⟩) Tryz.func123 (by kernel_rfl) (by kernel_rfl) (by kernel_rfl) (Eq.mp (by kernel_rfl) h)
def F114_j7 (l:Option Addr) (parent:Option Addr) (deep:Int) (L2:Int→World→Prop) (u:Int) (aa:Option Addr) (ha:World) (R:Ending→World→Prop):Prop :=
 Al ha #[] 152 fun g57 c =>
 NonNil aa fun p58 =>
 St c (p58.add 8) (.slice (some g57) 0 0) fun e =>
 NonNil aa fun p62 =>
 St e (p62.add 7) (.pointer parent) fun d =>
 NonNil l fun p65 =>
 LdP (d.cell? p65) fun z =>
 Calls Tryz.prog 153 #[(.pointer z),(.pointer parent)] d (post R fun v2 j =>
 ∃(ga:Option Addr),v2=(.pointer ga) ∧
 NonNil ga fun p72 =>
 LdSl (j.cell? p72) fun ba b k =>
 Al j #[(.pointer aa)] 152 fun g75 f =>
 Raw Tryz.prog (Builtin.append_ #[96,96] 96 #[(.slice ba b k),(.slice (some g75) 1 1)]) f fun v3 r =>
 ∃(y:Option Addr) (q:Nat) (p:Nat),v3=(.slice y q p) ∧
 NonNil ga fun p77 =>
 St r p77 (.slice y q p) fun n =>
 NonNil l fun p79 =>
 LdI .i64 (n.cell? (p79.add 3)) fun da =>
 InR .i64 (da+(1:Int))∧NonNil l fun p83 =>
 St n (p83.add 3) (.int .i64 (da+(1:Int))) fun h =>
 ∃S:World→Prop,S h.drew∧NonNil l fun p87 =>
 ∃(ca:Option Addr) (m:Nat) (s:Nat),Held S (p87.add 1) (.slice ca m s)∧NonNil aa fun p92 =>
 ∃(fa:Int),Held S p92 (.int .u32 fa)∧InR .u32 (fa-(1:Int))∧IdxA ca m (fa-(1:Int)) 8 fun v =>
 ∃(ea:Option Addr) (i:Nat) (t:Nat),Held S (v.add 7) (.slice ea i t)∧InR .i64 (deep+(1:Int))∧Calls Tryz.prog 114 #[(.pointer l),(.slice ea i t),(.pointer aa),(.int .i64 (deep+(1:Int)))] h.drew (post R fun v4 a =>
 ∃(g:Bool),v4=(.bool g) ∧
 Br (!g)
 (R (.returned (.bool false)) a)
 (InR .i64 (u+(1:Int))∧L2 (u+(1:Int)) a)))
def F114_l2 (l:Option Addr) (hs:Option Addr) (hsN:Nat) (parent:Option Addr) (deep:Int) (L2:Int→World→Prop) (g:Int) (n:World) (R:Ending→World→Prop):Prop :=
 Br (decide (g < ((hsN:Nat):Int)))
 (IdxA hs hsN g 1 fun k =>
 LdI .u64 (n.cell? k) fun j =>
 NonNil l fun p20 =>
 LdP (n.cell? p20) fun h =>
 Calls Tryz.prog 65 #[(.pointer h),(.int .u64 j)] n (post R fun v w1 =>
 ∃(i:Option Addr),v=(.pointer i) ∧
 ∃J7:World→Prop,(∀ (b:World),J7 b→F114_j7 l parent deep L2 g i b R) ∧
 (∃S:World→Prop,S w1.drew∧Br (i).isNone
 (R (.returned (.bool false)) w1.drew)
 (Br (decide (deep > (64:Int)))
 (R (.returned (.bool false)) w1.drew)
 (NonNil i fun p33 =>
 ∃(p:Option Addr) (d:Nat) (a:Nat),Held S (p33.add 8) (.slice p d a)∧Br (!(p).isNone)
 (R (.returned (.bool false)) w1.drew)
 (NonNil l fun p40 =>
 ∃(m:Option Addr) (e:Nat) (f:Nat),Held S (p40.add 1) (.slice m e f)∧NonNil i fun p45 =>
 ∃(t:Int),Held S p45 (.int .u32 t)∧InR .u32 (t-(1:Int))∧IdxA m e (t-(1:Int)) 8 fun r =>
 ∃(s:Int),Held S (r.add 6) (.int .u64 s)∧Calls Tryz.prog 111 #[(.pointer parent)] w1.drew (post R fun v2 c =>
 ∃(q:Int),v2=(.int .u64 q) ∧
 S c∧Br (s != q)
 (R (.returned (.bool false)) c)
 (J7 c))))))))
 (R (.returned (.bool true)) n)
def F114 (l:Option Addr) (hs:Option Addr) (hsN:Nat) (hsC:Nat) (parent:Option Addr) (deep:Int) (b:World) (R:Ending→World→Prop):Prop :=
 ∃(I:Int→World→Prop) (m:Int→World→Nat),I (0:Int) b ∧
 ∀(a:Int) (w1:World),I a w1→F114_l2 l hs hsN parent deep (fun a' w2=>I a' w2∧m a' w2 < m a w1) a w1 R
theorem ok114 (l:Option Addr) (hs:Option Addr) (hsN:Nat) (hsC:Nat) (parent:Option Addr) (deep:Int) {w:World}{R:Ending→World→Prop} (h:F114 l hs hsN hsC parent deep w R):Calls Tryz.prog 114 #[(.pointer l),(.slice hs hsN hsC),(.pointer parent),(.int .i64 deep)] w R :=
 vc_calls (pl:=⟨105,⟨[]⟩,[(7,⟨[],[(8,9),(25,56)]⟩)],[(2,⟨[(15,(.s (.int .i64)))],[(8,13),(15,105)]⟩)]⟩) Tryz.func114 (by kernel_rfl) (by kernel_rfl) (by kernel_rfl) (Eq.mp (by kernel_rfl) h)
def F120_l11 (l:Option Addr) (deep:Int) (ja:Option Addr) (aa:Nat) (L11:Int→World→Prop) (ia:Int) (fa:World) (R:Ending→World→Prop):Prop :=
 Br (decide (ia < ((aa:Nat):Int)))
 (IdxA ja aa ia 5 fun ga =>
 LdI .i64 (fa.cell? ga) fun p =>
 LdStr (fa.cell? (ga.add 1)) fun t =>
 LdSl (fa.cell? (ga.add 2)) fun y f d =>
 LdStr (fa.cell? (ga.add 3)) fun s =>
 LdSl (fa.cell? (ga.add 4)) fun j a h =>
 Al fa #[(.int .i64 0),(.string (ByteArray.mk #[])),(.slice none 0 0),(.string (ByteArray.mk #[])),(.slice none 0 0)] 84 fun k ca =>
 St ca k (.int .i64 p) fun z =>
 St z (k.add 1) (.string t) fun ea =>
 St ea (k.add 2) (.slice y f d) fun da =>
 St da (k.add 3) (.string s) fun ba =>
 St ba (k.add 4) (.slice j a h) fun n =>
 LdI .i64 (n.cell? k) fun q =>
 LdStr (n.cell? (k.add 1)) fun r =>
 LdSl (n.cell? (k.add 2)) fun m g c =>
 LdStr (n.cell? (k.add 3)) fun v =>
 LdSl (n.cell? (k.add 4)) fun i e b =>
 InR .i64 (deep+(1:Int))∧Calls Tryz.prog 120 #[(.pointer l),(.agg #[(.int .i64 q),(.string r),(.slice m g c),(.string v),(.slice i e b)]),(.int .i64 (deep+(1:Int)))] n (post R fun v2 u =>
 ∃(ha:Int),v2=(.int .i64 ha) ∧
 Br (ha != (0:Int))
 (R (.returned (.int .i64 ha)) u)
 (InR .i64 (ia+(1:Int))∧L11 (ia+(1:Int)) u)))
 (R (.returned (.int .i64 0)) fa)
def F120_j3 (l:Option Addr) (deep:Int) (g4:Addr) (t:World) (R:Ending→World→Prop):Prop :=
 LdI .i64 (t.cell? g4) fun g =>
 LdStr (t.cell? (g4.add 1)) fun f =>
 LdSl (t.cell? (g4.add 2)) fun e d b =>
 LdStr (t.cell? (g4.add 3)) fun h =>
 LdSl (t.cell? (g4.add 4)) fun i a c =>
 Calls Tryz.prog 152 #[(.agg #[(.int .i64 g),(.string f),(.slice e d b),(.string h),(.slice i a c)])] t (post R fun v j =>
 ∃(y:Int),v=(.int .i64 y) ∧
 Br (y != (0:Int))
 (R (.returned (.int .i64 y)) j)
 (NonNil l fun p26 =>
 LdI .i64 (j.cell? p26) fun z =>
 InR .i64 (z+(1:Int))∧NonNil l fun p30 =>
 St j p30 (.int .i64 (z+(1:Int))) fun n =>
 NonNil l fun p34 =>
 LdI .i64 (n.cell? (p34.add 1)) fun u =>
 NonNil l fun p39 =>
 St n (p39.add 1) (.int .i64 (if deep > u then deep else u)) fun k =>
 LdI .i64 (k.cell? g4) fun s =>
 Br (s == (2:Int))
 (R (.returned (.int .i64 0)) k)
 (LdSl (k.cell? (g4.add 4)) fun aa p r =>
 ∃(I:Int→World→Prop) (m:Int→World→Nat),I (0:Int) k ∧
 ∀(ba:Int) (q:World),I ba q→F120_l11 l deep aa p (fun ba' w2=>I ba' w2∧m ba' w2 < m ba q) ba q R)))
def F120 (l:Option Addr) (x_0:Int) (x_1:ByteArray) (x_2:Option Addr) (x_2N:Nat) (x_2C:Nat) (x_3:ByteArray) (x_4:Option Addr) (x_4N:Nat) (x_4C:Nat) (deep:Int) (c:World) (R:Ending→World→Prop):Prop :=
 Al c #[(.int .i64 x_0),(.string x_1),(.slice x_2 x_2N x_2C),(.string x_3),(.slice x_4 x_4N x_4C)] 84 fun g4 w1 =>
 ∃J3:World→Prop,(∀ (a:World),J3 a→F120_j3 l deep g4 a R) ∧
 (Br (decide (deep > (64:Int)))
 (R (.returned (.int .i64 2)) w1)
 (NonNil l fun p15 =>
 LdI .i64 (w1.cell? p15) fun b =>
 Br (decide (b≥(4096:Int)))
 (R (.returned (.int .i64 2)) w1)
 (J3 w1)))
theorem ok120 (l:Option Addr) (x_0:Int) (x_1:ByteArray) (x_2:Option Addr) (x_2N:Nat) (x_2C:Nat) (x_3:ByteArray) (x_4:Option Addr) (x_4N:Nat) (x_4C:Nat) (deep:Int) {w:World}{R:Ending→World→Prop} (h:F120 l x_0 x_1 x_2 x_2N x_2C x_3 x_4 x_4N x_4C deep w R):Calls Tryz.prog 120 #[(.pointer l),(.agg #[(.int .i64 x_0),(.string x_1),(.slice x_2 x_2N x_2C),(.string x_3),(.slice x_4 x_4N x_4C)]),(.int .i64 deep)] w R :=
 vc_calls (pl:=⟨60,⟨[]⟩,[(3,⟨[],[(6,20)]⟩)],[(11,⟨[(47,(.s (.int .i64)))],[(6,11),(47,60)]⟩)]⟩) Tryz.func120 (by kernel_rfl) (by kernel_rfl) (by kernel_rfl) (Eq.mp (by kernel_rfl) h)
def F111 (n:Option Addr) (b:World) (R:Ending→World→Prop):Prop :=
 Br (n).isNone
 (R (.returned (.int .u64 0)) b)
 (Dr b fun w1 =>
 NonNil n fun p6 =>
 LdI .u32 (w1.cell? (p6.add 1)) fun c =>
 InR .u64 (c)∧InR .u64 ((c)*(2 ^ (min ((32:Int)).toNat 64)))∧NonNil n fun p12 =>
 LdI .u32 (w1.cell? p12) fun a =>
 InR .u64 (a)∧R (.returned (.int .u64 (bOr .u64 ((c)*(2 ^ (min ((32:Int)).toNat 64))) (a)))) w1)
theorem ok111 (n:Option Addr) {w:World}{R:Ending→World→Prop} (h:F111 n w R):Calls Tryz.prog 111 #[(.pointer n)] w R :=
 vc_calls (pl:=⟨17,⟨[]⟩,[],[]⟩) Tryz.func111 (by kernel_rfl) (by kernel_rfl) (by kernel_rfl) (Eq.mp (by kernel_rfl) h)
def F66 (n:Option Addr) (r:World) (R:Ending→World→Prop):Prop :=
 Al r #[(.int .i64 0),(.string (ByteArray.mk #[])),(.slice none 0 0),(.string (ByteArray.mk #[])),(.slice none 0 0)] 84 fun g2 w1 =>
 ∃S:World→Prop,S w1.drew∧NonNil n fun p4 =>
 ∃(s:Int),Held S (p4.add 3) (.int .i64 s)∧NonNil n fun p8 =>
 ∃(q:ByteArray),Held S (p8.add 4) (.string q)∧NonNil n fun p12 =>
 ∃(m:Option Addr) (g:Nat) (h:Nat),Held S (p12.add 5) (.slice m g h)∧NonNil n fun p17 =>
 ∃(p:ByteArray),Held S (p17.add 6) (.string p)∧Calls Tryz.prog 109 #[(.slice m g h)] w1.drew (post R fun v b =>
 ∃(k:Option Addr) (c:Nat) (d:Nat),v=(.slice k c d) ∧
 S b∧St b g2 (.int .i64 s) fun a =>
 St a (g2.add 1) (.string q) fun j =>
 St j (g2.add 2) (.slice k c d) fun e =>
 St e (g2.add 3) (.string p) fun f =>
 St f (g2.add 4) (.slice none 0 0) fun i =>
 LdI .i64 (i.cell? g2) fun res0_0 =>
 LdStr (i.cell? (g2.add 1)) fun res0_1 =>
 LdSl (i.cell? (g2.add 2)) fun res0_2 res0_2N res0_2C =>
 LdStr (i.cell? (g2.add 3)) fun res0_3 =>
 LdSl (i.cell? (g2.add 4)) fun res0_4 res0_4N res0_4C =>
 R (.returned (.agg #[(.int .i64 res0_0),(.string res0_1),(.slice res0_2 res0_2N res0_2C),(.string res0_3),(.slice res0_4 res0_4N res0_4C)])) i)
theorem ok66 (n:Option Addr) {w:World}{R:Ending→World→Prop} (h:F66 n w R):Calls Tryz.prog 66 #[(.pointer n)] w R :=
 vc_calls (pl:=⟨21,⟨[]⟩,[],[]⟩) Tryz.func66 (by kernel_rfl) (by kernel_rfl) (by kernel_rfl) (Eq.mp (by kernel_rfl) h)
def F113_j13 (g16:Addr) (a:World) (R:Ending→World→Prop):Prop :=
 R (.returned (.tuple #[(.pointer (some g16)),(.bool true)])) a
def F113_j9 (s:Addr) (g16:Addr) (k:World) (R:Ending→World→Prop):Prop :=
 LdI .i64 (k.cell? (s.add 2)) fun m =>
 St k (g16.add 3) (.int .i64 m) fun i =>
 ∃J13:World→Prop,(∀ (a:World),J13 a→F113_j13 g16 a R) ∧
 (LdI .i64 (i.cell? (g16.add 3)) fun n =>
 Br (n == (2:Int))
 (LdStr (i.cell? (s.add 5)) fun j =>
 St i (g16.add 6) (.string j) fun a =>
 J13 a)
 (∃S:World→Prop,S i.drew∧∃(r:ByteArray),Held S (s.add 3) (.string r)∧∃(p:Option Addr) (f:Nat) (h:Nat),Held S (s.add 4) (.slice p f h)∧Calls Tryz.prog 109 #[(.slice p f h)] i.drew (post R fun v d =>
 ∃(q:Option Addr) (e:Nat) (g:Nat),v=(.slice q e g) ∧
 S d∧St d (g16.add 4) (.string r) fun b =>
 St b (g16.add 5) (.slice q e g) fun c =>
 J13 c)))
def F113 (s_0:Int) (s_1:Bool) (s_2:Int) (s_3:ByteArray) (s_4:Option Addr) (s_4N:Nat) (s_4C:Nat) (s_5:ByteArray) (s_6:Int) (s_7:Option Addr) (s_7N:Nat) (s_7C:Nat) (s_8:Int) (w_:World) (R:Ending→World→Prop):Prop :=
 Al w_ #[(.int .u32 s_0),(.bool s_1),(.int .i64 s_2),(.string s_3),(.slice s_4 s_4N s_4C),(.string s_5),(.int .u64 s_6),(.slice s_7 s_7N s_7C),(.int .i64 s_8)] 210 fun s w1 =>
 LdI .i64 (w1.cell? (s.add 8)) fun x7 =>
 InR .u32 (x7)∧LdI .u32 (w1.cell? s) fun ga =>
 LdB (w1.cell? (s.add 1)) fun ha =>
 Al w1 #[(.int .u32 (x7)),(.int .u32 ga),(.bool ha),(.int .i64 0),(.string (ByteArray.mk #[])),(.slice none 0 0),(.string (ByteArray.mk #[])),(.pointer none),(.slice none 0 0)] 202 fun g16 k =>
 LdI .u32 (k.cell? s) fun ia =>
 Br (ia == (0:Int))
 (R (.returned (.tuple #[(.pointer none),(.bool false)])) k)
 (LdB (k.cell? (s.add 1)) fun da =>
 Br (!da)
 (R (.returned (.tuple #[(.pointer (some g16)),(.bool true)])) k)
 (LdI .i64 (k.cell? (s.add 2)) fun ka =>
 LdStr (k.cell? (s.add 3)) fun ba =>
 LdSl (k.cell? (s.add 4)) fun ja j y =>
 LdStr (k.cell? (s.add 5)) fun ma =>
 Al k #[(.int .i64 0),(.string (ByteArray.mk #[])),(.slice none 0 0),(.string (ByteArray.mk #[])),(.slice none 0 0)] 84 fun g5 n =>
 St n g5 (.int .i64 ka) fun m =>
 St m (g5.add 1) (.string ba) fun t =>
 St t (g5.add 2) (.slice ja j y) fun p =>
 St p (g5.add 3) (.string ma) fun aa =>
 St aa (g5.add 4) (.slice none 0 0) fun z =>
 ∃J9:World→Prop,(∀ (q:World),J9 q→F113_j9 s g16 q R) ∧
 (LdI .i64 (z.cell? g5) fun g =>
 LdStr (z.cell? (g5.add 1)) fun h =>
 LdSl (z.cell? (g5.add 2)) fun i b d =>
 LdStr (z.cell? (g5.add 3)) fun e =>
 LdSl (z.cell? (g5.add 4)) fun f c a =>
 Calls Tryz.prog 152 #[(.agg #[(.int .i64 g),(.string h),(.slice i b d),(.string e),(.slice f c a)])] z (post R fun v q =>
 ∃(ca:Int),v=(.int .i64 ca) ∧
 Br (ca != (0:Int))
 (R (.returned (.tuple #[(.pointer none),(.bool false)])) q)
 (LdI .i64 (q.cell? (s.add 2)) fun fa =>
 Br (fa == (2:Int))
 (LdSl (q.cell? (s.add 7)) fun ea r u =>
 Br (decide (((r:Nat):Int) > (0:Int)))
 (R (.returned (.tuple #[(.pointer none),(.bool false)])) q)
 (J9 q))
 (J9 q))))))
theorem ok113 (s_0:Int) (s_1:Bool) (s_2:Int) (s_3:ByteArray) (s_4:Option Addr) (s_4N:Nat) (s_4C:Nat) (s_5:ByteArray) (s_6:Int) (s_7:Option Addr) (s_7N:Nat) (s_7C:Nat) (s_8:Int) {w:World}{R:Ending→World→Prop} (h:F113 s_0 s_1 s_2 s_3 s_4 s_4N s_4C s_5 s_6 s_7 s_7N s_7C s_8 w R):Calls Tryz.prog 113 #[(.agg #[(.int .u32 s_0),(.bool s_1),(.int .i64 s_2),(.string s_3),(.slice s_4 s_4N s_4C),(.string s_5),(.int .u64 s_6),(.slice s_7 s_7N s_7C),(.int .i64 s_8)])] w R :=
 vc_calls (pl:=⟨86,⟨[]⟩,[(13,⟨[],[(61,85)]⟩),(9,⟨[],[(2,4),(39,55)]⟩)],[]⟩) Tryz.func113 (by kernel_rfl) (by kernel_rfl) (by kernel_rfl) (Eq.mp (by kernel_rfl) h)
def F68_j15 (L5:Int→World→Prop) (a:Int) (b:World) (R:Ending→World→Prop):Prop :=
 InR .i64 (a+(1:Int))∧L5 (a+(1:Int)) b
def F68_j19 (g11:Addr) (a:World) (R:Ending→World→Prop):Prop :=
 R (.returned (.tuple #[(.pointer (some g11)),(.int .i64 0)])) a
def F68_l5 (g1:Addr) (g11:Addr) (mb:Option Addr) (fb:Nat) (L5:Int→World→Prop) (yb:Int) (tb:World) (R:Ending→World→Prop):Prop :=
 Br (decide (yb < ((fb:Nat):Int)))
 (∃J15:World→Prop,(∀ (ab:World),J15 ab→F68_j15 L5 yb ab R) ∧
 (IdxA mb fb yb 8 fun sb =>
 LdI .u32 (tb.cell? sb) fun ha =>
 LdB (tb.cell? (sb.add 1)) fun pa =>
 LdI .i64 (tb.cell? (sb.add 2)) fun t =>
 LdStr (tb.cell? (sb.add 3)) fun ba =>
 LdSl (tb.cell? (sb.add 4)) fun sa i k =>
 LdStr (tb.cell? (sb.add 5)) fun aa =>
 LdI .u64 (tb.cell? (sb.add 6)) fun ia =>
 LdSl (tb.cell? (sb.add 7)) fun ua f h =>
 Al tb #[(.int .u32 0),(.bool false),(.int .i64 0),(.string (ByteArray.mk #[])),(.slice none 0 0),(.string (ByteArray.mk #[])),(.int .u64 0),(.slice none 0 0)] 162 fun s ab =>
 St ab s (.int .u32 ha) fun za =>
 St za (s.add 1) (.bool pa) fun eb =>
 St eb (s.add 2) (.int .i64 t) fun bb =>
 St bb (s.add 3) (.string ba) fun kb =>
 St kb (s.add 4) (.slice sa i k) fun ib =>
 St ib (s.add 5) (.string aa) fun db =>
 St db (s.add 6) (.int .u64 ia) fun ca =>
 St ca (s.add 7) (.slice ua f h) fun ma =>
 LdI .u32 (ma.cell? s) fun p =>
 LdB (ma.cell? (s.add 1)) fun n =>
 LdI .i64 (ma.cell? (s.add 2)) fun da =>
 LdStr (ma.cell? (s.add 3)) fun ka =>
 LdSl (ma.cell? (s.add 4)) fun na g j =>
 LdStr (ma.cell? (s.add 5)) fun ra =>
 LdI .u64 (ma.cell? (s.add 6)) fun fa =>
 LdSl (ma.cell? (s.add 7)) fun z e c =>
 InR .i64 (yb+(1:Int))∧Calls Tryz.prog 113 #[(.agg #[(.int .u32 p),(.bool n),(.int .i64 da),(.string ka),(.slice na g j),(.string ra),(.int .u64 fa),(.slice z e c),(.int .i64 (yb+(1:Int)))])] ma (post R fun v u =>
 ∃(ga:Option Addr) (y:Bool),v=(.tuple #[(.pointer ga),(.bool y)]) ∧
 Br (!y)
 (R (.returned (.tuple #[(.pointer none),(.int .i64 36)])) u)
 (LdSl (u.cell? g11) fun vb hb jb =>
 Al u #[(.pointer ga)] 152 fun g40 ta =>
 Raw Tryz.prog (Builtin.append_ #[96,96] 96 #[(.slice vb hb jb),(.slice (some g40) 1 1)]) ta fun v2 q =>
 ∃(zb:Option Addr) (ya:Nat) (cb:Nat),v2=(.slice zb ya cb) ∧
 St q g11 (.slice zb ya cb) fun ja =>
 NonNil ga fun p45 =>
 LdB (ja.cell? (p45.add 2)) fun cc =>
 Br cc
 (LdI .i64 (ja.cell? (g11.add 2)) fun bc =>
 InR .i64 (bc+(1:Int))∧St ja (g11.add 2) (.int .i64 (bc+(1:Int))) fun ea =>
 J15 ea)
 (NonNil ga fun p56 =>
 LdI .u32 (ja.cell? (p56.add 1)) fun ac =>
 Br (ac == (4294967295:Int))
 (LdI .i64 (ja.cell? (g11.add 3)) fun rb =>
 InR .i64 (rb+(1:Int))∧St ja (g11.add 3) (.int .i64 (rb+(1:Int))) fun ea =>
 J15 ea)
 (J15 ja))))))
 (LdSl (tb.cell? g1) fun r d m =>
 LdSl (tb.cell? (g1.add 1)) fun qa a b =>
 Al tb #[(.pointer (some g11)),(.slice r d m),(.slice qa a b),(.int .i64 0)] 214 fun g71 ab =>
 ∃J19:World→Prop,(∀ (za:World),J19 za→F68_j19 g11 za R) ∧
 (∃S:World→Prop,S ab.drew∧∃(pb:Option Addr) (va:Nat) (gb:Nat),Held S (g1.add 1) (.slice pb va gb)∧Calls Tryz.prog 114 #[(.pointer (some g71)),(.slice pb va gb),(.pointer none),(.int .i64 1)] ab.drew (post R fun v eb =>
 ∃(nb:Bool),v=(.bool nb) ∧
 S eb∧Br (!nb)
 (R (.returned (.tuple #[(.pointer none),(.int .i64 36)])) eb)
 (LdI .i64 (eb.cell? (g71.add 3)) fun ub =>
 LdI .i64 (eb.cell? (g11.add 2)) fun qb =>
 Br (ub != qb)
 (R (.returned (.tuple #[(.pointer none),(.int .i64 36)])) eb)
 (J19 eb)))))
def F68 (x_0:Option Addr) (x_0N:Nat) (x_0C:Nat) (x_1:Option Addr) (x_1N:Nat) (x_1C:Nat) (j:World) (R:Ending→World→Prop):Prop :=
 Al j #[(.slice x_0 x_0N x_0C),(.slice x_1 x_1N x_1C)] 25 fun g1 w1 =>
 Al w1 #[(.slice none 0 0),(.slice none 0 0),(.int .i64 0),(.int .i64 0),(.int .i64 0)] 98 fun g11 c =>
 LdSl (c.cell? g1) fun i f b =>
 Br (decide (((f:Nat):Int) > (4096:Int)))
 (R (.returned (.tuple #[(.pointer none),(.int .i64 36)])) c)
 (LdSl (c.cell? g1) fun g d a =>
 ∃(I:Int→World→Prop) (m:Int→World→Nat),I (0:Int) c ∧
 ∀(h:Int) (e:World),I h e→F68_l5 g1 g11 g d (fun h' w2=>I h' w2∧m h' w2 < m h e) h e R)
theorem ok68 (x_0:Option Addr) (x_0N:Nat) (x_0C:Nat) (x_1:Option Addr) (x_1N:Nat) (x_1C:Nat) {w:World}{R:Ending→World→Prop} (h:F68 x_0 x_0N x_0C x_1 x_1N x_1C w R):Calls Tryz.prog 68 #[(.agg #[(.slice x_0 x_0N x_0C),(.slice x_1 x_1N x_1C)])] w R :=
 vc_calls (pl:=⟨89,⟨[(17,999999)]⟩,[(15,⟨[],[(2,4),(5,9),(21,67)]⟩),(19,⟨[],[(2,4),(72,88)]⟩)],[(5,⟨[(19,(.s (.int .i64)))],[(2,4),(5,9),(19,68)]⟩)]⟩) Tryz.func68 (by kernel_rfl) (by kernel_rfl) (by kernel_rfl) (Eq.mp (by kernel_rfl) h)
def F96_l2 (l:Option Addr) (lN:Nat) (L2:Option Addr→Nat→Nat→Int→World→Prop) (out2:Option Addr) (outN2:Nat) (outC2:Nat) (t:Int) (q:World) (R:Ending→World→Prop):Prop :=
 Br (decide (t < ((lN:Nat):Int)))
 (IdxA l lN t 1 fun m =>
 LdP (q.cell? m) fun n =>
 ∃S:World→Prop,S q.drew∧NonNil n fun p14 =>
 ∃(s:Option Addr) (b:Nat) (a:Nat),Held S (p14.add 8) (.slice s b a)∧Calls Tryz.prog 111 #[(.pointer n)] q.drew (post R fun v c =>
 ∃(p:Int),v=(.int .u64 p) ∧
 S c∧Al c #[(.int .u64 p)] 65 fun g20 e =>
 S e∧Raw Tryz.prog (Builtin.append_ #[23,23] 23 #[(.slice out2 outN2 outC2),(.slice (some g20) 1 1)]) e fun v2 d =>
 ∃(r:Option Addr) (f:Nat) (g:Nat),v2=(.slice r f g) ∧
 S d∧Calls Tryz.prog 96 #[(.slice s b a),(.slice r f g)] d (post R fun v3 i =>
 ∃(k:Option Addr) (j:Nat) (h:Nat),v3=(.slice k j h) ∧
 InR .i64 (t+(1:Int))∧L2 k j h (t+(1:Int)) i)))
 (R (.returned (.slice out2 outN2 outC2)) q)
def F96 (l:Option Addr) (lN:Nat) (lC:Nat) (out:Option Addr) (outN:Nat) (outC:Nat) (b:World) (R:Ending→World→Prop):Prop :=
 ∃(I:Option Addr→Nat→Nat→Int→World→Prop) (m:Option Addr→Nat→Nat→Int→World→Nat),I out outN outC (0:Int) b ∧
 ∀(out2:Option Addr) (outN2:Nat) (outC2:Nat) (a:Int) (w1:World),I out2 outN2 outC2 a w1→F96_l2 l lN (fun out2' outN2' outC2' a' w2=>I out2' outN2' outC2' a' w2∧m out2' outN2' outC2' a' w2 < m out2 outN2 outC2 a w1) out2 outN2 outC2 a w1 R
theorem ok96 (l:Option Addr) (lN:Nat) (lC:Nat) (out:Option Addr) (outN:Nat) (outC:Nat) {w:World}{R:Ending→World→Prop} (h:F96 l lN lC out outN outC w R):Calls Tryz.prog 96 #[(.slice l lN lC),(.slice out outN outC)] w R :=
 vc_calls (pl:=⟨25,⟨[]⟩,[],[(2,⟨[(1,(.s .slice)),(9,(.s (.int .i64)))],[(1,7),(9,24)]⟩)]⟩) Tryz.func96 (by kernel_rfl) (by kernel_rfl) (by kernel_rfl) (Eq.mp (by kernel_rfl) h)
def F186_j8 (L4:Int→World→Prop) (e:Int) (a:Addr) (g:World) (R:Ending→World→Prop):Prop :=
 LdStr (g.cell? (a.add 1)) fun f =>
 Calls Tryz.prog 67 #[(.string f)] g (post R fun v d =>
 ∃(b:Int) (c:Int),v=(.tuple #[(.int .i64 b),(.int .i64 c)]) ∧
 Br (c != (0:Int))
 (R (.returned (.int .i64 c)) d)
 (InR .i64 (e+(1:Int))∧L4 (e+(1:Int)) d))
def F186_l4 (l:Option Addr) (lN:Nat) (L4:Int→World→Prop) (h:Int) (n:World) (R:Ending→World→Prop):Prop :=
 Br (decide (h < ((lN:Nat):Int)))
 (IdxA l lN h 2 fun m =>
 LdStr (n.cell? m) fun c =>
 LdStr (n.cell? (m.add 1)) fun b =>
 Al n #[(.string (ByteArray.mk #[])),(.string (ByteArray.mk #[]))] 205 fun a w1 =>
 St w1 a (.string c) fun d =>
 St d (a.add 1) (.string b) fun f =>
 ∃J8:World→Prop,(∀ (e:World),J8 e→F186_j8 L4 h a e R) ∧
 (∃S:World→Prop,S f.drew∧∃(i:ByteArray),Held S a (.string i)∧Calls Tryz.prog 185 #[(.string i)] f.drew (post R fun v g =>
 ∃(k:Bool),v=(.bool k) ∧
 S g∧Br (!k)
 (R (.returned (.int .i64 6)) g)
 (Br (decide (h > (0:Int)))
 (∃(q:ByteArray),Held S a (.string q)∧InR .i64 (h-(1:Int))∧IdxA l lN (h-(1:Int)) 2 fun j =>
 ∃(p:ByteArray),Held S j (.string p)∧Br ((Op.bytesLess q.toList p.toList) || (q.toList == p.toList))
 (R (.returned (.int .i64 6)) g)
 (J8 g))
 (J8 g)))))
 (R (.returned (.int .i64 0)) n)
def F186 (l:Option Addr) (lN:Nat) (lC:Nat) (b:World) (R:Ending→World→Prop):Prop :=
 Br (decide (((lN:Nat):Int) > (32:Int)))
 (R (.returned (.int .i64 2)) b)
 (∃(I:Int→World→Prop) (m:Int→World→Nat),I (0:Int) b ∧
 ∀(a:Int) (w1:World),I a w1→F186_l4 l lN (fun a' w2=>I a' w2∧m a' w2 < m a w1) a w1 R)
theorem ok186 (l:Option Addr) (lN:Nat) (lC:Nat) {w:World}{R:Ending→World→Prop} (h:F186 l lN lC w R):Calls Tryz.prog 186 #[(.slice l lN lC)] w R :=
 vc_calls (pl:=⟨46,⟨[]⟩,[(8,⟨[],[(2,3),(17,36)]⟩)],[(4,⟨[(12,(.s (.int .i64)))],[(2,7),(12,46)]⟩)]⟩) Tryz.func186 (by kernel_rfl) (by kernel_rfl) (by kernel_rfl) (Eq.mp (by kernel_rfl) h)
def F115_l3 (l:Option Addr) (lN:Nat) (L3:Option Addr→Nat→Nat→Int→World→Prop) (out:Option Addr) (outN:Nat) (outC:Nat) (g:Int) (j:World) (R:Ending→World→Prop):Prop :=
 Br (decide (g < ((lN:Nat):Int)))
 (IdxA l lN g 1 fun k =>
 LdP (j.cell? k) fun h =>
 Calls Tryz.prog 111 #[(.pointer h)] j (post R fun v a =>
 ∃(f:Int),v=(.int .u64 f) ∧
 Al a #[(.int .u64 f)] 65 fun g18 c =>
 Raw Tryz.prog (Builtin.append_ #[23,23] 23 #[(.slice out outN outC),(.slice (some g18) 1 1)]) c fun v2 b =>
 ∃(i:Option Addr) (e:Nat) (d:Nat),v2=(.slice i e d) ∧
 InR .i64 (g+(1:Int))∧L3 i e d (g+(1:Int)) b))
 (R (.returned (.slice out outN outC)) j)
def F115 (l:Option Addr) (lN:Nat) (lC:Nat) (c:World) (R:Ending→World→Prop):Prop :=
 0≤(0:Int)∧(0:Int)≤((lN:Nat):Int)∧((8:Nat):Int)*((lN:Nat):Int)≤281474976710656∧Al c (zrow #[(.int .u64 0)] ((((lN:Nat):Int)).toNat*1)) 65 fun g8 w1 =>
 ∃(I:Option Addr→Nat→Nat→Int→World→Prop) (m:Option Addr→Nat→Nat→Int→World→Nat),I (some g8) ((0:Int)).toNat (((lN:Nat):Int)).toNat (0:Int) w1 ∧
 ∀(out:Option Addr) (outN:Nat) (outC:Nat) (b:Int) (a:World),I out outN outC b a→F115_l3 l lN (fun out' outN' outC' b' w2=>I out' outN' outC' b' w2∧m out' outN' outC' b' w2 < m out outN outC b a) out outN outC b a R
theorem ok115 (l:Option Addr) (lN:Nat) (lC:Nat) {w:World}{R:Ending→World→Prop} (h:F115 l lN lC w R):Calls Tryz.prog 115 #[(.slice l lN lC)] w R :=
 vc_calls (pl:=⟨22,⟨[]⟩,[],[(3,⟨[(3,(.s .slice)),(11,(.s (.int .i64)))],[(3,6),(11,21)]⟩)]⟩) Tryz.func115 (by kernel_rfl) (by kernel_rfl) (by kernel_rfl) (Eq.mp (by kernel_rfl) h)
def F108_l2 (L2:Option Addr→Int→World→Prop) (n2:Option Addr) (i:Int) (a:World) (R:Ending→World→Prop):Prop :=
 Br (!(n2).isNone)
 (InR .i64 (i+(1:Int))∧NonNil n2 fun p7 =>
 LdP (a.cell? (p7.add 7)) fun b =>
 L2 b (i+(1:Int)) a)
 (R (.returned (.int .i64 i)) a)
def F108 (n:Option Addr) (a:World) (R:Ending→World→Prop):Prop :=
 ∃(I:Option Addr→Int→World→Prop) (m:Option Addr→Int→World→Nat),I n ((-1):Int) a ∧
 ∀(n2:Option Addr) (i:Int) (w1:World),I n2 i w1→F108_l2 (fun n2' i' w2=>I n2' i' w2∧m n2' i' w2 < m n2 i w1) n2 i w1 R
theorem ok108 (n:Option Addr) {w:World}{R:Ending→World→Prop} (h:F108 n w R):Calls Tryz.prog 108 #[(.pointer n)] w R :=
 vc_calls (pl:=⟨13,⟨[]⟩,[],[(2,⟨[(0,(.s .ptr)),(3,(.s (.int .i64)))],[(0,12)]⟩)]⟩) Tryz.func108 (by kernel_rfl) (by kernel_rfl) (by kernel_rfl) (Eq.mp (by kernel_rfl) h)
def F152 (x_0:Int) (x_1:ByteArray) (x_2:Option Addr) (x_2N:Nat) (x_2C:Nat) (x_3:ByteArray) (x_4:Option Addr) (x_4N:Nat) (x_4C:Nat) (m:World) (R:Ending→World→Prop):Prop :=
 Al m #[(.int .i64 x_0),(.string x_1),(.slice x_2 x_2N x_2C),(.string x_3),(.slice x_4 x_4N x_4C)] 84 fun g1 w1 =>
 LdI .i64 (w1.cell? g1) fun n =>
 Br (n == (1:Int))
 (LdStr (w1.cell? (g1.add 1)) fun k =>
 Calls Tryz.prog 185 #[(.string k)] w1 (post R fun v c =>
 ∃(i:Bool),v=(.bool i) ∧
 Br (!i)
 (R (.returned (.int .i64 6)) c)
 (LdSl (c.cell? (g1.add 2)) fun j e f =>
 Calls Tryz.prog 186 #[(.slice j e f)] c (post R fun v2 d =>
 ∃(g:Int),v2=(.int .i64 g) ∧
 R (.returned (.int .i64 g)) d))))
 (Br (n == (2:Int))
 (LdStr (w1.cell? (g1.add 3)) fun h =>
 Calls Tryz.prog 67 #[(.string h)] w1 (post R fun v c =>
 ∃(a:Int) (b:Int),v=(.tuple #[(.int .i64 a),(.int .i64 b)]) ∧
 R (.returned (.int .i64 b)) c))
 (R (.returned (.int .i64 1)) w1))
theorem ok152 (x_0:Int) (x_1:ByteArray) (x_2:Option Addr) (x_2N:Nat) (x_2C:Nat) (x_3:ByteArray) (x_4:Option Addr) (x_4N:Nat) (x_4C:Nat) {w:World}{R:Ending→World→Prop} (h:F152 x_0 x_1 x_2 x_2N x_2C x_3 x_4 x_4N x_4C w R):Calls Tryz.prog 152 #[(.agg #[(.int .i64 x_0),(.string x_1),(.slice x_2 x_2N x_2C),(.string x_3),(.slice x_4 x_4N x_4C)])] w R :=
 vc_calls (pl:=⟨25,⟨[]⟩,[],[]⟩) Tryz.func152 (by kernel_rfl) (by kernel_rfl) (by kernel_rfl) (Eq.mp (by kernel_rfl) h)
def F119 (where_:Int) (at_:Int) (a:World) (R:Ending→World→Prop):Prop :=
 Br (decide (where_≥(1:Int)))
 (Br (decide (where_≤(4:Int)))
 (Br (at_ != (0:Int))
 (R (.returned (.bool true)) a)
 (R (.returned (.bool (decide (where_≤(2:Int))))) a))
 (R (.returned (.bool false)) a))
 (R (.returned (.bool false)) a)
theorem ok119 (where_:Int) (at_:Int) {w:World}{R:Ending→World→Prop} (h:F119 where_ at_ w R):Calls Tryz.prog 119 #[(.int .i64 where_),(.int .u64 at_)] w R :=
 vc_calls (pl:=⟨19,⟨[]⟩,[],[]⟩) Tryz.func119 (by kernel_rfl) (by kernel_rfl) (by kernel_rfl) (Eq.mp (by kernel_rfl) h)
def F109 (s:Option Addr) (sN:Nat) (sC:Nat) (e:World) (R:Ending→World→Prop):Prop :=
 Br (s).isNone
 (R (.returned (.slice none 0 0)) e)
 (Al e #[] 205 fun g5 w1 =>
 Raw Tryz.prog (Builtin.append_ #[81,81] 81 #[(.slice (some g5) 0 0),(.slice s sN sC)]) w1 fun v a =>
 ∃(d:Option Addr) (b:Nat) (c:Nat),v=(.slice d b c) ∧
 R (.returned (.slice d b c)) a)
theorem ok109 (s:Option Addr) (sN:Nat) (sC:Nat) {w:World}{R:Ending→World→Prop} (h:F109 s sN sC w R):Calls Tryz.prog 109 #[(.slice s sN sC)] w R :=
 vc_calls (pl:=⟨8,⟨[]⟩,[],[]⟩) Tryz.func109 (by kernel_rfl) (by kernel_rfl) (by kernel_rfl) (Eq.mp (by kernel_rfl) h)
def F160_l2 (s:Option Addr) (sN:Nat) (v:Option Addr) (L2:Int→World→Prop) (d:Int) (a:World) (R:Ending→World→Prop):Prop :=
 Br (decide (d < ((sN:Nat):Int)))
 (IdxA s sN d 1 fun b =>
 LdP (a.cell? b) fun c =>
 PtrOk a v c∧Br (decide (v=c))
 (R (.returned (.int .i64 d)) a)
 (InR .i64 (d+(1:Int))∧L2 (d+(1:Int)) a))
 (R (.returned (.int .i64 (-1))) a)
def F160 (s:Option Addr) (sN:Nat) (sC:Nat) (v:Option Addr) (a:World) (R:Ending→World→Prop):Prop :=
 ∃(I:Int→World→Prop) (m:Int→World→Nat),I (0:Int) a ∧
 ∀(b:Int) (w1:World),I b w1→F160_l2 s sN v (fun b' w2=>I b' w2∧m b' w2 < m b w1) b w1 R
theorem ok160 (s:Option Addr) (sN:Nat) (sC:Nat) (v:Option Addr) {w:World}{R:Ending→World→Prop} (h:F160 s sN sC v w R):Calls Tryz.prog 160 #[(.slice s sN sC),(.pointer v)] w R :=
 vc_calls (pl:=⟨19,⟨[]⟩,[],[(2,⟨[(8,(.s (.int .i64)))],[(4,6),(8,19)]⟩)]⟩) Tryz.func160 (by kernel_rfl) (by kernel_rfl) (by kernel_rfl) (Eq.mp (by kernel_rfl) h)
def F161 (s:Option Addr) (sN:Nat) (sC:Nat) (i:Int) (v:Option Addr) (vN:Nat) (vC:Nat) (t:World) (R:Ending→World→Prop):Prop :=
 SlB i ((sN:Nat):Int) ((sC:Nat):Int)
 (Br (((vN:Nat):Int) == (0:Int))
 (R (.returned (.slice s sN sC)) t)
 (Br (i == ((sN:Nat):Int))
 (Raw Tryz.prog (Builtin.append_ #[96,96] 96 #[(.slice s sN sC),(.slice v vN vC)]) t fun v2 w1 =>
 ∃(h:Option Addr) (a:Nat) (d:Nat),v2=(.slice h a d) ∧
 R (.returned (.slice h a d)) w1)
 (InR .i64 (((sN:Nat):Int)+((vN:Nat):Int))∧Br (decide ((((sN:Nat):Int)+((vN:Nat):Int)) > ((sC:Nat):Int)))
 (SlB 0 i ((sC:Nat):Int)
 (InR .i64 (((sN:Nat):Int)+((vN:Nat):Int))∧InR .i64 ((((sN:Nat):Int)+((vN:Nat):Int))-i)∧Raw Tryz.prog (Builtin.append_ #[96,3] 96 #[(.slice s (i).toNat sC),(.int .i64 ((((sN:Nat):Int)+((vN:Nat):Int))-i))]) t fun v2 w1 =>
 ∃(m:Option Addr) (e:Nat) (g:Nat),v2=(.slice m e g) ∧
 SlB i ((e:Nat):Int) ((g:Nat):Int)
 (Raw Tryz.prog (Builtin.copy_ #[96,96] 3 #[(.slice (SlA m g (i).toNat 1) ((((e:Nat):Int)).toNat-(i).toNat) (g-(i).toNat)),(.slice v vN vC)]) w1 fun v3 b =>
 ∃(q:Int),v3=(.int .i64 q) ∧
 ∃S:World→Prop,S b.drew∧InR .i64 (i+((vN:Nat):Int))∧SlB (i+((vN:Nat):Int)) ((e:Nat):Int) ((g:Nat):Int)
 (SlB i ((sN:Nat):Int) ((sC:Nat):Int)
 (Raw Tryz.prog (Builtin.copy_ #[96,96] 3 #[(.slice (SlA m g ((i+((vN:Nat):Int))).toNat 1) ((((e:Nat):Int)).toNat-((i+((vN:Nat):Int))).toNat) (g-((i+((vN:Nat):Int))).toNat)),(.slice (SlA s sC (i).toNat 1) ((((sN:Nat):Int)).toNat-(i).toNat) (sC-(i).toNat))]) b.drew fun v4 c =>
 ∃(k:Int),v4=(.int .i64 k) ∧
 R (.returned (.slice m e g)) c)))))
 (InR .i64 (((sN:Nat):Int)+((vN:Nat):Int))∧SlB 0 (((sN:Nat):Int)+((vN:Nat):Int)) ((sC:Nat):Int)
 (InR .i64 (i+((vN:Nat):Int))∧SlB (i+((vN:Nat):Int)) ((((((sN:Nat):Int)+((vN:Nat):Int))).toNat:Nat):Int) ((sC:Nat):Int)
 (ByRow Tryz.prog 187 #[(.slice v vN vC),(.slice (SlA s sC ((i+((vN:Nat):Int))).toNat 1) ((((((((sN:Nat):Int)+((vN:Nat):Int))).toNat:Nat):Int)).toNat-((i+((vN:Nat):Int))).toNat) (sC-((i+((vN:Nat):Int))).toNat))] t (fun v2 w1 =>
 ∃(r:Bool),v2=(.bool r) ∧
 Br (!r)
 (∃S:World→Prop,S w1.drew∧InR .i64 (i+((vN:Nat):Int))∧SlB (i+((vN:Nat):Int)) ((((((sN:Nat):Int)+((vN:Nat):Int))).toNat:Nat):Int) ((sC:Nat):Int)
 (SlB i ((((((sN:Nat):Int)+((vN:Nat):Int))).toNat:Nat):Int) ((sC:Nat):Int)
 (Raw Tryz.prog (Builtin.copy_ #[96,96] 3 #[(.slice (SlA s sC ((i+((vN:Nat):Int))).toNat 1) ((((((((sN:Nat):Int)+((vN:Nat):Int))).toNat:Nat):Int)).toNat-((i+((vN:Nat):Int))).toNat) (sC-((i+((vN:Nat):Int))).toNat)),(.slice (SlA s sC (i).toNat 1) ((((((((sN:Nat):Int)+((vN:Nat):Int))).toNat:Nat):Int)).toNat-(i).toNat) (sC-(i).toNat))]) w1.drew fun v3 f =>
 ∃(p:Int),v3=(.int .i64 p) ∧
 SlB i ((((((sN:Nat):Int)+((vN:Nat):Int))).toNat:Nat):Int) ((sC:Nat):Int)
 (Raw Tryz.prog (Builtin.copy_ #[96,96] 3 #[(.slice (SlA s sC (i).toNat 1) ((((((((sN:Nat):Int)+((vN:Nat):Int))).toNat:Nat):Int)).toNat-(i).toNat) (sC-(i).toNat)),(.slice v vN vC)]) f fun v4 c =>
 ∃(j:Int),v4=(.int .i64 j) ∧
 R (.returned (.slice s ((((sN:Nat):Int)+((vN:Nat):Int))).toNat sC)) c))))
 (SlB ((sN:Nat):Int) ((((((sN:Nat):Int)+((vN:Nat):Int))).toNat:Nat):Int) ((sC:Nat):Int)
 (Raw Tryz.prog (Builtin.copy_ #[96,96] 3 #[(.slice (SlA s sC (((sN:Nat):Int)).toNat 1) ((((((((sN:Nat):Int)+((vN:Nat):Int))).toNat:Nat):Int)).toNat-(((sN:Nat):Int)).toNat) (sC-(((sN:Nat):Int)).toNat)),(.slice v vN vC)]) w1 fun v3 b =>
 ∃(n:Int),v3=(.int .i64 n) ∧
 SlB i ((((((sN:Nat):Int)+((vN:Nat):Int))).toNat:Nat):Int) ((sC:Nat):Int)
 (Calls Tryz.prog 188 #[(.slice (SlA s sC (i).toNat 1) ((((((((sN:Nat):Int)+((vN:Nat):Int))).toNat:Nat):Int)).toNat-(i).toNat) (sC-(i).toNat)),(.int .i64 ((vN:Nat):Int))] b (post R fun v4 f =>
 v4=(.tuple #[]) ∧
 R (.returned (.slice s ((((sN:Nat):Int)+((vN:Nat):Int))).toNat sC)) f)))))))))))
theorem ok161 (s:Option Addr) (sN:Nat) (sC:Nat) (i:Int) (v:Option Addr) (vN:Nat) (vC:Nat) {w:World}{R:Ending→World→Prop} (h:F161 s sN sC i v vN vC w R):Calls Tryz.prog 161 #[(.slice s sN sC),(.int .i64 i),(.slice v vN vC)] w R :=
 vc_calls (pl:=⟨95,⟨[]⟩,[],[]⟩) Tryz.func161 (by kernel_rfl) (by kernel_rfl) (by kernel_rfl) (Eq.mp (by kernel_rfl) h)
set_option linter.unusedVariables false
set_option maxRecDepth 100000
def F47_j3 (d:Option Addr) (n:Int) (f:World) (R:Ending→World→Prop):Prop :=
 Al f #[] 65 fun g16 w1 =>
 Calls Tryz.prog 81 #[(.pointer d),(.int .u64 n),(.slice (some g16) 0 0)] w1 (post R fun v b =>
 ∃(e:Option Addr) (c:Nat) (a:Nat),v=(.slice e c a) ∧
 R (.returned (.tuple #[(.slice e c a),(.int .i64 0)])) b)
def F47 (d:Option Addr) (n:Int) (b:World) (R:Ending→World→Prop):Prop :=
 ∃J3:World→Prop,(∀ (w1:World),J3 w1→F47_j3 d n w1 R) ∧
 (Br (n != (0:Int))
 (Calls Tryz.prog 80 #[(.pointer d),(.int .u64 n)] b (post R fun v w1 =>
 ∃(a:Bool),v=(.bool a) ∧
 Br (!a)
 (R (.returned (.tuple #[(.slice none 0 0),(.int .i64 8)])) w1)
 (J3 w1)))
 (J3 b))
theorem ok47 (d:Option Addr) (n:Int) {w:World}{R:Ending→World→Prop} (h:F47 d n w R):Calls Tryz.prog 47 #[(.pointer d),(.int .u64 n)] w R :=
 vc_calls (pl:=⟨18,⟨[]⟩,[(3,⟨[],[(4,14)]⟩)],[]⟩) Tryz.func47 (by kernel_rfl) (by kernel_rfl) (by kernel_rfl) (Eq.mp (by kernel_rfl) h)
def F48 (d:Option Addr) (n:Int) (w_:World) (R:Ending→World→Prop):Prop :=
 Al w_ #[(.int .i64 0),(.string (ByteArray.mk #[])),(.slice none 0 0),(.string (ByteArray.mk #[])),(.slice none 0 0)] 84 fun g4 w1 =>
 Calls Tryz.prog 82 #[(.pointer d),(.int .u64 n)] w1 (post R fun v ca =>
 ∃(va:Int),v=(.int .i64 va) ∧
 Br (decide (va < (0:Int)))
 (St ca g4 (.int .i64 0) fun ea =>
 St ea (g4.add 1) (.string (ByteArray.mk #[])) fun da =>
 St da (g4.add 2) (.slice none 0 0) fun ha =>
 St ha (g4.add 3) (.string (ByteArray.mk #[])) fun fa =>
 St fa (g4.add 4) (.slice none 0 0) fun na =>
 LdI .i64 (na.cell? g4) fun res0_0 =>
 LdStr (na.cell? (g4.add 1)) fun res0_1 =>
 LdSl (na.cell? (g4.add 2)) fun res0_2 res0_2N res0_2C =>
 LdStr (na.cell? (g4.add 3)) fun res0_3 =>
 LdSl (na.cell? (g4.add 4)) fun res0_4 res0_4N res0_4C =>
 R (.returned (.tuple #[(.agg #[(.int .i64 res0_0),(.string res0_1),(.slice res0_2 res0_2N res0_2C),(.string res0_3),(.slice res0_4 res0_4N res0_4C)]),(.int .i64 8)])) na)
 (NonNil d fun p15 =>
 LdSl (ca.cell? p15) fun pa ia ma =>
 IdxA pa ia va 8 fun sa =>
 LdI .u32 (ca.cell? sa) fun r =>
 LdB (ca.cell? (sa.add 1)) fun k =>
 LdI .i64 (ca.cell? (sa.add 2)) fun i =>
 LdStr (ca.cell? (sa.add 3)) fun y =>
 LdSl (ca.cell? (sa.add 4)) fun z b c =>
 LdStr (ca.cell? (sa.add 5)) fun h =>
 LdI .u64 (ca.cell? (sa.add 6)) fun j =>
 LdSl (ca.cell? (sa.add 7)) fun q a e =>
 Al ca #[(.int .u32 0),(.bool false),(.int .i64 0),(.string (ByteArray.mk #[])),(.slice none 0 0),(.string (ByteArray.mk #[])),(.int .u64 0),(.slice none 0 0)] 162 fun s ea =>
 St ea s (.int .u32 r) fun da =>
 St da (s.add 1) (.bool k) fun ha =>
 St ha (s.add 2) (.int .i64 i) fun fa =>
 St fa (s.add 3) (.string y) fun na =>
 St na (s.add 4) (.slice z b c) fun ka =>
 St ka (s.add 5) (.string h) fun ga =>
 St ga (s.add 6) (.int .u64 j) fun m =>
 St m (s.add 7) (.slice q a e) fun u =>
 LdI .i64 (u.cell? (s.add 2)) fun ra =>
 LdStr (u.cell? (s.add 3)) fun qa =>
 LdSl (u.cell? (s.add 4)) fun ta ja ba =>
 LdStr (u.cell? (s.add 5)) fun ua =>
 St u g4 (.int .i64 ra) fun g =>
 St g (g4.add 1) (.string qa) fun aa =>
 St aa (g4.add 2) (.slice ta ja ba) fun f =>
 St f (g4.add 3) (.string ua) fun t =>
 St t (g4.add 4) (.slice none 0 0) fun p =>
 LdI .i64 (p.cell? g4) fun res0_0 =>
 LdStr (p.cell? (g4.add 1)) fun res0_1 =>
 LdSl (p.cell? (g4.add 2)) fun res0_2 res0_2N res0_2C =>
 LdStr (p.cell? (g4.add 3)) fun res0_3 =>
 LdSl (p.cell? (g4.add 4)) fun res0_4 res0_4N res0_4C =>
 R (.returned (.tuple #[(.agg #[(.int .i64 res0_0),(.string res0_1),(.slice res0_2 res0_2N res0_2C),(.string res0_3),(.slice res0_4 res0_4N res0_4C)]),(.int .i64 0)])) p))
theorem ok48 (d:Option Addr) (n:Int) {w:World}{R:Ending→World→Prop} (h:F48 d n w R):Calls Tryz.prog 48 #[(.pointer d),(.int .u64 n)] w R :=
 vc_calls (pl:=⟨30,⟨[]⟩,[],[]⟩) Tryz.func48 (by kernel_rfl) (by kernel_rfl) (by kernel_rfl) (Eq.mp (by kernel_rfl) h)
def F130 (d:Option Addr) (i:Int) (f:World) (R:Ending→World→Prop):Prop :=
 NonNil d fun p6 =>
 LdSl (f.cell? p6) fun g a c =>
 IdxA g a i 8 fun e =>
 LdI .u32 (f.cell? e) fun b =>
 InR .u64 (b)∧InR .u64 ((b)*(2 ^ (min ((32:Int)).toNat 64)))∧InR .i64 (i+(1:Int))∧InR .u64 ((i+(1:Int)))∧R (.returned (.int .u64 (bOr .u64 ((b)*(2 ^ (min ((32:Int)).toNat 64))) ((i+(1:Int)))))) f
theorem ok130 (d:Option Addr) (i:Int) {w:World}{R:Ending→World→Prop} (h:F130 d i w R):Calls Tryz.prog 130 #[(.pointer d),(.int .i64 i)] w R :=
 vc_calls (pl:=⟨19,⟨[]⟩,[],[]⟩) Tryz.func130 (by kernel_rfl) (by kernel_rfl) (by kernel_rfl) (Eq.mp (by kernel_rfl) h)
def F43_j4 (L3:Int→Int→World→Prop) (i:Int) (n2:Int) (a:World) (R:Ending→World→Prop):Prop :=
 InR .i64 (i+(1:Int))∧L3 n2 (i+(1:Int)) a
def F43_l3 (d:Option Addr) (L3:Int→Int→World→Prop) (n:Int) (i:Int) (f:World) (R:Ending→World→Prop):Prop :=
 NonNil d fun p7 =>
 LdSl (f.cell? p7) fun k j g =>
 Br (decide (i < ((j:Nat):Int)))
 (∃J4:Int→World→Prop,(∀(n2:Int) (w1:World),J4 n2 w1→F43_j4 L3 i n2 w1 R) ∧
 (NonNil d fun p15 =>
 LdSl (f.cell? p15) fun c b a =>
 IdxA c b i 8 fun e =>
 LdB (f.cell? (e.add 1)) fun h =>
 Br h
 (InR .i64 (n+(1:Int))∧J4 (n+(1:Int)) f)
 (J4 n f)))
 (R (.returned (.int .i64 n)) f)
def F43 (d:Option Addr) (a:World) (R:Ending→World→Prop):Prop :=
 ∃(I:Int→Int→World→Prop) (m:Int→Int→World→Nat),I (0:Int) (0:Int) a ∧
 ∀(n:Int) (i:Int) (w1:World),I n i w1→F43_l3 d (fun n' i' w2=>I n' i' w2∧m n' i' w2 < m n i w1) n i w1 R
theorem ok43 (d:Option Addr) {w:World}{R:Ending→World→Prop} (h:F43 d w R):Calls Tryz.prog 43 #[(.pointer d)] w R :=
 vc_calls (pl:=⟨25,⟨[]⟩,[(4,⟨[(3,(.s (.int .i64)))],[(3,4),(14,24)]⟩)],[(3,⟨[(3,(.s (.int .i64))),(4,(.s (.int .i64)))],[(3,24)]⟩)]⟩) Tryz.func43 (by kernel_rfl) (by kernel_rfl) (by kernel_rfl) (Eq.mp (by kernel_rfl) h)
def F129 (d:Option Addr) (h_:Int) (p:World) (R:Ending→World→Prop):Prop :=
 Br (h_ == (0:Int))
 (NonNil d fun p8 =>
 LdSl (p.cell? (p8.add 1)) fun n e a =>
 R (.returned (.slice n e a)) p)
 (∃S:World→Prop,S p.drew∧NonNil d fun p12 =>
 ∃(m:Option Addr) (g:Nat) (h:Nat),Held S p12 (.slice m g h)∧Calls Tryz.prog 82 #[(.pointer d),(.int .u64 h_)] p.drew (post R fun v b =>
 ∃(j:Int),v=(.int .i64 j) ∧
 S b∧IdxA m g j 8 fun k =>
 ∃(i:Option Addr) (c:Nat) (f:Nat),Held S (k.add 7) (.slice i c f)∧R (.returned (.slice i c f)) b))
theorem ok129 (d:Option Addr) (h_:Int) {w:World}{R:Ending→World→Prop} (h:F129 d h_ w R):Calls Tryz.prog 129 #[(.pointer d),(.int .u64 h_)] w R :=
 vc_calls (pl:=⟨21,⟨[]⟩,[],[]⟩) Tryz.func129 (by kernel_rfl) (by kernel_rfl) (by kernel_rfl) (Eq.mp (by kernel_rfl) h)
def F80 (d:Option Addr) (h_:Int) (a:World) (R:Ending→World→Prop):Prop :=
 Calls Tryz.prog 82 #[(.pointer d),(.int .u64 h_)] a (post R fun v w1 =>
 ∃(b:Int),v=(.int .i64 b) ∧
 R (.returned (.bool (decide (b≥(0:Int))))) w1)
theorem ok80 (d:Option Addr) (h_:Int) {w:World}{R:Ending→World→Prop} (h:F80 d h_ w R):Calls Tryz.prog 80 #[(.pointer d),(.int .u64 h_)] w R :=
 vc_calls (pl:=⟨9,⟨[]⟩,[],[]⟩) Tryz.func80 (by kernel_rfl) (by kernel_rfl) (by kernel_rfl) (Eq.mp (by kernel_rfl) h)
def F81_l5 (d:Option Addr) (f:Option Addr) (c:Nat) (L5:Option Addr→Nat→Nat→Int→World→Prop) (l3:Option Addr) (lN3:Nat) (lC3:Nat) (i:Int) (j:World) (R:Ending→World→Prop):Prop :=
 Br (decide (i < ((c:Nat):Int)))
 (IdxA f c i 1 fun k =>
 LdI .u64 (j.cell? k) fun h =>
 Calls Tryz.prog 81 #[(.pointer d),(.int .u64 h),(.slice l3 lN3 lC3)] j (post R fun v2 b =>
 ∃(g:Option Addr) (e:Nat) (a:Nat),v2=(.slice g e a) ∧
 InR .i64 (i+(1:Int))∧L5 g e a (i+(1:Int)) b))
 (R (.returned (.slice l3 lN3 lC3)) j)
def F81_j3 (d:Option Addr) (h_:Int) (l2:Option Addr) (lN2:Nat) (lC2:Nat) (f:World) (R:Ending→World→Prop):Prop :=
 Calls Tryz.prog 129 #[(.pointer d),(.int .u64 h_)] f (post R fun v w1 =>
 ∃(e:Option Addr) (c:Nat) (a:Nat),v=(.slice e c a) ∧
 ∃(I:Option Addr→Nat→Nat→Int→World→Prop) (m:Option Addr→Nat→Nat→Int→World→Nat),I l2 lN2 lC2 (0:Int) w1 ∧
 ∀(l3:Option Addr) (lN3:Nat) (lC3:Nat) (i:Int) (b:World),I l3 lN3 lC3 i b→F81_l5 d e c (fun l3' lN3' lC3' i' w2=>I l3' lN3' lC3' i' w2∧m l3' lN3' lC3' i' w2 < m l3 lN3 lC3 i b) l3 lN3 lC3 i b R)
def F81 (d:Option Addr) (h_:Int) (l:Option Addr) (lN:Nat) (lC:Nat) (f:World) (R:Ending→World→Prop):Prop :=
 ∃J3:Option Addr→Nat→Nat→World→Prop,(∀(l2:Option Addr) (lN2:Nat) (lC2:Nat) (w1:World),J3 l2 lN2 lC2 w1→F81_j3 d h_ l2 lN2 lC2 w1 R) ∧
 (Br (h_ != (0:Int))
 (Al f #[(.int .u64 h_)] 65 fun g13 w1 =>
 Raw Tryz.prog (Builtin.append_ #[23,23] 23 #[(.slice l lN lC),(.slice (some g13) 1 1)]) w1 fun v a =>
 ∃(e:Option Addr) (c:Nat) (b:Nat),v=(.slice e c b) ∧
 J3 e c b a)
 (J3 l lN lC f))
theorem ok81 (d:Option Addr) (h_:Int) (l:Option Addr) (lN:Nat) (lC:Nat) {w:World}{R:Ending→World→Prop} (h:F81 d h_ l lN lC w R):Calls Tryz.prog 81 #[(.pointer d),(.int .u64 h_),(.slice l lN lC)] w R :=
 vc_calls (pl:=⟨32,⟨[]⟩,[(3,⟨[(2,(.s .slice))],[(2,15)]⟩)],[(5,⟨[(2,(.s .slice)),(8,(.s (.int .i64)))],[(2,3),(8,31)]⟩)]⟩) Tryz.func81 (by kernel_rfl) (by kernel_rfl) (by kernel_rfl) (Eq.mp (by kernel_rfl) h)
def F82_j4 (h_:Int) (a:World) (R:Ending→World→Prop):Prop :=
 R (.returned (.int .i64 (((h_.tmod (4294967296:Int)))-(1:Int)))) a
def F82 (d:Option Addr) (h_:Int) (k:World) (R:Ending→World→Prop):Prop :=
 InR .i64 ((h_.tmod (4294967296:Int)))∧InR .i64 (((h_.tmod (4294967296:Int)))-(1:Int))∧∃J4:World→Prop,(∀ (w1:World),J4 w1→F82_j4 h_ w1 R) ∧
 (Br (decide ((((h_.tmod (4294967296:Int)))-(1:Int)) < (0:Int)))
 (R (.returned (.int .i64 (-1))) k)
 (NonNil d fun p15 =>
 LdSl (k.cell? p15) fun g e a =>
 Br (decide ((((h_.tmod (4294967296:Int)))-(1:Int))≥((e:Nat):Int)))
 (R (.returned (.int .i64 (-1))) k)
 (NonNil d fun p23 =>
 LdSl (k.cell? p23) fun f b c =>
 IdxA f b (((h_.tmod (4294967296:Int)))-(1:Int)) 8 fun j =>
 LdB (k.cell? (j.add 1)) fun i =>
 Br (!i)
 (R (.returned (.int .i64 (-1))) k)
 (Calls Tryz.prog 130 #[(.pointer d),(.int .i64 (((h_.tmod (4294967296:Int)))-(1:Int)))] k (post R fun v w1 =>
 ∃(h:Int),v=(.int .u64 h) ∧
 Br (h != h_)
 (R (.returned (.int .i64 (-1))) w1)
 (J4 w1))))))
theorem ok82 (d:Option Addr) (h_:Int) {w:World}{R:Ending→World→Prop} (h:F82 d h_ w R):Calls Tryz.prog 82 #[(.pointer d),(.int .u64 h_)] w R :=
 vc_calls (pl:=⟨40,⟨[]⟩,[(4,⟨[],[(4,5),(10,39)]⟩)],[]⟩) Tryz.func82 (by kernel_rfl) (by kernel_rfl) (by kernel_rfl) (Eq.mp (by kernel_rfl) h)
def F72_j8 (d:Option Addr) (l:Option Addr) (lN:Nat) (deep:Int) (seen:Option Addr) (seenN:Nat) (seenC:Nat) (L3:Int→Int→World→Prop) (n:Int) (i:Int) (s:Int) (t:World) (R:Ending→World→Prop):Prop :=
 IdxA seen seenN s 1 fun u =>
 St t u (.bool true) fun e =>
 ∃S:World→Prop,S e.drew∧NonNil d fun p60 =>
 ∃(p:Option Addr) (g:Nat) (h:Nat),Held S p60 (.slice p g h)∧IdxA p g s 8 fun q =>
 ∃(m:Option Addr) (j:Nat) (c:Nat),Held S (q.add 7) (.slice m j c)∧IdxA l lN i 1 fun k =>
 ∃(r:Int),Held S k (.int .u64 r)∧InR .i64 (deep+(1:Int))∧Calls Tryz.prog 72 #[(.pointer d),(.slice m j c),(.int .u64 r),(.int .i64 (deep+(1:Int))),(.slice seen seenN seenC)] e.drew (post R fun v2 f =>
 ∃(b:Int) (a:Bool),v2=(.tuple #[(.int .i64 b),(.bool a)]) ∧
 Br (!a)
 (R (.returned (.tuple #[(.int .i64 n),(.bool false)])) f)
 (InR .i64 (n+(1:Int))∧InR .i64 ((n+(1:Int))+b)∧InR .i64 (i+(1:Int))∧L3 ((n+(1:Int))+b) (i+(1:Int)) f))
def F72_l3 (d:Option Addr) (l:Option Addr) (lN:Nat) (parent:Int) (deep:Int) (seen:Option Addr) (seenN:Nat) (seenC:Nat) (L3:Int→Int→World→Prop) (n:Int) (i:Int) (g:World) (R:Ending→World→Prop):Prop :=
 Br (decide (i < ((lN:Nat):Int)))
 (IdxA l lN i 1 fun j =>
 LdI .u64 (g.cell? j) fun q =>
 Calls Tryz.prog 82 #[(.pointer d),(.int .u64 q)] g (post R fun v w1 =>
 ∃(m:Int),v=(.int .i64 m) ∧
 ∃J8:World→Prop,(∀ (a:World),J8 a→F72_j8 d l lN deep seen seenN seenC L3 n i m a R) ∧
 (Br (decide (m < (0:Int)))
 (R (.returned (.tuple #[(.int .i64 n),(.bool false)])) w1)
 (IdxA seen seenN m 1 fun f =>
 LdB (w1.cell? f) fun h =>
 Br h
 (R (.returned (.tuple #[(.int .i64 n),(.bool false)])) w1)
 (NonNil d fun p39 =>
 LdSl (w1.cell? p39) fun e b c =>
 IdxA e b m 8 fun k =>
 LdI .u64 (w1.cell? (k.add 6)) fun p =>
 Br (p != parent)
 (R (.returned (.tuple #[(.int .i64 n),(.bool false)])) w1)
 (Br (decide (deep > (64:Int)))
 (R (.returned (.tuple #[(.int .i64 n),(.bool false)])) w1)
 (J8 w1)))))))
 (R (.returned (.tuple #[(.int .i64 n),(.bool true)])) g)
def F72 (d:Option Addr) (l:Option Addr) (lN:Nat) (lC:Nat) (parent:Int) (deep:Int) (seen:Option Addr) (seenN:Nat) (seenC:Nat) (a:World) (R:Ending→World→Prop):Prop :=
 ∃(I:Int→Int→World→Prop) (m:Int→Int→World→Nat),I (0:Int) (0:Int) a ∧
 ∀(n:Int) (i:Int) (w1:World),I n i w1→F72_l3 d l lN parent deep seen seenN seenC (fun n' i' w2=>I n' i' w2∧m n' i' w2 < m n i w1) n i w1 R
theorem ok72 (d:Option Addr) (l:Option Addr) (lN:Nat) (lC:Nat) (parent:Int) (deep:Int) (seen:Option Addr) (seenN:Nat) (seenC:Nat) {w:World}{R:Ending→World→Prop} (h:F72 d l lN lC parent deep seen seenN seenC w R):Calls Tryz.prog 72 #[(.pointer d),(.slice l lN lC),(.int .u64 parent),(.int .i64 deep),(.slice seen seenN seenC)] w R :=
 vc_calls (pl:=⟨85,⟨[]⟩,[(8,⟨[],[(10,12),(29,54)]⟩)],[(3,⟨[(12,(.s (.int .i64))),(13,(.s (.int .i64)))],[(10,84)]⟩)]⟩) Tryz.func72 (by kernel_rfl) (by kernel_rfl) (by kernel_rfl) (Eq.mp (by kernel_rfl) h)
def F39_j15 (g18:Addr) (L5:Int→World→Prop) (i:Int) (s:Addr) (z:World) (R:Ending→World→Prop):Prop :=
 ∃S:World→Prop,S z.drew∧∃(ba:Option Addr) (t:Nat) (u:Nat),Held S g18 (.slice ba t u)∧∃(j:Int),Held S s (.int .u32 j)∧∃(f:Bool),Held S (s.add 1) (.bool f)∧∃(k:Int),Held S (s.add 2) (.int .i64 k)∧∃(e:ByteArray),Held S (s.add 3) (.string e)∧∃(r:Option Addr) (b:Nat) (c:Nat),Held S (s.add 4) (.slice r b c)∧∃(p:ByteArray),Held S (s.add 5) (.string p)∧∃(q:Int),Held S (s.add 6) (.int .u64 q)∧∃(m:Option Addr) (a:Nat) (d:Nat),Held S (s.add 7) (.slice m a d)∧Al z.drew #[(.int .u32 j),(.bool f),(.int .i64 k),(.string e),(.slice r b c),(.string p),(.int .u64 q),(.slice m a d)] 162 fun g62 n =>
 S n∧Raw Tryz.prog (Builtin.append_ #[22,22] 22 #[(.slice ba t u),(.slice (some g62) 1 1)]) n fun v2 h =>
 ∃(aa:Option Addr) (v:Nat) (y:Nat),v2=(.slice aa v y) ∧
 St h g18 (.slice aa v y) fun g =>
 InR .i64 (i+(1:Int))∧L5 (i+(1:Int)) g
def F39_j10 (g18:Addr) (L5:Int→World→Prop) (i:Int) (s:Addr) (n:World) (R:Ending→World→Prop):Prop :=
 ∃J15:World→Prop,(∀ (c:World),J15 c→F39_j15 g18 L5 i s c R) ∧
 (LdB (n.cell? (s.add 1)) fun j =>
 Br (!j)
 (LdI .u32 (n.cell? s) fun m =>
 St n s (.int .u32 m) fun c =>
 St c (s.add 1) (.bool false) fun d =>
 St d (s.add 2) (.int .i64 0) fun g =>
 St g (s.add 3) (.string (ByteArray.mk #[])) fun e =>
 St e (s.add 4) (.slice none 0 0) fun f =>
 St f (s.add 5) (.string (ByteArray.mk #[])) fun h =>
 St h (s.add 6) (.int .u64 0) fun a =>
 St a (s.add 7) (.slice none 0 0) fun b =>
 J15 b)
 (LdI .i64 (n.cell? (s.add 2)) fun k =>
 Br (k == (2:Int))
 (St n (s.add 3) (.string (ByteArray.mk #[])) fun c =>
 St c (s.add 4) (.slice none 0 0) fun d =>
 St d (s.add 7) (.slice none 0 0) fun g =>
 J15 g)
 (St n (s.add 5) (.string (ByteArray.mk #[])) fun c =>
 J15 c)))
def F39_j19 (g18:Addr) (a:World) (R:Ending→World→Prop):Prop :=
 R (.returned (.tuple #[(.pointer (some g18)),(.int .i64 0)])) a
def F39_l5 (g1:Addr) (g18:Addr) (L5:Int→World→Prop) (i:Int) (fb:World) (R:Ending→World→Prop):Prop :=
 LdSl (fb.cell? g1) fun ib ma ya =>
 Br (decide (i < ((ma:Nat):Int)))
 (LdSl (fb.cell? g1) fun mb bb na =>
 IdxA mb bb i 8 fun jb =>
 LdI .u32 (fb.cell? jb) fun q =>
 LdB (fb.cell? (jb.add 1)) fun v =>
 LdI .i64 (fb.cell? (jb.add 2)) fun ha =>
 LdStr (fb.cell? (jb.add 3)) fun ba =>
 LdSl (fb.cell? (jb.add 4)) fun z c a =>
 LdStr (fb.cell? (jb.add 5)) fun da =>
 LdI .u64 (fb.cell? (jb.add 6)) fun n =>
 LdSl (fb.cell? (jb.add 7)) fun ja b f =>
 Al fb #[(.int .u32 0),(.bool false),(.int .i64 0),(.string (ByteArray.mk #[])),(.slice none 0 0),(.string (ByteArray.mk #[])),(.int .u64 0),(.slice none 0 0)] 162 fun s ua =>
 St ua s (.int .u32 q) fun pa =>
 St pa (s.add 1) (.bool v) fun za =>
 St za (s.add 2) (.int .i64 ha) fun va =>
 St va (s.add 3) (.string ba) fun sa =>
 St sa (s.add 4) (.slice z c a) fun t =>
 St t (s.add 5) (.string da) fun ca =>
 St ca (s.add 6) (.int .u64 n) fun k =>
 St k (s.add 7) (.slice ja b f) fun ia =>
 ∃J10:World→Prop,(∀ (j:World),J10 j→F39_j10 g18 L5 i s j R) ∧
 (LdI .u32 (ia.cell? s) fun kb =>
 Br (decide (kb < (1:Int)))
 (R (.returned (.tuple #[(.pointer none),(.int .i64 36)])) ia)
 (LdB (ia.cell? (s.add 1)) fun hb =>
 Br hb
 (LdI .u32 (ia.cell? s) fun y =>
 LdB (ia.cell? (s.add 1)) fun ea =>
 LdI .i64 (ia.cell? (s.add 2)) fun r =>
 LdStr (ia.cell? (s.add 3)) fun ka =>
 LdSl (ia.cell? (s.add 4)) fun ga g e =>
 LdStr (ia.cell? (s.add 5)) fun u =>
 LdI .u64 (ia.cell? (s.add 6)) fun fa =>
 LdSl (ia.cell? (s.add 7)) fun p d h =>
 Calls Tryz.prog 71 #[(.agg #[(.int .u32 y),(.bool ea),(.int .i64 r),(.string ka),(.slice ga g e),(.string u),(.int .u64 fa),(.slice p d h)])] ia (post R fun v2 j =>
 ∃(eb:Bool),v2=(.bool eb) ∧
 Br (!eb)
 (R (.returned (.tuple #[(.pointer none),(.int .i64 36)])) j)
 (J10 j)))
 (J10 ia))))
 (∃S:World→Prop,S fb.drew∧∃(gb:Option Addr) (ab:Nat) (ra:Nat),Held S (g18.add 1) (.slice gb ab ra)∧∃(db:Option Addr) (qa:Nat) (ta:Nat),Held S g18 (.slice db qa ta)∧0≤((qa:Nat):Int)∧((qa:Nat):Int)≤((qa:Nat):Int)∧((1:Nat):Int)*((qa:Nat):Int)≤281474976710656∧Al fb.drew (zrow #[(.bool false)] ((((qa:Nat):Int)).toNat*1)) 4 fun g77 pa =>
 S pa∧Calls Tryz.prog 72 #[(.pointer (some g18)),(.slice gb ab ra),(.int .u64 0),(.int .i64 1),(.slice (some g77) (((qa:Nat):Int)).toNat (((qa:Nat):Int)).toNat)] pa (post R fun v2 za =>
 ∃(m:Int) (aa:Bool),v2=(.tuple #[(.int .i64 m),(.bool aa)]) ∧
 ∃J19:World→Prop,(∀ (va:World),J19 va→F39_j19 g18 va R) ∧
 (Br (!aa)
 (R (.returned (.tuple #[(.pointer none),(.int .i64 36)])) za)
 (Calls Tryz.prog 43 #[(.pointer (some g18))] za (post R fun v3 va =>
 ∃(cb:Int),v3=(.int .i64 cb) ∧
 Br (m != cb)
 (R (.returned (.tuple #[(.pointer none),(.int .i64 36)])) va)
 (J19 va))))))
def F39 (x_0:Option Addr) (x_0N:Nat) (x_0C:Nat) (x_1:Option Addr) (x_1N:Nat) (x_1C:Nat) (r:World) (R:Ending→World→Prop):Prop :=
 Al r #[(.slice x_0 x_0N x_0C),(.slice x_1 x_1N x_1C)] 25 fun g1 w1 =>
 LdSl (w1.cell? g1) fun p h c =>
 Br (decide (((h:Nat):Int) > (4096:Int)))
 (R (.returned (.tuple #[(.pointer none),(.int .i64 36)])) w1)
 (Al w1 #[] 65 fun g13 b =>
 LdSl (b.cell? (g1.add 1)) fun n f j =>
 Raw Tryz.prog (Builtin.append_ #[23,23] 23 #[(.slice (some g13) 0 0),(.slice n f j)]) b fun v g =>
 ∃(q:Option Addr) (d:Nat) (a:Nat),v=(.slice q d a) ∧
 Al g #[(.slice none 0 0),(.slice q d a)] 107 fun g18 e =>
 ∃(I:Int→World→Prop) (m:Int→World→Nat),I (0:Int) e ∧
 ∀(i:Int) (k:World),I i k→F39_l5 g1 g18 (fun i' w2=>I i' w2∧m i' w2 < m i k) i k R)
theorem ok39 (x_0:Option Addr) (x_0N:Nat) (x_0C:Nat) (x_1:Option Addr) (x_1N:Nat) (x_1C:Nat) {w:World}{R:Ending→World→Prop} (h:F39 x_0 x_0N x_0C x_1 x_1N x_1C w R):Calls Tryz.prog 39 #[(.agg #[(.slice x_0 x_0N x_0C),(.slice x_1 x_1N x_1C)])] w R :=
 vc_calls (pl:=⟨90,⟨[]⟩,[(15,⟨[],[(43,56)]⟩),(10,⟨[],[(2,4),(31,43)]⟩),(19,⟨[],[(2,4),(81,89)]⟩)],[(5,⟨[(5,(.s (.int .i64)))],[(2,4),(5,66)]⟩)]⟩) Tryz.func39 (by kernel_rfl) (by kernel_rfl) (by kernel_rfl) (Eq.mp (by kernel_rfl) h)
def F158_j8 (l:Option Addr) (lN:Nat) (L4:Int→World→Prop) (i:Int) (e:World) (R:Ending→World→Prop):Prop :=
 IdxA l lN i 2 fun c =>
 LdStr (e.cell? (c.add 1)) fun d =>
 Calls Tryz.prog 89 #[(.string d)] e (post R fun v w1 =>
 ∃(a:Int) (b:Int),v=(.tuple #[(.int .i64 a),(.int .i64 b)]) ∧
 Br (b != (0:Int))
 (R (.returned (.int .i64 b)) w1)
 (InR .i64 (i+(1:Int))∧L4 (i+(1:Int)) w1))
def F158_l4 (l:Option Addr) (lN:Nat) (L4:Int→World→Prop) (i:Int) (h:World) (R:Ending→World→Prop):Prop :=
 Br (decide (i < ((lN:Nat):Int)))
 (∃J8:World→Prop,(∀ (w1:World),J8 w1→F158_j8 l lN L4 i w1 R) ∧
 (∃S:World→Prop,S h.drew∧IdxA l lN i 2 fun d =>
 ∃(e:ByteArray),Held S d (.string e)∧Calls Tryz.prog 149 #[(.string e)] h.drew (post R fun v a =>
 ∃(b:Bool),v=(.bool b) ∧
 S a∧Br (!b)
 (R (.returned (.int .i64 6)) a)
 (Br (decide (i > (0:Int)))
 (IdxA l lN i 2 fun f =>
 ∃(j:ByteArray),Held S f (.string j)∧InR .i64 (i-(1:Int))∧IdxA l lN (i-(1:Int)) 2 fun g =>
 ∃(c:ByteArray),Held S g (.string c)∧Br ((Op.bytesLess j.toList c.toList) || (j.toList == c.toList))
 (R (.returned (.int .i64 6)) a)
 (J8 a))
 (J8 a)))))
 (R (.returned (.int .i64 0)) h)
def F158 (l:Option Addr) (lN:Nat) (lC:Nat) (a:World) (R:Ending→World→Prop):Prop :=
 Br (decide (((lN:Nat):Int) > (32:Int)))
 (R (.returned (.int .i64 2)) a)
 (∃(I:Int→World→Prop) (m:Int→World→Nat),I (0:Int) a ∧
 ∀(i:Int) (w1:World),I i w1→F158_l4 l lN (fun i' w2=>I i' w2∧m i' w2 < m i w1) i w1 R)
theorem ok158 (l:Option Addr) (lN:Nat) (lC:Nat) {w:World}{R:Ending→World→Prop} (h:F158 l lN lC w R):Calls Tryz.prog 158 #[(.slice l lN lC)] w R :=
 vc_calls (pl:=⟨52,⟨[]⟩,[(8,⟨[],[(2,3),(15,40)]⟩)],[(4,⟨[(3,(.s (.int .i64)))],[(2,52)]⟩)]⟩) Tryz.func158 (by kernel_rfl) (by kernel_rfl) (by kernel_rfl) (Eq.mp (by kernel_rfl) h)
def F118 (x_0:Int) (x_1:ByteArray) (x_2:Option Addr) (x_2N:Nat) (x_2C:Nat) (x_3:ByteArray) (x_4:Option Addr) (x_4N:Nat) (x_4C:Nat) (m:World) (R:Ending→World→Prop):Prop :=
 Al m #[(.int .i64 x_0),(.string x_1),(.slice x_2 x_2N x_2C),(.string x_3),(.slice x_4 x_4N x_4C)] 84 fun g1 w1 =>
 LdI .i64 (w1.cell? g1) fun n =>
 Br (n == (1:Int))
 (LdStr (w1.cell? (g1.add 1)) fun k =>
 Calls Tryz.prog 149 #[(.string k)] w1 (post R fun v c =>
 ∃(i:Bool),v=(.bool i) ∧
 Br (!i)
 (R (.returned (.int .i64 6)) c)
 (LdSl (c.cell? (g1.add 2)) fun j e f =>
 Calls Tryz.prog 158 #[(.slice j e f)] c (post R fun v2 d =>
 ∃(g:Int),v2=(.int .i64 g) ∧
 R (.returned (.int .i64 g)) d))))
 (Br (n == (2:Int))
 (LdStr (w1.cell? (g1.add 3)) fun h =>
 Calls Tryz.prog 89 #[(.string h)] w1 (post R fun v c =>
 ∃(a:Int) (b:Int),v=(.tuple #[(.int .i64 a),(.int .i64 b)]) ∧
 R (.returned (.int .i64 b)) c))
 (R (.returned (.int .i64 1)) w1))
theorem ok118 (x_0:Int) (x_1:ByteArray) (x_2:Option Addr) (x_2N:Nat) (x_2C:Nat) (x_3:ByteArray) (x_4:Option Addr) (x_4N:Nat) (x_4C:Nat) {w:World}{R:Ending→World→Prop} (h:F118 x_0 x_1 x_2 x_2N x_2C x_3 x_4 x_4N x_4C w R):Calls Tryz.prog 118 #[(.agg #[(.int .i64 x_0),(.string x_1),(.slice x_2 x_2N x_2C),(.string x_3),(.slice x_4 x_4N x_4C)])] w R :=
 vc_calls (pl:=⟨25,⟨[]⟩,[],[]⟩) Tryz.func118 (by kernel_rfl) (by kernel_rfl) (by kernel_rfl) (Eq.mp (by kernel_rfl) h)
def F71 (s_0:Int) (s_1:Bool) (s_2:Int) (s_3:ByteArray) (s_4:Option Addr) (s_4N:Nat) (s_4C:Nat) (s_5:ByteArray) (s_6:Int) (s_7:Option Addr) (s_7N:Nat) (s_7C:Nat) (w_:World) (R:Ending→World→Prop):Prop :=
 Al w_ #[(.int .u32 s_0),(.bool s_1),(.int .i64 s_2),(.string s_3),(.slice s_4 s_4N s_4C),(.string s_5),(.int .u64 s_6),(.slice s_7 s_7N s_7C)] 162 fun s w1 =>
 LdI .i64 (w1.cell? (s.add 2)) fun x5 =>
 LdStr (w1.cell? (s.add 3)) fun x7 =>
 LdSl (w1.cell? (s.add 4)) fun x9 da ca =>
 LdStr (w1.cell? (s.add 5)) fun aa =>
 Al w1 #[(.int .i64 0),(.string (ByteArray.mk #[])),(.slice none 0 0),(.string (ByteArray.mk #[])),(.slice none 0 0)] 84 fun g3 k =>
 St k g3 (.int .i64 x5) fun n =>
 St n (g3.add 1) (.string x7) fun m =>
 St m (g3.add 2) (.slice x9 da ca) fun q =>
 St q (g3.add 3) (.string aa) fun p =>
 St p (g3.add 4) (.slice none 0 0) fun t =>
 LdI .i64 (t.cell? g3) fun f =>
 LdStr (t.cell? (g3.add 1)) fun h =>
 LdSl (t.cell? (g3.add 2)) fun i c d =>
 LdStr (t.cell? (g3.add 3)) fun e =>
 LdSl (t.cell? (g3.add 4)) fun g a b =>
 Calls Tryz.prog 118 #[(.agg #[(.int .i64 f),(.string h),(.slice i c d),(.string e),(.slice g a b)])] t (post R fun v r =>
 ∃(ba:Int),v=(.int .i64 ba) ∧
 Br (ba == (0:Int))
 (LdI .i64 (r.cell? (s.add 2)) fun y =>
 Br (y == (1:Int))
 (R (.returned (.bool true)) r)
 (LdSl (r.cell? (s.add 7)) fun z u j =>
 R (.returned (.bool (((u:Nat):Int) == (0:Int)))) r))
 (R (.returned (.bool false)) r))
theorem ok71 (s_0:Int) (s_1:Bool) (s_2:Int) (s_3:ByteArray) (s_4:Option Addr) (s_4N:Nat) (s_4C:Nat) (s_5:ByteArray) (s_6:Int) (s_7:Option Addr) (s_7N:Nat) (s_7C:Nat) {w:World}{R:Ending→World→Prop} (h:F71 s_0 s_1 s_2 s_3 s_4 s_4N s_4C s_5 s_6 s_7 s_7N s_7C w R):Calls Tryz.prog 71 #[(.agg #[(.int .u32 s_0),(.bool s_1),(.int .i64 s_2),(.string s_3),(.slice s_4 s_4N s_4C),(.string s_5),(.int .u64 s_6),(.slice s_7 s_7N s_7C)])] w R :=
 vc_calls (pl:=⟨27,⟨[]⟩,[],[]⟩) Tryz.func71 (by kernel_rfl) (by kernel_rfl) (by kernel_rfl) (Eq.mp (by kernel_rfl) h)
end Go.Proofs.YtccplipiahdhiaaGreatDoor
namespace Go.Proofs.YtccplipiahdhiaaGreatDoor
open Go.RowKit Go.Vc
set_option linter.unusedVariables false
set_option linter.unusedSimpArgs false
set_option maxRecDepth 100000
theorem textC {f:FuncId}{s:ByteArray}{w:World}{R:Ending→World→Prop} (hc:Calls Tryz.prog f #[.string s] w fun e w'=>e=.returned (.tuple #[.int .i64 (textS s).1,.int .i64 (textS s).2])∧Below w.heap.size w w')
  (h:∀w',Below w.heap.size w w'→R (.returned (.tuple #[.int .i64 (textS s).1,.int .i64 (textS s).2])) w'):Calls Tryz.prog f #[.string s] w R :=
 hc.mono fun e w' ⟨he,hb⟩=>by rw [he];exact h w' hb
theorem charsText_calls (s:ByteArray) {w:World} (hT:Tabs w) {R:Ending→World→Prop} (h:∀w',Below w.heap.size w w'→R (.returned (.tuple #[.int .i64 (textS s).1,.int .i64 (textS s).2])) w'):Calls Tryz.prog 67 #[.string s] w R:=by
 refine ok67 s ?_
 unfold F67
 exact textC (text_calls s w hT) fun w' hb=>⟨_,_,rfl,h w' hb⟩
theorem refText_calls (s:ByteArray) {w:World}{R:Ending→World→Prop} (h:∀w',Below w.heap.size w w'→R (.returned (.tuple #[.int .i64 (textS s).1,.int .i64 (textS s).2])) w'):Calls Tryz.prog 89 #[.string s] w R :=
 textC (textR_calls s w) h
def behindB (p:Option ByteArray) (a:ByteArray):Bool:=match p with
 | none=>true
 | some b=>!(Op.bytesLess a.toList b.toList || (a.toList == b.toList))
def attrsF:Option ByteArray→List At→Int
 | _,[]=>0
 | p,a :: l=>if isName a.nm=true then if behindB p a.nm=true then if (textS a.val).2=0 then attrsF (some a.nm) l else ((textS a.val).2:Nat) else 6 else 6
def attrF (l:List At):Int:=if 32 < l.length then 2 else attrsF none l
def prevN (l:List At) (k:Nat):Option ByteArray:=if k=0 then none else (l[k-1]?).map (·.nm)
theorem prevN_succ {l:List At}{k:Nat} (h:k < l.length):prevN l (k+1)=some l[k].nm:=by
 unfold prevN;rw [if_neg (by omega),Nat.add_sub_cancel,List.getElem?_eq_getElem h];rfl
theorem attrs_calls (l:List At) (v:Sv) {w:World}{R:Ending→World→Prop} (hT:Tabs w) (hl:RR LAt w l v) (h:∀w',Below w.heap.size w w'→R (.returned (.int .i64 (attrF l))) w') :
  Calls Tryz.prog 186 #[.slice v.1 v.2.1 v.2.2] w R:=by
 obtain⟨z0,z1,z2⟩:=hl
 refine ok186 v.1 v.2.1 v.2.2 ?_
 unfold F186
 unfold attrF at h
 refine brd (fun hgt=>?_) (fun hle=>?_)
 ·rw [if_pos (by omega)] at h;exact h w (Below.refl _ _)
 rw [if_neg (by omega)] at h
 refine⟨fun i w'=>∃k:Nat,i=k∧k≤l.length∧Below w.heap.size w w'∧attrsF (prevN l k) (l.drop k)=attrsF none l,fun i _=>l.length-i.toNat,⟨0,rfl,by omega,Below.refl _ _,by simp [prevN]⟩,?_⟩
 rintro i w1 ⟨k,rfl,hk,hb1,hF⟩
 unfold F186_l4
 refine brd (fun hlt=>?_) (fun hge=>?_)
 ·have hk2:k < l.length:=by omega
  rw [List.drop_eq_getElem_cons hk2,attrsF] at hF
  refine (z2.keep hb1).at2 z1 rfl (k:=k) hk2 fun b o c0 c1=>?_
  simp only [Addr.add_mk,c0,c1,lds]
  refine al fun ga w2 hb2 b2 hge2=>?_
  refine st_blk b2 (by simp) fun w3 b3 f3=>st_blk b3 (by simp) fun w4 b4 f4=>?_
  simp only [List.setIfInBounds_toArray,List.set_cons_zero,List.set_cons_succ] at b4
  have D4:Below w1.heap.size w1 w4:=hb2.trans ((Fm.trans f3 f4:Fm (·=ga) w2 w4).toBelow hb2.size fun b hb e=>by have e:b=ga:=e;omega)
  have B4:=btr hb1 hb1.size D4
  refine⟨fun w'=>Below w4.heap.size w4 w'∧isName l[k].nm=true∧behindB (prevN l k) l[k].nm=true,?_,?_⟩
  ·rintro w5 ⟨hb5,hn,hbh⟩
   unfold F186_j8
   have b5:=b4.keep hb5
   have B5:=btr B4 B4.size hb5
   rw [if_pos hn,if_pos hbh] at hF
   simp only [Addr.add_mk,Nat.zero_add,b5.cell,lds]
   refine charsText_calls l[k].val (hT.keep B5) fun w6 hb6=>⟨_,_,rfl,?_⟩
   have B6:=btr B5 B5.size hb6
   refine brn (fun hne=>?_) (fun he=>?_)
   ·rw [if_neg (by omega)] at hF
    rw [hF];exact h w6 B6
   ·rw [if_pos (by omega)] at hF
    exact⟨inR_i64 (by omega) (by omega),⟨k+1,by simp,by omega,B6,by rw [prevN_succ hk2];exact hF⟩,(by first | omega | (dsimp only;omega))⟩
  ·have hd:Below w4.heap.size w4 w4.drew:=(Below.refl _ _).drew
   refine⟨fun w'=>Below w4.heap.size w4 w',hd,?_⟩
   refine⟨_,fun w2 h2=>by rw [(b4.keep h2).cell];rfl,?_⟩
   refine name_calls ⟨_,rfl,hd,?_⟩
   rw [brnot]
   refine br (fun hn=>?_) (fun hn=>?_)
   ·refine brd (fun hpos=>?_) (fun hz=>?_)
    ·refine⟨_,fun w2 h2=>by rw [(b4.keep h2).cell];rfl,inR_i64 (by omega) (by omega),?_⟩
     refine (z2.keep B4).at2H (fun _ h=>h) z1 (show (k:Int)-1=((k-1:Nat):Int) by omega) (by omega) fun b o d0 d1=>⟨_,d0,?_⟩
     have hpv:prevN l k=some l[k-1].nm:=by unfold prevN;rw [if_neg (by omega),List.getElem?_eq_getElem (by omega)];rfl
     refine br (fun hb=>?_) (fun hb=>⟨hd,hn,by rw [hpv];show (!(_ || _))=true;rw [hb];rfl⟩)
     rw [if_pos hn,if_neg (by rw [hpv];show ¬(!(_ || _))=true;rw [hb];decide)] at hF
     rw [hF];exact h _ (btr B4 B4.size hd)
    ·refine⟨hd,hn,?_⟩
     have:k=0:=by omega
     subst this;simp [prevN,behindB]
   ·rw [if_neg (by rw [hn];decide)] at hF
    rw [hF];exact h _ (btr B4 B4.size hd)
 ·have hk2:k=l.length:=by omega
  subst hk2
  rw [List.drop_length,attrsF] at hF
  rw [hF];exact h w1 hb1
theorem attrs2_calls (l:List At) (v:Sv) {w:World}{R:Ending→World→Prop} (hl:RR LAt w l v) (h:∀w',Below w.heap.size w w'→R (.returned (.int .i64 (attrF l))) w') :
  Calls Tryz.prog 158 #[.slice v.1 v.2.1 v.2.2] w R:=by
 obtain⟨z0,z1,z2⟩:=hl
 refine ok158 v.1 v.2.1 v.2.2 ?_
 unfold F158
 unfold attrF at h
 refine brd (fun hgt=>?_) (fun hle=>?_)
 ·rw [if_pos (by omega)] at h;exact h w (Below.refl _ _)
 rw [if_neg (by omega)] at h
 refine⟨fun i w'=>∃k:Nat,i=k∧k≤l.length∧Below w.heap.size w w'∧attrsF (prevN l k) (l.drop k)=attrsF none l,fun i _=>l.length-i.toNat,⟨0,rfl,by omega,Below.refl _ _,by simp [prevN]⟩,?_⟩
 rintro i w1 ⟨k,rfl,hk,hb1,hF⟩
 unfold F158_l4
 refine brd (fun hlt=>?_) (fun hge=>?_)
 ·have hk2:k < l.length:=by omega
  rw [List.drop_eq_getElem_cons hk2,attrsF] at hF
  refine⟨fun w'=>Below w1.heap.size w1 w'∧isName l[k].nm=true∧behindB (prevN l k) l[k].nm=true,?_,?_⟩
  ·rintro w5 ⟨hb5,hn,hbh⟩
   unfold F158_j8
   have B5:=btr hb1 hb1.size hb5
   rw [if_pos hn,if_pos hbh] at hF
   refine (z2.keep B5).at2 z1 rfl (k:=k) hk2 fun b o c0 c1=>?_
   simp only [Addr.add_mk,c0,c1,lds]
   refine refText_calls l[k].val fun w6 hb6=>⟨_,_,rfl,?_⟩
   have B6:=btr B5 B5.size hb6
   refine brn (fun hne=>?_) (fun he=>?_)
   ·rw [if_neg (by omega)] at hF
    rw [hF];exact h w6 B6
   ·rw [if_pos (by omega)] at hF
    exact⟨inR_i64 (by omega) (by omega),⟨k+1,by simp,by omega,B6,by rw [prevN_succ hk2];exact hF⟩,(by first | omega | (dsimp only;omega))⟩
  ·have hd:Below w1.heap.size w1 w1.drew:=(Below.refl _ _).drew
   refine⟨fun w'=>Below w1.heap.size w1 w',hd,?_⟩
   refine (z2.keep hb1).at2H (fun _ h=>h) z1 rfl (k:=k) hk2 fun b o d0 d1=>⟨_,d0,?_⟩
   refine name2_calls ⟨_,rfl,hd,?_⟩
   rw [brnot]
   refine br (fun hn=>?_) (fun hn=>?_)
   ·refine brd (fun hpos=>?_) (fun hz=>?_)
    ·refine (z2.keep hb1).at2H (fun _ h=>h) z1 rfl (k:=k) hk2 fun b o d0 d1=>⟨_,d0,inR_i64 (by omega) (by omega),?_⟩
     refine (z2.keep hb1).at2H (fun _ h=>h) z1 (show (k:Int)-1=((k-1:Nat):Int) by omega) (by omega) fun b o d0 d1=>⟨_,d0,?_⟩
     have hpv:prevN l k=some l[k-1].nm:=by unfold prevN;rw [if_neg (by omega),List.getElem?_eq_getElem (by omega)];rfl
     refine br (fun hb=>?_) (fun hb=>⟨hd,hn,by rw [hpv];show (!(_ || _))=true;rw [hb];rfl⟩)
     rw [if_pos hn,if_neg (by rw [hpv];show ¬(!(_ || _))=true;rw [hb];decide)] at hF
     rw [hF];exact h _ (btr hb1 hb1.size hd)
    ·refine⟨hd,hn,?_⟩
     have:k=0:=by omega
     subst this;simp [prevN,behindB]
   ·rw [if_neg (by rw [hn];decide)] at hF
    rw [hF];exact h _ (btr hb1 hb1.size hd)
 ·have hk2:k=l.length:=by omega
  subst hk2
  rw [List.drop_length,attrsF] at hF
  rw [hF];exact h w1 hb1
def ownF (kind:Int) (nm:ByteArray) (l:List At) (t:ByteArray):Int:=if kind=1 then if isName nm=true then attrF l else 6 else if kind=2 then ((textS t).2:Nat) else 1
theorem own1_calls (kind:Int) (nm:ByteArray) (l:List At) (v:Sv) (t:ByteArray) (u:Sv) {w:World}{R:Ending→World→Prop} (hT:Tabs w) (hl:RR LAt w l v) (h:∀w',Below w.heap.size w w'→R (.returned (.int .i64 (ownF kind nm l t))) w') :
  Calls Tryz.prog 152 #[.agg #[.int .i64 kind,.string nm,.slice v.1 v.2.1 v.2.2,.string t,.slice u.1 u.2.1 u.2.2]] w R:=by
 refine ok152 kind nm v.1 v.2.1 v.2.2 t u.1 u.2.1 u.2.2 ?_
 unfold F152
 unfold ownF at h
 refine al fun g w1 hb1 b1 hge=>?_
 simp only [Addr.add_mk,Nat.zero_add,b1.cell,lds]
 refine bre (fun hk=>?_) (fun hk=>?_)
 ·rw [if_pos hk] at h
  refine name_calls ⟨_,rfl,?_⟩
  rw [brnot]
  refine br (fun hn=>?_) (fun hn=>?_)
  ·rw [if_pos hn] at h
   simp only [Addr.add_mk,Nat.zero_add,b1.cell,lds]
   exact attrs_calls l v (hT.keep hb1) (hl.keep hb1) fun w2 hb2=>⟨_,rfl,h w2 (btr hb1 hb1.size hb2)⟩
  ·rw [if_neg (by rw [hn];decide)] at h
   exact h w1 hb1
 ·rw [if_neg hk] at h
  refine bre (fun hk2=>?_) (fun hk2=>?_)
  ·rw [if_pos hk2] at h
   exact charsText_calls t (hT.keep hb1) fun w2 hb2=>⟨_,_,rfl,h w2 (btr hb1 hb1.size hb2)⟩
  ·rw [if_neg hk2] at h
   exact h w1 hb1
theorem own2_calls (kind:Int) (nm:ByteArray) (l:List At) (v:Sv) (t:ByteArray) (u:Sv) {w:World}{R:Ending→World→Prop} (hl:RR LAt w l v) (h:∀w',Below w.heap.size w w'→R (.returned (.int .i64 (ownF kind nm l t))) w') :
  Calls Tryz.prog 118 #[.agg #[.int .i64 kind,.string nm,.slice v.1 v.2.1 v.2.2,.string t,.slice u.1 u.2.1 u.2.2]] w R:=by
 refine ok118 kind nm v.1 v.2.1 v.2.2 t u.1 u.2.1 u.2.2 ?_
 unfold F118
 unfold ownF at h
 refine al fun g w1 hb1 b1 hge=>?_
 simp only [Addr.add_mk,Nat.zero_add,b1.cell,lds]
 refine bre (fun hk=>?_) (fun hk=>?_)
 ·rw [if_pos hk] at h
  refine name2_calls ⟨_,rfl,?_⟩
  rw [brnot]
  refine br (fun hn=>?_) (fun hn=>?_)
  ·rw [if_pos hn] at h
   simp only [Addr.add_mk,Nat.zero_add,b1.cell,lds]
   exact attrs2_calls l v (hl.keep hb1) fun w2 hb2=>⟨_,rfl,h w2 (btr hb1 hb1.size hb2)⟩
  ·rw [if_neg (by rw [hn];decide)] at h
   exact h w1 hb1
 ·rw [if_neg hk] at h
  refine bre (fun hk2=>?_) (fun hk2=>?_)
  ·rw [if_pos hk2] at h
   exact refText_calls t fun w2 hb2=>⟨_,_,rfl,h w2 (btr hb1 hb1.size hb2)⟩
  ·rw [if_neg hk2] at h
   exact h w1 hb1
set_option maxRecDepth 100000
theorem apC {P:Program}{α:Type}{L:Lay α}{e t ty:TypeId} (z:Value) (bytes:Nat) (ht:P.underlying t=some (.slice e)) (hinfo:(P.info? e).map (fun i=>(i.zero,i.size,i.bytes))=some (some z,L.n,bytes)) (hz:z.cells.size=L.n)
  (hby:bytes≤134217728) {u:World}{l:List α}{v:Sv} (hv:RR L u l v) {j:Nat} (hj:j≤u.heap.size) {g:Addr}{K:Value→World→Prop}
  (hK:∀v' u',Below u.heap.size u u'→RR L (above j u') l v'→K (.slice v'.1 v'.2.1 v'.2.2) u'):Raw P (Builtin.append_ #[t,t] ty #[.slice (some g) 0 0,.slice v.1 v.2.1 v.2.2]) u K:=by
 obtain⟨h1,h2,h3⟩:=hv
 have hm:l.length*bytes≤1048576*134217728:=Nat.mul_le_mul h1 hby
 refine ap (L:=L) (xs:=[]) (ys:=l) (base:=u.heap.size) z bytes h2 ht hinfo hz (Own.bare _ _ _ _ _) h3 (Nat.le_refl _) (by simp only [List.length_nil,Nat.zero_add];omega) (by simp [maxLen];omega) fun A' c' w1 o1 g1=>?_
 refine hK (A',_,c') w1 g1.below ⟨h1,by simp,?_⟩
 have:=(own_above o1 hj).rd.2
 simpa using this
theorem nodup_sub {α:Type} [DecidableEq α]:∀{a b:List α},a.Nodup→(∀x∈a,x∈b)→a.length≤b.length
 | [],_,_,_=>by simp
 | x :: a,b,h,hs=>by
  have h2:=List.nodup_cons.1 h
  have hx:x∈b:=hs x (by simp)
  have ih:=nodup_sub (b:=b.erase x) h2.2 fun y hy=>by
   have hne:y≠x:=fun e=>h2.1 (e ▸ hy)
   exact (List.mem_erase_of_ne hne).2 (hs y (by simp [hy]))
  rw [List.length_erase_of_mem hx] at ih
  have:0 < b.length:=List.length_pos_of_mem hx
  rw [List.length_cons];omega
def noB:ByteArray:=⟨#[]⟩
theorem Z2.map {α β γ δ:Type}{R:α→β→Prop}{S:γ→δ→Prop}{f:α→γ}{g:β→δ} (h:∀a e,R a e→S (f a) (g e)):∀{l:List α}{es:List β},Z2 R l es→Z2 S (l.map f) (es.map g)
 | [],es,k=>by cases k;rfl
 | a :: l,es,k=>by
  obtain⟨e,es',rfl,h2,h3⟩:=k
  exact⟨_,_,rfl,h a e h2,Z2.map h h3⟩
theorem rr_nil {α:Type}{L:Lay α}{w:World}:RR L w [] (none,0,0):=⟨by simp,rfl,⟨by simp,by simp [maxLen],fun _=>rfl,fun h=>by simp at h⟩⟩
def newOr (ok:Nat→Bool) (k:Nat) (w:World):World:=wOnly (fun b=>ok b || Nat.ble k b) w
theorem old_newOr {ok:Nat→Bool}{w w':World} (hb:Below w.heap.size w w'):Sub (wOnly ok w) (newOr ok w.heap.size w') :=
 sub_only (fun b _ h=>by rw [h];rfl) fun b hb2 _=>hb.block b hb2
theorem above_newOr {ok:Nat→Bool}{k:Nat}{w:World}:Sub (above k w) (newOr ok k w):=sub_only (fun b _ h=>by rw [h,Bool.or_true]) fun _ _ _=>rfl
theorem old_but {w w':World}{g:Nat} (hb:Below w.heap.size w w') (hg:w.heap.size≤g):Sub w (but g w'):=fun b c t fr hc=>by
 have hlt:=(Array.getElem?_eq_some_iff.1 hc).1
 have hne:Nat.beq b g=false:=by
  cases h:Nat.beq b g with
  | false=>rfl
  | true=>have:=Nat.eq_of_beq_eq_true h;omega
 exact cells_only (by rw [hne];rfl) (by rw [hb.block b hlt];exact hc)
--PURE
inductive Tr where
 | mk (kind:Int) (nm:ByteArray) (attrs:List At) (text:ByteArray) (kids:List Tr)
def slA (sl:List Sl) (h:Nat):Option Sl:=(atF sl h).bind (sl[·]?)
theorem atF_iff {sl:List Sl}{h k:Nat}:atF sl h=some k↔h % 4294967296=k+1∧∃s,sl[k]?=some s∧s.live=true∧hnd s.gen k=h:=by
 unfold atF
 constructor
 ·intro e
  by_cases h0:h % 4294967296=0
  ·rw [if_pos h0] at e;cases e
  ·rw [if_neg h0] at e
   cases hs:sl[h % 4294967296-1]? with
   | none=>rw [hs] at e;cases e
   | some s =>
    rw [hs] at e
    simp only at e
    by_cases hc:s.live=true∧hnd s.gen (h % 4294967296-1)=h
    ·rw [if_pos hc] at e
     cases e
     exact⟨by omega,s,hs,hc.1,hc.2⟩
    ·rw [if_neg hc] at e;cases e
 ·rintro ⟨h1,s,h2,h3,h4⟩
  rw [if_neg (by omega),h1,Nat.add_sub_cancel,h2]
  simp only
  rw [if_pos ⟨h3,h4⟩]
theorem slA_iff {sl:List Sl}{h:Nat}{s:Sl}:slA sl h=some s↔∃k,h % 4294967296=k+1∧sl[k]?=some s∧s.live=true∧hnd s.gen k=h:=by
 unfold slA
 constructor
 ·intro e
  cases ha:atF sl h with
  | none=>rw [ha] at e;cases e
  | some k =>
   rw [ha] at e
   obtain⟨h1,t,h2,h3,h4⟩:=atF_iff.1 ha
   have:sl[k]?=some s:=e
   rw [h2] at this;cases this
   exact⟨k,h1,h2,h3,h4⟩
 ·rintro ⟨k,h1,h2,h3,h4⟩
  rw [atF_iff.2 ⟨h1,s,h2,h3,h4⟩];exact h2
theorem hnd_mod {g k:Nat} (hk:k+1 < 4294967296):hnd g k % 4294967296=k+1:=by
 unfold hnd;omega
theorem slA_hnd {sl:List Sl}{k:Nat}{s:Sl} (hk:k+1 < 4294967296) (h:sl[k]?=some s) (hl:s.live=true):slA sl (hnd s.gen k)=some s :=
 slA_iff.2 ⟨k,hnd_mod hk,h,hl,rfl⟩
theorem slA_zero (sl:List Sl):slA sl 0=none:=by
 cases h:slA sl 0 with
 | none=>rfl
 | some s=>obtain⟨k,h1,-⟩:=slA_iff.1 h;simp at h1
theorem slA_at {sl:List Sl}{h k:Nat}{s:Sl} (ha:atF sl h=some k) (hs:sl[k]?=some s):slA sl h=some s:=by unfold slA;rw [ha];exact hs
theorem atF_slA {sl:List Sl}{h:Nat}{s:Sl} (hs:slA sl h=some s):∃k,atF sl h=some k∧sl[k]?=some s:=by
 obtain⟨k,h1,h2,h3,h4⟩:=slA_iff.1 hs
 exact⟨k,atF_iff.2 ⟨h1,s,h2,h3,h4⟩,h2⟩
theorem atF_none {sl:List Sl}{h:Nat}:atF sl h=none↔slA sl h=none:=by
 constructor
 ·intro e;unfold slA;rw [e];rfl
 ·intro e
  cases ha:atF sl h with
  | none=>rfl
  | some k =>
   obtain⟨h1,s,h2,h3,h4⟩:=atF_iff.1 ha
   rw [slA_at ha h2] at e;cases e
theorem slA_set {sl:List Sl}{h:Nat}{s s':Sl}{k:Nat} (hk:h % 4294967296=k+1) (hs:slA sl h=some s) (hg:s'.gen=s.gen) (hl:s'.live=true) (x:Nat) :
  slA (sl.set k s') x=if x=h then some s' else slA sl x:=by
 obtain⟨k',h1,h2,h3,h4⟩:=slA_iff.1 hs
 obtain rfl:k'=k:=by omega
 have hlt:k' < sl.length:=(List.getElem?_eq_some_iff.1 h2).1
 by_cases e:x=h
 ·subst e
  rw [if_pos rfl]
  exact slA_iff.2 ⟨k',h1,by simp [hlt],hl,by rw [hg];exact h4⟩
 ·rw [if_neg e]
  cases hx:slA sl x with
  | none =>
   cases hy:slA (sl.set k' s') x with
   | none=>rfl
   | some t =>
    obtain⟨j,j1,j2,j3,j4⟩:=slA_iff.1 hy
    by_cases ej:k'=j
    ·subst ej
     rw [List.getElem?_set_self hlt] at j2
     cases j2
     rw [hg,h4] at j4;exact absurd j4.symm e
    ·rw [List.getElem?_set_ne ej] at j2
     rw [slA_iff.2 ⟨j,j1,j2,j3,j4⟩] at hx;cases hx
  | some t =>
   obtain⟨j,j1,j2,j3,j4⟩:=slA_iff.1 hx
   refine slA_iff.2 ⟨j,j1,?_,j3,j4⟩
   rw [List.getElem?_set_ne,j2]
   rintro rfl
   rw [h2] at j2;cases j2
   exact e (j4.symm.trans h4)
def lstA (A:Nat→Option Sl) (roots:List Nat) (p:Nat):List Nat:=if p=0 then roots else match A p with | some s=>s.kids | none=>[]
inductive Ch (A:Nat→Option Sl):Nat→Nat→Prop where
 | zero:Ch A 0 0
 | succ {h c:Nat}{s:Sl}:h≠0→A h=some s→Ch A s.parent c→Ch A h (c+1)
theorem Ch.fn {A:Nat→Option Sl}{h c d:Nat} (h1:Ch A h c) (h2:Ch A h d):c=d:=by
 induction h1 generalizing d with
 | zero=>cases h2 with
  | zero=>rfl
  | succ h0=>exact absurd rfl h0
 | succ h0 ha _ ih=>cases h2 with
  | zero=>exact absurd rfl h0
  | succ _ hb hc=>rw [ha] at hb;cases hb;rw [ih hc]
theorem Ch.mono {A B:Nat→Option Sl}{h c:Nat} (hk:∀x s,A x=some s→∃t,B x=some t∧t.parent=s.parent) (h1:Ch A h c):Ch B h c:=by
 induction h1 with
 | zero=>exact .zero
 | succ h0 ha _ ih =>
  obtain⟨t,h2,h3⟩:=hk _ _ ha
  exact .succ h0 h2 (by rw [h3];exact ih)
inductive Wi (A:Nat→Option Sl) (h:Nat):Nat→Prop where
 | self:Wi A h h
 | up {x:Nat}{s:Sl}:A x=some s→Wi A h s.parent→Wi A h x
def updA (A:Nat→Option Sl) (h:Nat) (s:Option Sl):Nat→Option Sl:=fun x=>if x=h then s else A x
theorem updA_self (A:Nat→Option Sl) (h:Nat) (s:Option Sl):updA A h s h=s:=by unfold updA;rw [if_pos rfl]
theorem updA_ne {A:Nat→Option Sl}{h x:Nat}{s:Option Sl} (e:x≠h):updA A h s x=A x:=by unfold updA;rw [if_neg e]
def okSl (s:Sl):Prop:=ownF s.kind s.nm s.attrs s.text=0∧(s.kind=1∧s.text=noB∨s.kind=2∧s.nm=noB∧s.attrs=[]∧s.kids=[])
structure WfA (A:Nat→Option Sl) (roots loose:List Nat):Prop where
 zero:A 0=none
 ok:∀h s,A h=some s→okSl s
 par:∀h s,A h=some s→s.parent=0∨∃t,A s.parent=some t∧t.kind=1
 chain:∀h s,A h=some s→∃c,c≤64∧Ch A h c
 kid:∀h s,A h=some s→s.kids.Nodup∧∀x∈s.kids,x∉loose∧∃t,A x=some t∧t.parent=h
 root:roots.Nodup∧∀x∈roots,x∉loose∧∃t,A x=some t∧t.parent=0
 mem:∀h s,A h=some s→h∉loose→h∈lstA A roots s.parent
 lo:∀h∈loose,∃s,A h=some s
section
variable {A:Nat→Option Sl}{roots loose:List Nat}
theorem WfA.lst (h:WfA A roots loose) (p:Nat):(lstA A roots p).Nodup∧∀x∈lstA A roots p,x∉loose∧∃t,A x=some t∧t.parent=p:=by
 unfold lstA
 by_cases h0:p=0
 ·subst h0;rw [if_pos rfl];exact h.root
 ·rw [if_neg h0]
  cases ha:A p with
  | none=>simp
  | some s=>exact h.kid p s ha
theorem lstA_some {p:Nat}{s:Sl} (h0:p≠0) (h:A p=some s):lstA A roots p=s.kids:=by unfold lstA;rw [if_neg h0,h]
theorem lstA_zero:lstA A roots 0=roots:=by unfold lstA;rw [if_pos rfl]
theorem WfA.ne0 (h:WfA A roots loose) {x:Nat}{s:Sl} (hx:A x=some s):x≠0:=fun e=>by subst e;rw [h.zero] at hx;cases hx
theorem WfA.fresh (h:WfA A roots loose) {n p c:Nat}{s:Sl} (h0:n≠0) (hn:A n=none) (hs:okSl s) (hk:s.kids=[]) (hp:s.parent=p) (hpk:p=0∨∃t,A p=some t∧t.kind=1) (hc:Ch A p c) (hc2:c+1≤64) :
  WfA (updA A n (some s)) roots (n :: loose):=by
 have hext:∀x t,A x=some t→updA A n (some s) x=some t:=fun x t hx=>by
  rw [updA_ne];exact hx
  rintro rfl;rw [hn] at hx;cases hx
 have hext2:∀x t,A x=some t→∃u,updA A n (some s) x=some u∧u.parent=t.parent:=fun x t hx=>⟨t,hext x t hx,rfl⟩
 have hold:∀x t,updA A n (some s) x=some t→(x=n∧t=s)∨A x=some t:=fun x t hx=>by
  by_cases e:x=n
  ·subst e;rw [updA_self] at hx;cases hx;exact .inl ⟨rfl,rfl⟩
  ·rw [updA_ne e] at hx;exact .inr hx
 have hpar:∀q,(q=0∨∃t,A q=some t∧t.kind=1)→(q=0∨∃t,updA A n (some s) q=some t∧t.kind=1):=fun q hq=>by
  rcases hq with hq | ⟨t,h1,h2⟩
  ·exact .inl hq
  ·exact .inr ⟨t,hext _ _ h1,h2⟩
 refine⟨by rw [updA_ne (Ne.symm h0)];exact h.zero,fun x t hx=>?_,fun x t hx=>?_,fun x t hx=>?_,fun x t hx=>?_,⟨h.root.1,fun x hx=>?_⟩,fun x t hx hl=>?_,fun x hx=>?_⟩
 rotate_right
 ·rcases List.mem_cons.1 hx with rfl | hx
  ·exact⟨s,updA_self _ _ _⟩
  ·obtain⟨t,ht⟩:=h.lo x hx
   exact⟨t,hext _ _ ht⟩
 ·rcases hold x t hx with ⟨rfl,rfl⟩ | hx
  ·exact hs
  ·exact h.ok x t hx
 ·rcases hold x t hx with ⟨rfl,rfl⟩ | hx
  ·rw [hp];exact hpar _ hpk
  ·exact hpar _ (h.par x t hx)
 ·rcases hold x t hx with ⟨rfl,rfl⟩ | hx
  ·exact⟨c+1,hc2,.succ h0 (updA_self _ _ _) (by rw [hp];exact hc.mono hext2)⟩
  ·obtain⟨d,h1,h2⟩:=h.chain x t hx
   exact⟨d,h1,h2.mono hext2⟩
 ·rcases hold x t hx with ⟨rfl,rfl⟩ | hx
  ·rw [hk];simp
  ·obtain⟨h1,h2⟩:=h.kid x t hx
   refine⟨h1,fun y hy=>?_⟩
   obtain⟨h3,u,h4,h5⟩:=h2 y hy
   refine⟨?_,u,hext _ _ h4,h5⟩
   simp only [List.mem_cons,not_or]
   exact⟨fun e=>(by subst e;rw [hn] at h4;cases h4),h3⟩
 ·obtain⟨h3,u,h4,h5⟩:=h.root.2 x hx
  refine⟨?_,u,hext _ _ h4,h5⟩
  simp only [List.mem_cons,not_or]
  exact⟨fun e=>(by subst e;rw [hn] at h4;cases h4),h3⟩
 ·simp only [List.mem_cons,not_or] at hl
  rcases hold x t hx with ⟨rfl,rfl⟩ | hx
  ·exact absurd rfl hl.1
  ·have h1:=h.mem x t hx hl.2
   rcases h.par x t hx with h2 | ⟨u,h2,-⟩
   ·rw [h2,lstA_zero] at h1 ⊢;exact h1
   ·rw [lstA_some (h.ne0 h2) h2] at h1
    rw [lstA_some (h.ne0 h2) (hext _ _ h2)];exact h1
def setA (A:Nat→Option Sl) (p:Nat) (l:List Nat):Nat→Option Sl:=fun x=>if x=p∧p≠0 then (A x).map fun s=>{ s with kids:=l } else A x
def setR (roots:List Nat) (p:Nat) (l:List Nat):List Nat:=if p=0 then l else roots
theorem setA_some {p x:Nat}{l:List Nat}{t:Sl} (h:setA A p l x=some t):∃s,A x=some s∧t=(if x=p∧p≠0 then { s with kids:=l } else s):=by
 unfold setA at h
 by_cases e:x=p∧p≠0
 ·rw [if_pos e] at h
  obtain⟨s,h1,h2⟩:=Option.map_eq_some_iff.1 h
  exact⟨s,h1,by rw [if_pos e];exact h2.symm⟩
 ·rw [if_neg e] at h
  exact⟨t,h,by rw [if_neg e]⟩
theorem setA_of {p x:Nat}{l:List Nat}{s:Sl} (h:A x=some s):setA A p l x=some (if x=p∧p≠0 then { s with kids:=l } else s):=by
 unfold setA
 by_cases e:x=p∧p≠0
 ·rw [if_pos e,if_pos e,h];rfl
 ·rw [if_neg e,if_neg e,h]
theorem setA_of' {p x:Nat}{l:List Nat}{s:Sl} (h:A x=some s):∃t,setA A p l x=some t∧t.parent=s.parent∧t.kind=s.kind:=by
 refine⟨_,setA_of h,?_,?_⟩ <;> split <;> rfl
theorem lst_setA {p q:Nat}{l:List Nat} (hq:q=0∨∃s,A q=some s) (h0:A 0=none):lstA (setA A p l) (setR roots p l) q=if q=p then l else lstA A roots q:=by
 unfold lstA setR
 by_cases e:q=0
 ·subst e
  rw [if_pos rfl]
  by_cases e2:p=0
  ·subst e2;simp
  ·rw [if_neg e2,if_neg (Ne.symm e2),if_pos rfl]
 ·rw [if_neg e,if_neg e]
  rcases hq with hq | ⟨s,hs⟩
  ·exact absurd hq e
  ·rw [setA_of hs,hs]
   simp only
   by_cases e2:q=p
   ·subst e2;rw [if_pos ⟨rfl,e⟩,if_pos rfl]
   ·rw [if_neg (fun h=>e2 h.1),if_neg e2]
theorem WfA.setL (h:WfA A roots loose) {p:Nat}{l:List Nat}{loose':List Nat} (hp:p=0∨∃t,A p=some t∧t.kind=1) (hn:l.Nodup) (hl:∀x∈l,x∉loose'∧∃t,A x=some t∧t.parent=p)
  (hm:∀x s,A x=some s→s.parent=p→x∉loose'→x∈l) (ho:∀x s,A x=some s→s.parent≠p→(x∈loose'↔x∈loose)) (hlo:∀x∈loose',∃s,A x=some s):WfA (setA A p l) (setR roots p l) loose':=by
 have hpe:∀q,(q=0∨∃t,A q=some t∧t.kind=1)→(q=0∨∃t,setA A p l q=some t∧t.kind=1):=fun q hq=>by
  rcases hq with hq | ⟨t,h1,h2⟩
  ·exact .inl hq
  ·obtain⟨u,h3,h4,h5⟩:=setA_of' (p:=p) (l:=l) h1
   exact .inr ⟨u,h3,by rw [h5,h2]⟩
 have hch:∀x s,A x=some s→∃t,setA A p l x=some t∧t.parent=s.parent:=fun x s hx=>by
  obtain⟨u,h3,h4,h5⟩:=setA_of' (p:=p) (l:=l) hx
  exact⟨u,h3,h4⟩
 refine⟨by unfold setA;rw [if_neg (by rintro ⟨e,h2⟩;exact h2 e.symm)];exact h.zero,fun x t hx=>?_,fun x t hx=>?_,fun x t hx=>?_,fun x t hx=>?_,?_,fun x t hx hlo=>?_,fun x hx=>?_⟩
 rotate_right
 ·obtain⟨s,hs⟩:=hlo x hx
  exact⟨_,setA_of hs⟩
 ·obtain⟨s,h1,rfl⟩:=setA_some hx
  have h2:=h.ok x s h1
  split
  ·rename_i e
   rcases hp with hp | ⟨t,h3,h4⟩
   ·exact absurd hp e.2
   ·rw [←e.1,h1] at h3;cases h3
    obtain⟨h5,h6⟩:=h2
    refine⟨h5,.inl ⟨h4,?_⟩⟩
    rcases h6 with h6 | h6
    ·exact h6.2
    ·rw [h4] at h6;exact absurd h6.1 (by decide)
  ·exact h2
 ·obtain⟨s,h1,rfl⟩:=setA_some hx
  have:(if x=p∧p≠0 then { s with kids:=l } else s).parent=s.parent:=by split <;> rfl
  rw [this]
  exact hpe _ (h.par x s h1)
 ·obtain⟨s,h1,rfl⟩:=setA_some hx
  obtain⟨c,h2,h3⟩:=h.chain x s h1
  exact⟨c,h2,h3.mono hch⟩
 ·obtain⟨s,h1,rfl⟩:=setA_some hx
  split
  ·rename_i e
   refine⟨hn,fun y hy=>?_⟩
   obtain⟨h3,u,h4,h5⟩:=hl y hy
   obtain⟨v,h6,h7⟩:=hch y u h4
   exact⟨h3,v,h6,by rw [h7,h5,e.1]⟩
  ·rename_i e
   obtain⟨h2,h3⟩:=h.kid x s h1
   refine⟨h2,fun y hy=>?_⟩
   obtain⟨h4,u,h5,h6⟩:=h3 y hy
   obtain⟨v,h7,h8⟩:=hch y u h5
   refine⟨fun hy2=>h4 ((ho y u h5 ?_).1 hy2),v,h7,by rw [h8,h6]⟩
   rw [h6]
   rintro rfl
   exact e ⟨rfl,h.ne0 h1⟩
 ·unfold setR
  split
  ·rename_i e
   refine⟨hn,fun y hy=>?_⟩
   obtain⟨h3,u,h4,h5⟩:=hl y hy
   obtain⟨v,h6,h7⟩:=hch y u h4
   exact⟨h3,v,h6,by rw [h7,h5,e]⟩
  ·rename_i e
   refine⟨h.root.1,fun y hy=>?_⟩
   obtain⟨h4,u,h5,h6⟩:=h.root.2 y hy
   obtain⟨v,h7,h8⟩:=hch y u h5
   exact⟨fun hy2=>h4 ((ho y u h5 (by rw [h6];exact Ne.symm e)).1 hy2),v,h7,by rw [h8,h6]⟩
 ·obtain⟨s,h1,rfl⟩:=setA_some hx
  have hpe2:(if x=p∧p≠0 then { s with kids:=l } else s).parent=s.parent:=by split <;> rfl
  rw [hpe2]
  rw [lst_setA ((h.par x s h1).imp id fun⟨t,h2,_⟩=>⟨t,h2⟩) h.zero]
  by_cases e:s.parent=p
  ·rw [if_pos e];exact hm x s h1 e hlo
  ·rw [if_neg e];exact h.mem x s h1 fun h2=>hlo ((ho x s h1 e).2 h2)
end
--PURE
theorem Tr.ind {M:Tr→Prop} (h:∀kind nm attrs text kids,(∀k∈kids,M k)→M (.mk kind nm attrs text kids)):∀t,M t:=by
 intro t
 refine Tr.rec (motive_1:=M) (motive_2:=fun ks=>∀k∈ks,M k) (fun kind nm attrs text ks ih=>h kind nm attrs text ks ih) (fun k hk=>by simp at hk) (fun a l h1 h2 k hk=>?_) t
 rcases List.mem_cons.1 hk with rfl | hk
 ·exact h1
 ·exact h2 k hk
mutual
def szT:Tr→Nat
 | .mk kind _ _ _ kids=>if kind=2 then 1 else 1+szL kids
def szL:List Tr→Nat
 | []=>0
 | x :: l=>szT x+szL l
end
mutual
def dpT:Tr→Nat
 | .mk kind _ _ _ kids=>if kind=2 then 1 else 1+dpL kids
def dpL:List Tr→Nat
 | []=>0
 | x :: l=>max (dpT x) (dpL l)
end
mutual
def okT:Tr→Prop
 | .mk kind nm attrs text kids=>ownF kind nm attrs text=0∧(kind=1∨kind=2)∧(kind=1→okL kids)
def okL:List Tr→Prop
 | []=>True
 | x :: l=>okT x∧okL l
end
theorem szT_pos:∀x:Tr,1≤szT x
 | .mk kind _ _ _ kids=>by unfold szT;split <;> omega
theorem dpT_pos:∀x:Tr,1≤dpT x
 | .mk kind _ _ _ kids=>by unfold dpT;split <;> omega
mutual
def lookF:Tr→Nat→Nat→Nat × Int
 | .mk kind nm attrs text kids,deep,n =>
  if 64 < deep∨4096≤n then (n,2) else if ownF kind nm attrs text≠0 then (n,ownF kind nm attrs text) else if kind=2 then (n+1,0) else looksF kids (deep+1) (n+1)
def looksF:List Tr→Nat→Nat→Nat × Int
 | [],_,n=>(n,0)
 | x :: l,deep,n=>if (lookF x deep n).2≠0 then lookF x deep n else looksF l deep (lookF x deep n).1
end
def freeI (sl:List Sl):Nat:=sl.findIdx fun s=>!s.live && decide (s.gen < 4294967295)
def deadS (g:Nat):Sl:=⟨g,false,0,noB,[],noB,0,[]⟩
def roomF (sl:List Sl):List Sl:=if freeI sl < sl.length then sl else sl++[deadS 0]
def genI (sl:List Sl):Nat:=match (roomF sl)[freeI sl]? with | some s=>s.gen+1 | none=>0
def freshH (sl:List Sl):Nat:=hnd (genI sl) (freeI sl)
mutual
def makeF:Tr→Nat→List Sl→List Sl
 | .mk kind nm attrs text kids,p,sl =>
  if kind=2 then (roomF sl).set (freeI sl) ⟨genI sl,true,kind,noB,[],text,p,[]⟩
  else makesF kids (freshH sl) (freeI sl) ((roomF sl).set (freeI sl) ⟨genI sl,true,kind,nm,attrs,noB,p,[]⟩)
def makesF:List Tr→Nat→Nat→List Sl→List Sl
 | [],_,_,sl=>sl
 | x :: l,h,i,sl=>makesF l h i ((makeF x h sl).modify i fun s=>{ s with kids:=s.kids++[freshH sl] })
end
structure WfS (sl:List Sl):Prop where
 few:sl.length≤4096
 gen:∀s∈sl,s.gen < 4294967296
 dead:∀s∈sl,s.live=false→s=deadS s.gen
 live:∀s∈sl,s.live=true→1≤s.gen
def tk (sl:List Sl):Nat:=(sl.filter fun s=>s.live || decide (4294967295≤s.gen)).length
section
variable {sl:List Sl}
theorem freeI_lt (h:freeI sl < sl.length):∃s,sl[freeI sl]?=some s∧s.live=false∧s.gen < 4294967295:=by
 have h1:=List.findIdx_getElem (w:=h)
 refine⟨sl[freeI sl],List.getElem?_eq_getElem h,?_⟩
 unfold freeI
 simpa using h1
theorem freeI_le:freeI sl≤sl.length:=List.findIdx_le_length
theorem tk_le:tk sl≤sl.length:=List.length_filter_le _ _
theorem tk_full (h:¬freeI sl < sl.length):tk sl=sl.length:=by
 unfold tk
 rw [List.filter_eq_self.2]
 intro s hs
 have h1:sl.findIdx (fun s=>!s.live && decide (s.gen < 4294967295))=sl.length:=by
  have:=freeI_le (sl:=sl);unfold freeI at this h;omega
 have h2:=List.findIdx_eq_length.1 h1 s hs
 cases hl:s.live
 ·simp [hl] at h2 ⊢;omega
 ·simp
theorem room_get (hw:WfS sl):∃s,(roomF sl)[freeI sl]?=some s∧s=deadS s.gen∧s.gen < 4294967295∧s.live=false:=by
 unfold roomF
 by_cases h:freeI sl < sl.length
 ·rw [if_pos h]
  obtain⟨s,h1,h2,h3⟩:=freeI_lt h
  exact⟨s,h1,hw.dead s (List.mem_of_getElem? h1) h2,h3,h2⟩
 ·rw [if_neg h]
  have h2:freeI sl=sl.length:=by have:=freeI_le (sl:=sl);omega
  exact⟨deadS 0,by rw [h2];simp,rfl,by decide,rfl⟩
theorem genI_eq {s:Sl} (h:(roomF sl)[freeI sl]?=some s):genI sl=s.gen+1:=by unfold genI;rw [h]
theorem room_old {k:Nat}{s:Sl} (h:sl[k]?=some s):(roomF sl)[k]?=some s:=by
 unfold roomF
 split
 ·exact h
 ·rw [List.getElem?_append_left (List.getElem?_eq_some_iff.1 h).1];exact h
theorem room_len:sl.length≤(roomF sl).length∧(roomF sl).length≤tk sl+1∨(roomF sl).length=sl.length:=by
 unfold roomF
 by_cases h:freeI sl < sl.length
 ·rw [if_pos h];exact .inr rfl
 ·rw [if_neg h]
  have:=tk_full h
  exact .inl (by simp;omega)
theorem room_wf (hw:WfS sl) (ht:tk sl < 4096):WfS (roomF sl):=by
 unfold roomF
 by_cases h:freeI sl < sl.length
 ·rw [if_pos h];exact hw
 ·rw [if_neg h]
  have h2:=tk_full h
  refine⟨by simp;omega,fun s hs=>?_,fun s hs hl=>?_,fun s hs hl=>?_⟩ <;> rcases List.mem_append.1 hs with hs | hs
  ·exact hw.gen s hs
  ·rw [List.mem_singleton] at hs;subst hs;decide
  ·exact hw.dead s hs hl
  ·rw [List.mem_singleton] at hs;subst hs;rfl
  ·exact hw.live s hs hl
  ·rw [List.mem_singleton] at hs;subst hs;cases hl
theorem slA_room (hw:WfS sl) (x:Nat):slA (roomF sl) x=slA sl x:=by
 unfold roomF
 by_cases h:freeI sl < sl.length
 ·rw [if_pos h]
 ·rw [if_neg h]
  cases hx:slA sl x with
  | some s =>
   obtain⟨k,h1,h2,h3,h4⟩:=slA_iff.1 hx
   exact slA_iff.2 ⟨k,h1,by rw [List.getElem?_append_left (List.getElem?_eq_some_iff.1 h2).1];exact h2,h3,h4⟩
  | none =>
   cases hy:slA (sl++[deadS 0]) x with
   | none=>rfl
   | some s =>
    obtain⟨k,h1,h2,h3,h4⟩:=slA_iff.1 hy
    rcases Nat.lt_or_ge k sl.length with hk | hk
    ·rw [List.getElem?_append_left hk] at h2
     rw [slA_iff.2 ⟨k,h1,h2,h3,h4⟩] at hx;cases hx
    ·rw [List.getElem?_append_right hk] at h2
     have:s∈[deadS 0]:=List.mem_of_getElem? h2
     rw [List.mem_singleton] at this;subst this;cases h3
theorem slA_born {k:Nat}{s s':Sl} (hk:k+1 < 4294967296) (hs:sl[k]?=some s) (hd:s.live=false) (hl:s'.live=true) (x:Nat) :
  slA (sl.set k s') x=updA (slA sl) (hnd s'.gen k) (some s') x:=by
 have hlt:k < sl.length:=(List.getElem?_eq_some_iff.1 hs).1
 by_cases e:x=hnd s'.gen k
 ·subst e
  rw [updA_self]
  exact slA_hnd hk (by simp [hlt]) hl
 ·rw [updA_ne e]
  cases hx:slA sl x with
  | some t =>
   obtain⟨j,j1,j2,j3,j4⟩:=slA_iff.1 hx
   refine slA_iff.2 ⟨j,j1,?_,j3,j4⟩
   rw [List.getElem?_set_ne,j2]
   rintro rfl
   rw [hs] at j2;cases j2;rw [hd] at j3;cases j3
  | none =>
   cases hy:slA (sl.set k s') x with
   | none=>rfl
   | some t =>
    obtain⟨j,j1,j2,j3,j4⟩:=slA_iff.1 hy
    by_cases ej:k=j
    ·subst ej
     rw [List.getElem?_set_self hlt] at j2
     cases j2
     exact absurd j4.symm e
    ·rw [List.getElem?_set_ne ej] at j2
     rw [slA_iff.2 ⟨j,j1,j2,j3,j4⟩] at hx;cases hx
theorem slA_dead {k h:Nat}{s:Sl} (hk:k+1 < 4294967296) (hs:sl[k]?=some s) (hd:s.live=false) (hm:h % 4294967296=k+1):slA sl h=none:=by
 cases hx:slA sl h with
 | none=>rfl
 | some t =>
  obtain⟨j,j1,j2,j3,j4⟩:=slA_iff.1 hx
  obtain rfl:j=k:=by omega
  rw [hs] at j2;cases j2;rw [hd] at j3;cases j3
theorem WfS.set (hw:WfS sl) {k:Nat}{s':Sl} (h1:s'.gen < 4294967296) (h2:s'.live=false→s'=deadS s'.gen) (h3:s'.live=true→1≤s'.gen):WfS (sl.set k s'):=by
 refine⟨by simpa using hw.few,fun s hs=>?_,fun s hs hl=>?_,fun s hs hl=>?_⟩ <;> rcases List.mem_or_eq_of_mem_set hs with hs | hs
 ·exact hw.gen s hs
 ·subst hs;exact h1
 ·exact hw.dead s hs hl
 ·subst hs;exact h2 hl
 ·exact hw.live s hs hl
 ·subst hs;exact h3 hl
theorem filter_set_len {α:Type} (q:α→Bool):∀(l:List α) (k:Nat) (a b:α),l[k]?=some a→((l.set k b).filter q).length+(if q a then 1 else 0)=(l.filter q).length+(if q b then 1 else 0)
 | [],k,a,b,h=>by simp at h
 | x :: l,0,a,b,h=>by
  simp at h;subst h
  simp only [List.set_cons_zero,List.filter_cons]
  cases q x <;> cases q b <;> simp
 | x :: l,k+1,a,b,h=>by
  have ih:=filter_set_len q l k a b (by simpa using h)
  simp only [List.set_cons_succ,List.filter_cons]
  cases q x
  ·simpa using ih
  ·simp only [if_true,List.length_cons];omega
theorem tk_set {k:Nat}{a b:Sl} (h:sl[k]?=some a):tk (sl.set k b)+(if a.live || decide (4294967295≤a.gen) then 1 else 0)=tk sl+(if b.live || decide (4294967295≤b.gen) then 1 else 0) :=
 filter_set_len (fun s:Sl=>s.live || decide (4294967295≤s.gen)) sl k a b h
theorem tk_room:tk (roomF sl)=tk sl:=by
 unfold roomF tk
 split
 ·rfl
 ·rw [List.filter_append];simp [deadS]
theorem modify_set {α:Type} (f:α→α):∀(l:List α) (k:Nat) (a:α),l[k]?=some a→l.modify k f=l.set k (f a)
 | [],k,a,h=>by simp at h
 | x :: l,0,a,h=>by simp at h;subst h;rfl
 | x :: l,k+1,a,h=>by
  have ih:=modify_set f l k a (by simpa using h)
  simp [ih]
end
structure Made (roots loose:List Nat) (sl sl':List Sl) (p h n:Nat):Prop where
 wfs:WfS sl'
 wf:WfA (slA sl') roots (h :: loose)
 new:slA sl h=none
 ext:∀y s,slA sl y=some s→slA sl' y=some s
 top:∃s,slA sl' h=some s∧s.parent=p
 tk:tk sl'=tk sl+n
 len:sl.length≤sl'.length
section
variable {sl:List Sl}{roots loose:List Nat}{p c:Nat}
theorem one_wf {s:Sl} (hs:okSl s) (hk:s.kids=[]) (hsp:s.parent=p) (hsl:s.live=true) (hsg:s.gen=genI sl) (hw:WfS sl) (hA:WfA (slA sl) roots loose) (hp:p=0∨∃t,slA sl p=some t∧t.kind=1) (hc:Ch (slA sl) p c) (hc2:c+1≤64) (ht:tk sl+1≤4096) :
  Made roots loose sl ((roomF sl).set (freeI sl) s) p (freshH sl) 1∧slA ((roomF sl).set (freeI sl) s) (freshH sl)=some s:=by
 obtain⟨d,h1,h2,h3,h4⟩:=room_get hw
 have hg:=genI_eq h1
 have hR:=room_wf hw (by omega)
 have hi:freeI sl < (roomF sl).length:=(List.getElem?_eq_some_iff.1 h1).1
 have hfew:=hR.few
 have e:∀x,slA ((roomF sl).set (freeI sl) s) x=updA (slA sl) (freshH sl) (some s) x:=fun x=>by
  have e1:=slA_born (sl:=roomF sl) (k:=freeI sl) (s:=d) (s':=s) (by omega) h1 h4 hsl x
  rw [e1]
  have e2:(slA (roomF sl))=slA sl:=funext (slA_room hw)
  rw [e2,hsg];rfl
 have e':=funext e
 have hnew:slA sl (freshH sl)=none:=by
  rw [←slA_room hw]
  exact slA_dead (k:=freeI sl) (s:=d) (by omega) h1 h4 (by unfold freshH;exact hnd_mod (by omega))
 have h0:freshH sl≠0:=by unfold freshH hnd;omega
 refine⟨⟨hR.set (by rw [hsg];omega) (by rw [hsl];simp) (fun _=>by rw [hsg];omega),?_,hnew,fun y t hy=>?_,⟨s,by rw [e,updA_self],hsp⟩,?_,?_⟩,by rw [e,updA_self]⟩
 ·rw [e'];exact hA.fresh h0 hnew hs hk hsp hp hc hc2
 ·rw [e,updA_ne];exact hy
  rintro rfl;rw [hnew] at hy;cases hy
 ·have:=tk_set (b:=s) h1
  rw [tk_room] at this
  rw [h4,hsl] at this
  simp only [Bool.true_or,if_true,Bool.false_or] at this
  rw [if_neg (by simp;omega)] at this
  omega
 ·rw [List.length_set]
  rcases room_len (sl:=sl) with h | h <;> omega
theorem WfA.hang1 {A:Nat→Option Sl}{h hk:Nat}{s:Sl} (hA:WfA A roots (hk :: loose)) (hh:A h=some s) (hs1:s.kind=1) (hkp:∃t,A hk=some t∧t.parent=h) (hnl:hk∉loose) :
  WfA (setA A h (s.kids++[hk])) roots loose:=by
 have h0:=hA.ne0 hh
 have hr:setR roots h (s.kids++[hk])=roots:=by unfold setR;rw [if_neg h0]
 have:=hA.setL (p:=h) (l:=s.kids++[hk]) (loose':=loose) (.inr ⟨s,hh,hs1⟩) ?_ (fun x hx=>?_) (fun x t hx hp hl=>?_) (fun x t hx hp=>?_) (fun x hx=>hA.lo x (List.mem_cons_of_mem _ hx))
 ·rw [hr] at this;exact this
 ·obtain⟨k1,k2⟩:=hA.kid h s hh
  rw [List.nodup_append]
  refine⟨k1,by simp,fun a ha b hb e=>?_⟩
  rw [List.mem_singleton] at hb;subst hb;subst e
  exact (k2 a ha).1 (by simp)
 ·rcases List.mem_append.1 hx with hx | hx
  ·obtain⟨k1,k2⟩:=(hA.kid h s hh).2 x hx
   exact⟨fun e=>k1 (List.mem_cons_of_mem _ e),k2⟩
  ·rw [List.mem_singleton] at hx;subst hx
   exact⟨hnl,hkp⟩
 ·by_cases e:x=hk
  ·subst e;simp
  ·have:=hA.mem x t hx (by simp [e,hl])
   rw [hp,lstA_some h0 hh] at this
   exact List.mem_append_left _ this
 ·constructor
  ·intro k;exact List.mem_cons_of_mem _ k
  ·intro k
   rcases List.mem_cons.1 k with rfl | k
   ·obtain⟨u,u1,u2⟩:=hkp
    rw [hx] at u1;cases u1;exact absurd u2 hp
   ·exact k
theorem makes_wf:∀(l:List Tr),(∀x∈l,∀{sl:List Sl}{loose:List Nat}{p c:Nat},okT x→WfS sl→WfA (slA sl) roots loose→(p=0∨∃t,slA sl p=some t∧t.kind=1)→Ch (slA sl) p c→c+dpT x≤64→tk sl+szT x≤4096→Made roots loose sl (makeF x p sl) p (freshH sl) (szT x)) →
  ∀{sl:List Sl}{loose:List Nat}{h c i:Nat}{s:Sl},okL l→WfS sl→WfA (slA sl) roots loose→h % 4294967296=i+1→slA sl h=some s→s.kind=1→Ch (slA sl) h c→c+dpL l≤64→tk sl+szL l≤4096 →
  WfS (makesF l h i sl)∧WfA (slA (makesF l h i sl)) roots loose∧(∀y t,y≠h→slA sl y=some t→slA (makesF l h i sl) y=some t)∧(∃ks,slA (makesF l h i sl) h=some { s with kids:=s.kids++ks })∧tk (makesF l h i sl)=tk sl+szL l∧sl.length≤(makesF l h i sl).length
 | [],_,sl,loose,h,c,i,s,ho,hw,hA,hi,hs,hs1,hc,hd,ht=>by
  unfold makesF
  exact⟨hw,hA,fun _ _ _ h=>h,⟨[],by simpa using hs⟩,by simp [szL],Nat.le_refl _⟩
 | x :: l,ih,sl,loose,h,c,i,s,ho,hw,hA,hi,hs,hs1,hc,hd,ht=>by
  simp only [okL,dpL,szL] at ho hd ht
  have M:=ih x (by simp) ho.1 hw hA (.inr ⟨s,hs,hs1⟩) hc (by omega) (by omega)
  unfold makesF
  generalize hsl1:makeF x h sl=sl1 at M ⊢
  generalize hhk:freshH sl=hk at M ⊢
  have hs':=M.ext h s hs
  obtain⟨k,k1,k2,k3,k4⟩:=slA_iff.1 hs'
  obtain rfl:k=i:=by omega
  have hfew:=M.wfs.few
  have hlt:k < sl1.length:=(List.getElem?_eq_some_iff.1 k2).1
  rw [modify_set _ _ _ _ k2]
  have e:∀y,slA (sl1.set k { s with kids:=s.kids++[hk] }) y=setA (slA sl1) h (s.kids++[hk]) y:=fun y=>by
   rw [slA_set (s':={ s with kids:=s.kids++[hk] }) k1 hs' rfl k3]
   unfold setA
   have h0:=hA.ne0 hs
   by_cases ey:y=h
   ·subst ey;rw [if_pos rfl,if_pos ⟨rfl,h0⟩,hs'];rfl
   ·rw [if_neg ey,if_neg (fun e=>ey e.1)]
  have e':=funext e
  have hnl:hk∉loose:=fun hm=>by
   obtain⟨t,ht⟩:=hA.lo hk hm
   rw [M.new] at ht;cases ht
  have A2:WfA (slA (sl1.set k { s with kids:=s.kids++[hk] })) roots loose:=by rw [e'];exact M.wf.hang1 hs' hs1 M.top hnl
  have w2:WfS (sl1.set k { s with kids:=s.kids++[hk] }):=M.wfs.set (M.wfs.gen s (List.mem_of_getElem? k2)) (by rw [k3];simp) (fun _=>M.wfs.live s (List.mem_of_getElem? k2) k3)
  have s2:slA (sl1.set k { s with kids:=s.kids++[hk] }) h=some { s with kids:=s.kids++[hk] }:=by rw [slA_set (s':={ s with kids:=s.kids++[hk] }) k1 hs' rfl k3,if_pos rfl]
  have c2:Ch (slA (sl1.set k { s with kids:=s.kids++[hk] })) h c:=(hc.mono fun y t hy=>⟨t,M.ext y t hy,rfl⟩).mono fun y t hy=>by
   rw [e]
   obtain⟨u,u1,u2,_⟩:=setA_of' (p:=h) (l:=s.kids++[hk]) hy
   exact⟨u,u1,u2⟩
  have t2:tk (sl1.set k { s with kids:=s.kids++[hk] })=tk sl+szT x:=by
   have:=tk_set (b:={ s with kids:=s.kids++[hk] }) k2
   have mt:=M.tk
   simp only at this
   omega
  obtain⟨r1,r2,r3,⟨ks,r4⟩,r5,r6⟩:=makes_wf l (fun y hy=>ih y (by simp [hy])) (i:=k) ho.2 w2 A2 k1 s2 hs1 c2 (by omega) (by omega)
  refine⟨r1,r2,fun y t hy ht=>r3 y t hy ?_,⟨hk :: ks,by rw [r4];simp⟩,by simp only [szL];omega,?_⟩
  ·rw [e]
   unfold setA
   rw [if_neg (fun e=>hy e.1)]
   exact M.ext y t ht
  ·have ml:=M.len
   rw [List.length_set] at r6
   omega
theorem make_wf:∀(x:Tr) {sl:List Sl}{loose:List Nat}{p c:Nat},okT x→WfS sl→WfA (slA sl) roots loose→(p=0∨∃t,slA sl p=some t∧t.kind=1)→Ch (slA sl) p c→c+dpT x≤64→tk sl+szT x≤4096→Made roots loose sl (makeF x p sl) p (freshH sl) (szT x):=by
 refine Tr.ind fun kind nm attrs text kids ih sl loose p c ho hw hA hp hc hd ht=>?_
 unfold okT at ho
 obtain⟨o1,o2,o3⟩:=ho
 unfold makeF
 unfold dpT at hd
 unfold szT at ht ⊢
 by_cases hk:kind=2
 ·subst hk
  rw [if_pos rfl] at hd ht ⊢
  rw [if_pos rfl]
  refine (one_wf (s:=⟨genI sl,true,2,noB,[],text,p,[]⟩) ⟨?_,.inr ⟨rfl,rfl,rfl,rfl⟩⟩ rfl rfl rfl rfl hw hA hp hc (by omega) (by omega)).1
  unfold ownF at o1 ⊢
  rw [if_neg (by decide),if_pos rfl] at o1
  rw [if_neg (show ¬(2:Int)=1 by decide),if_pos rfl]
  exact o1
 ·have hk1:kind=1:=o2.resolve_right hk
  subst hk1
  rw [if_neg hk] at hd ht ⊢
  rw [if_neg hk]
  have hok:okSl ⟨genI sl,true,1,nm,attrs,noB,p,[]⟩:=⟨by unfold ownF at o1 ⊢;exact o1,.inl ⟨rfl,rfl⟩⟩
  obtain⟨M,hs⟩:=one_wf (s:=⟨genI sl,true,1,nm,attrs,noB,p,[]⟩) hok rfl rfl rfl rfl hw hA hp hc (by omega) (by omega)
  generalize hsl1:(roomF sl).set (freeI sl) ⟨genI sl,true,1,nm,attrs,noB,p,[]⟩=sl1 at M hs ⊢
  have h0:freshH sl≠0:=by unfold freshH hnd;omega
  have hi:freshH sl % 4294967296=freeI sl+1:=by
   obtain⟨d,d1,_⟩:=room_get hw
   have:=(room_wf hw (by omega)).few
   have:=(List.getElem?_eq_some_iff.1 d1).1
   unfold freshH;exact hnd_mod (by omega)
  have hc1:Ch (slA sl1) (freshH sl) (c+1):=.succ h0 hs (hc.mono fun y t hy=>⟨t,M.ext y t hy,rfl⟩)
  have mt:=M.tk
  obtain⟨r1,r2,r3,⟨ks,r4⟩,r5,r6⟩:=makes_wf kids ih (o3 rfl) M.wfs M.wf hi hs rfl hc1 (by omega) (by omega)
  refine⟨r1,r2,M.new,fun y t hy=>r3 y t ?_ (M.ext y t hy),⟨_,r4,rfl⟩,by omega,Nat.le_trans M.len r6⟩
  rintro rfl
  rw [M.new] at hy;cases hy
end
--PURE
inductive De (A:Nat→Option Sl) (x:Nat):Nat→Nat→Prop where
 | self:De A x x 0
 | up {y d:Nat}{s:Sl}:A y=some s→De A x s.parent d→De A x y (d+1)
def allA (A:Nat→Option Sl):Nat→Nat→List Nat
 | 0,_=>[]
 | r+1,x=>x :: (match A x with | some s=>s.kids.flatMap (allA A r) | none=>[])
def dpA (A:Nat→Option Sl):Nat→Nat→Nat
 | 0,_=>0
 | r+1,x=>1+(match A x with | some s=>(s.kids.map (dpA A r)).foldl max 0 | none=>0)
theorem allA_some {A:Nat→Option Sl}{r x:Nat}{s:Sl} (h:A x=some s):allA A (r+1) x=x :: s.kids.flatMap (allA A r):=by
 rw [allA,h]
theorem dpA_some {A:Nat→Option Sl}{r x:Nat}{s:Sl} (h:A x=some s):dpA A (r+1) x=1+(s.kids.map (dpA A r)).foldl max 0:=by
 rw [dpA,h]
section
variable {A:Nat→Option Sl}{roots loose:List Nat}
theorem De.wi {x y d:Nat} (h:De A x y d):Wi A x y:=by
 induction h with
 | self=>exact .self
 | up ha _ ih=>exact .up ha ih
theorem Wi.de {x y:Nat} (h:Wi A x y):∃d,De A x y d:=by
 induction h with
 | self=>exact⟨0,.self⟩
 | up ha _ ih=>obtain⟨d,hd⟩:=ih;exact⟨d+1,.up ha hd⟩
theorem De.ch {x y d c:Nat} (h0:A 0=none) (h:De A x y d) (hc:Ch A x c):Ch A y (c+d):=by
 induction h with
 | self=>exact hc
 | up ha _ ih=>exact .succ (fun e=>by subst e;rw [h0] at ha;cases ha) ha ih
theorem De.fn {x x' y d:Nat} (h:De A x y d) (h':De A x' y d):x=x':=by
 induction h with
 | self=>cases h';rfl
 | up ha _ ih=>cases h' with
  | up hb h2=>rw [ha] at hb;cases hb;exact ih h2
theorem De.down {x k y d:Nat}{s:Sl} (hk:A k=some s) (hp:s.parent=x) (h:De A k y d):De A x y (d+1):=by
 induction h with
 | self=>exact .up hk (by rw [hp];exact .self)
 | up ha _ ih=>exact .up ha ih
theorem De.split (hA:WfA A roots loose) {x y d:Nat} (h:De A x y (d+1)) (hx:x≠0) (hl:∀z,z∈loose→z=x∨¬Wi A x z) (hne:∀z e,De A x z (e+1)→z≠x):∃k s,A x=some s∧k∈s.kids∧De A k y d:=by
 generalize hn:d+1=n at h
 induction h generalizing d with
 | self=>omega
 | @up y d' s ha h2 ih =>
  obtain rfl:d'=d:=by omega
  cases d' with
  | zero =>
   cases h2
   have hy:y≠s.parent:=hne y 0 (.up ha .self)
   have hm:y∉loose:=fun hy2=>by
    rcases hl y hy2 with e | e
    ·exact hy e
    ·exact e (.up ha .self)
   have h3:=hA.mem y s ha hm
   rcases hA.par y s ha with e | ⟨t,ht,_⟩
   ·exact absurd e hx
   ·rw [lstA_some hx ht] at h3
    exact⟨y,t,ht,h3,.self⟩
  | succ d =>
   obtain⟨k,t,h3,h4,h5⟩:=ih rfl
   exact⟨k,t,h3,h4,.up ha h5⟩
theorem WfA.de_ne (hA:WfA A roots loose) {x:Nat} (hx:∃s,A x=some s):∀z e,De A x z (e+1)→z≠x:=by
 rintro z e h rfl
 obtain⟨s,hs⟩:=hx
 obtain⟨c,_,hc⟩:=hA.chain z s hs
 have:=(h.ch hA.zero hc).fn hc
 omega
theorem mem_allA (hA:WfA A roots loose):∀(r x y:Nat),(∃s,A x=some s)→(∀z,z∈loose→z=x∨¬Wi A x z)→(y∈allA A r x↔∃d,d < r∧De A x y d):=by
 intro r
 induction r with
 | zero=>intro x y hx hl;simp [allA]
 | succ r ih =>
  intro x y hx hl
  obtain⟨s,hs⟩:=hx
  rw [allA_some hs,List.mem_cons,List.mem_flatMap]
  have hkid:∀k∈s.kids,∃t,A k=some t∧t.parent=x:=fun k hk=>((hA.kid x s hs).2 k hk).2
  have hkl:∀k∈s.kids,∀z,z∈loose→z=k∨¬Wi A k z:=fun k hk z hz=>by
   refine .inr fun hw=>?_
   obtain⟨t,t1,t2⟩:=hkid k hk
   obtain⟨d,hd⟩:=hw.de
   have h2:=hd.down t1 t2
   rcases hl z hz with e | e
   ·exact hA.de_ne ⟨s,hs⟩ z d h2 e
   ·exact e h2.wi
  constructor
  ·rintro (rfl | ⟨k,hk,hy⟩)
   ·exact⟨0,by omega,.self⟩
   ·obtain⟨t,t1,t2⟩:=hkid k hk
    obtain⟨d,d1,d2⟩:=(ih k y ⟨t,t1⟩ (hkl k hk)).1 hy
    exact⟨d+1,by omega,d2.down t1 t2⟩
  ·rintro ⟨d,d1,d2⟩
   cases d with
   | zero=>cases d2;exact .inl rfl
   | succ d =>
    obtain⟨k,t,k1,k2,k3⟩:=d2.split hA (hA.ne0 hs) hl (hA.de_ne ⟨s,hs⟩)
    rw [hs] at k1;cases k1
    obtain⟨t,t1,t2⟩:=hkid k k2
    exact .inr ⟨k,k2,(ih k y ⟨t,t1⟩ (hkl k k2)).2 ⟨d,by omega,k3⟩⟩
theorem mem_all (hA:WfA A roots loose) {r x y c:Nat} (hx:∃s,A x=some s) (hl:∀z,z∈loose→z=x∨¬Wi A x z) (hc:Ch A x c) (hr:65≤c+r):y∈allA A r x↔Wi A x y:=by
 rw [mem_allA hA r x y hx hl]
 constructor
 ·rintro ⟨d,_,hd⟩;exact hd.wi
 ·intro h
  obtain⟨d,hd⟩:=h.de
  refine⟨d,?_,hd⟩
  have h2:=hd.ch hA.zero hc
  have:∃s,A y=some s:=by
   cases hd with
   | self=>exact hx
   | up ha _=>exact⟨_,ha⟩
  obtain⟨s,hs⟩:=this
  obtain⟨c',h3,h4⟩:=hA.chain y s hs
  have:=h2.fn h4
  omega
theorem all_live (hA:WfA A roots loose) {r x y:Nat} (hx:∃s,A x=some s) (hl:∀z,z∈loose→z=x∨¬Wi A x z) (h:y∈allA A r x):∃s,A y=some s:=by
 obtain⟨d,_,hd⟩:=(mem_allA hA r x y hx hl).1 h
 cases hd with
 | self=>exact hx
 | up ha _=>exact⟨_,ha⟩
theorem flatMap_nodup {α β:Type} (f:α→List β):∀(l:List α),l.Nodup→(∀a∈l,(f a).Nodup)→(∀a∈l,∀b∈l,a≠b→∀y,y∈f a→y∉f b)→(l.flatMap f).Nodup
 | [],_,_,_=>by simp
 | a :: l,h1,h2,h3=>by
  rw [List.flatMap_cons,List.nodup_append]
  have h4:=List.nodup_cons.1 h1
  refine⟨h2 a (by simp),flatMap_nodup f l h4.2 (fun b hb=>h2 b (by simp [hb])) (fun b hb c hc=>h3 b (by simp [hb]) c (by simp [hc])),fun y hy z hz e=>?_⟩
  subst e
  obtain⟨b,hb,hz⟩:=List.mem_flatMap.1 hz
  exact h3 a (by simp) b (by simp [hb]) (fun e=>h4.1 (e ▸ hb)) y hy hz
theorem all_nodup (hA:WfA A roots loose):∀(r x:Nat),(∃s,A x=some s)→(∀z,z∈loose→z=x∨¬Wi A x z)→(allA A r x).Nodup:=by
 intro r
 induction r with
 | zero=>intro x hx hl;simp [allA]
 | succ r ih =>
  intro x hx hl
  obtain⟨s,hs⟩:=hx
  rw [allA_some hs,List.nodup_cons]
  have hkid:∀k∈s.kids,∃t,A k=some t∧t.parent=x:=fun k hk=>((hA.kid x s hs).2 k hk).2
  have hkl:∀k∈s.kids,∀z,z∈loose→z=k∨¬Wi A k z:=fun k hk z hz=>by
   refine .inr fun hw=>?_
   obtain⟨t,t1,t2⟩:=hkid k hk
   obtain⟨d,hd⟩:=hw.de
   have h2:=hd.down t1 t2
   rcases hl z hz with e | e
   ·exact hA.de_ne ⟨s,hs⟩ z d h2 e
   ·exact e h2.wi
  refine⟨fun hm=>?_,flatMap_nodup _ _ (hA.kid x s hs).1 (fun k hk=>?_) (fun a ha b hb hab y h1 h2=>?_)⟩
  ·obtain⟨k,k1,k2⟩:=List.mem_flatMap.1 hm
   obtain⟨t,t1,t2⟩:=hkid k k1
   obtain⟨d,_,hd⟩:=(mem_allA hA r k x ⟨t,t1⟩ (hkl k k1)).1 k2
   exact hA.de_ne ⟨s,hs⟩ x d (hd.down t1 t2) rfl
  ·obtain⟨t,t1,t2⟩:=hkid k hk
   exact ih k ⟨t,t1⟩ (hkl k hk)
  ·obtain⟨t,t1,t2⟩:=hkid a ha
   obtain⟨u,u1,u2⟩:=hkid b hb
   obtain⟨d,_,hd⟩:=(mem_allA hA r a y ⟨t,t1⟩ (hkl a ha)).1 h1
   obtain⟨e,_,he⟩:=(mem_allA hA r b y ⟨u,u1⟩ (hkl b hb)).1 h2
   obtain⟨c,_,hc⟩:=hA.chain x s hs
   have c1:Ch A a (c+1):=.succ (hA.ne0 t1) t1 (by rw [t2];exact hc)
   have c2:Ch A b (c+1):=.succ (hA.ne0 u1) u1 (by rw [u2];exact hc)
   have:=(hd.ch hA.zero c1).fn (he.ch hA.zero c2)
   obtain rfl:d=e:=by omega
   exact hab (hd.fn he)
end
--PURE
structure Wf (D:Im):Prop where
 s:WfS D.sl
 a:WfA (slA D.sl) D.roots []
def lstI (D:Im) (p:Nat):List Nat:=lstA (slA D.sl) D.roots p
def setI (D:Im) (p:Nat) (l:List Nat):Im:=if p=0 then { D with roots:=l } else { D with sl:=D.sl.modify (p % 4294967296-1) fun s=>{ s with kids:=l } }
def updI (D:Im) (h:Nat) (f:Sl→Sl):Im:={ D with sl:=D.sl.modify (h % 4294967296-1) f }
def cntF (A:Nat→Option Sl):Nat→Nat→Nat
 | 0,_=>0
 | r+1,p=>if p=0 then 0 else match A p with | some s=>cntF A r s.parent+1 | none=>0
def cntI (D:Im) (p:Nat):Nat:=cntF (slA D.sl) 65 p
def posF (wh:Int) (a:Nat) (l:List Nat):Nat:=if wh=2 then l.length else if wh=3 then l.idxOf a else if wh=4 then l.idxOf a+1 else 0
def insAt (l:List Nat) (k h:Nat):List Nat:=l.take k++h :: l.drop k
def placeF (D:Im) (wh:Int) (a:Nat):Nat × Int :=
 if wh < 1∨4 < wh∨(a=0∧2 < wh) then (0,1) else
 if a=0 then (0,0) else match slA D.sl a with
  | none=>(0,8)
  | some s=>if wh≤2 then (if s.kind=2 then (0,31) else (a,0)) else (s.parent,0)
def putI (D:Im) (n p:Nat) (wh:Int) (a:Nat):Im:=setI D p (insAt (lstI D p) (posF wh a (lstI D p)) n)
def insF (D:Im) (wh:Int) (a:Nat) (x:Tr):Im × Nat × Int :=
 if (placeF D wh a).2=1 then (D,0,1) else if (lookF x 1 0).2≠0 then (D,0,(lookF x 1 0).2) else if (placeF D wh a).2≠0 then (D,0,(placeF D wh a).2) else
 if 64 < cntI D (placeF D wh a).1+dpT x then (D,0,32) else if 4096 < tk D.sl+szT x then (D,0,33) else
 (putI { D with sl:=makeF x (placeF D wh a).1 D.sl } (freshH D.sl) (placeF D wh a).1 wh a,freshH D.sl,0)
section
variable {D:Im}
theorem slA_modify {sl:List Sl}{h:Nat}{s:Sl}{f:Sl→Sl} (hs:slA sl h=some s) (hg:(f s).gen=s.gen) (hl:(f s).live=true) (x:Nat) :
  slA (sl.modify (h % 4294967296-1) f) x=if x=h then some (f s) else slA sl x:=by
 obtain⟨k,h1,h2,h3,h4⟩:=slA_iff.1 hs
 rw [h1,Nat.add_sub_cancel,modify_set _ _ _ _ h2]
 exact slA_set h1 hs hg hl x
theorem WfS.modify {sl:List Sl} (hw:WfS sl) {h:Nat}{s:Sl}{f:Sl→Sl} (hs:slA sl h=some s) (hg:(f s).gen=s.gen) (hl:(f s).live=true):WfS (sl.modify (h % 4294967296-1) f):=by
 obtain⟨k,h1,h2,h3,h4⟩:=slA_iff.1 hs
 rw [h1,Nat.add_sub_cancel,modify_set _ _ _ _ h2]
 have hm:=List.mem_of_getElem? h2
 exact hw.set (by rw [hg];exact hw.gen s hm) (by rw [hl];simp) (fun _=>by rw [hg];exact hw.live s hm h3)
theorem setI_A {p:Nat}{l:List Nat} (hp:p=0∨∃s,slA D.sl p=some s):slA (setI D p l).sl=setA (slA D.sl) p l∧(setI D p l).roots=setR D.roots p l:=by
 unfold setI setR
 by_cases h0:p=0
 ·rw [if_pos h0,if_pos h0]
  refine⟨funext fun x=>?_,rfl⟩
  unfold setA
  rw [if_neg (fun e=>e.2 h0)]
 ·rw [if_neg h0,if_neg h0]
  obtain⟨s,hs⟩:=hp.resolve_left h0
  have hlive:=(slA_iff.1 hs).choose_spec.2.2.1
  refine⟨funext fun x=>?_,rfl⟩
  rw [slA_modify (f:=fun s=>{ s with kids:=l }) hs rfl hlive]
  unfold setA
  by_cases e:x=p
  ·subst e;rw [if_pos rfl,if_pos ⟨rfl,h0⟩,hs];rfl
  ·rw [if_neg e,if_neg (fun h=>e h.1)]
theorem slA_live {sl:List Sl}{h:Nat}{s:Sl} (hs:slA sl h=some s):s.live=true:=by
 obtain⟨k,h1,h2,h3,h4⟩:=slA_iff.1 hs;exact h3
theorem setI_S {p:Nat}{l:List Nat} (hw:WfS D.sl) (hp:p=0∨∃s,slA D.sl p=some s):WfS (setI D p l).sl:=by
 unfold setI
 by_cases h0:p=0
 ·rw [if_pos h0];exact hw
 ·rw [if_neg h0]
  obtain⟨s,hs⟩:=hp.resolve_left h0
  exact hw.modify (s:=s) (f:=fun s=>{ s with kids:=l }) hs rfl (show s.live=true from slA_live hs)
theorem cnt_ch {A:Nat→Option Sl}{p c:Nat} (h:Ch A p c):∀r,c≤r→0 < r→cntF A r p=c:=by
 induction h with
 | zero=>intro r h1 h2;cases r with
  | zero=>omega
  | succ r=>rw [cntF,if_pos rfl]
 | @succ q d s h0 ha h3 ih =>
  intro r h1 h2
  cases r with
  | zero=>omega
  | succ r =>
   rw [cntF,if_neg h0,ha]
   dsimp only
   by_cases hr:r=0
   ·subst hr
    obtain rfl:d=0:=by omega
    rw [cntF]
   ·rw [ih r (by omega) (by omega)]
theorem Wf.cnt (hw:Wf D) {p:Nat} (hp:p=0∨∃s,slA D.sl p=some s):cntI D p≤64∧Ch (slA D.sl) p (cntI D p):=by
 rcases hp with rfl | ⟨s,hs⟩
 ·have:cntI D 0=0:=by unfold cntI;rw [cntF,if_pos rfl]
  rw [this];exact⟨by omega,.zero⟩
 ·obtain⟨c,h1,h2⟩:=hw.a.chain p s hs
  have:cntI D p=c:=cnt_ch h2 65 (by omega) (by omega)
  rw [this];exact⟨h1,h2⟩
theorem place_ok (hw:Wf D) {wh:Int}{a:Nat} (h:(placeF D wh a).2=0) :
  ((placeF D wh a).1=0∨∃t,slA D.sl (placeF D wh a).1=some t∧t.kind=1)∧1≤wh∧wh≤4∧(2 < wh→∃s,slA D.sl a=some s∧s.parent=(placeF D wh a).1)∧(wh≤2→(placeF D wh a).1=a)∧(a=0∨∃s,slA D.sl a=some s):=by
 unfold placeF at h ⊢
 by_cases h1:wh < 1∨4 < wh∨(a=0∧2 < wh)
 ·rw [if_pos h1] at h;cases h
 ·rw [if_neg h1] at h ⊢
  by_cases h0:a=0
  ·rw [if_pos h0] at h ⊢
   refine⟨.inl rfl,by omega,by omega,fun h2=>by omega,fun _=>h0.symm,.inl h0⟩
  ·rw [if_neg h0] at h ⊢
   cases hs:slA D.sl a with
   | none=>rw [hs] at h;cases h
   | some s =>
    rw [hs] at h
    dsimp only at h ⊢
    have ho:=(hw.a.ok a s hs).2
    by_cases h2:wh≤2
    ·rw [if_pos h2] at h ⊢
     by_cases hk:s.kind=2
     ·rw [if_pos hk] at h;cases h
     ·rw [if_neg hk] at h ⊢
      refine⟨.inr ⟨s,hs,?_⟩,by omega,by omega,fun h3=>by omega,fun _=>rfl,.inr ⟨s,rfl⟩⟩
      rcases ho with ho | ho
      ·exact ho.1
      ·exact absurd ho.1 hk
    ·rw [if_neg h2] at h ⊢
     exact⟨hw.a.par a s hs,by omega,by omega,fun _=>⟨s,rfl,rfl⟩,fun h3=>absurd h3 h2,.inr ⟨s,rfl⟩⟩
theorem mem_insAt {l:List Nat}{k h x:Nat}:x∈insAt l k h↔x=h∨x∈l:=by
 unfold insAt
 rw [List.mem_append,List.mem_cons]
 constructor
 ·rintro (h1 | h1 | h1)
  ·exact .inr (List.mem_of_mem_take h1)
  ·exact .inl h1
  ·exact .inr (List.mem_of_mem_drop h1)
 ·rintro (h1 | h1)
  ·exact .inr (.inl h1)
  ·rw [←List.take_append_drop k l,List.mem_append] at h1
   rcases h1 with h1 | h1
   ·exact .inl h1
   ·exact .inr (.inr h1)
theorem nodup_insAt {l:List Nat}{k h:Nat} (hl:l.Nodup) (hh:h∉l):(insAt l k h).Nodup:=by
 unfold insAt
 have h1:(l.take k++l.drop k).Nodup:=by rw [List.take_append_drop];exact hl
 rw [List.nodup_append] at h1 ⊢
 obtain⟨a1,a2,a3⟩:=h1
 refine⟨a1,List.nodup_cons.2 ⟨fun hm=>hh (List.mem_of_mem_drop hm),a2⟩,fun x hx y hy e=>?_⟩
 rcases List.mem_cons.1 hy with rfl | hy
 ·subst e;exact hh (List.mem_of_mem_take hx)
 ·exact a3 x hx y hy e
theorem WfA.hang {A:Nat→Option Sl}{roots:List Nat}{n p k:Nat}{s:Sl} (h:WfA A roots [n]) (hn:A n=some s) (hp:s.parent=p):WfA (setA A p (insAt (lstA A roots p) k n)) (setR roots p (insAt (lstA A roots p) k n)) []:=by
 obtain⟨l1,l2⟩:=h.lst p
 refine h.setL (hp ▸ h.par n s hn) (nodup_insAt l1 fun hm=>(l2 n hm).1 (by simp)) (fun x hx=>⟨by simp,?_⟩) (fun x t hx hxp _=>?_) (fun x t hx hxp=>?_) (fun x hx=>by simp at hx)
 ·rcases mem_insAt.1 hx with rfl | hx
  ·exact⟨s,hn,hp⟩
  ·exact (l2 x hx).2
 ·rw [mem_insAt]
  by_cases e:x=n
  ·exact .inl e
  ·have:=h.mem x t hx (by simpa using e)
   rw [hxp] at this;exact .inr this
 ·simp only [List.mem_singleton,List.not_mem_nil,false_iff]
  rintro rfl
  rw [hn] at hx;cases hx;exact hxp hp
end
mutual
theorem look_ok:∀(x:Tr) (deep n:Nat),(lookF x deep n).2=0→okT x∧(lookF x deep n).1=n+szT x∧deep+dpT x≤65∧n+szT x≤4096
 | .mk kind nm attrs text kids,deep,n=>by
  intro h
  unfold lookF at h ⊢
  unfold okT szT dpT
  by_cases h1:64 < deep∨4096≤n
  ·rw [if_pos h1] at h;cases h
  ·rw [if_neg h1] at h ⊢
   by_cases h2:ownF kind nm attrs text≠0
   ·rw [if_pos h2] at h;exact absurd h h2
   ·rw [if_neg h2] at h ⊢
    have h2':ownF kind nm attrs text=0:=by simpa using h2
    have hk:kind=1∨kind=2:=by
     unfold ownF at h2'
     by_cases k1:kind=1
     ·exact .inl k1
     ·rw [if_neg k1] at h2'
      by_cases k2:kind=2
      ·exact .inr k2
      ·rw [if_neg k2] at h2';exact absurd h2' (by decide)
    by_cases h3:kind=2
    ·simp only [if_pos h3] at h ⊢
     refine⟨⟨h2',hk,fun h4=>?_⟩,trivial,by omega,by omega⟩
     rw [h3] at h4;exact absurd h4 (by decide)
    ·simp only [if_neg h3] at h ⊢
     obtain⟨a1,a2,a3,a4⟩:=looks_ok kids (deep+1) (n+1) h
     refine⟨⟨h2',hk,fun _=>a1⟩,by rw [a2];omega,?_,?_⟩
     ·rcases a3 with a3 | rfl
      ·omega
      ·unfold dpL;omega
     ·rcases a4 with a4 | rfl
      ·omega
      ·unfold szL;omega
theorem looks_ok:∀(l:List Tr) (deep n:Nat),(looksF l deep n).2=0→okL l∧(looksF l deep n).1=n+szL l∧(deep+dpL l≤65∨l=[])∧(n+szL l≤4096∨l=[])
 | [],deep,n=>by intro _;unfold okL looksF szL;exact⟨trivial,rfl,.inr rfl,.inr rfl⟩
 | x :: l,deep,n=>by
  intro h
  unfold looksF at h ⊢
  unfold okL szL dpL
  by_cases h1:(lookF x deep n).2≠0
  ·rw [if_pos h1] at h;exact absurd h h1
  ·rw [if_neg h1] at h ⊢
   obtain⟨a1,a2,a3,a4⟩:=look_ok x deep n (by simpa using h1)
   rw [a2] at h ⊢
   obtain⟨b1,b2,b3,b4⟩:=looks_ok l deep (n+szT x) h
   refine⟨⟨a1,b1⟩,by rw [b2];omega,.inl ?_,.inl ?_⟩
   ·rcases b3 with b3 | rfl
    ·omega
    ·unfold dpL;omega
   ·rcases b4 with b4 | rfl
    ·omega
    ·unfold szL;omega
end
section
variable {D:Im}{A B:Nat→Option Sl}
theorem put_wf {n p:Nat}{wh:Int}{a:Nat}{s:Sl} (hw:WfS D.sl) (hA:WfA (slA D.sl) D.roots [n]) (hn:slA D.sl n=some s) (hp:s.parent=p):Wf (putI D n p wh a):=by
 have hpe:p=0∨∃s,slA D.sl p=some s:=by rw [←hp];exact (hA.par n s hn).imp id fun⟨t,h,_⟩=>⟨t,h⟩
 unfold putI
 obtain⟨e1,e2⟩:=setI_A (l:=insAt (lstI D p) (posF wh a (lstI D p)) n) hpe
 refine⟨setI_S hw hpe,?_⟩
 rw [e1,e2]
 exact hA.hang hn hp
theorem ins_wf (hw:Wf D) (wh:Int) (a:Nat) (x:Tr):Wf (insF D wh a x).1:=by
 unfold insF
 by_cases h1:(placeF D wh a).2=1
 ·rw [if_pos h1];exact hw
 rw [if_neg h1]
 by_cases h2:(lookF x 1 0).2≠0
 ·rw [if_pos h2];exact hw
 rw [if_neg h2]
 by_cases h3:(placeF D wh a).2≠0
 ·rw [if_pos h3];exact hw
 rw [if_neg h3]
 by_cases h4:64 < cntI D (placeF D wh a).1+dpT x
 ·rw [if_pos h4];exact hw
 rw [if_neg h4]
 by_cases h5:4096 < tk D.sl+szT x
 ·rw [if_pos h5];exact hw
 rw [if_neg h5]
 obtain⟨p1,p2,p3,p4,p5,p6⟩:=place_ok hw (by simpa using h3)
 obtain⟨k1,k2,k3,k4⟩:=look_ok x 1 0 (by simpa using h2)
 obtain⟨c1,c2⟩:=hw.cnt (p1.imp id fun⟨t,h,_⟩=>⟨t,h⟩)
 have M:=make_wf x k1 hw.s hw.a p1 c2 (by omega) (by omega)
 obtain⟨s,s1,s2⟩:=M.top
 exact put_wf (D:={ D with sl:=makeF x (placeF D wh a).1 D.sl }) M.wfs M.wf s1 s2
theorem wi_par {roots loose:List Nat} (hA:WfA A roots loose) {n:Nat}{s:Sl} (hn:A n=some s):¬Wi A n s.parent:=fun h=>by
 obtain⟨d,hd⟩:=h.de
 exact hA.de_ne ⟨s,hn⟩ n d (.up hn hd) rfl
theorem nil_wf:Wf ⟨[],[]⟩:=by
 have h:∀x,slA [] x=none:=fun x=>by
  cases h:slA [] x with
  | none=>rfl
  | some s=>obtain⟨k,h1,h2,_⟩:=slA_iff.1 h;simp at h2
 refine⟨⟨by simp,by simp,by simp,by simp⟩,⟨h 0,?_,?_,?_,?_,by simp,?_,by simp⟩⟩ <;> intro x s hx <;> dsimp only at hx <;> rw [h] at hx <;> cases hx
end
structure E5 where
 kind:Int
 nm:ByteArray
 ats:Sv
 text:ByteArray
 kids:Sv
def E5.cells (e:E5):List Value:=[.int .i64 e.kind,.string e.nm,.slice e.ats.1 e.ats.2.1 e.ats.2.2,.string e.text,.slice e.kids.1 e.kids.2.1 e.kids.2.2]
def LE5:Lay E5:=⟨5,E5.cells,fun _=>rfl,fun _=>by simp [E5.cells,Value.oneCell'],by decide⟩
mutual
def RTr (w:World):Tr→E5→Prop
 | .mk kind nm attrs text ks,e=>e.kind=kind∧e.nm=nm∧e.text=text∧RR LAt w attrs e.ats∧ks.length≤1048576∧∃es,e.kids.2.1=es.length∧Rd LE5 w e.kids.1 e.kids.2.2 es∧RTl w ks es
def RTl (w:World):List Tr→List E5→Prop
 | [],es=>es=[]
 | t :: ts,es=>∃e es',es=e :: es'∧RTr w t e∧RTl w ts es'
end
mutual
theorem RTr.sub {w w1:World} (h:Sub w w1):∀(t:Tr) (e:E5),RTr w t e→RTr w1 t e
 | .mk kind nm attrs text ks,e,hp=>by
  simp only [RTr] at hp ⊢
  obtain⟨h1,h2,h3,h4,h0,es,h5,h6,h7⟩:=hp
  exact⟨h1,h2,h3,h4.sub h,h0,es,h5,h.rd h6,RTl.sub h ks es h7⟩
theorem RTl.sub {w w1:World} (h:Sub w w1):∀(ts:List Tr) (es:List E5),RTl w ts es→RTl w1 ts es
 | [],es,hp=>by simp only [RTl] at hp ⊢;exact hp
 | t :: ts,es,hp=>by
  simp only [RTl] at hp ⊢
  obtain⟨e,es',h1,h2,h3⟩:=hp
  exact⟨e,es',h1,RTr.sub h t e h2,RTl.sub h ts es' h3⟩
end
theorem RTl.len {w:World}:∀{ts:List Tr}{es:List E5},RTl w ts es→es.length=ts.length
 | [],es,hp=>by simp only [RTl] at hp;subst hp;rfl
 | t :: ts,es,hp=>by
  simp only [RTl] at hp
  obtain⟨e,es',rfl,_,h3⟩:=hp
  simp [h3.len]
theorem RTl.get {w:World}:∀{ts:List Tr}{es:List E5},RTl w ts es→∀(i:Nat) (h:i < ts.length) (h':i < es.length),RTr w ts[i] es[i]
 | [],es,_,i,h,_=>by simp at h
 | t :: ts,es,hp,i,h,h'=>by
  simp only [RTl] at hp
  obtain⟨e,es',rfl,h2,h3⟩:=hp
  cases i with
  | zero=>exact h2
  | succ i=>exact RTl.get h3 i (by simpa using h) (by simpa using h')
section
variable {w:World}{A:Option Addr}{c:Nat}
theorem Rd.e5 {xs:List E5} (h:Rd LE5 w A c xs) {n:Nat} (hn:n=xs.length) {i:Int}{k:Nat} (hi:i=k) (hk:k < xs.length) {K:Addr→Prop}
  (hK:∀b o,w.cell? ⟨b,o,none⟩=some (.int .i64 xs[k].kind)→w.cell? ⟨b,o+1,none⟩=some (.string xs[k].nm)→w.cell? ⟨b,o+2,none⟩=some (.slice xs[k].ats.1 xs[k].ats.2.1 xs[k].ats.2.2)→w.cell? ⟨b,o+3,none⟩=some (.string xs[k].text) →
   w.cell? ⟨b,o+4,none⟩=some (.slice xs[k].kids.1 xs[k].kids.2.1 xs[k].kids.2.2)→K ⟨b,o,none⟩):IdxA A n i 5 K:=by
 subst hi
 refine h.idx hn (by omega) (by omega) rfl fun b o hc=>?_
 simp only [Int.toNat_natCast] at hc
 exact hK b o (hc 0 _ rfl) (hc 1 _ rfl) (hc 2 _ rfl) (hc 3 _ rfl) (hc 4 _ rfl)
end
set_option maxRecDepth 100000
section
variable {P:Program}{w:World}
theorem setRow_fm {g:Nat}{cur c':Array Value}{t:TypeId} (hg:Blk w g cur t):Blk (w.setRow g c') g c' t∧Fm (·=g) w (w.setRow g c'):=by
 refine⟨setRow_heap w g cur c' t _ hg,⟨rfl,rfl,rfl,by simp [World.setRow],fun b hb hm=>?_⟩⟩
 have hm:¬g=b:=fun e=>hm e.symm
 simp [World.setRow,Array.getElem?_modify,hm]
theorem sizeT_info {e:TypeId}{sz:Nat} (h:sizeT P e=some sz):∃i,P.info? e=some i∧i.size=sz:=by
 unfold sizeT at h
 split at h
 ·rename_i i hi;exact⟨i,hi,by simpa using h⟩
 ·cases h
theorem copy_blk {g:Nat}{l:List Value}{t dT sT ty elem:TypeId}{sz:Nat} (hg:Blk w g l.toArray t) (hu:P.underlying dT=some (.slice elem)) (hsz:sizeT P elem=some sz) {o dLen dCap:Nat}{a:Addr}{sLen sCap:Nat}{cs:List Value}
  (hn:cs.length=Nat.min sLen dLen*sz) (hsrc:∀j v,cs[j]?=some v→w.cell? (a.add j)=some v) (hfit:o+cs.length≤l.length) (h1:∀v∈cs,v.oneCell'=true) {K:Value→World→Prop}
  (hK:∀w',Blk w' g (l.take o++cs++l.drop (o+cs.length)).toArray t→Fm (·=g) w w'→K (goInt (Nat.min sLen dLen)) w') :
  Raw P (Builtin.copy_ #[dT,sT] ty #[.slice (some ⟨g,o,none⟩) dLen dCap,.slice (some a) sLen sCap]) w K:=by
 obtain⟨i,hi,hiz⟩:=sizeT_info hsz
 have hl:=run_loadCells_list (P:=P) w a cs hsrc
 have hst:=run_storeCells_at P g o t cs 0 l.toArray w hg (by simpa using hfit) h1
 obtain⟨q1,q2⟩:=setRow_fm (w:=w) (c':=(l.take o++cs++l.drop (o+cs.length)).toArray) hg
 refine⟨_,_,?_,hK _ q1 q2⟩
 subst hiz
 simp [Builtin.copy_,run_underlying hu,Builtin.lenOf,Builtin.firstCells,sizeOf,typeInfo,hi,←hn,hl,hst]
theorem apz {t u ty e:TypeId}{i:TypeInfo}{z:Value}{k:IntKind} (ht:P.underlying t=some (.slice e)) (hu:P.underlying u=some (.int k)) (hi:P.info? e=some i) (hz:i.zero=some z)
  {b:Addr}{sLen sCap:Nat}{olds:List Value} (hlo:olds.length=sLen*i.size) (holds:∀j v,olds[j]?=some v→w.cell? (b.add j)=some v) {n:Nat} (h0:0 < n)
  (hg:sCap < sLen+n) (h63:((sLen+n:Nat):Int)≤9223372036854775807) (hfit:Builtin.nextslicecap (sLen+n) sCap*i.bytes≤281474976710656) (hb:n*i.bytes≤281474976710656) {K:Value→World→Prop}
  (hK:K (.slice (some ⟨w.heap.size,0,none⟩) (sLen+n) (grownCap w (sLen+n) sCap e)) (w.drew.alloc (.cells (olds.toArray++(if n*i.size=0 then #[] else Builtin.zeroCells z.cells n)++Builtin.zeroCells z.cells (grownCap w (sLen+n) sCap e-(sLen+n))) e))) :
  Raw P (Builtin.append_ #[t,u] ty #[.slice (some b) sLen sCap,.int .i64 (n:Nat)]) w K:=by
 have hn:¬(sLen+n≤sCap):=by omega
 have h63':¬(9223372036854775807 < ((sLen:Int)+(n:Int))):=by omega
 have h48':¬(281474976710656 < Builtin.nextslicecap (sLen+n) sCap*i.bytes):=by omega
 have hfo:=run_firstCells_some (P:=P) w.drew i.size sLen b sLen sCap olds hlo (by simpa using holds)
 refine⟨_,_,?_,hK⟩
 have hw:IntKind.i64.wrap (n:Int)=n:=by
  simp [IntKind.wrap,IntKind.signed,IntKind.bits];omega
 have hneg:¬((n:Int) < 0):=by omega
 have hb':¬((281474976710656:Int) < (n:Int)*(i.bytes:Nat)):=by
  have:(n:Int)*(i.bytes:Nat)=((n*i.bytes:Nat):Int):=by simp
  rw [this];omega
 by_cases hz0:n*i.size=0
 ·rw [if_pos hz0]
  simp [Builtin.append_,run_underlying ht,run_underlying hu,sizeOf,typeInfo,zeroValue,asInt,asIntOf,hi,hz,hw,hneg,hb',hn,h63',h48',Question.forced,hfo,newRow,grownCap,hz0]
 ·rw [if_neg hz0]
  simp [Builtin.append_,run_underlying ht,run_underlying hu,sizeOf,typeInfo,zeroValue,asInt,asIntOf,hi,hz,hw,hneg,hb',hn,h63',h48',Question.forced,hfo,newRow,grownCap,hz0]
end
set_option maxRecDepth 100000
def nodeC (i:Nat) (s:Sl) (a:Sv) (par:Option Addr) (kv:Sv):Array Value:=#[.int .u32 (i+1:Nat),.int .u32 (s.gen:Nat),.bool s.live,.int .i64 s.kind,.string s.nm,.slice a.1 a.2.1 a.2.2,.string s.text,.pointer par,.slice kv.1 kv.2.1 kv.2.2]
def LPt:Lay Nat:=⟨1,fun b=>[.pointer (some ⟨b,0,none⟩)],fun _=>rfl,fun _=>by simp [Value.oneCell'],by decide⟩
theorem Rd.pt {w:World}{A:Option Addr}{c:Nat}{xs:List Nat} (h:Rd LPt w A c xs) {n:Nat} (hn:n=xs.length) {i:Int}{k:Nat} (hi:i=k) (hk:k < xs.length) {K:Addr→Prop}
  (hK:∀b o,w.cell? ⟨b,o,none⟩=some (.pointer (some ⟨xs[k],0,none⟩))→K ⟨b,o,none⟩):IdxA A n i 1 K:=by
 subst hi
 refine h.idx hn (by omega) (by omega) rfl fun b o hc=>?_
 simp only [Int.toNat_natCast] at hc
 exact hK b o (hc 0 _ rfl)
set_option maxRecDepth 100000
section
variable {α:Type}{L:Lay α}{w w1:World}{e:TypeId}{k:Nat}
def slV (v:Sv):Value:=.slice v.1 v.2.1 v.2.2
theorem insAtT {l:List α}{i:Nat}{x:α} (hi:i=l.length):l.take i++x :: l.drop i=l++[x]:=by subst hi;simp
theorem Own.row1 {v:Sv}{xs:List α} (h:Own L w k e (slV v) xs) (h0:0 < xs.length):∃g c rest,v=(some ⟨g,0,none⟩,xs.length,c)∧rowOf (slV v)=some g∧k≤g∧Blk w g (L.all xs++rest).toArray e∧xs.length≤c∧c≤maxLen∧(L.all xs++rest).length=c*L.n:=by
 rcases h with ⟨_,rfl⟩ | ⟨_,rfl⟩ | ⟨g,c,cur,hv,hb,hh,hn,hm,hs,ht⟩
 ·simp at h0
 ·simp at h0
 ·obtain⟨v1,v2,v3⟩:=v
  unfold slV at hv
  simp only [Value.slice.injEq] at hv
  obtain⟨rfl,rfl,rfl⟩:=hv
  refine⟨g,c+1,cur.toList.drop (xs.length*L.n),rfl,rfl,hb,?_,hn,hm,?_⟩
  ·rw [←ht,List.take_append_drop];exact hh
  ·rw [←ht,List.take_append_drop,Array.length_toList,hs]
theorem Own.ofBlk {g c:Nat}{xs:List α}{rest:List Value} (hB:Blk w g (L.all xs++rest).toArray e) (hk:k≤g) (hn:xs.length≤c) (h0:0 < c) (hm:c≤maxLen) (hs:(L.all xs++rest).length=c*L.n):Own L w k e (.slice (some ⟨g,0,none⟩) xs.length c) xs:=by
 obtain⟨c',rfl⟩:∃c',c=c'+1:=⟨c-1,by omega⟩
 exact .inr (.inr ⟨g,c',_,rfl,hk,hB,hn,hm,by simpa using hs,by simp [←L.all_length]⟩)
theorem cellL {g:Nat}{l:List Value}{t:TypeId} (h:Blk w g l.toArray t) (i:Nat):w.cell? ⟨g,i,none⟩=l[i]?:=by rw [h.cell];simp
theorem cell_add {g o:Nat}{l cs:List Value}{t:TypeId} (h:Blk w g l.toArray t) (hc:∀j v,cs[j]?=some v→l[o+j]?=some v):∀j v,cs[j]?=some v→w.cell? ((⟨g,o,none⟩:Addr).add j)=some v:=fun j v hj=>by
 rw [Addr.add_mk,cellL h];exact hc j v hj
end
theorem insP_calls {w:World}{v:Sv}{xs:List Nat}{x:Nat}{i gx:Nat}{cx:Array Value} (hO:Own LPt w 0 152 (slV v) xs) (hi:i≤xs.length) (hx:Blk w gx cx 152) (hcx:cx.toList=LPt.cells x) (hgx:rowOf (slV v)≠some gx) (hl:xs.length+1≤1048576) {R:Ending→World→Prop}
  (h:∀v' w',Own LPt w' 0 152 (slV v') (xs.take i++x :: xs.drop i)→Fm (fun b=>rowOf (slV v)=some b) w w'→(rowOf (slV v')=rowOf (slV v)∨rowOf (slV v')=none∨∃g,rowOf (slV v')=some g∧w.heap.size≤g)→R (.returned (slV v')) w') :
  Calls Tryz.prog 161 #[slV v,.int .i64 (i:Nat),.slice (some ⟨gx,0,none⟩) 1 1] w R:=by
 have hz:zeroT Tryz.prog 152=some (.pointer none):=by kernel_rfl
 have hsz:sizeT Tryz.prog 152=some 1:=by kernel_rfl
 have hst:Tryz.prog.underlying 96=some (.slice 152):=by kernel_rfl
 have hxl:cx.toList.length=1:=by rw [hcx];exact LPt.len x
 obtain⟨A,c,hv0,hrd⟩:=hO.form
 have hv:v=(A,xs.length,c):=by obtain⟨v1,v2,v3⟩:=v;unfold slV at hv0;simp only [Value.slice.injEq] at hv0;obtain⟨rfl,rfl,rfl⟩:=hv0;rfl
 have hle:=hrd.1
 have hmx:=hrd.2.1
 unfold maxLen at hmx
 refine ok161 v.1 v.2.1 v.2.2 (i:Nat) (some ⟨gx,0,none⟩) 1 1 ?_
 unfold F161
 subst hv
 dsimp only
 refine⟨by omega,by omega,by omega,?_⟩
 refine bre (fun h0=>absurd h0 (by decide)) (fun _=>?_)
 refine bre (fun hin=>?_) (fun hin=>?_)
 ·have hin:i=xs.length:=by omega
  refine ap (L:=LPt) (xs:=xs) (ys:=[x]) (base:=0) (.pointer none) 8 rfl hst (by kernel_rfl) (by kernel_rfl) hO ?_ (Nat.zero_le _) (by simp;omega) (by simp [maxLen];omega) fun A' c' w1 o1 g1=>⟨A',_,c',rfl,?_⟩
  ·refine⟨by simp,by simp [maxLen],fun h0=>(by cases h0),fun _=>⟨gx,0,rfl,fun j u hj=>?_⟩⟩
   rw [LPt.all_one,←hcx] at hj
   rw [hx.cell];simpa using hj
  ·refine h (A',_,c') w1 ?_ (Fm.grown g1.grown fun b hb=>hb) g1.row
   rw [insAtT hin];exact o1
 ·have hin:i < xs.length:=by omega
  obtain⟨g,c9,rest,hvv,hrow,_,hB,hc1,hc2,hc3⟩:=hO.row1 (by omega)
  simp only [Prod.mk.injEq] at hvv
  obtain⟨rfl,-,rfl⟩:=hvv
  have hgg:g≠gx:=fun e=>hgx (by rw [hrow,e])
  have hgl:=hB.lt
  have hgxl:=hx.lt
  have hx':Blk w gx cx.toList.toArray 152:=by simpa using hx
  have hall:=LPt.all_length xs
  have hLn:LPt.n=1:=rfl
  rw [hLn] at hall hc3
  refine⟨inR_i64 (by omega) (by omega),brd (fun hgr=>?_) (fun hgr=>?_)⟩
  ·-- a new row
   refine⟨by omega,by omega,by omega,inR_i64 (by omega) (by omega),inR_i64 (by omega) (by omega),?_⟩
   have e1:((xs.length:Nat):Int)+((1:Nat):Int)-(i:Nat)=((xs.length+1-i:Nat):Int):=by omega
   rw [e1,Int.toNat_natCast]
   obtain⟨inf,hinf,hiz⟩:=sizeT_info hsz
   have hib:inf.zero=some (.pointer none)∧inf.bytes=8:=by
    have h1:(Tryz.prog.info? 152).map (fun i=>(i.zero,i.bytes))=some (some (.pointer none),8):=by kernel_rfl
    rw [hinf] at h1
    simp only [Option.map_some,Option.some.injEq,Prod.mk.injEq] at h1
    exact h1
   have e2:i+(xs.length+1-i)=xs.length+1:=by omega
   refine apz (u:=3) (k:=.i64) (olds:=LPt.all (xs.take i)) hst (by kernel_rfl) hinf hib.1 (by rw [LPt.all_length,List.length_take,Nat.min_eq_left hi,hiz];rfl) (cell_add (o:=0) hB fun j u hj=>?_) (by omega) (by omega) (by omega) ?_ (by rw [hib.2];omega) ?_
   ·rw [Nat.zero_add,LPt.all_take] at *
    have hjl:=(List.getElem?_eq_some_iff.1 hj).1
    rw [List.length_take] at hjl
    rw [List.getElem?_append_left (by omega),←hj,List.getElem?_take_of_lt (by omega)]
   ·rw [e2,hib.2]
    refine Nat.le_trans (growslice_fits (by omega) (show (xs.length+1)*8≤140737488355328 by omega)) (Nat.le_refl _)
   rw [e2,hiz]
   rw [if_neg (by omega)]
   have hge:=grownCap_ge w (xs.length+1) c 152
   have hcm:grownCap w (xs.length+1) c 152≤maxLen:=grownCap_le_maxLen w _ c 152 (by simp [maxLen];omega)
   generalize grownCap w (xs.length+1) c 152=q at hge hcm ⊢
   refine⟨_,_,_,rfl,by omega,by omega,by omega,?_⟩
   simp only [Int.toNat_natCast]
   have hSl:∀j:Nat,j < q→SlA (some ⟨w.heap.size,0,none⟩) q j 1=some ⟨w.heap.size,j*1,none⟩:=fun j hj=>by
    unfold SlA;rw [if_neg (by omega)];simp [Addr.add_mk]
   rw [hSl i (by omega)]
   have hb1:Below w.heap.size w (w.drew.alloc (.cells ((LPt.all (xs.take i)).toArray++Builtin.zeroCells ((.pointer none):Value).cells (xs.length+1-i)++Builtin.zeroCells ((.pointer none):Value).cells (q-(xs.length+1))) 152)):=((Below.refl _ _).drew).alloc (Nat.le_refl _) _
   have hB1:=Blk.alloc_new w.drew ((LPt.all (xs.take i)).toArray++Builtin.zeroCells ((.pointer none):Value).cells (xs.length+1-i)++Builtin.zeroCells ((.pointer none):Value).cells (q-(xs.length+1))) 152
   have hzc:∀n,(Builtin.zeroCells ((.pointer none):Value).cells n).toList.length=n*1:=fun n=>by
    have:((.pointer none):Value).cells.size=1:=by kernel_rfl
    simp [Builtin.zeroCells,this]
   generalize hl0:(LPt.all (xs.take i)).toArray++Builtin.zeroCells ((.pointer none):Value).cells (xs.length+1-i)++Builtin.zeroCells ((.pointer none):Value).cells (q-(xs.length+1))=l0 at hb1 hB1 ⊢
   have hl0':l0.toList=LPt.all (xs.take i)++((Builtin.zeroCells ((.pointer none):Value).cells (xs.length+1-i)).toList++(Builtin.zeroCells ((.pointer none):Value).cells (q-(xs.length+1))).toList):=by rw [←hl0];simp
   have hti:(LPt.all (xs.take i)).length=i*1:=by rw [LPt.all_length,List.length_take,Nat.min_eq_left hi];rfl
   have hl0l:l0.toList.length=q*1:=by
    rw [hl0',List.length_append,List.length_append,hzc,hzc,hti];omega
   generalize w.drew.alloc (.cells l0 152)=w1 at hb1 hB1 ⊢
   have hB1':Blk w1 w.heap.size l0.toList.toArray 152:=by simpa using hB1
   have hx1:=hx'.keep hb1
   have hg1:=hB.keep hb1
   refine copy_blk (o:=i*1) hB1' hst hsz (cs:=cx.toList) ?_ (cell_add (o:=0) hx1 fun j u hj=>by rw [Nat.zero_add];exact hj) (by rw [hxl,hl0l];omega) ?_ fun w2 hB2 f2=>⟨_,rfl,?_⟩
   ·rw [hxl,show Nat.min 1 (xs.length+1-i)=1 from (by simp only [Nat.min_def];split <;> omega)]
   ·rw [hcx];exact LPt.one x
   have hd2:Below w2.heap.size w2 w2.drew:=(Below.refl _ _).drew
   refine⟨fun w'=>Below w2.heap.size w2 w',hd2,inR_i64 (by omega) (by omega),by omega,by omega,by omega,by omega,by omega,by omega,?_⟩
   have e3:(((i:Nat):Int)+((1:Nat):Int)).toNat=i+1:=by omega
   simp only [e3,Int.toNat_natCast]
   have hrow2:w.heap.size≠g:=by omega
   have hg2:Blk w2.drew g (LPt.all xs++rest).toArray 152:=(f2.blk hg1 (fun e=>hrow2 e.symm))
   have hS3:SlA (some ⟨g,0,none⟩) c i 1=some ⟨g,i*1,none⟩:=by unfold SlA;rw [if_neg (by omega)];simp [Addr.add_mk]
   rw [hS3]
   have hfin:∀l3 rest3 w3,Blk w3 w.heap.size l3 152→l3.toList=LPt.all (xs.take i++x :: xs.drop i)++rest3→l3.toList.length=q*1→Fm (·=w.heap.size) w2.drew w3→R (.returned (.slice (some ⟨w.heap.size,0,none⟩) (xs.length+1) q)) w3:=by
    intro l3 rest3 w3 hB3 he3 hl3 f3
    have hln:(xs.take i++x :: xs.drop i).length=xs.length+1:=by simp;omega
    have hB3':Blk w3 w.heap.size (LPt.all (xs.take i++x :: xs.drop i)++rest3).toArray 152:=by rw [←he3];simpa using hB3
    have hO3:=Own.ofBlk (k:=0) (c:=q) hB3' (Nat.zero_le _) (by rw [hln];exact hge) (by omega) hcm (by rw [←he3];exact hl3)
    rw [hln] at hO3
    refine h (some ⟨w.heap.size,0,none⟩,xs.length+1,q) w3 hO3 ?_ (.inr (.inr ⟨w.heap.size,?_,Nat.le_refl _⟩))
    ·have F1:Fm (fun b=>rowOf (slV (some ⟨g,0,none⟩,xs.length,c))=some b) w w1:=.below hb1
     exact ((F1.trans' f2 fun b hb e=>by have e:b=w.heap.size:=e;omega).tr hd2).trans' f3 fun b hb e=>by have e:b=w.heap.size:=e;omega
    ·obtain⟨q',rfl⟩:∃q',q=q'+1:=⟨q-1,by omega⟩
     rfl
   have hl2l:(l0.toList.take (i*1)++cx.toList++l0.toList.drop (i*1+cx.toList.length)).length=q*1:=by
    simp only [List.length_append,List.length_take,List.length_drop,hl0l,hxl];omega
   have hl2p:l0.toList.take (i*1)++cx.toList=LPt.all (xs.take i++[x]):=by
    rw [LPt.all_append,LPt.all_one,←hcx,hl0',←hti,List.take_left]
   have hl2q:(l0.toList.take (i*1)++cx.toList++l0.toList.drop (i*1+cx.toList.length)).take ((i+1)*1)=LPt.all (xs.take i++[x]):=by
    rw [hl2p,List.take_left' (by rw [LPt.all_length];simp [hLn];omega)]
   generalize l0.toList.take (i*1)++cx.toList++l0.toList.drop (i*1+cx.toList.length)=l2 at hl2l hl2q hB2
   have hdl:(LPt.all (xs.drop i)).length=(xs.length-i)*1:=by rw [LPt.all_length,List.length_drop];rfl
   have hS4:SlA (some ⟨w.heap.size,0,none⟩) q (i+1) 1=some ⟨w.heap.size,(i+1)*1,none⟩∨(xs.length-i=0):=by
    rcases Nat.lt_or_ge (i+1) q with h4 | h4
    ·exact .inl (hSl _ h4)
    ·omega
   rcases hS4 with hS4 | hS4
   ·rw [hS4]
    have hB2':Blk w2.drew w.heap.size l2.toArray 152:=hB2
    refine copy_blk (o:=(i+1)*1) hB2' hst hsz (cs:=LPt.all (xs.drop i)) ?_ (cell_add (o:=i*1) hg2 fun j u hj=>?_) (by rw [hdl,hl2l];omega) (LPt.all_ones _) fun w3 hB3 f3=>⟨_,rfl,?_⟩
    ·rw [hdl,show Nat.min (xs.length-i) (xs.length+1-(i+1))=xs.length-i from (by simp only [Nat.min_def];split <;> omega)]
    ·have hjl:=(List.getElem?_eq_some_iff.1 hj).1
     rw [hdl] at hjl
     rw [List.getElem?_append_left (by omega)]
     rw [LPt.all_drop _ _ hi,List.getElem?_drop] at hj
     exact hj
    ·refine hfin _ (l2.drop ((i+1)*1+(LPt.all (xs.drop i)).length)) w3 hB3 ?_ ?_ f3
     ·rw [List.toList_toArray,hl2q]
      have:xs.take i++x :: xs.drop i=(xs.take i++[x])++xs.drop i:=by simp
      rw [this,LPt.all_append (xs.take i++[x]) (xs.drop i)]
     ·rw [List.toList_toArray,List.length_append,List.length_append,List.length_take,List.length_drop,hdl,hl2l];omega
   ·omega
  ·-- in place
   refine⟨inR_i64 (by omega) (by omega),by omega,by omega,by omega,inR_i64 (by omega) (by omega),by omega,by omega,by omega,?_⟩
   have e3:(((i:Nat):Int)+((1:Nat):Int)).toNat=i+1:=by omega
   have e4:(((xs.length:Nat):Int)+((1:Nat):Int)).toNat=xs.length+1:=by omega
   simp only [e3,e4,Int.toNat_natCast]
   have hS:∀j:Nat,j < c→SlA (some ⟨g,0,none⟩) c j 1=some ⟨g,j*1,none⟩:=fun j hj=>by
    unfold SlA;rw [if_neg (by omega)];simp [Addr.add_mk]
   rw [hS (i+1) (by omega),hS i (by omega)]
   have hov:∀la ca lb cb,(callFunc 187 #[.slice (some ⟨gx,0,none⟩) la ca,.slice (some ⟨g,(i+1)*1,none⟩) lb cb]).run Tryz.prog w=.ok (.value (.bool false)) w:=fun la ca lb cb=>by
    rw [run_callFunc_extern Tryz.func187 (by kernel_rfl) (by kernel_rfl) (by kernel_rfl) (e:=Extern.SlicesOverlaps.overlaps #[96,96] #[4]) (by kernel_rfl),
     Lib.run_overlaps_apart w 96 4 152 hst 1 (run_size hsz) ⟨gx,0,none⟩ ⟨g,(i+1)*1,none⟩ la ca lb cb (Ne.symm hgg) 152 152 cx.size (LPt.all xs++rest).length (by unfold Blk at hx;simp [World.shape?,hx]) (by unfold Blk at hB;simp [World.shape?,hB]) (by rw [hc3];omega) (hx.frozen 0) (hx.frozen _)]
    rfl
   refine⟨.bool false,w,hov _ _ _ _,false,rfl,?_⟩
   rw [Bool.not_false,Br_t]
   have hd2:Below w.heap.size w w.drew:=(Below.refl _ _).drew
   refine⟨fun w'=>True,trivial,inR_i64 (by omega) (by omega),by omega,by omega,by omega,by omega,by omega,by omega,?_⟩
   have hdl:(LPt.all (xs.drop i)).length=(xs.length-i)*1:=by rw [LPt.all_length,List.length_drop];rfl
   have hB1:Blk w.drew g (LPt.all xs++rest).toArray 152:=hB
   refine copy_blk (o:=(i+1)*1) hB1 hst hsz (cs:=LPt.all (xs.drop i)) ?_ (cell_add (o:=i*1) hB1 fun j u hj=>?_) (by rw [hdl,hc3];omega) (LPt.all_ones _) fun w2 hB2 f2=>⟨_,rfl,?_⟩
   ·rw [hdl,show Nat.min (xs.length+1-i) (xs.length+1-(i+1))=xs.length-i from (by simp only [Nat.min_def];split <;> omega)]
   ·have hjl:=(List.getElem?_eq_some_iff.1 hj).1
    rw [hdl] at hjl
    rw [List.getElem?_append_left (by omega)]
    rw [LPt.all_drop _ _ hi,List.getElem?_drop] at hj
    exact hj
   have hx2:Blk w2 gx cx.toList.toArray 152:=f2.blk (show Blk w.drew gx cx.toList.toArray 152 from hx') (fun e=>hgg e.symm)
   have hl2l:((LPt.all xs++rest).take ((i+1)*1)++LPt.all (xs.drop i)++(LPt.all xs++rest).drop ((i+1)*1+(LPt.all (xs.drop i)).length)).length=c*1:=by
    rw [List.length_append,List.length_append,List.length_take,List.length_drop,hdl,hc3];omega
   have hl2t:((LPt.all xs++rest).take ((i+1)*1)++LPt.all (xs.drop i)++(LPt.all xs++rest).drop ((i+1)*1+(LPt.all (xs.drop i)).length)).take (i*1)=LPt.all (xs.take i):=by
    rw [List.append_assoc,List.take_append_of_le_length (by rw [List.length_take,hc3];omega),List.take_take,Nat.min_eq_left (by omega),List.take_append_of_le_length (by omega),LPt.all_take];rfl
   have hl2d:∃r3,((LPt.all xs++rest).take ((i+1)*1)++LPt.all (xs.drop i)++(LPt.all xs++rest).drop ((i+1)*1+(LPt.all (xs.drop i)).length)).drop ((i+1)*1)=LPt.all (xs.drop i)++r3:=by
    refine⟨(LPt.all xs++rest).drop ((i+1)*1+(LPt.all (xs.drop i)).length),?_⟩
    rw [List.append_assoc,List.drop_left' (by rw [List.length_take,hc3];omega)]
   generalize (LPt.all xs++rest).take ((i+1)*1)++LPt.all (xs.drop i)++(LPt.all xs++rest).drop ((i+1)*1+(LPt.all (xs.drop i)).length)=l2 at hl2l hl2t hl2d hB2
   obtain⟨r3,hl2d⟩:=hl2d
   refine⟨by omega,by omega,by omega,?_⟩
   refine copy_blk (o:=i*1) hB2 hst hsz (cs:=cx.toList) ?_ (cell_add (o:=0) hx2 fun j u hj=>by rw [Nat.zero_add];exact hj) (by rw [hxl,hl2l];omega) ?_ fun w3 hB3 f3=>⟨_,rfl,?_⟩
   ·rw [hxl,show Nat.min 1 (xs.length+1-i)=1 from (by simp only [Nat.min_def];split <;> omega)]
   ·rw [hcx];exact LPt.one x
   have e5:i*1+cx.toList.length=(i+1)*1:=by rw [hxl];omega
   rw [hl2t,e5,hl2d,hcx] at hB3
   have hln:(xs.take i++x :: xs.drop i).length=xs.length+1:=by simp;omega
   have he3:LPt.all (xs.take i)++LPt.cells x++(LPt.all (xs.drop i)++r3)=LPt.all (xs.take i++x :: xs.drop i)++r3:=by
    have:xs.take i++x :: xs.drop i=xs.take i++([x]++xs.drop i):=by simp
    rw [this,LPt.all_append,LPt.all_append,LPt.all_one];simp
   rw [he3] at hB3
   have hl3l:(LPt.all (xs.take i++x :: xs.drop i)++r3).length=c*1:=by
    have h6:(l2.drop ((i+1)*1)).length=c*1-(i+1)*1:=by rw [List.length_drop,hl2l]
    rw [hl2d,List.length_append,hdl] at h6
    rw [List.length_append,LPt.all_length,hln,hLn]
    omega
   have hO3:=Own.ofBlk (k:=0) (c:=c) hB3 (Nat.zero_le _) (by rw [hln];omega) (by omega) hc2 hl3l
   rw [hln] at hO3
   refine h (some ⟨g,0,none⟩,xs.length+1,c) w3 hO3 ?_ (.inl ?_)
   ·have F2:Fm (fun b=>rowOf (slV (some ⟨g,0,none⟩,xs.length,c))=some b) w w2:=(Fm.below (w:=w) (w1:=w.drew) hd2).trans (f2.mono fun b _ e=>by have e:b=g:=e;rw [hrow,e])
    exact F2.trans (f3.mono fun b _ e=>by have e:b=g:=e;rw [hrow,e])
   ·obtain⟨c',rfl⟩:∃c',c=c'+1:=⟨c-1,by omega⟩
    rfl
set_option maxRecDepth 100000
def pb (bs:List Nat) (h:Nat):Nat:=bs.getD (h % 4294967296-1) 0
def ptrH (bs:List Nat) (h:Nat):Option Addr:=if h=0 then none else some ⟨pb bs h,0,none⟩
def pc (c:Nat):Prop:=c=1∨c=2∨c=3∨(8≤c∧c % 4≠3)
structure NodeR (w:World) (o:Nat→Nat) (bs:List Nat) (i b:Nat) (s:Sl) (a kv:Sv):Prop where
 blk:Blk w b (nodeC i s a (ptrH bs s.parent) kv) 202
 at1:Own LAt w 0 205 (slV a) s.attrs
 at2:∀x,rowOf (slV a)=some x→o x=10+4*i
 kd1:Own LPt w 0 152 (slV kv) (s.kids.map (pb bs))
 kd2:∀x,rowOf (slV kv)=some x→o x=9+4*i
def inN (n h:Nat):Prop:=1≤h % 4294967296∧h % 4294967296≤n
structure RngS (n:Nat) (s:Sl):Prop where
 gen:s.gen < 4294967296
 par:s.parent=0∨inN n s.parent
 kids:∀h∈s.kids,inN n h
 few:s.kids.length≤1048576
 atf:s.attrs.length≤1048576
structure Th where
 g:Nat
 t:TypeId
 tl:List Value
structure PS where
 D:Im
 bs:List Nat
 lv:Nat
 wn:Nat
 lo:Nat
def docC (nv rv:Sv) (lv wn lo:Nat) (tl:List Value):Array Value:=(slV nv :: slV rv :: .int .i64 (lv:Nat) :: .int .i64 (wn:Nat) :: .int .i64 (lo:Nat) :: tl).toArray
structure DocR (w:World) (o:Nat→Nat) (θ:Th) (S:PS) (nv rv:Sv):Prop where
 blk:Blk w θ.g (docC nv rv S.lv S.wn S.lo θ.tl) θ.t
 n1:Own LPt w 0 152 (slV nv) S.bs
 n2:∀x,rowOf (slV nv)=some x→o x=2
 r1:Own LPt w 0 152 (slV rv) (S.D.roots.map (pb S.bs))
 r2:∀x,rowOf (slV rv)=some x→o x=3
structure PM (w:World) (o:Nat→Nat) (θ:Th) (S:PS):Prop where
 col:o θ.g=1
 lt:∀b,o b≠0→b < w.heap.size
 len:S.bs.length=S.D.sl.length
 few:S.D.sl.length≤4096
 nc:∀(i b:Nat),S.bs[i]?=some b→o b=8+4*i
 doc:∃nv rv,DocR w o θ S nv rv
 nodes:∀(i b:Nat) (s:Sl),S.bs[i]?=some b→S.D.sl[i]?=some s→∃a kv,NodeR w o S.bs i b s a kv
 rng:∀s∈S.D.sl,RngS S.D.sl.length s
 rts:(∀h∈S.D.roots,inN S.D.sl.length h)∧S.D.roots.length≤1048576
 cnt:S.lv≤4096∧S.wn≤4096∧S.lo≤4096
structure EvC (C:Nat→Prop) (w:World) (o:Nat→Nat) (w1:World) (o1:Nat→Nat):Prop where
 fm:Fm (fun b=>C (o b)) w w1
 same:∀b,o b≠0→o1 b=o b
 old:∀b,b < w.heap.size→o b=0→o1 b=0
 new:∀b,o1 b≠0→o b≠0∨pc (o1 b)
abbrev EvP:=EvC pc
section
variable {w w1 w2:World}{o o1 o2:Nat→Nat}{θ:Th}{S:PS}{M:Nat→Prop}{bs:List Nat}
theorem EvC.refl {C:Nat→Prop}:EvC C w o w o:=⟨Fm.refl _ _,fun _ _=>rfl,fun _ _ h=>h,fun _ h=>.inl h⟩
theorem EvC.mono {C C':Nat→Prop} (h:EvC C w o w1 o1) (hc:∀c,C c→C' c):EvC C' w o w1 o1:=⟨h.fm.mono fun b _ k=>hc _ k,h.same,h.old,h.new⟩
theorem EvC.trans {C C':Nat→Prop} (h:EvC C w o w1 o1) (h0:¬C 0) (hlt:∀b,o b≠0→b < w.heap.size) (hc':∀b,b < w.heap.size→C' (o b)→C (o b)) (k:EvC C' w1 o1 w2 o2):EvC C w o w2 o2:=by
 refine⟨⟨k.fm.os.trans h.fm.os,k.fm.tape.trans h.fm.tape,k.fm.output.trans h.fm.output,Nat.le_trans h.fm.size k.fm.size,fun b hb hm=>?_⟩,fun b hb=>?_,fun b hb h1=>k.old b (Nat.lt_of_lt_of_le hb h.fm.size) (h.old b hb h1),fun b hb=>?_⟩
 ·rw [k.fm.block b (Nat.lt_of_lt_of_le hb h.fm.size) fun e=>?_]
  ·exact h.fm.block b hb hm
  ·by_cases h1:o b=0
   ·rw [h.old b hb h1] at e
    exact hm (hc' b hb (by rw [h1];exact e))
   ·rw [h.same b h1] at e
    exact hm (hc' b hb e)
 ·rw [k.same b (by rw [h.same b hb];exact hb),h.same b hb]
 ·rcases k.new b hb with h1 | h1
  ·rcases h.new b h1 with h2 | h2
   ·exact .inl h2
   ·rw [k.same b h1];exact .inr h2
  ·exact .inr h1
theorem EvP.trans (h:EvP w o w1 o1) (k:EvP w1 o1 w2 o2):EvP w o w2 o2:=by
 refine⟨⟨k.fm.os.trans h.fm.os,k.fm.tape.trans h.fm.tape,k.fm.output.trans h.fm.output,Nat.le_trans h.fm.size k.fm.size,fun b hb hm=>?_⟩,fun b hb=>?_,fun b hb h1=>k.old b (Nat.lt_of_lt_of_le hb h.fm.size) (h.old b hb h1),fun b hb=>?_⟩
 ·rw [k.fm.block b (Nat.lt_of_lt_of_le hb h.fm.size) fun e=>?_]
  ·exact h.fm.block b hb hm
  ·by_cases h1:o b=0
   ·rw [h.old b hb h1] at e;exact hm (by rw [h1];exact e)
   ·rw [h.same b h1] at e;exact hm e
 ·rw [k.same b (by rw [h.same b hb];exact hb),h.same b hb]
 ·rcases k.new b hb with h1 | h1
  ·rcases h.new b h1 with h2 | h2
   ·exact .inl h2
   ·rw [k.same b h1];exact .inr h2
  ·exact .inr h1
theorem EvC.below {C:Nat→Prop} (hb:Below w.heap.size w w1):EvC C w o w1 o:=⟨.below hb,fun _ _=>rfl,fun _ _ h=>h,fun _ h=>.inl h⟩
theorem not_pc0:¬pc 0:=by rintro (h3 | h3 | h3 | h3) <;> omega
def wc (o:Nat→Nat) (w:World):World:=wOnly (fun b=>Nat.beq (o b) 0) w
theorem EvP.sub (h:EvP w o w1 o1):Sub (wc o w) (wc o1 w1) :=
 sub_only (fun b hb h1=>by
  have h2:=Nat.eq_of_beq_eq_true h1
  rw [h.old b hb h2];rfl) fun b hb h1=>by
  have h2:=Nat.eq_of_beq_eq_true h1
  exact h.fm.block b hb (by rw [h2];exact not_pc0)
theorem NodeR.keep {i b:Nat}{s:Sl}{a kv:Sv} (h:NodeR w o bs i b s a kv) (hb:o b=8+4*i) (hf:Fm M w w1) (hm:∀x,(o x=8+4*i∨o x=9+4*i∨o x=10+4*i)→¬M x) (ho:∀x,(o x=9+4*i∨o x=10+4*i)→o1 x=o x):NodeR w1 o1 bs i b s a kv :=
 ⟨hf.blk h.blk (hm b (.inl hb)),own_fm h.at1 hf fun x hx=>hm x (.inr (.inr (h.at2 x hx))),fun x hx=>by rw [ho x (.inr (h.at2 x hx))];exact h.at2 x hx,
  own_fm h.kd1 hf fun x hx=>hm x (.inr (.inl (h.kd2 x hx))),fun x hx=>by rw [ho x (.inl (h.kd2 x hx))];exact h.kd2 x hx⟩
theorem DocR.keep {nv rv:Sv} (h:DocR w o θ S nv rv) (hc:o θ.g=1) (hf:Fm M w w1) (hm:∀x,(o x=1∨o x=2∨o x=3)→¬M x) (ho:∀x,(o x=2∨o x=3)→o1 x=o x):DocR w1 o1 θ S nv rv :=
 ⟨hf.blk h.blk (hm _ (.inl hc)),own_fm h.n1 hf fun x hx=>hm x (.inr (.inl (h.n2 x hx))),fun x hx=>by rw [ho x (.inl (h.n2 x hx))];exact h.n2 x hx,
  own_fm h.r1 hf fun x hx=>hm x (.inr (.inr (h.r2 x hx))),fun x hx=>by rw [ho x (.inr (h.r2 x hx))];exact h.r2 x hx⟩
theorem pc_nd (i:Nat):pc (8+4*i)∧pc (9+4*i)∧pc (10+4*i):=by unfold pc;omega
theorem PM.keep (h:PM w o θ S) (hf:Fm M w w1) (hm:∀b,pc (o b)→¬M b) (ho:∀b,pc (o b)→o1 b=o b) (hl:∀b,o1 b≠0→b < w1.heap.size):PM w1 o1 θ S:=by
 have p1:pc 1:=.inl rfl
 have p2:pc 2:=.inr (.inl rfl)
 have p3:pc 3:=.inr (.inr (.inl rfl))
 obtain⟨nv,rv,hd⟩:=h.doc
 refine⟨by rw [ho _ (by rw [h.col];exact p1)];exact h.col,hl,h.len,h.few,fun i b hb=>?_,⟨nv,rv,hd.keep h.col hf (fun x hx=>hm x ?_) (fun x hx=>ho x ?_)⟩,fun i b s hb hs=>?_,h.rng,h.rts,h.cnt⟩
 ·have:=h.nc i b hb
  rw [ho b (by rw [this];exact (pc_nd i).1)];exact this
 ·rcases hx with e | e | e <;> rw [e] <;> assumption
 ·rcases hx with e | e <;> rw [e] <;> assumption
 ·obtain⟨a,kv,hn⟩:=h.nodes i b s hb hs
  obtain⟨q1,q2,q3⟩:=pc_nd i
  refine⟨a,kv,hn.keep (h.nc i b hb) hf (fun x hx=>hm x ?_) (fun x hx=>ho x ?_)⟩
  ·rcases hx with e | e | e <;> rw [e] <;> assumption
  ·rcases hx with e | e <;> rw [e] <;> assumption
theorem PM.below (h:PM w o θ S) (hb:Below w.heap.size w w1):PM w1 o θ S :=
 h.keep (M:=fun _=>False) (.below hb) (fun _ _ h=>h) (fun _ _=>rfl) fun b hb2=>Nat.lt_of_lt_of_le (h.lt b hb2) hb.size
def cl (o:Nat→Nat) (r:Option Nat) (c:Nat):Nat→Nat:=fun x=>if r=some x∧o x=0 then c else o x
theorem cl_old {r:Option Nat}{c x:Nat} (h:o x≠0):cl o r c x=o x:=by unfold cl;rw [if_neg (fun e=>h e.2)]
theorem cl_none {c:Nat}:cl o none c=o:=funext fun x=>by unfold cl;rw [if_neg (fun e=>by cases e.1)]
theorem cl_row {r:Option Nat}{c x:Nat} (h:r=some x) (hx:o x=0∨o x=c):cl o r c x=c:=by
 unfold cl
 rcases hx with hx | hx
 ·rw [if_pos ⟨h,hx⟩]
 ·split
  ·rfl
  ·exact hx
def PS.setS (S:PS) (i:Nat) (s:Sl):PS:={ S with D:={ S.D with sl:=S.D.sl.set i s } }
theorem nodup_col (h:PM w o θ S) {i j b:Nat} (hi:S.bs[i]?=some b) (hj:S.bs[j]?=some b):i=j:=by
 have h1:=h.nc i b hi
 have h2:=h.nc j b hj
 omega
theorem PM.setNode (h:PM w o θ S) {i b:Nat}{s s':Sl}{a kv:Sv} (hb:S.bs[i]?=some b) (hs:S.D.sl[i]?=some s) (hf:Fm M w w1) (hM:∀x,M x→(o x=8+4*i∨o x=9+4*i∨o x=10+4*i)∨w.heap.size≤x)
  {r:Option Nat}{c:Nat} (hc:c=9+4*i∨c=10+4*i) (hr:∀x,r=some x→(o x=0→w.heap.size≤x)∧x < w1.heap.size) (hN:NodeR w1 (cl o r c) S.bs i b s' a kv) (hg:RngS S.D.sl.length s') :
  PM w1 (cl o r c) θ (S.setS i s')∧EvC (fun c=>c=8+4*i∨c=9+4*i∨c=10+4*i) w o w1 (cl o r c):=by
 have hlt:i < S.D.sl.length:=(List.getElem?_eq_some_iff.1 hs).1
 have hold:∀x,o x≠0→cl o r c x=o x:=fun x hx=>cl_old hx
 have hMc:∀x,M x→x < w.heap.size→(o x=8+4*i∨o x=9+4*i∨o x=10+4*i):=fun x hx hl=>(hM x hx).resolve_right (by omega)
 have hMn:∀x,o x≠0→(o x≠8+4*i∧o x≠9+4*i∧o x≠10+4*i)→¬M x:=fun x h0 hx hm=>by
  have:=hMc x hm (h.lt x h0);omega
 obtain⟨nv,rv,hd⟩:=h.doc
 refine⟨⟨by rw [hold _ (by rw [h.col];decide)];exact h.col,fun x hx=>?_,by simpa [PS.setS] using h.len,by simpa [PS.setS] using h.few,fun j b' hb'=>?_,⟨nv,rv,?_⟩,fun j b' s2 hb' hs2=>?_,fun s2 hs2=>?_,by simpa [PS.setS] using h.rts,h.cnt⟩,⟨?_,hold,fun x hx hp=>?_,fun x hx=>?_⟩⟩
 ·unfold cl at hx
  split at hx
  ·rename_i e;exact (hr x e.1).2
  ·exact Nat.lt_of_lt_of_le (h.lt x hx) hf.size
 ·rw [hold _ (by rw [h.nc j b' hb'];omega)];exact h.nc j b' hb'
 ·have k:=hd.keep (o1:=cl o r c) h.col hf (fun x hx=>hMn x (by omega) (by omega)) fun x hx=>hold x (by omega)
  exact⟨k.blk,k.n1,k.n2,k.r1,k.r2⟩
 ·by_cases e:i=j
  ·subst e
   have hb':S.bs[i]?=some b':=hb'
   rw [hb] at hb';cases hb'
   have hs2:(S.D.sl.set i s')[i]?=some s2:=hs2
   rw [List.getElem?_set_self hlt] at hs2;cases hs2
   exact⟨a,kv,hN⟩
  ·have hs2:(S.D.sl.set i s')[j]?=some s2:=hs2
   rw [List.getElem?_set_ne e] at hs2
   obtain⟨a',kv',hn⟩:=h.nodes j b' s2 hb' hs2
   exact⟨a',kv',hn.keep (h.nc j b' hb') hf (fun x hx=>hMn x (by omega) (by omega)) fun x hx=>hold x (by omega)⟩
 ·have e:(S.setS i s').D.sl.length=S.D.sl.length:=by simp [PS.setS]
  rw [e]
  rcases List.mem_or_eq_of_mem_set hs2 with h3 | h3
  ·exact h.rng s2 h3
  ·rw [h3];exact hg
 ·exact⟨hf.os,hf.tape,hf.output,hf.size,fun x hx hp=>hf.block x hx fun hm=>hp (hMc x hm hx)⟩
 ·unfold cl
  rw [if_neg]
  ·exact hp
  ·rintro ⟨e1,e2⟩
   have:=(hr x e1).1 e2;omega
 ·obtain⟨q1,q2,q3⟩:=pc_nd i
  unfold cl at hx ⊢
  split
  ·rcases hc with e | e <;> rw [e] <;> exact .inr (by assumption)
  ·rename_i e
   rw [if_neg e] at hx
   exact .inl hx
end
set_option maxRecDepth 100000
structure RDr (w:World) (g:Nat) (D:Im) (vs vr:Sv):Prop where
 c0:w.cell? ⟨g,0,none⟩=some (.slice vs.1 vs.2.1 vs.2.2)
 c1:w.cell? ⟨g,1,none⟩=some (.slice vr.1 vr.2.1 vr.2.2)
 im:RIm w D vs vr
theorem inR_u64 {z:Int} (h0:0≤z) (h1:z≤18446744073709551615):InR .u64 z:=⟨by simpa [IntKind.min,IntKind.signed,IntKind.bits] using h0,by simpa [IntKind.max,IntKind.signed,IntKind.bits] using h1⟩
section
variable {w w1:World}{g:Nat}{D:Im}{vs vr:Sv}
theorem RDr.sub (hs:Sub w w1) (h:RDr w g D vs vr):RDr w1 g D vs vr:=⟨hs.cell h.c0,hs.cell h.c1,h.im.sub hs⟩
theorem RDr.keep (h:RDr w g D vs vr) (hb:Below w.heap.size w w1):RDr w1 g D vs vr:=h.sub (sub_below hb)
theorem RDr.slot (h:RDr w g D vs vr) {i:Int}{k:Nat} (hi:i=k) (hk:k < D.sl.length) {K:Addr→Prop}
  (hK:∀b o e,RSl w D.sl[k] e→w.cell? ⟨b,o,none⟩=some (.int .u32 (D.sl[k].gen:Nat))→w.cell? ⟨b,o+1,none⟩=some (.bool D.sl[k].live)→w.cell? ⟨b,o+2,none⟩=some (.int .i64 D.sl[k].kind) →
   w.cell? ⟨b,o+6,none⟩=some (.int .u64 (D.sl[k].parent:Nat))→w.cell? ⟨b,o+7,none⟩=some (.slice e.kids.1 e.kids.2.1 e.kids.2.2)→K ⟨b,o,none⟩):IdxA vs.1 vs.2.1 i 8 K:=by
 obtain⟨es,hn,hr,hes⟩:=h.im.row
 have hel:=hes.len
 refine hr.s8 hn hi (k:=k) (by omega) fun b o c0 c1 c2 c3 c4 c5 c6 c7=>?_
 have he:=hes.get k hk (by omega)
 exact hK b o es[k] he (by rw [c0,he.gen]) (by rw [c1,he.live]) (by rw [c2,he.kind]) (by rw [c6,he.parent]) c7
theorem RDr.n (h:RDr w g D vs vr):vs.2.1=D.sl.length:=by
 obtain⟨es,hn,hr,hes⟩:=h.im.row
 rw [hn,hes.len]
theorem handle_calls (h:RDr w g D vs vr) {i:Nat} (hi:i < D.sl.length) {R:Ending→World→Prop} (hK:R (.returned (.int .u64 (hnd D.sl[i].gen i:Nat))) w):Calls Tryz.prog 130 #[.pointer (some ⟨g,0,none⟩),.int .i64 (i:Nat)] w R:=by
 have hlen:=h.im.len
 have hg:=(h.im.ok _ (List.getElem_mem hi)).gen
 refine ok130 (some ⟨g,0,none⟩) i ?_
 unfold F130
 simp only [NonNil_some,h.c0,lds]
 refine h.slot rfl hi fun b o e he c0 c1 c2 c6 c7=>?_
 simp only [c0,lds]
 have e1:((D.sl[i].gen:Nat):Int)*(2 ^ (min ((32:Int)).toNat 64))=((D.sl[i].gen*4294967296:Nat):Int):=by simp
 have e2:((i:Nat):Int)+1=((i+1:Nat):Int):=by omega
 rw [e1,e2,bOr_hnd hg (by omega)]
 exact⟨inR_u64 (by omega) (by omega),inR_u64 (by omega) (by omega),inR_i64 (by omega) (by omega),inR_u64 (by omega) (by omega),hK⟩
def atI (o:Option Nat):Int:=match o with | some k=>k | none=>-1
theorem at_calls' (h:RDr w g D vs vr) {x:Nat} (hx:x < 18446744073709551616) {R:Ending→World→Prop} (hK:R (.returned (.int .i64 (atI (atF D.sl x)))) w):Calls Tryz.prog 82 #[.pointer (some ⟨g,0,none⟩),.int .u64 (x:Nat)] w R:=by
 have hlen:=h.im.len
 have hn:=h.n
 refine ok82 (some ⟨g,0,none⟩) x ?_
 unfold F82
 have hm:((x:Nat):Int).tmod 4294967296=((x % 4294967296:Nat):Int):=by rw [Int.tmod_eq_emod_of_nonneg (by omega)];rfl
 rw [hm]
 have hlt:x % 4294967296 < 4294967296:=Nat.mod_lt _ (by decide)
 unfold atF at hK
 refine⟨inR_i64 (by omega) (by omega),inR_i64 (by omega) (by omega),fun w'=>w=w'∧atF D.sl x=some (x % 4294967296-1)∧0 < x % 4294967296,?_,?_⟩
 ·rintro _ ⟨rfl,ha,h0⟩
  unfold F82_j4
  unfold atF at ha
  rw [ha] at hK
  rw [hm,show ((x % 4294967296:Nat):Int)-1=((x % 4294967296-1:Nat):Int) by omega]
  exact hK
 ·refine brd (fun h0=>?_) (fun h0=>?_)
  ·rw [if_pos (by omega)] at hK;exact hK
  rw [if_neg (by omega)] at hK
  simp only [NonNil_some,h.c0,lds]
  have e1:((x % 4294967296:Nat):Int)-1=((x % 4294967296-1:Nat):Int):=by omega
  have hpos:0 < x % 4294967296:=by omega
  refine brd (fun h1=>?_) (fun h1=>?_)
  ·rw [List.getElem?_eq_none (by omega)] at hK;exact hK
  have hk:x % 4294967296-1 < D.sl.length:=by omega
  rw [List.getElem?_eq_getElem hk] at hK
  simp only at hK
  refine h.slot e1 hk fun b o e he c0 c1 c2 c6 c7=>?_
  simp only [Addr.add_mk,c1,lds]
  rw [brnot]
  refine br (fun hl=>?_) (fun hl=>?_)
  ·rw [e1]
   refine handle_calls h hk ⟨_,rfl,?_⟩
   refine brn (fun hne=>?_) (fun he=>?_)
   ·rw [if_neg (by rintro ⟨-,h3⟩;exact hne (by rw [h3]))] at hK
    exact hK
   ·have h3:hnd D.sl[x % 4294967296-1].gen (x % 4294967296-1)=x:=by omega
    refine⟨rfl,?_,hpos⟩
    unfold atF
    rw [if_neg (by omega),List.getElem?_eq_getElem hk]
    simp only
    rw [if_pos ⟨hl,h3⟩]
  ·rw [if_neg (by rintro ⟨h3,-⟩;rw [hl] at h3;cases h3)] at hK
   exact hK
theorem liveN_take (l:List Sl) {k:Nat} (h:k < l.length):liveN (l.take (k+1))=liveN (l.take k)+if l[k].live then 1 else 0:=by
 unfold liveN
 rw [List.take_succ_eq_append_getElem h,List.filter_append,List.length_append]
 congr 1
 cases hl:l[k].live <;> simp [hl]
end
set_option maxRecDepth 100000
structure PRd (w:World) (dg:Nat) (sl:List Sl) (bs:List Nat):Prop where
 len:bs.length=sl.length
 few:sl.length≤1048576
 row:∃A c,w.cell? ⟨dg,0,none⟩=some (.slice A bs.length c)∧Rd LPt w A c bs
 c0:∀i (h:i < bs.length),w.cell? ⟨bs[i],0,none⟩=some (.int .u32 (i+1:Nat))
 c1:∀i (h:i < bs.length) (h':i < sl.length),w.cell? ⟨bs[i],1,none⟩=some (.int .u32 (sl[i].gen:Nat))
 c2:∀i (h:i < bs.length) (h':i < sl.length),w.cell? ⟨bs[i],2,none⟩=some (.bool sl[i].live)
 gen:∀s∈sl,s.gen < 4294967296
section
variable {w w1:World}{dg:Nat}{sl:List Sl}{bs:List Nat}
theorem PRd.sub (hs:Sub w w1) (h:PRd w dg sl bs):PRd w1 dg sl bs:=by
 obtain⟨A,c,h1,h2⟩:=h.row
 exact⟨h.len,h.few,⟨A,c,hs.cell h1,hs.rd h2⟩,fun i h'=>hs.cell (h.c0 i h'),fun i h' h2=>hs.cell (h.c1 i h' h2),fun i h' h2=>hs.cell (h.c2 i h' h2),h.gen⟩
theorem PRd.keep (h:PRd w dg sl bs) (hb:Below w.heap.size w w1):PRd w1 dg sl bs:=h.sub (sub_below hb)
theorem hndP_calls (h:PRd w dg sl bs) {i:Nat} (hi:i < bs.length) (hi':i < sl.length) {R:Ending→World→Prop} (hK:∀w',Below w.heap.size w w'→R (.returned (.int .u64 (hnd sl[i].gen i:Nat))) w') :
  Calls Tryz.prog 111 #[.pointer (some ⟨bs[i],0,none⟩)] w R:=by
 have hfew:=h.few
 have hg:=h.gen _ (List.getElem_mem hi')
 refine ok111 (some ⟨bs[i],0,none⟩) ?_
 unfold F111
 rw [show (some (⟨bs[i],0,none⟩:Addr)).isNone=false from rfl,Br_f]
 refine dr fun w2 hb2 _=>?_
 have h2:=h.keep hb2
 simp only [NonNil_some,Addr.add_mk,Nat.zero_add,h2.c0 i hi,h2.c1 i hi hi',lds]
 have e1:((sl[i].gen:Nat):Int)*(2 ^ (min ((32:Int)).toNat 64))=((sl[i].gen*4294967296:Nat):Int):=by simp
 rw [e1,bOr_hnd hg (by omega)]
 exact⟨inR_u64 (by omega) (by omega),inR_u64 (by omega) (by omega),inR_u64 (by omega) (by omega),hK w2 hb2⟩
theorem hndN_calls {R:Ending→World→Prop} (hK:R (.returned (.int .u64 0)) w):Calls Tryz.prog 111 #[.pointer none] w R:=by
 refine ok111 none ?_
 unfold F111
 rw [show (none:Option Addr).isNone=true from rfl,Br_t]
 exact hK
def ptrN (bs:List Nat) (o:Option Nat):Option Addr:=match o with | some k=>(bs[k]?).map fun b=>⟨b,0,none⟩ | none=>none
theorem ptrN_some {k:Nat} (h:k < bs.length):ptrN bs (some k)=some ⟨bs[k],0,none⟩:=by
 unfold ptrN;simp only [List.getElem?_eq_getElem h,Option.map_some]
theorem atP_calls (h:PRd w dg sl bs) {x:Nat} (hx:x < 18446744073709551616) {R:Ending→World→Prop} (hK:∀w',Below w.heap.size w w'→R (.returned (.pointer (ptrN bs (atF sl x)))) w') :
  Calls Tryz.prog 65 #[.pointer (some ⟨dg,0,none⟩),.int .u64 (x:Nat)] w R:=by
 have hfew:=h.few
 have hbl:=h.len
 obtain⟨A,c,h1,h2⟩:=h.row
 refine ok65 (some ⟨dg,0,none⟩) x ?_
 unfold F65
 rw [bAnd_low hx]
 have H:=hK w (Below.refl _ _)
 refine⟨fun w'=>w=w'∧0 < x % 4294967296∧x % 4294967296≤bs.length,?_,?_⟩
 ·rintro _ ⟨rfl,hp,hle⟩
  unfold F65_j4
  rw [bAnd_low hx]
  simp only [NonNil_some,h1,lds]
  have hk:x % 4294967296-1 < bs.length:=by omega
  have hk':x % 4294967296-1 < sl.length:=by omega
  have e1:((x % 4294967296:Nat):Int)-1=((x % 4294967296-1:Nat):Int):=by omega
  refine⟨inR_u64 (by omega) (by omega),?_⟩
  refine h2.pt rfl e1 hk fun b o c0=>?_
  simp only [c0,lds]
  have hat:atF sl x=if sl[x % 4294967296-1].live=true∧hnd sl[x % 4294967296-1].gen (x % 4294967296-1)=x then some (x % 4294967296-1) else none:=by
   unfold atF;rw [if_neg (by omega),List.getElem?_eq_getElem hk']
  refine⟨fun w'=>Below w.heap.size w w'∧atF sl x=some (x % 4294967296-1),?_,?_⟩
  ·rintro w' ⟨hb,ha⟩
   unfold F65_j7
   have H:=hK w' hb
   rw [ha,ptrN_some hk] at H;exact H
  ·simp only [NonNil_some,Addr.add_mk,Nat.zero_add,h.c2 _ hk hk',lds]
   rw [brnot]
   refine br (fun hl=>?_) (fun hl=>?_)
   ·refine hndP_calls h hk hk' fun w' hb=>⟨_,rfl,?_⟩
    refine brn (fun hne=>?_) (fun he=>⟨hb,by rw [hat,if_pos ⟨hl,by omega⟩]⟩)
    have H:=hK w' hb
    rw [hat,if_neg (by rintro ⟨-,h3⟩;exact hne (by rw [h3]))] at H
    exact H
   ·rw [hat,if_neg (by rintro ⟨h3,-⟩;rw [hl] at h3;cases h3)] at H
    exact H
 ·refine bre (fun h0=>?_) (fun h0=>?_)
  ·have:atF sl x=none:=by unfold atF;rw [if_pos (by omega)]
   rw [this] at H;exact H
  ·simp only [NonNil_some,h1,lds]
   refine⟨inR_u64 (by omega) (by omega),?_⟩
   refine brd (fun hgt=>?_) (fun hle=>⟨trivial,by omega,by omega⟩)
   have:atF sl x=none:=by unfold atF;rw [if_neg (by omega),List.getElem?_eq_none (by omega)]
   rw [this] at H;exact H
end
set_option maxRecDepth 100000
section
variable {w w1 w2:World}{o o1 o2:Nat→Nat}{θ:Th}{S:PS}{M:Nat→Prop}{bs:List Nat}
theorem PM.setDoc (h:PM w o θ S) {nv rv:Sv}{ro:List Nat}{lv wn lo:Nat} (hf:Fm M w w1) (hM:∀x,M x→(o x=1∨o x=2∨o x=3)∨w.heap.size≤x)
  {r:Option Nat}{c:Nat} (hc:c=2∨c=3) (hr:∀x,r=some x→(o x=0→w.heap.size≤x)∧x < w1.heap.size) (hN:DocR w1 (cl o r c) θ { S with D:={ S.D with roots:=ro },lv:=lv,wn:=wn,lo:=lo } nv rv)
  (hro:(∀h∈ro,inN S.D.sl.length h)∧ro.length≤1048576) (hcn:lv≤4096∧wn≤4096∧lo≤4096) :
  PM w1 (cl o r c) θ { S with D:={ S.D with roots:=ro },lv:=lv,wn:=wn,lo:=lo }∧EvC (fun c=>c=1∨c=2∨c=3) w o w1 (cl o r c):=by
 have hold:∀x,o x≠0→cl o r c x=o x:=fun x hx=>cl_old hx
 have hMc:∀x,M x→x < w.heap.size→(o x=1∨o x=2∨o x=3):=fun x hx hl=>(hM x hx).resolve_right (by omega)
 have hMn:∀x,o x≠0→(o x≠1∧o x≠2∧o x≠3)→¬M x:=fun x h0 hx hm=>by
  have:=hMc x hm (h.lt x h0);omega
 refine⟨⟨by rw [hold _ (by rw [h.col];decide)];exact h.col,fun x hx=>?_,h.len,h.few,fun j b' hb'=>?_,⟨nv,rv,hN⟩,fun j b' s2 hb' hs2=>?_,h.rng,hro,hcn⟩,⟨?_,hold,fun x hx hp=>?_,fun x hx=>?_⟩⟩
 ·unfold cl at hx
  split at hx
  ·rename_i e;exact (hr x e.1).2
  ·exact Nat.lt_of_lt_of_le (h.lt x hx) hf.size
 ·rw [hold _ (by rw [h.nc j b' hb'];omega)];exact h.nc j b' hb'
 ·obtain⟨a',kv',hn⟩:=h.nodes j b' s2 hb' hs2
  exact⟨a',kv',hn.keep (h.nc j b' hb') hf (fun x hx=>hMn x (by omega) (by omega)) fun x hx=>hold x (by omega)⟩
 ·exact⟨hf.os,hf.tape,hf.output,hf.size,fun x hx hp=>hf.block x hx fun hm=>hp (hMc x hm hx)⟩
 ·unfold cl
  rw [if_neg]
  ·exact hp
  ·rintro ⟨e1,e2⟩
   have:=(hr x e1).1 e2;omega
 ·unfold cl at hx ⊢
  split
  ·rcases hc with e | e <;> rw [e]
   ·exact .inr (.inr (.inl rfl))
   ·exact .inr (.inr (.inr (.inl rfl)))
  ·rename_i e
   rw [if_neg e] at hx
   exact .inl hx
theorem PM.cells (h:PM w o θ S):(∃v:Sv,w.cell? ⟨θ.g,0,none⟩=some (slV v)∧Own LPt w 0 152 (slV v) S.bs∧∀x,rowOf (slV v)=some x→o x=2)∧w.cell? ⟨θ.g,2,none⟩=some (.int .i64 (S.lv:Nat))∧w.cell? ⟨θ.g,3,none⟩=some (.int .i64 (S.wn:Nat))∧w.cell? ⟨θ.g,4,none⟩=some (.int .i64 (S.lo:Nat)):=by
 obtain⟨nv,rv,hd⟩:=h.doc
 exact⟨⟨nv,by rw [hd.blk.cell];rfl,hd.n1,hd.n2⟩,by rw [hd.blk.cell];rfl,by rw [hd.blk.cell];rfl,by rw [hd.blk.cell];rfl⟩
theorem doc_set2 {nv rv:Sv}{lv wn lo:Nat}{tl:List Value} (x:Nat):(docC nv rv lv wn lo tl).setIfInBounds 2 (.int .i64 (x:Nat))=docC nv rv x wn lo tl:=by simp [docC]
theorem doc_set3 {nv rv:Sv}{lv wn lo:Nat}{tl:List Value} (x:Nat):(docC nv rv lv wn lo tl).setIfInBounds 3 (.int .i64 (x:Nat))=docC nv rv lv x lo tl:=by simp [docC]
theorem doc_set4 {nv rv:Sv}{lv wn lo:Nat}{tl:List Value} (x:Nat):(docC nv rv lv wn lo tl).setIfInBounds 4 (.int .i64 (x:Nat))=docC nv rv lv wn x tl:=by simp [docC]
theorem doc_set1 {nv rv v:Sv}{lv wn lo:Nat}{tl:List Value}:(docC nv rv lv wn lo tl).setIfInBounds 1 (slV v)=docC nv v lv wn lo tl:=by simp [docC]
theorem doc_set0 {nv rv v:Sv}{lv wn lo:Nat}{tl:List Value}:(docC nv rv lv wn lo tl).setIfInBounds 0 (slV v)=docC v rv lv wn lo tl:=by simp [docC]
theorem doc_size {nv rv:Sv}{lv wn lo:Nat}{tl:List Value}:5≤(docC nv rv lv wn lo tl).size:=by simp [docC]
theorem PM.stC (h:PM w o θ S) {j:Nat}{v:Value}{lv wn lo:Nat} (hcn:lv≤4096∧wn≤4096∧lo≤4096) (hj:j < 5) (he:∀nv rv,(docC nv rv S.lv S.wn S.lo θ.tl).setIfInBounds j v=docC nv rv lv wn lo θ.tl) {K:World→Prop}
  (hK:∀w1,PM w1 o θ { S with lv:=lv,wn:=wn,lo:=lo }→EvC (fun c=>c=1∨c=2∨c=3) w o w1 o→K w1):St w ⟨θ.g,j,none⟩ v K:=by
 obtain⟨nv,rv,hd⟩:=h.doc
 refine st_blk hd.blk (Nat.lt_of_lt_of_le hj doc_size) fun w1 b1 f1=>?_
 rw [he] at b1
 have hcol:=h.col
 have hd1:DocR w1 o θ { S with lv:=lv,wn:=wn,lo:=lo } nv rv:=⟨b1,
  own_fm hd.n1 f1 fun x hx e=>by have e:x=θ.g:=e;have:=hd.n2 x hx;rw [e,hcol] at this;omega,hd.n2,
  own_fm hd.r1 f1 fun x hx e=>by have e:x=θ.g:=e;have:=hd.r2 x hx;rw [e,hcol] at this;omega,hd.r2⟩
 have:=h.setDoc (r:=none) (c:=2) (ro:=S.D.roots) (nv:=nv) (rv:=rv) (lv:=lv) (wn:=wn) (lo:=lo) f1 (fun x hx=>.inl (.inl (by have e:x=θ.g:=hx;rw [e];exact hcol))) (.inl rfl) (fun x hx=>by cases hx) (by rw [cl_none];exact hd1) h.rts hcn
 rw [cl_none] at this
 exact hK w1 this.1 this.2
theorem PM.stLive (h:PM w o θ S) (x:Nat) (hx:x≤4096) {K:World→Prop} (hK:∀w1,PM w1 o θ { S with lv:=x }→EvC (fun c=>c=1∨c=2∨c=3) w o w1 o→K w1):St w ⟨θ.g,2,none⟩ (.int .i64 (x:Nat)) K :=
 h.stC ⟨hx,h.cnt.2.1,h.cnt.2.2⟩ (by omega) (fun _ _=>doc_set2 x) hK
theorem PM.stWorn (h:PM w o θ S) (x:Nat) (hx:x≤4096) {K:World→Prop} (hK:∀w1,PM w1 o θ { S with wn:=x }→EvC (fun c=>c=1∨c=2∨c=3) w o w1 o→K w1):St w ⟨θ.g,3,none⟩ (.int .i64 (x:Nat)) K :=
 h.stC ⟨h.cnt.1,hx,h.cnt.2.2⟩ (by omega) (fun _ _=>doc_set3 x) hK
theorem PM.stLow (h:PM w o θ S) (x:Nat) (hx:x≤4096) {K:World→Prop} (hK:∀w1,PM w1 o θ { S with lo:=x }→EvC (fun c=>c=1∨c=2∨c=3) w o w1 o→K w1):St w ⟨θ.g,4,none⟩ (.int .i64 (x:Nat)) K :=
 h.stC ⟨h.cnt.1,h.cnt.2.1,hx⟩ (by omega) (fun _ _=>doc_set4 x) hK
def lad (g:Nat) (bs:List Nat) (p:Nat):Addr:=if p=0 then ⟨g,1,none⟩ else ⟨pb bs p,8,none⟩
def lcC (p:Nat) (c:Nat):Prop:=if p=0 then c=1∨c=2∨c=3 else c=8+4*(p % 4294967296-1)∨c=9+4*(p % 4294967296-1)∨c=10+4*(p % 4294967296-1)
def lcl (p:Nat):Nat:=if p=0 then 3 else 9+4*(p % 4294967296-1)
def lstR (D:Im) (p:Nat):List Nat:=if p=0 then D.roots else match D.sl[p % 4294967296-1]? with | some s=>s.kids | none=>[]
theorem pb_get (hl:S.bs.length=S.D.sl.length) {p:Nat} (hp:inN S.D.sl.length p):S.bs[p % 4294967296-1]?=some (pb S.bs p)∧∃s,S.D.sl[p % 4294967296-1]?=some s:=by
 obtain⟨h1,h2⟩:=hp
 have h3:p % 4294967296-1 < S.bs.length:=by omega
 unfold pb
 refine⟨by rw [List.getD_eq_getElem?_getD,List.getElem?_eq_getElem h3];rfl,_,List.getElem?_eq_getElem (by omega)⟩
theorem PM.list (h:PM w o θ S) {p:Nat} (hp:p=0∨inN S.D.sl.length p):∃v:Sv,w.cell? (lad θ.g S.bs p)=some (slV v)∧Own LPt w 0 152 (slV v) ((lstR S.D p).map (pb S.bs))∧(∀x,rowOf (slV v)=some x→o x=lcl p)∧(lstR S.D p).length≤1048576:=by
 unfold lad lcl lstR
 by_cases h0:p=0
 ·simp only [if_pos h0]
  obtain⟨nv,rv,hd⟩:=h.doc
  exact⟨rv,by rw [hd.blk.cell];rfl,hd.r1,hd.r2,h.rts.2⟩
 ·simp only [if_neg h0]
  obtain⟨h1,s,h2⟩:=pb_get h.len (hp.resolve_left h0)
  obtain⟨a,kv,hn⟩:=h.nodes _ _ _ h1 h2
  simp only [h2]
  exact⟨kv,by rw [hn.blk.cell];rfl,hn.kd1,hn.kd2,(h.rng s (List.mem_of_getElem? h2)).few⟩
theorem node_set8 {i:Nat}{s:Sl}{a kv v:Sv}{par:Option Addr}{l:List Nat}:(nodeC i s a par kv).setIfInBounds 8 (slV v)=nodeC i { s with kids:=l } a par v:=by simp [nodeC,slV]
theorem PM.setList (h:PM w o θ S) {p:Nat} (hp:p=0∨inN S.D.sl.length p) {v v':Sv}{l:List Nat} (hc:∀x,rowOf (slV v)=some x→o x=lcl p) (hfm:Fm (fun x=>rowOf (slV v)=some x) w w1)
  (hO:Own LPt w1 0 152 (slV v') (l.map (pb S.bs))) (hr:rowOf (slV v')=rowOf (slV v)∨rowOf (slV v')=none∨∃g,rowOf (slV v')=some g∧w.heap.size≤g) (hl:(∀x∈l,inN S.D.sl.length x)∧l.length≤1048576) {K:World→Prop}
  (hK:∀w2 o2,PM w2 o2 θ { S with D:=setI S.D p l }→EvC (lcC p) w o w2 o2→K w2):St w1 (lad θ.g S.bs p) (slV v') K:=by
 have hrc:∀x,rowOf (slV v')=some x→(o x=lcl p∨(o x=0∧w.heap.size≤x)):=fun x hx=>by
  rcases hr with e | e | ⟨g,e,hge⟩
  ·exact .inl (hc x (by rw [←e];exact hx))
  ·rw [e] at hx;cases hx
  ·rw [e] at hx;cases hx
   refine .inr ⟨Classical.byContradiction fun h0=>?_,hge⟩
   have:=h.lt _ h0;omega
 have hpos:lcl p≠0:=by unfold lcl;split <;> omega
 unfold lad lcl at *
 by_cases h0:p=0
 ·simp only [if_pos h0] at *
  obtain⟨nv,rv,hd⟩:=h.doc
  have hb1:Blk w1 θ.g (docC nv rv S.lv S.wn S.lo θ.tl) θ.t:=hfm.blk hd.blk fun e=>by have:=hc _ e;rw [h.col] at this;omega
  refine st_blk hb1 (Nat.lt_of_lt_of_le (by omega) doc_size) fun w2 b2 f2=>?_
  rw [doc_set1] at b2
  have hg1:o θ.g=1:=h.col
  have F:Fm (fun x=>o x=1∨o x=2∨o x=3) w w2:=(hfm.mono fun x _ e=>.inr (.inr (hc x e))).trans (f2.mono fun x _ e=>.inl (by have e:x=θ.g:=e;rw [e];exact hg1))
  have hrow:∀x,rowOf (slV v')=some x→x≠θ.g:=fun x hx e=>by
   rcases hrc x hx with e2 | ⟨e2,_⟩ <;> rw [e,hg1] at e2 <;> omega
  have hlt2:∀x,rowOf (slV v')=some x→x < w2.heap.size:=fun x hx=>Nat.lt_of_lt_of_le (hO.lt x hx).2 f2.size
  have hN:DocR w2 (cl o (rowOf (slV v')) 3) θ { S with D:={ S.D with roots:=l },lv:=S.lv,wn:=S.wn,lo:=S.lo } nv v':=by
   refine⟨b2,own_fm (own_fm hd.n1 hfm fun x hx e=>?_) f2 fun x hx e=>?_,fun x hx=>?_,own_fm hO f2 fun x hx e=>hrow x hx e,fun x hx=>cl_row hx ?_⟩
   ·have:=hd.n2 x hx;rw [hc x e] at this;omega
   ·have e:x=θ.g:=e
    have:=hd.n2 x hx;rw [e,hg1] at this;omega
   ·have:=hd.n2 x hx
    rw [cl_old (by omega)];exact this
   ·rcases hrc x hx with e | ⟨e,_⟩
    ·exact .inr e
    ·exact .inl e
  have:=h.setDoc (r:=rowOf (slV v')) (c:=3) (nv:=nv) (rv:=v') (ro:=l) (lv:=S.lv) (wn:=S.wn) (lo:=S.lo) F (fun x hx=>.inl hx) (.inr rfl) (fun x hx=>⟨fun e=>?_,hlt2 x hx⟩) hN hl h.cnt
  ·refine hK w2 _ ?_ (this.2.mono fun c hc=>by unfold lcC;rw [if_pos h0];exact hc)
   unfold setI
   rw [if_pos h0];exact this.1
  ·rcases hrc x hx with e2 | ⟨_,e2⟩
   ·rw [e] at e2;omega
   ·exact e2
 ·simp only [if_neg h0] at *
  have hp':=hp.resolve_left h0
  obtain⟨k1,s,k2⟩:=pb_get h.len hp'
  generalize hi:p % 4294967296-1=i at *
  generalize hb:pb S.bs p=b at *
  obtain⟨a,kv,hn⟩:=h.nodes i b s k1 k2
  have hcb:=h.nc i b k1
  have hb1:Blk w1 b (nodeC i s a (ptrH S.bs s.parent) kv) 202:=hfm.blk hn.blk fun e=>by have:=hc _ e;omega
  refine st_blk hb1 (by simp [nodeC]) fun w2 b2 f2=>?_
  have b2:Blk w2 b (nodeC i { s with kids:=l } a (ptrH S.bs s.parent) v') 202:=by rw [node_set8] at b2;exact b2
  have F:Fm (fun x=>o x=8+4*i∨o x=9+4*i∨o x=10+4*i) w w2:=(hfm.mono fun x _ e=>.inr (.inl (hc x e))).trans (f2.mono fun x _ e=>.inl (by have e:x=b:=e;rw [e];exact hcb))
  have hrow:∀x,rowOf (slV v')=some x→x≠b:=fun x hx e=>by
   rcases hrc x hx with e2 | ⟨e2,_⟩ <;> rw [e,hcb] at e2 <;> omega
  have hlt2:∀x,rowOf (slV v')=some x→x < w2.heap.size:=fun x hx=>Nat.lt_of_lt_of_le (hO.lt x hx).2 f2.size
  have hN:NodeR w2 (cl o (rowOf (slV v')) (9+4*i)) S.bs i b { s with kids:=l } a v':=by
   refine⟨b2,own_fm (own_fm hn.at1 hfm fun x hx e=>?_) f2 fun x hx e=>?_,fun x hx=>?_,own_fm hO f2 fun x hx e=>hrow x hx e,fun x hx=>cl_row hx ?_⟩
   ·have:=hn.at2 x hx;rw [hc x e] at this;omega
   ·have e:x=b:=e
    have:=hn.at2 x hx;rw [e,hcb] at this;omega
   ·have:=hn.at2 x hx
    rw [cl_old (by omega)];exact this
   ·rcases hrc x hx with e | ⟨e,_⟩
    ·exact .inr e
    ·exact .inl e
  have hrs:=h.rng s (List.mem_of_getElem? k2)
  have:=h.setNode (r:=rowOf (slV v')) (c:=9+4*i) k1 k2 F (fun x hx=>.inl hx) (.inl rfl) (fun x hx=>⟨fun e=>?_,hlt2 x hx⟩) hN ⟨hrs.gen,hrs.par,hl.1,hl.2,hrs.atf⟩
  ·refine hK w2 _ ?_ (this.2.mono fun c hc=>by unfold lcC;rw [if_neg h0,hi];exact hc)
   unfold setI
   rw [if_neg h0,hi,modify_set _ _ _ _ k2];exact this.1
  ·rcases hrc x hx with e2 | ⟨_,e2⟩
   ·rw [e] at e2;omega
   ·exact e2
end
set_option maxRecDepth 100000
section
variable {w w1 w2:World}{o o1 o2:Nat→Nat}{θ:Th}{S:PS}{M:Nat→Prop}{bs:List Nat}
theorem PM.stN (h:PM w o θ S) {i b:Nat}{s s':Sl} (hb:S.bs[i]?=some b) (hs:S.D.sl[i]?=some s) {j:Nat}{v:Value} (hj:j < 9) (he:∀a kv,(nodeC i s a (ptrH S.bs s.parent) kv).setIfInBounds j v=nodeC i s' a (ptrH S.bs s'.parent) kv)
  (ha:s'.attrs=s.attrs) (hk:s'.kids=s.kids) (hg:s'.gen < 4294967296) (hp:s'.parent=0∨inN S.D.sl.length s'.parent) {K:World→Prop} (hK:∀w1,PM w1 o θ (S.setS i s')→EvC (fun c=>c=8+4*i∨c=9+4*i∨c=10+4*i) w o w1 o→K w1):St w ⟨b,j,none⟩ v K:=by
 obtain⟨a,kv,hn⟩:=h.nodes i b s hb hs
 have hcb:=h.nc i b hb
 refine st_blk hn.blk (by simpa [nodeC] using hj) fun w1 b1 f1=>?_
 rw [he] at b1
 have hrs:=h.rng s (List.mem_of_getElem? hs)
 have hN:NodeR w1 (cl o none (9+4*i)) S.bs i b s' a kv:=by
  rw [cl_none]
  refine⟨b1,?_,hn.at2,?_,hn.kd2⟩
  ·rw [ha]
   refine own_fm hn.at1 f1 fun x hx e=>?_
   have e:x=b:=e
   have:=hn.at2 x hx;rw [e,hcb] at this;omega
  ·rw [hk]
   refine own_fm hn.kd1 f1 fun x hx e=>?_
   have e:x=b:=e
   have:=hn.kd2 x hx;rw [e,hcb] at this;omega
 have:=h.setNode (r:=none) (c:=9+4*i) hb hs f1 (fun x hx=>.inl (.inl (by have e:x=b:=hx;rw [e];exact hcb))) (.inl rfl) (fun x hx=>by cases hx) hN ⟨hg,hp,by rw [hk];exact hrs.kids,by rw [hk];exact hrs.few,by rw [ha];exact hrs.atf⟩
 rw [cl_none] at this
 exact hK w1 this.1 this.2
theorem node_set1 {i:Nat}{s:Sl}{a kv:Sv}{par:Option Addr} (g:Nat):(nodeC i s a par kv).setIfInBounds 1 (.int .u32 (g:Nat))=nodeC i { s with gen:=g } a par kv:=by simp [nodeC]
theorem node_set2 {i:Nat}{s:Sl}{a kv:Sv}{par:Option Addr} (l:Bool):(nodeC i s a par kv).setIfInBounds 2 (.bool l)=nodeC i { s with live:=l } a par kv:=by simp [nodeC]
theorem node_set3 {i:Nat}{s:Sl}{a kv:Sv}{par:Option Addr} (k:Int):(nodeC i s a par kv).setIfInBounds 3 (.int .i64 k)=nodeC i { s with kind:=k } a par kv:=by simp [nodeC]
theorem node_set6 {i:Nat}{s:Sl}{a kv:Sv}{par:Option Addr} (n:ByteArray):(nodeC i s a par kv).setIfInBounds 6 (.string n)=nodeC i { s with text:=n } a par kv:=by simp [nodeC]
theorem node_set7 {i:Nat}{s:Sl}{a kv:Sv}{par q:Option Addr} (p:Nat):(nodeC i s a par kv).setIfInBounds 7 (.pointer q)=nodeC i { s with parent:=p } a q kv:=by simp [nodeC]
theorem PM.stGen (h:PM w o θ S) {i b:Nat}{s:Sl} (hb:S.bs[i]?=some b) (hs:S.D.sl[i]?=some s) {g:Nat} (hg:g < 4294967296) {K:World→Prop} (hK:∀w1,PM w1 o θ (S.setS i { s with gen:=g })→EvC (fun c=>c=8+4*i∨c=9+4*i∨c=10+4*i) w o w1 o→K w1):St w ⟨b,1,none⟩ (.int .u32 (g:Nat)) K :=
 h.stN (s':={ s with gen:=g }) hb hs (by omega) (fun _ _=>node_set1 g) rfl rfl hg (h.rng s (List.mem_of_getElem? hs)).par hK
theorem PM.stLiv (h:PM w o θ S) {i b:Nat}{s:Sl} (hb:S.bs[i]?=some b) (hs:S.D.sl[i]?=some s) (l:Bool) {K:World→Prop} (hK:∀w1,PM w1 o θ (S.setS i { s with live:=l })→EvC (fun c=>c=8+4*i∨c=9+4*i∨c=10+4*i) w o w1 o→K w1):St w ⟨b,2,none⟩ (.bool l) K :=
 h.stN (s':={ s with live:=l }) hb hs (by omega) (fun _ _=>node_set2 l) rfl rfl (h.rng s (List.mem_of_getElem? hs)).gen (h.rng s (List.mem_of_getElem? hs)).par hK
theorem PM.stKind (h:PM w o θ S) {i b:Nat}{s:Sl} (hb:S.bs[i]?=some b) (hs:S.D.sl[i]?=some s) (k:Int) {K:World→Prop} (hK:∀w1,PM w1 o θ (S.setS i { s with kind:=k })→EvC (fun c=>c=8+4*i∨c=9+4*i∨c=10+4*i) w o w1 o→K w1):St w ⟨b,3,none⟩ (.int .i64 k) K :=
 h.stN (s':={ s with kind:=k }) hb hs (by omega) (fun _ _=>node_set3 k) rfl rfl (h.rng s (List.mem_of_getElem? hs)).gen (h.rng s (List.mem_of_getElem? hs)).par hK
theorem PM.stText (h:PM w o θ S) {i b:Nat}{s:Sl} (hb:S.bs[i]?=some b) (hs:S.D.sl[i]?=some s) (n:ByteArray) {K:World→Prop} (hK:∀w1,PM w1 o θ (S.setS i { s with text:=n })→EvC (fun c=>c=8+4*i∨c=9+4*i∨c=10+4*i) w o w1 o→K w1):St w ⟨b,6,none⟩ (.string n) K :=
 h.stN (s':={ s with text:=n }) hb hs (by omega) (fun _ _=>node_set6 n) rfl rfl (h.rng s (List.mem_of_getElem? hs)).gen (h.rng s (List.mem_of_getElem? hs)).par hK
theorem PM.stPar (h:PM w o θ S) {i b:Nat}{s:Sl} (hb:S.bs[i]?=some b) (hs:S.D.sl[i]?=some s) {p:Nat} (hp:p=0∨inN S.D.sl.length p) {K:World→Prop} (hK:∀w1,PM w1 o θ (S.setS i { s with parent:=p })→EvC (fun c=>c=8+4*i∨c=9+4*i∨c=10+4*i) w o w1 o→K w1):St w ⟨b,7,none⟩ (.pointer (ptrH S.bs p)) K :=
 h.stN (s':={ s with parent:=p }) hb hs (by omega) (fun _ _=>node_set7 p) rfl rfl (h.rng s (List.mem_of_getElem? hs)).gen hp hK
theorem pb_app {b h:Nat} (hh:inN bs.length h):pb (bs++[b]) h=pb bs h:=by
 obtain⟨h1,h2⟩:=hh
 unfold pb
 rw [List.getD_eq_getElem?_getD,List.getD_eq_getElem?_getD,List.getElem?_append_left (by omega)]
theorem ptr_app {b h:Nat} (hh:h=0∨inN bs.length h):ptrH (bs++[b]) h=ptrH bs h:=by
 unfold ptrH
 split
 ·rfl
 ·rw [pb_app (hh.resolve_left (by assumption))]
theorem map_pb_app {b:Nat}{l:List Nat} (hl:∀h∈l,inN bs.length h):l.map (pb (bs++[b]))=l.map (pb bs):=List.map_congr_left fun h hh=>pb_app (hl h hh)
theorem PM.grow (h:PM w o θ S) {b:Nat} (hb0:w.heap.size≤b) (hB:Blk w1 b (nodeC S.D.sl.length (deadS 0) (none,0,0) none (none,0,0)) 202) {v v':Sv} (hc:∀x,rowOf (slV v)=some x→o x=2) (hf:Fm (fun x=>rowOf (slV v)=some x) w w1)
  (hO:Own LPt w1 0 152 (slV v') (S.bs++[b])) (hr:rowOf (slV v')=rowOf (slV v)∨rowOf (slV v')=none∨∃g,rowOf (slV v')=some g∧w.heap.size≤g∧g≠b) (hl:S.D.sl.length < 4096) {K:World→Prop}
  (hK:∀w2 o2,PM w2 o2 θ { S with D:={ S.D with sl:=S.D.sl++[deadS 0] },bs:=S.bs++[b] }→EvC (fun c=>c=1∨c=2) w o w2 o2→K w2):St w1 ⟨θ.g,0,none⟩ (slV v') K:=by
 have ob0:o b=0:=Classical.byContradiction fun h0=>by have:=h.lt b h0;omega
 have hrc:∀x,rowOf (slV v')=some x→(o x=2∨(o x=0∧w.heap.size≤x))∧x≠b:=fun x hx=>by
  rcases hr with e | e | ⟨g,e,hge,hgb⟩
  ·have:=hc x (by rw [←e];exact hx)
   exact⟨.inl this,fun e=>by rw [e,ob0] at this;omega⟩
  ·rw [e] at hx;cases hx
  ·rw [e] at hx;cases hx
   refine⟨.inr ⟨Classical.byContradiction fun h0=>?_,hge⟩,hgb⟩
   have:=h.lt _ h0;omega
 obtain⟨nv,rv,hd⟩:=h.doc
 have hg1:=h.col
 have hbl:=h.len
 have hb1:Blk w1 θ.g (docC nv rv S.lv S.wn S.lo θ.tl) θ.t:=hf.blk hd.blk fun e=>by have:=hc _ e;omega
 refine st_blk hb1 (Nat.lt_of_lt_of_le (by omega) doc_size) fun w2 b2 f2=>?_
 rw [doc_set0] at b2
 have hbg:b≠θ.g:=fun e=>by rw [e,hg1] at ob0;omega
 have F:Fm (fun x=>o x=1∨o x=2) w w2:=(hf.mono fun x _ e=>.inr (hc x e)).trans (f2.mono fun x _ e=>.inl (by have e:x=θ.g:=e;rw [e];exact hg1))
 have hlt2:∀x,rowOf (slV v')=some x→x < w2.heap.size:=fun x hx=>Nat.lt_of_lt_of_le (hO.lt x hx).2 f2.size
 have hbl2:b < w2.heap.size:=Nat.lt_of_lt_of_le hB.lt f2.size
 let o2:Nat→Nat:=fun x=>if x=b then 8+4*S.D.sl.length else cl o (rowOf (slV v')) 2 x
 have hold:∀x,o x≠0→o2 x=o x:=fun x hx=>by
  show (if x=b then _ else _)=_
  rw [if_neg (fun e=>hx (by rw [e];exact ob0)),cl_old hx]
 have hob:o2 b=8+4*S.D.sl.length:=by
  show (if b=b then _ else _)=_
  rw [if_pos rfl]
 have hrow2:∀x,rowOf (slV v')=some x→o2 x=2:=fun x hx=>by
  show (if x=b then _ else _)=_
  obtain⟨e1,e2⟩:=hrc x hx
  rw [if_neg e2]
  exact cl_row hx (e1.elim .inr fun e=>.inl e.1)
 have hnew:∀x,o x=0→o2 x≠0→w.heap.size≤x∧x < w2.heap.size∧(o2 x=2∨o2 x=8+4*S.D.sl.length):=fun x h0 h2=>by
  by_cases e:x=b
  ·subst e;exact⟨hb0,hbl2,.inr hob⟩
  ·have e3:o2 x=cl o (rowOf (slV v')) 2 x:=by
    show (if x=b then _ else _)=_
    rw [if_neg e]
   by_cases e4:rowOf (slV v')=some x
   ·refine⟨?_,hlt2 x e4,.inl (hrow2 x e4)⟩
    rcases (hrc x e4).1 with e5 | e5
    ·rw [h0] at e5;omega
    ·exact e5.2
   ·rw [e3] at h2
    unfold cl at h2
    rw [if_neg (fun e=>e4 e.1)] at h2
    exact absurd h0 h2
 have Fn:∀x,o x≠0→o x≠1→o x≠2→¬(o x=1∨o x=2):=fun x _ h1 h2 h3=>h3.elim h1 h2
 have hkid:∀s∈S.D.sl,∀x∈s.kids,inN S.bs.length x:=fun s hs x hx=>by rw [hbl];exact (h.rng s hs).kids x hx
 have inN1:∀x,inN S.D.sl.length x→inN (S.D.sl++[deadS 0]).length x:=fun x hx=>⟨hx.1,by have:=hx.2;simp;omega⟩
 refine hK w2 o2 ⟨by rw [hold _ (by omega)];exact hg1,fun x hx=>?_,by simp [hbl],by simp;omega,fun i b' hb'=>?_,⟨v',rv,?_⟩,fun i b' s hb' hs=>?_,fun s hs=>?_,⟨fun x hx=>inN1 x (h.rts.1 x hx),h.rts.2⟩,h.cnt⟩ ⟨F,hold,fun x hx h0=>?_,fun x hx=>?_⟩
 ·by_cases h0:o x=0
  ·exact (hnew x h0 hx).2.1
  ·exact Nat.lt_of_lt_of_le (h.lt x h0) F.size
 ·rcases Nat.lt_or_ge i S.bs.length with hi | hi
  ·have hb':S.bs[i]?=some b':=by rw [←hb'];exact (List.getElem?_append_left hi).symm
   have:=h.nc i b' hb'
   rw [hold _ (by omega)];exact this
  ·have hb':(S.bs++[b])[i]?=some b':=hb'
   rw [List.getElem?_append_right hi] at hb'
   have hi2:i-S.bs.length=0:=by
    have:=(List.getElem?_eq_some_iff.1 hb').1
    simp at this;omega
   rw [hi2] at hb'
   simp at hb'
   subst hb'
   rw [hob];omega
 ·refine⟨b2,own_fm hO f2 fun x hx e=>?_,hrow2,?_,fun x hx=>?_⟩
  ·have e:x=θ.g:=e
   rcases (hrc x hx).1 with e2 | ⟨e2,_⟩ <;> rw [e,hg1] at e2 <;> omega
  ·show Own LPt w2 0 _ (slV rv) (S.D.roots.map (pb (S.bs++[b])))
   rw [map_pb_app (fun x hx=>by rw [hbl];exact h.rts.1 x hx)]
   exact own_fm hd.r1 F fun x hx=>by have:=hd.r2 x hx;omega
  ·have:=hd.r2 x hx
   rw [hold _ (by omega)];exact this
 ·rcases Nat.lt_or_ge i S.bs.length with hi | hi
  ·have hb':S.bs[i]?=some b':=by rw [←hb'];exact (List.getElem?_append_left hi).symm
   have hs:S.D.sl[i]?=some s:=by rw [←hs];exact (List.getElem?_append_left (by omega)).symm
   obtain⟨a,kv,hn⟩:=h.nodes i b' s hb' hs
   have hn2:=hn.keep (o1:=o2) (h.nc i b' hb') F (fun x hx=>Fn x (by omega) (by omega) (by omega)) fun x hx=>hold x (by omega)
   have hsm:=List.mem_of_getElem? hs
   refine⟨a,kv,⟨?_,hn2.at1,hn2.at2,?_,hn2.kd2⟩⟩
   ·show Blk w2 b' (nodeC i s a (ptrH (S.bs++[b]) s.parent) kv) _
    rw [ptr_app (by rw [hbl];exact (h.rng s hsm).par)];exact hn2.blk
   ·show Own LPt w2 0 _ (slV kv) (s.kids.map (pb (S.bs++[b])))
    rw [map_pb_app (hkid s hsm)];exact hn2.kd1
  ·have hb':(S.bs++[b])[i]?=some b':=hb'
   have hs:(S.D.sl++[deadS 0])[i]?=some s:=hs
   rw [List.getElem?_append_right hi] at hb'
   rw [List.getElem?_append_right (by omega)] at hs
   have hi2:i-S.bs.length=0:=by
    have:=(List.getElem?_eq_some_iff.1 hb').1
    simp at this;omega
   rw [hi2] at hb'
   rw [show i-S.D.sl.length=0 by omega] at hs
   simp at hb' hs
   subst hb' hs
   have e:i=S.D.sl.length:=by omega
   subst e
   refine⟨(none,0,0),(none,0,0),⟨f2.blk hB hbg,Own.nil _ _ _ _,fun x hx=>(by cases hx),Own.nil _ _ _ _,fun x hx=>(by cases hx)⟩⟩
 ·rcases List.mem_append.1 hs with hs | hs
  ·have r:=h.rng s hs
   exact⟨r.gen,r.par.imp id (inN1 _),fun x hx=>inN1 x (r.kids x hx),r.few,r.atf⟩
  ·rw [List.mem_singleton] at hs
   subst hs
   exact⟨by simp [deadS],.inl rfl,by simp [deadS],by simp [deadS],by simp [deadS]⟩
 ·refine Classical.byContradiction fun h2=>?_
  have:=(hnew x h0 h2).1
  omega
 ·by_cases h0:o x=0
  ·refine .inr ?_
   rcases (hnew x h0 hx).2.2 with e | e <;> rw [e]
   ·exact .inr (.inl rfl)
   ·exact (pc_nd _).1
  ·exact .inl h0
end
set_option maxRecDepth 100000
section
variable {w w1 w2:World}{o o1 o2:Nat→Nat}{θ:Th}{S:PS}{M:Nat→Prop}{bs:List Nat}{R:Ending→World→Prop}
theorem PM.cGen (h:PM w o θ S) {i b:Nat}{s:Sl} (hb:S.bs[i]?=some b) (hs:S.D.sl[i]?=some s):w.cell? ⟨b,1,none⟩=some (.int .u32 (s.gen:Nat)):=by
 obtain⟨a,kv,hn⟩:=h.nodes i b s hb hs;rw [hn.blk.cell];rfl
theorem PM.cIdx (h:PM w o θ S) {i b:Nat}{s:Sl} (hb:S.bs[i]?=some b) (hs:S.D.sl[i]?=some s):w.cell? ⟨b,0,none⟩=some (.int .u32 (i+1:Nat)):=by
 obtain⟨a,kv,hn⟩:=h.nodes i b s hb hs;rw [hn.blk.cell];rfl
theorem PM.cLive (h:PM w o θ S) {i b:Nat}{s:Sl} (hb:S.bs[i]?=some b) (hs:S.D.sl[i]?=some s):w.cell? ⟨b,2,none⟩=some (.bool s.live):=by
 obtain⟨a,kv,hn⟩:=h.nodes i b s hb hs;rw [hn.blk.cell];rfl
theorem PM.cKind (h:PM w o θ S) {i b:Nat}{s:Sl} (hb:S.bs[i]?=some b) (hs:S.D.sl[i]?=some s):w.cell? ⟨b,3,none⟩=some (.int .i64 s.kind):=by
 obtain⟨a,kv,hn⟩:=h.nodes i b s hb hs;rw [hn.blk.cell];rfl
theorem PM.cPar (h:PM w o θ S) {i b:Nat}{s:Sl} (hb:S.bs[i]?=some b) (hs:S.D.sl[i]?=some s):w.cell? ⟨b,7,none⟩=some (.pointer (ptrH S.bs s.parent)):=by
 obtain⟨a,kv,hn⟩:=h.nodes i b s hb hs;rw [hn.blk.cell];rfl
theorem PM.cKids (h:PM w o θ S) {i b:Nat}{s:Sl} (hb:S.bs[i]?=some b) (hs:S.D.sl[i]?=some s):∃v:Sv,w.cell? ⟨b,8,none⟩=some (slV v)∧Own LPt w 0 152 (slV v) (s.kids.map (pb S.bs))∧∀x,rowOf (slV v)=some x→o x=9+4*i:=by
 obtain⟨a,kv,hn⟩:=h.nodes i b s hb hs
 exact⟨kv,by rw [hn.blk.cell];rfl,hn.kd1,hn.kd2⟩
theorem PM.of (h:PM w o θ S) {x:Nat}{s:Sl} (hx:slA S.D.sl x=some s):∃i,x % 4294967296=i+1∧S.bs[i]?=some (pb S.bs x)∧S.D.sl[i]?=some s∧inN S.D.sl.length x:=by
 obtain⟨i,h1,h2,h3,h4⟩:=slA_iff.1 hx
 have hl:=(List.getElem?_eq_some_iff.1 h2).1
 have hin:inN S.D.sl.length x:=⟨by omega,by omega⟩
 obtain⟨k1,_⟩:=pb_get h.len hin
 rw [h1,Nat.add_sub_cancel] at k1
 exact⟨i,h1,k1,h2,hin⟩
theorem PM.prd (h:PM w o θ S):PRd w θ.g S.D.sl S.bs:=by
 obtain⟨⟨v,v1,v2,_⟩,_⟩:=h.cells
 obtain⟨A,c,e,hr⟩:=v2.form
 have hfew:=h.few
 refine⟨h.len,by omega,⟨A,c,by rw [v1,e],hr⟩,fun i hi=>?_,fun i hi hi'=>h.cGen (List.getElem?_eq_getElem hi) (List.getElem?_eq_getElem hi'),fun i hi hi'=>h.cLive (List.getElem?_eq_getElem hi) (List.getElem?_eq_getElem hi'),fun s hs=>(h.rng s hs).gen⟩
 exact h.cIdx (List.getElem?_eq_getElem hi) (List.getElem?_eq_getElem (by rw [←h.len];exact hi))
def ptrL (S:PS) (x:Nat):Option Addr:=if (slA S.D.sl x).isSome then some ⟨pb S.bs x,0,none⟩ else none
theorem ptrN_L (hl:S.bs.length=S.D.sl.length) (x:Nat):ptrN S.bs (atF S.D.sl x)=ptrL S x:=by
 unfold ptrL slA
 cases ha:atF S.D.sl x with
 | none=>rfl
 | some k =>
  obtain⟨h1,s,h2,_⟩:=atF_iff.1 ha
  have hk:k < S.bs.length:=by rw [hl];exact (List.getElem?_eq_some_iff.1 h2).1
  rw [ptrN_some hk]
  have:pb S.bs x=S.bs[k]:=by
   unfold pb;rw [h1,Nat.add_sub_cancel,List.getD_eq_getElem?_getD,List.getElem?_eq_getElem hk];rfl
  simp only [Option.bind_some,h2,Option.isSome_some,if_true,this]
theorem atL_calls (h:PM w o θ S) {x:Nat} (hx:x < 18446744073709551616) (hK:∀w',Below w.heap.size w w'→R (.returned (.pointer (ptrL S x))) w'):Calls Tryz.prog 65 #[.pointer (some ⟨θ.g,0,none⟩),.int .u64 (x:Nat)] w R :=
 atP_calls h.prd hx fun w' hb=>by rw [ptrN_L h.len];exact hK w' hb
theorem hnd_calls (h:PM w o θ S) {x:Nat}{s:Sl} (hx:slA S.D.sl x=some s) (hK:∀w',Below w.heap.size w w'→R (.returned (.int .u64 (x:Nat))) w'):Calls Tryz.prog 111 #[.pointer (some ⟨pb S.bs x,0,none⟩)] w R:=by
 obtain⟨i,h1,h2,h3,h4⟩:=h.of hx
 obtain⟨j,j1,j2,j3,j4⟩:=slA_iff.1 hx
 obtain rfl:j=i:=by omega
 obtain⟨hi,e1⟩:=List.getElem?_eq_some_iff.1 h2
 obtain⟨hi',e2⟩:=List.getElem?_eq_some_iff.1 h3
 rw [←e1]
 refine hndP_calls h.prd hi hi' fun w' hb=>?_
 rw [e2,j4];exact hK w' hb
theorem list_calls {p:Nat} (hK:R (.returned (.pointer (some (lad θ.g S.bs p)))) w):Calls Tryz.prog 153 #[.pointer (some ⟨θ.g,0,none⟩),.pointer (ptrH S.bs p)] w R:=by
 refine ok153 (some ⟨θ.g,0,none⟩) (ptrH S.bs p) ?_
 unfold F153
 unfold ptrH lad at *
 by_cases h0:p=0
 ·rw [if_pos h0] at *
  exact hK
 ·rw [if_neg h0] at *
  simpa [Br,NonNil,Addr.add_mk] using hK
theorem level_calls (h:PM w o θ S) (h0:slA S.D.sl 0=none) {p c:Nat} (hc:Ch (slA S.D.sl) p c) (hc2:c≤64) (hK:R (.returned (.int .i64 ((c:Nat)-1))) w):Calls Tryz.prog 108 #[.pointer (ptrH S.bs p)] w R:=by
 refine ok108 (ptrH S.bs p) ?_
 unfold F108
 refine⟨fun n i w'=>∃(q d:Nat),n=ptrH S.bs q∧Ch (slA S.D.sl) q d∧d≤c∧i=(c:Nat)-1-(d:Nat)∧w=w',fun n i w'=>((c:Nat)-i).toNat,⟨p,c,rfl,hc,Nat.le_refl _,by omega,rfl⟩,?_⟩
 rintro n i _ ⟨q,d,rfl,hd,hdc,rfl,rfl⟩
 unfold F108_l2
 cases hd with
 | zero =>
  have e:(ptrH S.bs 0).isNone=true:=by simp [ptrH]
  rw [e]
  simp only [Bool.not_true,Br_f]
  simpa using hK
 | @succ q d s hq0 ha h3 =>
  have e:ptrH S.bs q=some ⟨pb S.bs q,0,none⟩:=by unfold ptrH;rw [if_neg hq0]
  rw [e]
  obtain⟨k,k1,k2,k3,_⟩:=h.of ha
  simp only [Option.isNone_some,Bool.not_false,Br_t,NonNil_some,Addr.add_mk,Nat.zero_add,h.cPar k2 k3,lds]
  exact⟨inR_i64 (by omega) (by omega),⟨s.parent,d,rfl,h3,by omega,by omega,trivial⟩,(by first | omega | (dsimp only;omega))⟩
theorem shaped_calls {wh:Int}{a:Nat} (hK:R (.returned (.bool (!decide (wh < 1∨4 < wh∨(a=0∧2 < wh))))) w):Calls Tryz.prog 119 #[.int .i64 wh,.int .u64 (a:Nat)] w R:=by
 refine ok119 wh a ?_
 unfold F119
 refine brd (fun h1=>brd (fun h2=>brn (fun h3=>?_) (fun h3=>?_)) (fun h2=>?_)) (fun h1=>?_)
 ·rw [show decide (wh < 1∨4 < wh∨(a=0∧2 < wh))=false from decide_eq_false (by omega)] at hK;exact hK
 ·have e:(!decide (wh < 1∨4 < wh∨(a=0∧2 < wh)))=decide (wh≤2):=by
   by_cases h:wh≤2
   ·rw [decide_eq_true h,decide_eq_false (by omega)];rfl
   ·rw [decide_eq_false h,decide_eq_true (by omega)];rfl
  rw [e] at hK;exact hK
 ·rw [show decide (wh < 1∨4 < wh∨(a=0∧2 < wh))=true from decide_eq_true (by omega)] at hK;exact hK
 ·rw [show decide (wh < 1∨4 < wh∨(a=0∧2 < wh))=true from decide_eq_true (by omega)] at hK;exact hK
theorem par_calls (h:PM w o θ S) {wh:Int}{a:Nat} (hsh:¬(wh < 1∨4 < wh∨(a=0∧2 < wh))) (ha:a=0∨∃s,slA S.D.sl a=some s)
  (hK:R (.returned (.tuple #[.pointer (ptrH S.bs (placeF S.D wh a).1),.int .i64 (placeF S.D wh a).2])) w):Calls Tryz.prog 121 #[.pointer (some ⟨θ.g,0,none⟩),.int .i64 wh,.pointer (ptrH S.bs a)] w R:=by
 refine ok121 (some ⟨θ.g,0,none⟩) wh (ptrH S.bs a) ?_
 unfold F121
 unfold placeF at hK
 rw [if_neg hsh] at hK
 by_cases h0:a=0
 ·rw [if_pos h0] at hK
  have e:ptrH S.bs a=none:=by unfold ptrH;rw [if_pos h0]
  have e0:ptrH S.bs 0=none:=rfl
  rw [e]
  rw [e0] at hK
  refine⟨fun w'=>w=w',fun w' e=>by subst e;unfold F121_j5;exact hK,?_⟩
  refine brd (fun h1=>by omega) (fun h1=>?_)
  exact rfl
 ·rw [if_neg h0] at hK
  obtain⟨s,hs⟩:=ha.resolve_left h0
  rw [hs] at hK
  obtain⟨k,k1,k2,k3,_⟩:=h.of hs
  have e:ptrH S.bs a=some ⟨pb S.bs a,0,none⟩:=by unfold ptrH;rw [if_neg h0]
  rw [e]
  dsimp only at hK
  refine⟨fun w'=>w=w'∧wh≤2∧s.kind≠2,?_,?_⟩
  ·rintro _ ⟨rfl,h1,h2⟩
   unfold F121_j5
   rw [if_pos h1,if_neg h2,e] at hK;exact hK
  ·refine brd (fun h1=>?_) (fun h1=>?_)
   ·rw [if_neg (by omega)] at hK
    simp only [NonNil_some,Addr.add_mk,Nat.zero_add,h.cPar k2 k3,lds]
    exact hK
   ·rw [if_pos (by omega)] at hK
    simp only [Option.isNone_some,Bool.not_false,Br_t,NonNil_some,Addr.add_mk,Nat.zero_add,h.cKind k2 k3,lds]
    refine bre (fun h2=>?_) (fun h2=>⟨trivial,by omega,h2⟩)
    rw [if_pos h2] at hK
    exact hK
theorem idx_calls {l:List Nat}{v:Sv}{b:Nat} (hv:v.2.1=l.length) (hr:Rd LPt w v.1 v.2.2 l) (hl:l.length≤1048576) (hok:∀x,x=b∨x∈l→∃c t,w.heap[x]?=some (.cells c t (0,0))) (hm:b∈l)
  (hK:R (.returned (.int .i64 (l.idxOf b:Nat))) w):Calls Tryz.prog 160 #[slV v,.pointer (some ⟨b,0,none⟩)] w R:=by
 refine ok160 v.1 v.2.1 v.2.2 (some ⟨b,0,none⟩) ?_
 unfold F160
 refine⟨fun i w'=>∃k:Nat,i=k∧k≤l.idxOf b∧w=w',fun i _=>l.length-i.toNat,⟨0,rfl,by omega,rfl⟩,?_⟩
 rintro i _ ⟨k,rfl,hk,rfl⟩
 unfold F160_l2
 have hlt:l.idxOf b < l.length:=List.idxOf_lt_length_iff.2 hm
 refine brd (fun h1=>?_) (fun h1=>by omega)
 have hk2:k < l.length:=by omega
 refine hr.pt hv rfl hk2 fun x y c0=>?_
 simp only [c0,lds]
 refine⟨fun p q e1 e2 hne=>?_,brd (fun e=>?_) (fun e=>?_)⟩
 ·cases e1;cases e2
  exact⟨hok _ (.inl rfl),hok _ (.inr (List.getElem_mem hk2))⟩
 ·have e:b=l[k]:=by simpa using e
  have:l.idxOf b=k:=by
   rcases Nat.lt_or_ge k (l.idxOf b) with h2 | h2
   ·have:=List.not_of_lt_findIdx (p:=(· == b)) (xs:=l) h2
    exact absurd e.symm (by simpa using this)
   ·omega
  rw [this] at hK;exact hK
 ·have e:l[k]≠b:=fun h2=>e (by rw [h2])
  have:k≠l.idxOf b:=fun h2=>e (by
   have:=List.getElem_idxOf hlt
   simp only [←h2] at this
   exact this)
  exact⟨inR_i64 (by omega) (by omega),⟨k+1,by simp,by omega,trivial⟩,(by first | omega | (dsimp only;omega))⟩
end
end Go.Proofs.YtccplipiahdhiaaGreatDoor
