/- UpdateChecks: Check and Plan of any list of edits are as the document has them. -/
import Derived.Test.YtncbjdgcgclnnaaGreatDoorProg
import Derived.Laws.CopyRow
import Derived.Laws.Append
import Derived.Lib.Overlaps
import Derived.Laws.Externs
import Derived.Test.YtncbjdgcgclnnaaGreatDoorUc1
set_option linter.unusedVariables false
set_option maxRecDepth 100000
namespace Go.Proofs.YtncbjdgcgclnnaaGreatDoor
open Go.Vc
def F58_j16 (L11:Int→World→Prop) (a:Int) (b:World) (R:Ending→World→Prop):Prop :=
 InR .i64 (a+(1:Int))∧L11 (a+(1:Int)) b
def F58_l11 (d:Option Addr) (c:Addr) (ka:Option Addr) (ea:Nat) (L11:Int→World→Prop) (ia:Int) (ta:World) (R:Ending→World→Prop):Prop :=
 Br (decide (ia < ((ea:Nat):Int)))
 (∃J16:World→Prop,(∀ (w1:World),J16 w1→F58_j16 L11 ia w1 R) ∧
 (IdxA ka ea ia 1 fun ua =>
 LdP (ta.cell? ua) fun cb =>
 ∃S:World→Prop,S ta.drew∧∃(bb:Option Addr),Held S c (.pointer bb)∧NonNil bb fun p64 =>
 ∃(sa:Option Addr) (m:Nat) (ca:Nat),Held S p64 (.slice sa m ca)∧IdxA sa m ia 1 fun na =>
 ∃(pa:Option Addr),Held S na (.pointer pa)∧NonNil cb fun p72 =>
 ∃(ra:Option Addr) (i:Nat) (q:Nat),Held S (p72.add 8) (.slice ra i q)∧CallV Tryz.prog (.func (.func 98) #[] #[(.pointer (some c))]) #[(.slice ra i q)] ta.drew R (fun v da =>
 ∃(ha:Option Addr) (y:Nat) (h:Nat),v=(.slice ha y h) ∧
 S da∧NonNil pa fun p76 =>
 St da (p76.add 8) (.slice ha y h) fun fa =>
 NonNil cb fun p79 =>
 LdP (fa.cell? (p79.add 7)) fun ga =>
 Br (!(ga).isNone)
 (∃S2:World→Prop,S2 fa.drew∧∃(ya:Option Addr),Held S2 c (.pointer ya)∧NonNil ya fun p84 =>
 ∃(va:Option Addr) (z:Nat) (ba:Nat),Held S2 p84 (.slice va z ba)∧IdxA va z ia 1 fun ja =>
 ∃(qa:Option Addr),Held S2 ja (.pointer qa)∧∃(za:Option Addr),Held S2 c (.pointer za)∧NonNil za fun p91 =>
 ∃(ab:Option Addr) (j:Nat) (u:Nat),Held S2 p91 (.slice ab j u)∧NonNil cb fun p95 =>
 ∃(ma:Option Addr),Held S2 (p95.add 7) (.pointer ma)∧NonNil ma fun p98 =>
 ∃(g:Int),Held S2 p98 (.int .u32 g)∧InR .u32 (g-(1:Int))∧IdxA ab j (g-(1:Int)) 1 fun p =>
 ∃(t:Option Addr),Held S2 p (.pointer t)∧NonNil qa fun p104 =>
 St fa.drew (p104.add 7) (.pointer t) fun n =>
 J16 n)
 (J16 fa))))
 (∃S:World→Prop,S ta.drew∧∃(s:Option Addr),Held S c (.pointer s)∧NonNil d fun p110 =>
 ∃(r:Option Addr) (e:Nat) (f:Nat),Held S (p110.add 1) (.slice r e f)∧CallV Tryz.prog (.func (.func 98) #[] #[(.pointer (some c))]) #[(.slice r e f)] ta.drew R (fun v da =>
 ∃(k:Option Addr) (b:Nat) (a:Nat),v=(.slice k b a) ∧
 S da∧NonNil s fun p114 =>
 St da (p114.add 1) (.slice k b a) fun fa =>
 LdP (fa.cell? c) fun aa =>
 R (.returned (.pointer aa)) fa))
def F58_l3 (d:Option Addr) (c:Addr) (ya:Option Addr) (na:Nat) (L3:Int→World→Prop) (jb:Int) (bb:World) (R:Ending→World→Prop):Prop :=
 Br (decide (jb < ((na:Nat):Int)))
 (IdxA ya na jb 1 fun eb =>
 LdP (bb.cell? eb) fun db =>
 NonNil db fun p34 =>
 LdI .u32 (bb.cell? p34) fun n =>
 LdI .u32 (bb.cell? (p34.add 1)) fun g =>
 LdB (bb.cell? (p34.add 2)) fun i =>
 LdI .i64 (bb.cell? (p34.add 3)) fun t =>
 LdStr (bb.cell? (p34.add 4)) fun aa =>
 LdSl (bb.cell? (p34.add 5)) fun u a f =>
 LdStr (bb.cell? (p34.add 6)) fun z =>
 LdP (bb.cell? (p34.add 7)) fun k =>
 LdSl (bb.cell? (p34.add 8)) fun s b e =>
 Al bb #[(.int .u32 0),(.int .u32 0),(.bool false),(.int .i64 0),(.string (ByteArray.mk #[])),(.slice none 0 0),(.string (ByteArray.mk #[])),(.pointer none),(.slice none 0 0)] 117 fun m_ w1 =>
 St w1 m_ (.int .u32 n) fun qa =>
 St qa (m_.add 1) (.int .u32 g) fun ta =>
 St ta (m_.add 2) (.bool i) fun ia =>
 St ia (m_.add 3) (.int .i64 t) fun ca =>
 St ca (m_.add 4) (.string aa) fun ka =>
 St ka (m_.add 5) (.slice u a f) fun fa =>
 St fa (m_.add 6) (.string z) fun ga =>
 St ga (m_.add 7) (.pointer k) fun pa =>
 St pa (m_.add 8) (.slice s b e) fun r =>
 NonNil db fun p37 =>
 LdSl (r.cell? (p37.add 5)) fun za ua da =>
 Calls Tryz.prog 60 #[(.slice za ua da)] r (post R fun v p =>
 ∃(fb:Option Addr) (ha:Nat) (ma:Nat),v=(.slice fb ha ma) ∧
 St p (m_.add 5) (.slice fb ha ma) fun q =>
 ∃S:World→Prop,S q.drew∧∃(kb:Option Addr),Held S c (.pointer kb)∧∃(hb:Option Addr),Held S c (.pointer hb)∧NonNil hb fun p44 =>
 ∃(ab:Option Addr) (ja:Nat) (ea:Nat),Held S p44 (.slice ab ja ea)∧Al q.drew #[(.pointer (some m_))] 115 fun g47 h =>
 S h∧Raw Tryz.prog (Builtin.append_ #[73,73] 73 #[(.slice ab ja ea),(.slice (some g47) 1 1)]) h fun v2 j =>
 ∃(ib:Option Addr) (va:Nat) (ba:Nat),v2=(.slice ib va ba) ∧
 S j∧NonNil kb fun p49 =>
 St j p49 (.slice ib va ba) fun y =>
 InR .i64 (jb+(1:Int))∧L3 (jb+(1:Int)) y))
 (NonNil d fun p54 =>
 LdSl (bb.cell? p54) fun gb ra sa =>
 ∃(I:Int→World→Prop) (m:Int→World→Nat),I (0:Int) bb ∧
 ∀(cb:Int) (w1:World),I cb w1→F58_l11 d c gb ra (fun cb' w2=>I cb' w2∧m cb' w2 < m cb w1) cb w1 R)
def F58_j2 (d:Option Addr) (c:Addr) (e:World) (R:Ending→World→Prop):Prop :=
 NonNil d fun p25 =>
 LdSl (e.cell? p25) fun g b a =>
 ∃(I:Int→World→Prop) (m:Int→World→Nat),I (0:Int) e ∧
 ∀(f:Int) (w1:World),I f w1→F58_l3 d c g b (fun f' w2=>I f' w2∧m f' w2 < m f w1) f w1 R
def F58 (d:Option Addr) (i:World) (R:Ending→World→Prop):Prop :=
 ∃J2:Addr→World→Prop,(∀(c:Addr) (w1:World),J2 c w1→F58_j2 d c w1 R) ∧
 (∃S:World→Prop,S i.drew∧NonNil d fun p11 =>
 ∃(g:Int),Held S (p11.add 2) (.int .i64 g)∧NonNil d fun p15 =>
 ∃(h:Int),Held S (p15.add 3) (.int .i64 h)∧NonNil d fun p19 =>
 ∃(f:Int),Held S (p19.add 4) (.int .i64 f)∧(Al i.drew #[(.slice none 0 0),(.slice none 0 0),(.int .i64 g),(.int .i64 h),(.int .i64 f)] 75 fun g23 b =>
 Al b #[(.pointer none)] 60 fun c a =>
 St a c (.pointer (some g23)) fun e =>
 J2 c e)
 ∧ (Al i.drew #[(.pointer none)] 60 fun c b =>
 S b∧Al b #[(.slice none 0 0),(.slice none 0 0),(.int .i64 g),(.int .i64 h),(.int .i64 f)] 75 fun g23 a =>
 St a c (.pointer (some g23)) fun e =>
 J2 c e))
theorem ok58 (d:Option Addr) {w:World}{R:Ending→World→Prop} (h:F58 d w R):Calls Tryz.prog 58 #[(.pointer d)] w R :=
 vc_calls (pl:=⟨117,⟨[]⟩,[(16,⟨[],[(8,10),(60,106)]⟩),(2,⟨[(3,(.s .addr))],[(3,24)]⟩)],[(3,⟨[(29,(.s (.int .i64)))],[(5,7),(29,52)]⟩),(11,⟨[(58,(.s (.int .i64)))],[(8,10),(58,107)]⟩)]⟩) Tryz.func58 (by kernel_rfl) (by kernel_rfl) (by kernel_rfl) (Eq.mp (by kernel_rfl) h)
def F98_l3 (l:Option Addr) (lN:Nat) (cap0:Addr) (L3:Option Addr→Nat→Nat→Int→World→Prop) (out:Option Addr) (outN:Nat) (outC:Nat) (r:Int) (h:World) (R:Ending→World→Prop):Prop :=
 Br (decide (r < ((lN:Nat):Int)))
 (IdxA l lN r 1 fun p =>
 LdP (h.cell? p) fun m =>
 ∃S:World→Prop,S h.drew∧∃(i:Option Addr),Held S cap0 (.pointer i)∧NonNil i fun p15 =>
 ∃(n:Option Addr) (b:Nat) (f:Nat),Held S p15 (.slice n b f)∧NonNil m fun p19 =>
 ∃(g:Int),Held S p19 (.int .u32 g)∧InR .u32 (g-(1:Int))∧IdxA n b (g-(1:Int)) 1 fun j =>
 ∃(k:Option Addr),Held S j (.pointer k)∧Al h.drew #[(.pointer k)] 115 fun g25 e =>
 Raw Tryz.prog (Builtin.append_ #[73,73] 73 #[(.slice out outN outC),(.slice (some g25) 1 1)]) e fun v c =>
 ∃(q:Option Addr) (d:Nat) (a:Nat),v=(.slice q d a) ∧
 InR .i64 (r+(1:Int))∧L3 q d a (r+(1:Int)) c)
 (R (.returned (.slice out outN outC)) h)
def F98 (l:Option Addr) (lN:Nat) (lC:Nat) (cap0:Addr) (b:World) (R:Ending→World→Prop):Prop :=
 ∃(I:Option Addr→Nat→Nat→Int→World→Prop) (m:Option Addr→Nat→Nat→Int→World→Nat),I none 0 0 (0:Int) b ∧
 ∀(out:Option Addr) (outN:Nat) (outC:Nat) (a:Int) (w1:World),I out outN outC a w1→F98_l3 l lN cap0 (fun out' outN' outC' a' w2=>I out' outN' outC' a' w2∧m out' outN' outC' a' w2 < m out outN outC a w1) out outN outC a w1 R
theorem ok98 (l:Option Addr) (lN:Nat) (lC:Nat) (cap0:Addr) {w:World}{R:Ending→World→Prop} (h:F98 l lN lC cap0 w R):Calls Tryz.prog 98 #[(.slice l lN lC),(.pointer (some cap0))] w R :=
 vc_calls (pl:=⟨29,⟨[]⟩,[],[(3,⟨[(4,(.s .slice)),(9,(.s (.int .i64)))],[(4,7),(9,28)]⟩)]⟩) Tryz.func98 (by kernel_rfl) (by kernel_rfl) (by kernel_rfl) (Eq.mp (by kernel_rfl) h)
def F48_j10 (d:Option Addr) (where_:Int) (g7:Addr) (l:Addr) (v:Option Addr) (u:World) (R:Ending→World→Prop):Prop :=
 Calls Tryz.prog 84 #[(.pointer d),(.int .i64 where_),(.pointer v)] u (post R fun v4 s =>
 ∃(n:Option Addr) (g:Int),v4=(.tuple #[(.pointer n),(.int .i64 g)]) ∧
 Br (g != (0:Int))
 (R (.returned (.tuple #[(.int .u64 0),(.int .i64 g)])) s)
 (∃S:World→Prop,S s.drew∧∃(ea:Int),Held S (l.add 1) (.int .i64 ea)∧Calls Tryz.prog 85 #[(.pointer n)] s.drew (post R fun v5 r =>
 ∃(y:Int),v5=(.int .i64 y) ∧
 S r∧InR .i64 (y+(1:Int))∧InR .i64 ((y+(1:Int))+ea)∧Br (decide (((y+(1:Int))+ea) > (64:Int)))
 (R (.returned (.tuple #[(.int .u64 0),(.int .i64 32)])) r)
 (Dr r fun t =>
 NonNil d fun p55 =>
 LdI .i64 (t.cell? (p55.add 2)) fun z =>
 NonNil d fun p59 =>
 LdI .i64 (t.cell? (p59.add 3)) fun da =>
 InR .i64 (z+da)∧LdI .i64 (t.cell? l) fun ba =>
 InR .i64 ((z+da)+ba)∧Br (decide (((z+da)+ba) > (4096:Int)))
 (R (.returned (.tuple #[(.int .u64 0),(.int .i64 33)])) t)
 (LdI .i64 (t.cell? g7) fun i =>
 LdStr (t.cell? (g7.add 1)) fun f =>
 LdSl (t.cell? (g7.add 2)) fun k b e =>
 LdStr (t.cell? (g7.add 3)) fun m =>
 LdSl (t.cell? (g7.add 4)) fun q a c =>
 Calls Tryz.prog 86 #[(.pointer d),(.agg #[(.int .i64 i),(.string f),(.slice k b e),(.string m),(.slice q a c)]),(.pointer n)] t (post R fun v6 j =>
 ∃(ca:Option Addr),v6=(.pointer ca) ∧
 Calls Tryz.prog 87 #[(.pointer d),(.pointer ca),(.pointer n),(.int .i64 where_),(.pointer v)] j (post R fun v7 p =>
 v7=(.tuple #[]) ∧
 Calls Tryz.prog 61 #[(.pointer ca)] p (post R fun v8 h =>
 ∃(aa:Int),v8=(.int .u64 aa) ∧
 R (.returned (.tuple #[(.int .u64 aa),(.int .i64 0)])) h))))))))
def F48 (d:Option Addr) (where_:Int) (at_:Int) (x_0:Int) (x_1:ByteArray) (x_2:Option Addr) (x_2N:Nat) (x_2C:Nat) (x_3:ByteArray) (x_4:Option Addr) (x_4N:Nat) (x_4C:Nat) (u:World) (R:Ending→World→Prop):Prop :=
 Al u #[(.int .i64 x_0),(.string x_1),(.slice x_2 x_2N x_2C),(.string x_3),(.slice x_4 x_4N x_4C)] 54 fun g7 w1 =>
 Calls Tryz.prog 82 #[(.int .i64 where_),(.int .u64 at_)] w1 (post R fun v m =>
 ∃(t:Bool),v=(.bool t) ∧
 Br (!t)
 (R (.returned (.tuple #[(.int .u64 0),(.int .i64 1)])) m)
 (Al m #[(.int .i64 0),(.int .i64 0)] 125 fun l p =>
 LdI .i64 (p.cell? g7) fun g =>
 LdStr (p.cell? (g7.add 1)) fun f =>
 LdSl (p.cell? (g7.add 2)) fun j b c =>
 LdStr (p.cell? (g7.add 3)) fun h =>
 LdSl (p.cell? (g7.add 4)) fun i e a =>
 Calls Tryz.prog 63 #[(.pointer (some l)),(.agg #[(.int .i64 g),(.string f),(.slice j b c),(.string h),(.slice i e a)]),(.int .i64 1)] p (post R fun v2 q =>
 ∃(r:Int),v2=(.int .i64 r) ∧
 Br (r != (0:Int))
 (R (.returned (.tuple #[(.int .u64 0),(.int .i64 r)])) q)
 (Calls Tryz.prog 83 #[(.pointer d),(.int .u64 at_)] q (post R fun v3 k =>
 ∃(s:Option Addr),v3=(.pointer s) ∧
 ∃J10:World→Prop,(∀ (n:World),J10 n→F48_j10 d where_ g7 l s n R) ∧
 (Br (at_ != (0:Int))
 (Br (s).isNone
 (R (.returned (.tuple #[(.int .u64 0),(.int .i64 8)])) k)
 (J10 k))
 (J10 k)))))))
theorem ok48 (d:Option Addr) (where_:Int) (at_:Int) (x_0:Int) (x_1:ByteArray) (x_2:Option Addr) (x_2N:Nat) (x_2C:Nat) (x_3:ByteArray) (x_4:Option Addr) (x_4N:Nat) (x_4C:Nat) {w:World}{R:Ending→World→Prop} (h:F48 d where_ at_ x_0 x_1 x_2 x_2N x_2C x_3 x_4 x_4N x_4C w R):Calls Tryz.prog 48 #[(.pointer d),(.int .i64 where_),(.int .u64 at_),(.agg #[(.int .i64 x_0),(.string x_1),(.slice x_2 x_2N x_2C),(.string x_3),(.slice x_4 x_4N x_4C)])] w R :=
 vc_calls (pl:=⟨79,⟨[]⟩,[(10,⟨[],[(8,10),(28,34)]⟩)],[]⟩) Tryz.func48 (by kernel_rfl) (by kernel_rfl) (by kernel_rfl) (Eq.mp (by kernel_rfl) h)
def F89 (d:Option Addr) (h_:Int) (j:World) (R:Ending→World→Prop):Prop :=
 Calls Tryz.prog 83 #[(.pointer d),(.int .u64 h_)] j (post R fun v w1 =>
 ∃(i:Option Addr),v=(.pointer i) ∧
 Br (i).isNone
 (R (.returned (.tuple #[(.slice none 0 0),(.int .i64 8)])) w1)
 (NonNil i fun p13 =>
 LdSl (w1.cell? (p13.add 8)) fun g f b =>
 Calls Tryz.prog 62 #[(.slice g f b)] w1 (post R fun v2 e =>
 ∃(h:Option Addr) (c:Nat) (a:Nat),v2=(.slice h c a) ∧
 R (.returned (.tuple #[(.slice h c a),(.int .i64 0)])) e)))
theorem ok89 (d:Option Addr) (h_:Int) {w:World}{R:Ending→World→Prop} (h:F89 d h_ w R):Calls Tryz.prog 89 #[(.pointer d),(.int .u64 h_)] w R :=
 vc_calls (pl:=⟨17,⟨[]⟩,[],[]⟩) Tryz.func89 (by kernel_rfl) (by kernel_rfl) (by kernel_rfl) (Eq.mp (by kernel_rfl) h)
def F90 (d:Option Addr) (h_:Int) (f:World) (R:Ending→World→Prop):Prop :=
 Calls Tryz.prog 83 #[(.pointer d),(.int .u64 h_)] f (post R fun v w1 =>
 ∃(e:Option Addr),v=(.pointer e) ∧
 Br (e).isNone
 (R (.returned (.tuple #[(.int .u64 0),(.int .i64 8)])) w1)
 (NonNil e fun p13 =>
 LdP (w1.cell? (p13.add 7)) fun b =>
 Calls Tryz.prog 61 #[(.pointer b)] w1 (post R fun v2 a =>
 ∃(c:Int),v2=(.int .u64 c) ∧
 R (.returned (.tuple #[(.int .u64 c),(.int .i64 0)])) a)))
theorem ok90 (d:Option Addr) (h_:Int) {w:World}{R:Ending→World→Prop} (h:F90 d h_ w R):Calls Tryz.prog 90 #[(.pointer d),(.int .u64 h_)] w R :=
 vc_calls (pl:=⟨17,⟨[]⟩,[],[]⟩) Tryz.func90 (by kernel_rfl) (by kernel_rfl) (by kernel_rfl) (Eq.mp (by kernel_rfl) h)
def F59 (d:Option Addr) (f:World) (R:Ending→World→Prop):Prop :=
 NonNil d fun p4 =>
 LdSl (f.cell? (p4.add 1)) fun h b c =>
 Calls Tryz.prog 62 #[(.slice h b c)] f (post R fun v w1 =>
 ∃(g:Option Addr) (e:Nat) (a:Nat),v=(.slice g e a) ∧
 R (.returned (.slice g e a)) w1)
theorem ok59 (d:Option Addr) {w:World}{R:Ending→World→Prop} (h:F59 d w R):Calls Tryz.prog 59 #[(.pointer d)] w R :=
 vc_calls (pl:=⟨8,⟨[]⟩,[],[]⟩) Tryz.func59 (by kernel_rfl) (by kernel_rfl) (by kernel_rfl) (Eq.mp (by kernel_rfl) h)
def F83_j7 (b:Option Addr) (a:World) (R:Ending→World→Prop):Prop :=
 R (.returned (.pointer b)) a
def F83_j4 (d:Option Addr) (h_:Int) (e:World) (R:Ending→World→Prop):Prop :=
 NonNil d fun p22 =>
 LdSl (e.cell? p22) fun i a b =>
 InR .u64 ((bAnd .u64 h_ (4294967295:Int))-(1:Int))∧IdxA i a ((bAnd .u64 h_ (4294967295:Int))-(1:Int)) 1 fun g =>
 LdP (e.cell? g) fun f =>
 ∃J7:World→Prop,(∀ (w1:World),J7 w1→F83_j7 f w1 R) ∧
 (NonNil f fun p30 =>
 LdB (e.cell? (p30.add 2)) fun c =>
 Br (!c)
 (R (.returned (.pointer none)) e)
 (Calls Tryz.prog 61 #[(.pointer f)] e (post R fun v w1 =>
 ∃(h:Int),v=(.int .u64 h) ∧
 Br (h != h_)
 (R (.returned (.pointer none)) w1)
 (J7 w1))))
def F83 (d:Option Addr) (h_:Int) (e:World) (R:Ending→World→Prop):Prop :=
 ∃J4:World→Prop,(∀ (w1:World),J4 w1→F83_j4 d h_ w1 R) ∧
 (Br ((bAnd .u64 h_ (4294967295:Int)) == (0:Int))
 (R (.returned (.pointer none)) e)
 (NonNil d fun p14 =>
 LdSl (e.cell? p14) fun c b a =>
 InR .u64 (((b:Nat):Int))∧Br (decide ((bAnd .u64 h_ (4294967295:Int)) > (((b:Nat):Int))))
 (R (.returned (.pointer none)) e)
 (J4 e)))
theorem ok83 (d:Option Addr) (h_:Int) {w:World}{R:Ending→World→Prop} (h:F83 d h_ w R):Calls Tryz.prog 83 #[(.pointer d),(.int .u64 h_)] w R :=
 vc_calls (pl:=⟨41,⟨[]⟩,[(7,⟨[],[(4,5),(29,40)]⟩),(4,⟨[],[(4,5),(9,21)]⟩)],[]⟩) Tryz.func83 (by kernel_rfl) (by kernel_rfl) (by kernel_rfl) (Eq.mp (by kernel_rfl) h)
def F119_j5 (d:Option Addr) (i:World) (R:Ending→World→Prop):Prop :=
 Dr i fun w1 =>
 NonNil d fun p80 =>
 LdSl (w1.cell? p80) fun m b c =>
 NonNil d fun p84 =>
 LdI .i64 (w1.cell? (p84.add 4)) fun j =>
 IdxA m b j 1 fun k =>
 LdP (w1.cell? k) fun n =>
 NonNil n fun p90 =>
 LdI .u32 (w1.cell? (p90.add 1)) fun h =>
 InR .u32 (h+(1:Int))∧NonNil n fun p94 =>
 St w1 (p94.add 1) (.int .u32 (h+(1:Int))) fun e =>
 NonNil n fun p97 =>
 St e (p97.add 2) (.bool true) fun f =>
 NonNil d fun p100 =>
 LdI .i64 (f.cell? (p100.add 2)) fun a =>
 InR .i64 (a+(1:Int))∧NonNil d fun p104 =>
 St f (p104.add 2) (.int .i64 (a+(1:Int))) fun g =>
 R (.returned (.pointer n)) g
def F119_j3 (d:Option Addr) (m:World) (R:Ending→World→Prop):Prop :=
 ∃J5:World→Prop,(∀ (w1:World),J5 w1→F119_j5 d w1 R) ∧
 (Dr m fun w1 =>
 NonNil d fun p53 =>
 LdI .i64 (w1.cell? (p53.add 4)) fun s =>
 NonNil d fun p57 =>
 LdSl (w1.cell? p57) fun n c g =>
 Br (s == ((c:Nat):Int))
 (∃S:World→Prop,S w1.drew∧NonNil d fun p64 =>
 ∃(p:Option Addr) (a:Nat) (f:Nat),Held S p64 (.slice p a f)∧NonNil d fun p68 =>
 ∃(q:Int),Held S (p68.add 4) (.int .i64 q)∧InR .i64 (q+(1:Int))∧InR .u32 ((q+(1:Int)))∧Al w1.drew #[(.int .u32 ((q+(1:Int)))),(.int .u32 0),(.bool false),(.int .i64 0),(.string (ByteArray.mk #[])),(.slice none 0 0),(.string (ByteArray.mk #[])),(.pointer none),(.slice none 0 0)] 117 fun g74 i =>
 S i∧Al i #[(.pointer (some g74))] 115 fun g75 k =>
 S k∧Raw Tryz.prog (Builtin.append_ #[73,73] 73 #[(.slice p a f),(.slice (some g75) 1 1)]) k fun v b =>
 ∃(r:Option Addr) (j:Nat) (e:Nat),v=(.slice r j e) ∧
 NonNil d fun p77 =>
 St b p77 (.slice r j e) fun h =>
 J5 h)
 (J5 w1))
def F119_j2 (d:Option Addr) (L1:World→Prop) (b:World) (R:Ending→World→Prop):Prop :=
 NonNil d fun p46 =>
 LdI .i64 (b.cell? (p46.add 4)) fun a =>
 InR .i64 (a+(1:Int))∧NonNil d fun p50 =>
 St b (p50.add 4) (.int .i64 (a+(1:Int))) fun w1 =>
 L1 w1
def F119_l1 (d:Option Addr) (J3:World→Prop) (L1:World→Prop) (h:World) (R:Ending→World→Prop):Prop :=
 ∃J2:World→Prop,(∀ (w1:World),J2 w1→F119_j2 d L1 w1 R) ∧
 (Dr h fun w1 =>
 NonNil d fun p5 =>
 LdI .i64 (w1.cell? (p5.add 4)) fun v =>
 NonNil d fun p9 =>
 LdSl (w1.cell? p9) fun q c f =>
 Br (decide (v < ((c:Nat):Int)))
 (NonNil d fun p16 =>
 LdSl (w1.cell? p16) fun m e b =>
 NonNil d fun p20 =>
 LdI .i64 (w1.cell? (p20.add 4)) fun n =>
 IdxA m e n 1 fun j =>
 LdP (w1.cell? j) fun s =>
 NonNil s fun p25 =>
 LdB (w1.cell? (p25.add 2)) fun i =>
 Br i
 (J2 w1)
 (NonNil d fun p30 =>
 LdSl (w1.cell? p30) fun p a g =>
 NonNil d fun p34 =>
 LdI .i64 (w1.cell? (p34.add 4)) fun t =>
 IdxA p a t 1 fun k =>
 LdP (w1.cell? k) fun r =>
 NonNil r fun p39 =>
 LdI .u32 (w1.cell? (p39.add 1)) fun u =>
 Br (u == (4294967295:Int))
 (J2 w1)
 (J3 w1)))
 (J3 w1))
def F119 (d:Option Addr) (a:World) (R:Ending→World→Prop):Prop :=
 ∃J3:World→Prop,(∀ (w1:World),J3 w1→F119_j3 d w1 R) ∧
 (∃(I:World→Prop) (m:World→Nat),I  a ∧
 ∀ (w1:World),I  w1→F119_l1 d J3 (fun  w2=>I  w2∧m  w2 < m  w1)  w1 R)
theorem ok119 (d:Option Addr) {w:World}{R:Ending→World→Prop} (h:F119 d w R):Calls Tryz.prog 119 #[(.pointer d)] w R :=
 vc_calls (pl:=⟨107,⟨[]⟩,[(2,⟨[],[(4,45)]⟩),(5,⟨[],[(52,79)]⟩),(3,⟨[],[(4,52)]⟩)],[(1,⟨[],[(4,52)]⟩)]⟩) Tryz.func119 (by kernel_rfl) (by kernel_rfl) (by kernel_rfl) (Eq.mp (by kernel_rfl) h)
def F120 (d:Option Addr) (n:Option Addr) (a:World) (R:Ending→World→Prop):Prop :=
 Br (n).isNone
 (NonNil d fun p8 =>
 R (.returned (.pointer (some (p8.add 1)))) a)
 (NonNil n fun p11 =>
 R (.returned (.pointer (some (p11.add 8)))) a)
theorem ok120 (d:Option Addr) (n:Option Addr) {w:World}{R:Ending→World→Prop} (h:F120 d n w R):Calls Tryz.prog 120 #[(.pointer d),(.pointer n)] w R :=
 vc_calls (pl:=⟨13,⟨[]⟩,[],[]⟩) Tryz.func120 (by kernel_rfl) (by kernel_rfl) (by kernel_rfl) (Eq.mp (by kernel_rfl) h)
def F86_l8 (d:Option Addr) (ta:Option Addr) (ya:Option Addr) (ja:Nat) (L8:Int→World→Prop) (ua:Int) (pa:World) (R:Ending→World→Prop):Prop :=
 Br (decide (ua < ((ja:Nat):Int)))
 (IdxA ya ja ua 5 fun ra =>
 LdI .i64 (pa.cell? ra) fun t =>
 LdStr (pa.cell? (ra.add 1)) fun n =>
 LdSl (pa.cell? (ra.add 2)) fun q e h =>
 LdStr (pa.cell? (ra.add 3)) fun r =>
 LdSl (pa.cell? (ra.add 4)) fun m g a =>
 Al pa #[(.int .i64 0),(.string (ByteArray.mk #[])),(.slice none 0 0),(.string (ByteArray.mk #[])),(.slice none 0 0)] 54 fun k ma =>
 St ma k (.int .i64 t) fun y =>
 St y (k.add 1) (.string n) fun ga =>
 St ga (k.add 2) (.slice q e h) fun v =>
 St v (k.add 3) (.string r) fun ba =>
 St ba (k.add 4) (.slice m g a) fun p =>
 ∃S2:World→Prop,S2 p.drew∧NonNil ta fun p50 =>
 ∃(va:Option Addr) (na:Nat) (ia:Nat),Held S2 (p50.add 8) (.slice va na ia)∧∃(s:Int),Held S2 k (.int .i64 s)∧∃(aa:ByteArray),Held S2 (k.add 1) (.string aa)∧∃(j:Option Addr) (i:Nat) (b:Nat),Held S2 (k.add 2) (.slice j i b)∧∃(z:ByteArray),Held S2 (k.add 3) (.string z)∧∃(fa:Option Addr) (f:Nat) (c:Nat),Held S2 (k.add 4) (.slice fa f c)∧Calls Tryz.prog 86 #[(.pointer d),(.agg #[(.int .i64 s),(.string aa),(.slice j i b),(.string z),(.slice fa f c)]),(.pointer ta)] p.drew (post R fun v3 ea =>
 ∃(sa:Option Addr),v3=(.pointer sa) ∧
 S2 ea∧Al ea #[(.pointer sa)] 115 fun g57 u =>
 S2 u∧Raw Tryz.prog (Builtin.append_ #[73,73] 73 #[(.slice va na ia),(.slice (some g57) 1 1)]) u fun v4 da =>
 ∃(qa:Option Addr) (ka:Nat) (ha:Nat),v4=(.slice qa ka ha) ∧
 NonNil ta fun p59 =>
 St da (p59.add 8) (.slice qa ka ha) fun ca =>
 InR .i64 (ua+(1:Int))∧L8 (ua+(1:Int)) ca))
 (R (.returned (.pointer ta)) pa)
def F86 (d:Option Addr) (x_0:Int) (x_1:ByteArray) (x_2:Option Addr) (x_2N:Nat) (x_2C:Nat) (x_3:ByteArray) (x_4:Option Addr) (x_4N:Nat) (x_4C:Nat) (parent:Option Addr) (w_:World) (R:Ending→World→Prop):Prop :=
 Al w_ #[(.int .i64 x_0),(.string x_1),(.slice x_2 x_2N x_2C),(.string x_3),(.slice x_4 x_4N x_4C)] 54 fun g4 w1 =>
 Calls Tryz.prog 119 #[(.pointer d)] w1 (post R fun v q =>
 ∃(z:Option Addr),v=(.pointer z) ∧
 LdI .i64 (q.cell? g4) fun y =>
 NonNil z fun p17 =>
 St q (p17.add 3) (.int .i64 y) fun b =>
 NonNil z fun p19 =>
 St b (p19.add 7) (.pointer parent) fun g =>
 LdI .i64 (g.cell? g4) fun t =>
 Br (t == (2:Int))
 (LdStr (g.cell? (g4.add 3)) fun u =>
 NonNil z fun p27 =>
 St g (p27.add 6) (.string u) fun c =>
 R (.returned (.pointer z)) c)
 (∃S:World→Prop,S g.drew∧∃(ba:ByteArray),Held S (g4.add 1) (.string ba)∧∃(s:Option Addr) (k:Nat) (a:Nat),Held S (g4.add 2) (.slice s k a)∧Calls Tryz.prog 60 #[(.slice s k a)] g.drew (post R fun v2 j =>
 ∃(da:Option Addr) (r:Nat) (n:Nat),v2=(.slice da r n) ∧
 S j∧NonNil z fun p37 =>
 St j (p37.add 4) (.string ba) fun e =>
 NonNil z fun p39 =>
 St e (p39.add 5) (.slice da r n) fun f =>
 LdSl (f.cell? (g4.add 4)) fun ca i h =>
 ∃(I:Int→World→Prop) (m:Int→World→Nat),I (0:Int) f ∧
 ∀(aa:Int) (p:World),I aa p→F86_l8 d z ca i (fun aa' w2=>I aa' w2∧m aa' w2 < m aa p) aa p R)))
theorem ok86 (d:Option Addr) (x_0:Int) (x_1:ByteArray) (x_2:Option Addr) (x_2N:Nat) (x_2C:Nat) (x_3:ByteArray) (x_4:Option Addr) (x_4N:Nat) (x_4C:Nat) (parent:Option Addr) {w:World}{R:Ending→World→Prop} (h:F86 d x_0 x_1 x_2 x_2N x_2C x_3 x_4 x_4N x_4C parent w R):Calls Tryz.prog 86 #[(.pointer d),(.agg #[(.int .i64 x_0),(.string x_1),(.slice x_2 x_2N x_2C),(.string x_3),(.slice x_4 x_4N x_4C)]),(.pointer parent)] w R :=
 vc_calls (pl:=⟨63,⟨[]⟩,[],[(8,⟨[(44,(.s (.int .i64)))],[(9,10),(44,62)]⟩)]⟩) Tryz.func86 (by kernel_rfl) (by kernel_rfl) (by kernel_rfl) (Eq.mp (by kernel_rfl) h)
def F84_j5 (at_:Option Addr) (a:World) (R:Ending→World→Prop):Prop :=
 R (.returned (.tuple #[(.pointer at_),(.int .i64 0)])) a
def F84 (d:Option Addr) (where_:Int) (at_:Option Addr) (c:World) (R:Ending→World→Prop):Prop :=
 ∃J5:World→Prop,(∀ (w1:World),J5 w1→F84_j5 at_ w1 R) ∧
 (Br (decide (where_ > (2:Int)))
 (NonNil at_ fun p12 =>
 LdP (c.cell? (p12.add 7)) fun a =>
 R (.returned (.tuple #[(.pointer a),(.int .i64 0)])) c)
 (Br (!(at_).isNone)
 (NonNil at_ fun p20 =>
 LdI .i64 (c.cell? (p20.add 3)) fun b =>
 Br (b == (2:Int))
 (R (.returned (.tuple #[(.pointer none),(.int .i64 31)])) c)
 (J5 c))
 (J5 c)))
theorem ok84 (d:Option Addr) (where_:Int) (at_:Option Addr) {w:World}{R:Ending→World→Prop} (h:F84 d where_ at_ w R):Calls Tryz.prog 84 #[(.pointer d),(.int .i64 where_),(.pointer at_)] w R :=
 vc_calls (pl:=⟨26,⟨[]⟩,[(5,⟨[],[(6,25)]⟩)],[]⟩) Tryz.func84 (by kernel_rfl) (by kernel_rfl) (by kernel_rfl) (Eq.mp (by kernel_rfl) h)
def F87_j9 (n:Option Addr) (parent:Option Addr) (k:Option Addr) (i:Int) (j:World) (R:Ending→World→Prop):Prop :=
 NonNil k fun p39 =>
 LdSl (j.cell? p39) fun p f b =>
 Al j #[(.pointer n)] 115 fun g43 d =>
 Calls Tryz.prog 122 #[(.slice p f b),(.int .i64 i),(.slice (some g43) 1 1)] d (post R fun v2 e =>
 ∃(m:Option Addr) (c:Nat) (g:Nat),v2=(.slice m c g) ∧
 NonNil k fun p45 =>
 St e p45 (.slice m c g) fun h =>
 NonNil n fun p48 =>
 St h (p48.add 7) (.pointer parent) fun a =>
 R (.returned (.tuple #[])) a)
def F87 (d:Option Addr) (n:Option Addr) (parent:Option Addr) (where_:Int) (at_:Option Addr) (s:World) (R:Ending→World→Prop):Prop :=
 Calls Tryz.prog 120 #[(.pointer d),(.pointer parent)] s (post R fun v w1 =>
 ∃(k:Option Addr),v=(.pointer k) ∧
 ∃J9:Int→World→Prop,(∀(i:Int) (g:World),J9 i g→F87_j9 n parent k i g R) ∧
 (Br (where_ == (2:Int))
 (NonNil k fun p19 =>
 LdSl (w1.cell? p19) fun q h c =>
 J9 ((h:Nat):Int) w1)
 (Br (where_ == (3:Int))
 (NonNil k fun p25 =>
 LdSl (w1.cell? p25) fun r f a =>
 Calls Tryz.prog 121 #[(.slice r f a),(.pointer at_)] w1 (post R fun v2 g =>
 ∃(j:Int),v2=(.int .i64 j) ∧
 J9 j g))
 (Br (where_ == (4:Int))
 (NonNil k fun p32 =>
 LdSl (w1.cell? p32) fun m e b =>
 Calls Tryz.prog 121 #[(.slice m e b),(.pointer at_)] w1 (post R fun v2 g =>
 ∃(p:Int),v2=(.int .i64 p) ∧
 InR .i64 (p+(1:Int))∧J9 (p+(1:Int)) g))
 (J9 (0:Int) w1)))))
theorem ok87 (d:Option Addr) (n:Option Addr) (parent:Option Addr) (where_:Int) (at_:Option Addr) {w:World}{R:Ending→World→Prop} (h:F87 d n parent where_ at_ w R):Calls Tryz.prog 87 #[(.pointer d),(.pointer n),(.pointer parent),(.int .i64 where_),(.pointer at_)] w R :=
 vc_calls (pl:=⟨50,⟨[]⟩,[(9,⟨[(11,(.s (.int .i64)))],[(11,37)]⟩)],[]⟩) Tryz.func87 (by kernel_rfl) (by kernel_rfl) (by kernel_rfl) (Eq.mp (by kernel_rfl) h)
def F63_l11 (l:Option Addr) (deep:Int) (ja:Option Addr) (da:Nat) (L11:Int→World→Prop) (ha:Int) (fa:World) (R:Ending→World→Prop):Prop :=
 Br (decide (ha < ((da:Nat):Int)))
 (IdxA ja da ha 5 fun ga =>
 LdI .i64 (fa.cell? ga) fun m =>
 LdStr (fa.cell? (ga.add 1)) fun u =>
 LdSl (fa.cell? (ga.add 2)) fun t c a =>
 LdStr (fa.cell? (ga.add 3)) fun p =>
 LdSl (fa.cell? (ga.add 4)) fun y e f =>
 Al fa #[(.int .i64 0),(.string (ByteArray.mk #[])),(.slice none 0 0),(.string (ByteArray.mk #[])),(.slice none 0 0)] 54 fun k z =>
 St z k (.int .i64 m) fun ca =>
 St ca (k.add 1) (.string u) fun aa =>
 St aa (k.add 2) (.slice t c a) fun ba =>
 St ba (k.add 3) (.string p) fun ea =>
 St ea (k.add 4) (.slice y e f) fun r =>
 LdI .i64 (r.cell? k) fun j =>
 LdStr (r.cell? (k.add 1)) fun n =>
 LdSl (r.cell? (k.add 2)) fun s h b =>
 LdStr (r.cell? (k.add 3)) fun v =>
 LdSl (r.cell? (k.add 4)) fun i d g =>
 InR .i64 (deep+(1:Int))∧Calls Tryz.prog 63 #[(.pointer l),(.agg #[(.int .i64 j),(.string n),(.slice s h b),(.string v),(.slice i d g)]),(.int .i64 (deep+(1:Int)))] r (post R fun v2 q =>
 ∃(ia:Int),v2=(.int .i64 ia) ∧
 Br (ia != (0:Int))
 (R (.returned (.int .i64 ia)) q)
 (InR .i64 (ha+(1:Int))∧L11 (ha+(1:Int)) q)))
 (R (.returned (.int .i64 0)) fa)
def F63_j3 (l:Option Addr) (deep:Int) (g4:Addr) (s:World) (R:Ending→World→Prop):Prop :=
 LdI .i64 (s.cell? g4) fun g =>
 LdStr (s.cell? (g4.add 1)) fun e =>
 LdSl (s.cell? (g4.add 2)) fun h a c =>
 LdStr (s.cell? (g4.add 3)) fun f =>
 LdSl (s.cell? (g4.add 4)) fun i b d =>
 Calls Tryz.prog 99 #[(.agg #[(.int .i64 g),(.string e),(.slice h a c),(.string f),(.slice i b d)])] s (post R fun v q =>
 ∃(u:Int),v=(.int .i64 u) ∧
 Br (u != (0:Int))
 (R (.returned (.int .i64 u)) q)
 (NonNil l fun p26 =>
 LdI .i64 (q.cell? p26) fun z =>
 InR .i64 (z+(1:Int))∧NonNil l fun p30 =>
 St q p30 (.int .i64 (z+(1:Int))) fun r =>
 NonNil l fun p34 =>
 LdI .i64 (r.cell? (p34.add 1)) fun y =>
 NonNil l fun p39 =>
 St r (p39.add 1) (.int .i64 (if deep > y then deep else y)) fun k =>
 LdI .i64 (k.cell? g4) fun ba =>
 Br (ba == (2:Int))
 (R (.returned (.int .i64 0)) k)
 (LdSl (k.cell? (g4.add 4)) fun aa n p =>
 ∃(I:Int→World→Prop) (m:Int→World→Nat),I (0:Int) k ∧
 ∀(t:Int) (j:World),I t j→F63_l11 l deep aa n (fun t' w2=>I t' w2∧m t' w2 < m t j) t j R)))
def F63 (l:Option Addr) (x_0:Int) (x_1:ByteArray) (x_2:Option Addr) (x_2N:Nat) (x_2C:Nat) (x_3:ByteArray) (x_4:Option Addr) (x_4N:Nat) (x_4C:Nat) (deep:Int) (c:World) (R:Ending→World→Prop):Prop :=
 Al c #[(.int .i64 x_0),(.string x_1),(.slice x_2 x_2N x_2C),(.string x_3),(.slice x_4 x_4N x_4C)] 54 fun g4 w1 =>
 ∃J3:World→Prop,(∀ (a:World),J3 a→F63_j3 l deep g4 a R) ∧
 (Br (decide (deep > (64:Int)))
 (R (.returned (.int .i64 2)) w1)
 (NonNil l fun p15 =>
 LdI .i64 (w1.cell? p15) fun b =>
 Br (decide (b≥(4096:Int)))
 (R (.returned (.int .i64 2)) w1)
 (J3 w1)))
theorem ok63 (l:Option Addr) (x_0:Int) (x_1:ByteArray) (x_2:Option Addr) (x_2N:Nat) (x_2C:Nat) (x_3:ByteArray) (x_4:Option Addr) (x_4N:Nat) (x_4C:Nat) (deep:Int) {w:World}{R:Ending→World→Prop} (h:F63 l x_0 x_1 x_2 x_2N x_2C x_3 x_4 x_4N x_4C deep w R):Calls Tryz.prog 63 #[(.pointer l),(.agg #[(.int .i64 x_0),(.string x_1),(.slice x_2 x_2N x_2C),(.string x_3),(.slice x_4 x_4N x_4C)]),(.int .i64 deep)] w R :=
 vc_calls (pl:=⟨60,⟨[]⟩,[(3,⟨[],[(6,20)]⟩)],[(11,⟨[(47,(.s (.int .i64)))],[(6,11),(47,60)]⟩)]⟩) Tryz.func63 (by kernel_rfl) (by kernel_rfl) (by kernel_rfl) (Eq.mp (by kernel_rfl) h)
def F61 (n:Option Addr) (b:World) (R:Ending→World→Prop):Prop :=
 Br (n).isNone
 (R (.returned (.int .u64 0)) b)
 (Dr b fun w1 =>
 NonNil n fun p6 =>
 LdI .u32 (w1.cell? (p6.add 1)) fun c =>
 InR .u64 (c)∧InR .u64 ((c)*(2 ^ (min ((32:Int)).toNat 64)))∧NonNil n fun p12 =>
 LdI .u32 (w1.cell? p12) fun a =>
 InR .u64 (a)∧R (.returned (.int .u64 (bOr .u64 ((c)*(2 ^ (min ((32:Int)).toNat 64))) (a)))) w1)
theorem ok61 (n:Option Addr) {w:World}{R:Ending→World→Prop} (h:F61 n w R):Calls Tryz.prog 61 #[(.pointer n)] w R :=
 vc_calls (pl:=⟨17,⟨[]⟩,[],[]⟩) Tryz.func61 (by kernel_rfl) (by kernel_rfl) (by kernel_rfl) (Eq.mp (by kernel_rfl) h)
def F29 (x_0:Int) (x_1:ByteArray) (x_2:Option Addr) (x_2N:Nat) (x_2C:Nat) (x_3:ByteArray) (x_4:Option Addr) (x_4N:Nat) (x_4C:Nat) (n:World) (R:Ending→World→Prop):Prop :=
 Al n #[(.int .i64 x_0),(.string x_1),(.slice x_2 x_2N x_2C),(.string x_3),(.slice x_4 x_4N x_4C)] 54 fun g1 w1 =>
 Al w1 #[(.int .i64 0),(.int .i64 0)] 125 fun g3 g =>
 LdI .i64 (g.cell? g1) fun k =>
 LdStr (g.cell? (g1.add 1)) fun f =>
 LdSl (g.cell? (g1.add 2)) fun j a c =>
 LdStr (g.cell? (g1.add 3)) fun h =>
 LdSl (g.cell? (g1.add 4)) fun i d b =>
 Calls Tryz.prog 63 #[(.pointer (some g3)),(.agg #[(.int .i64 k),(.string f),(.slice j a c),(.string h),(.slice i d b)]),(.int .i64 1)] g (post R fun v e =>
 ∃(m:Int),v=(.int .i64 m) ∧
 R (.returned (.int .i64 m)) e)
theorem ok29 (x_0:Int) (x_1:ByteArray) (x_2:Option Addr) (x_2N:Nat) (x_2C:Nat) (x_3:ByteArray) (x_4:Option Addr) (x_4N:Nat) (x_4C:Nat) {w:World}{R:Ending→World→Prop} (h:F29 x_0 x_1 x_2 x_2N x_2C x_3 x_4 x_4N x_4C w R):Calls Tryz.prog 29 #[(.agg #[(.int .i64 x_0),(.string x_1),(.slice x_2 x_2N x_2C),(.string x_3),(.slice x_4 x_4N x_4C)])] w R :=
 vc_calls (pl:=⟨6,⟨[]⟩,[],[]⟩) Tryz.func29 (by kernel_rfl) (by kernel_rfl) (by kernel_rfl) (Eq.mp (by kernel_rfl) h)
def F129_j8 (L4:Int→World→Prop) (g:Int) (a:Addr) (f:World) (R:Ending→World→Prop):Prop :=
 LdStr (f.cell? (a.add 1)) fun e =>
 Calls Tryz.prog 130 #[(.string e)] f (post R fun v d =>
 ∃(b:Int) (c:Int),v=(.tuple #[(.int .i64 b),(.int .i64 c)]) ∧
 Br (c != (0:Int))
 (R (.returned (.int .i64 c)) d)
 (InR .i64 (g+(1:Int))∧L4 (g+(1:Int)) d))
def F129_l4 (l:Option Addr) (lN:Nat) (L4:Int→World→Prop) (m:Int) (i:World) (R:Ending→World→Prop):Prop :=
 Br (decide (m < ((lN:Nat):Int)))
 (IdxA l lN m 2 fun n =>
 LdStr (i.cell? n) fun c =>
 LdStr (i.cell? (n.add 1)) fun b =>
 Al i #[(.string (ByteArray.mk #[])),(.string (ByteArray.mk #[]))] 120 fun a w1 =>
 St w1 a (.string c) fun e =>
 St e (a.add 1) (.string b) fun f =>
 ∃J8:World→Prop,(∀ (g:World),J8 g→F129_j8 L4 m a g R) ∧
 (∃S:World→Prop,S f.drew∧∃(j:ByteArray),Held S a (.string j)∧Calls Tryz.prog 128 #[(.string j)] f.drew (post R fun v d =>
 ∃(p:Bool),v=(.bool p) ∧
 S d∧Br (!p)
 (R (.returned (.int .i64 6)) d)
 (Br (decide (m > (0:Int)))
 (∃(q:ByteArray),Held S a (.string q)∧InR .i64 (m-(1:Int))∧IdxA l lN (m-(1:Int)) 2 fun k =>
 ∃(h:ByteArray),Held S k (.string h)∧Br ((Op.bytesLess q.toList h.toList) || (q.toList == h.toList))
 (R (.returned (.int .i64 6)) d)
 (J8 d))
 (J8 d)))))
 (R (.returned (.int .i64 0)) i)
def F129 (l:Option Addr) (lN:Nat) (lC:Nat) (b:World) (R:Ending→World→Prop):Prop :=
 Br (decide (((lN:Nat):Int) > (32:Int)))
 (R (.returned (.int .i64 2)) b)
 (∃(I:Int→World→Prop) (m:Int→World→Nat),I (0:Int) b ∧
 ∀(a:Int) (w1:World),I a w1→F129_l4 l lN (fun a' w2=>I a' w2∧m a' w2 < m a w1) a w1 R)
theorem ok129 (l:Option Addr) (lN:Nat) (lC:Nat) {w:World}{R:Ending→World→Prop} (h:F129 l lN lC w R):Calls Tryz.prog 129 #[(.slice l lN lC)] w R :=
 vc_calls (pl:=⟨46,⟨[]⟩,[(8,⟨[],[(2,3),(17,36)]⟩)],[(4,⟨[(12,(.s (.int .i64)))],[(2,7),(12,46)]⟩)]⟩) Tryz.func129 (by kernel_rfl) (by kernel_rfl) (by kernel_rfl) (Eq.mp (by kernel_rfl) h)
def F62_l3 (l:Option Addr) (lN:Nat) (L3:Option Addr→Nat→Nat→Int→World→Prop) (out:Option Addr) (outN:Nat) (outC:Nat) (i:Int) (f:World) (R:Ending→World→Prop):Prop :=
 Br (decide (i < ((lN:Nat):Int)))
 (IdxA l lN i 1 fun g =>
 LdP (f.cell? g) fun h =>
 Calls Tryz.prog 61 #[(.pointer h)] f (post R fun v c =>
 ∃(j:Int),v=(.int .u64 j) ∧
 Al c #[(.int .u64 j)] 48 fun g18 a =>
 Raw Tryz.prog (Builtin.append_ #[39,39] 39 #[(.slice out outN outC),(.slice (some g18) 1 1)]) a fun v2 e =>
 ∃(k:Option Addr) (d:Nat) (b:Nat),v2=(.slice k d b) ∧
 InR .i64 (i+(1:Int))∧L3 k d b (i+(1:Int)) e))
 (R (.returned (.slice out outN outC)) f)
def F62 (l:Option Addr) (lN:Nat) (lC:Nat) (c:World) (R:Ending→World→Prop):Prop :=
 0≤(0:Int)∧(0:Int)≤((lN:Nat):Int)∧((8:Nat):Int)*((lN:Nat):Int)≤281474976710656∧Al c (zrow #[(.int .u64 0)] ((((lN:Nat):Int)).toNat*1)) 48 fun g8 w1 =>
 ∃(I:Option Addr→Nat→Nat→Int→World→Prop) (m:Option Addr→Nat→Nat→Int→World→Nat),I (some g8) ((0:Int)).toNat (((lN:Nat):Int)).toNat (0:Int) w1 ∧
 ∀(out:Option Addr) (outN:Nat) (outC:Nat) (b:Int) (a:World),I out outN outC b a→F62_l3 l lN (fun out' outN' outC' b' w2=>I out' outN' outC' b' w2∧m out' outN' outC' b' w2 < m out outN outC b a) out outN outC b a R
theorem ok62 (l:Option Addr) (lN:Nat) (lC:Nat) {w:World}{R:Ending→World→Prop} (h:F62 l lN lC w R):Calls Tryz.prog 62 #[(.slice l lN lC)] w R :=
 vc_calls (pl:=⟨22,⟨[]⟩,[],[(3,⟨[(3,(.s .slice)),(11,(.s (.int .i64)))],[(3,6),(11,21)]⟩)]⟩) Tryz.func62 (by kernel_rfl) (by kernel_rfl) (by kernel_rfl) (Eq.mp (by kernel_rfl) h)
def F85_l2 (L2:Option Addr→Int→World→Prop) (n2:Option Addr) (i:Int) (a:World) (R:Ending→World→Prop):Prop :=
 Br (!(n2).isNone)
 (InR .i64 (i+(1:Int))∧NonNil n2 fun p7 =>
 LdP (a.cell? (p7.add 7)) fun b =>
 L2 b (i+(1:Int)) a)
 (R (.returned (.int .i64 i)) a)
def F85 (n:Option Addr) (a:World) (R:Ending→World→Prop):Prop :=
 ∃(I:Option Addr→Int→World→Prop) (m:Option Addr→Int→World→Nat),I n ((-1):Int) a ∧
 ∀(n2:Option Addr) (i:Int) (w1:World),I n2 i w1→F85_l2 (fun n2' i' w2=>I n2' i' w2∧m n2' i' w2 < m n2 i w1) n2 i w1 R
theorem ok85 (n:Option Addr) {w:World}{R:Ending→World→Prop} (h:F85 n w R):Calls Tryz.prog 85 #[(.pointer n)] w R :=
 vc_calls (pl:=⟨13,⟨[]⟩,[],[(2,⟨[(0,(.s .ptr)),(3,(.s (.int .i64)))],[(0,12)]⟩)]⟩) Tryz.func85 (by kernel_rfl) (by kernel_rfl) (by kernel_rfl) (Eq.mp (by kernel_rfl) h)
def F99 (x_0:Int) (x_1:ByteArray) (x_2:Option Addr) (x_2N:Nat) (x_2C:Nat) (x_3:ByteArray) (x_4:Option Addr) (x_4N:Nat) (x_4C:Nat) (m:World) (R:Ending→World→Prop):Prop :=
 Al m #[(.int .i64 x_0),(.string x_1),(.slice x_2 x_2N x_2C),(.string x_3),(.slice x_4 x_4N x_4C)] 54 fun g1 w1 =>
 LdI .i64 (w1.cell? g1) fun n =>
 Br (n == (1:Int))
 (LdStr (w1.cell? (g1.add 1)) fun h =>
 Calls Tryz.prog 128 #[(.string h)] w1 (post R fun v e =>
 ∃(j:Bool),v=(.bool j) ∧
 Br (!j)
 (R (.returned (.int .i64 6)) e)
 (LdSl (e.cell? (g1.add 2)) fun i c f =>
 Calls Tryz.prog 129 #[(.slice i c f)] e (post R fun v2 d =>
 ∃(g:Int),v2=(.int .i64 g) ∧
 R (.returned (.int .i64 g)) d))))
 (Br (n == (2:Int))
 (LdStr (w1.cell? (g1.add 3)) fun k =>
 Calls Tryz.prog 130 #[(.string k)] w1 (post R fun v e =>
 ∃(a:Int) (b:Int),v=(.tuple #[(.int .i64 a),(.int .i64 b)]) ∧
 R (.returned (.int .i64 b)) e))
 (R (.returned (.int .i64 1)) w1))
theorem ok99 (x_0:Int) (x_1:ByteArray) (x_2:Option Addr) (x_2N:Nat) (x_2C:Nat) (x_3:ByteArray) (x_4:Option Addr) (x_4N:Nat) (x_4C:Nat) {w:World}{R:Ending→World→Prop} (h:F99 x_0 x_1 x_2 x_2N x_2C x_3 x_4 x_4N x_4C w R):Calls Tryz.prog 99 #[(.agg #[(.int .i64 x_0),(.string x_1),(.slice x_2 x_2N x_2C),(.string x_3),(.slice x_4 x_4N x_4C)])] w R :=
 vc_calls (pl:=⟨25,⟨[]⟩,[],[]⟩) Tryz.func99 (by kernel_rfl) (by kernel_rfl) (by kernel_rfl) (Eq.mp (by kernel_rfl) h)
def F82 (where_:Int) (at_:Int) (a:World) (R:Ending→World→Prop):Prop :=
 Br (decide (where_≥(1:Int)))
 (Br (decide (where_≤(4:Int)))
 (Br (at_ != (0:Int))
 (R (.returned (.bool true)) a)
 (R (.returned (.bool (decide (where_≤(2:Int))))) a))
 (R (.returned (.bool false)) a))
 (R (.returned (.bool false)) a)
theorem ok82 (where_:Int) (at_:Int) {w:World}{R:Ending→World→Prop} (h:F82 where_ at_ w R):Calls Tryz.prog 82 #[(.int .i64 where_),(.int .u64 at_)] w R :=
 vc_calls (pl:=⟨19,⟨[]⟩,[],[]⟩) Tryz.func82 (by kernel_rfl) (by kernel_rfl) (by kernel_rfl) (Eq.mp (by kernel_rfl) h)
def F60 (s:Option Addr) (sN:Nat) (sC:Nat) (d:World) (R:Ending→World→Prop):Prop :=
 Br (s).isNone
 (R (.returned (.slice none 0 0)) d)
 (Al d #[] 120 fun g5 w1 =>
 Raw Tryz.prog (Builtin.append_ #[51,51] 51 #[(.slice (some g5) 0 0),(.slice s sN sC)]) w1 fun v a =>
 ∃(e:Option Addr) (c:Nat) (b:Nat),v=(.slice e c b) ∧
 R (.returned (.slice e c b)) a)
theorem ok60 (s:Option Addr) (sN:Nat) (sC:Nat) {w:World}{R:Ending→World→Prop} (h:F60 s sN sC w R):Calls Tryz.prog 60 #[(.slice s sN sC)] w R :=
 vc_calls (pl:=⟨8,⟨[]⟩,[],[]⟩) Tryz.func60 (by kernel_rfl) (by kernel_rfl) (by kernel_rfl) (Eq.mp (by kernel_rfl) h)
def F121_l2 (s:Option Addr) (sN:Nat) (v:Option Addr) (L2:Int→World→Prop) (d:Int) (c:World) (R:Ending→World→Prop):Prop :=
 Br (decide (d < ((sN:Nat):Int)))
 (IdxA s sN d 1 fun b =>
 LdP (c.cell? b) fun a =>
 PtrOk c v a∧Br (decide (v=a))
 (R (.returned (.int .i64 d)) c)
 (InR .i64 (d+(1:Int))∧L2 (d+(1:Int)) c))
 (R (.returned (.int .i64 (-1))) c)
def F121 (s:Option Addr) (sN:Nat) (sC:Nat) (v:Option Addr) (a:World) (R:Ending→World→Prop):Prop :=
 ∃(I:Int→World→Prop) (m:Int→World→Nat),I (0:Int) a ∧
 ∀(b:Int) (w1:World),I b w1→F121_l2 s sN v (fun b' w2=>I b' w2∧m b' w2 < m b w1) b w1 R
theorem ok121 (s:Option Addr) (sN:Nat) (sC:Nat) (v:Option Addr) {w:World}{R:Ending→World→Prop} (h:F121 s sN sC v w R):Calls Tryz.prog 121 #[(.slice s sN sC),(.pointer v)] w R :=
 vc_calls (pl:=⟨19,⟨[]⟩,[],[(2,⟨[(8,(.s (.int .i64)))],[(4,6),(8,19)]⟩)]⟩) Tryz.func121 (by kernel_rfl) (by kernel_rfl) (by kernel_rfl) (Eq.mp (by kernel_rfl) h)
def F122 (s:Option Addr) (sN:Nat) (sC:Nat) (i:Int) (v:Option Addr) (vN:Nat) (vC:Nat) (t:World) (R:Ending→World→Prop):Prop :=
 SlB i ((sN:Nat):Int) ((sC:Nat):Int)
 (Br (((vN:Nat):Int) == (0:Int))
 (R (.returned (.slice s sN sC)) t)
 (Br (i == ((sN:Nat):Int))
 (Raw Tryz.prog (Builtin.append_ #[73,73] 73 #[(.slice s sN sC),(.slice v vN vC)]) t fun v2 w1 =>
 ∃(p:Option Addr) (f:Nat) (b:Nat),v2=(.slice p f b) ∧
 R (.returned (.slice p f b)) w1)
 (InR .i64 (((sN:Nat):Int)+((vN:Nat):Int))∧Br (decide ((((sN:Nat):Int)+((vN:Nat):Int)) > ((sC:Nat):Int)))
 (SlB 0 i ((sC:Nat):Int)
 (InR .i64 (((sN:Nat):Int)+((vN:Nat):Int))∧InR .i64 ((((sN:Nat):Int)+((vN:Nat):Int))-i)∧Raw Tryz.prog (Builtin.append_ #[73,3] 73 #[(.slice s (i).toNat sC),(.int .i64 ((((sN:Nat):Int)+((vN:Nat):Int))-i))]) t fun v2 w1 =>
 ∃(k:Option Addr) (e:Nat) (a:Nat),v2=(.slice k e a) ∧
 SlB i ((e:Nat):Int) ((a:Nat):Int)
 (Raw Tryz.prog (Builtin.copy_ #[73,73] 3 #[(.slice (SlA k a (i).toNat 1) ((((e:Nat):Int)).toNat-(i).toNat) (a-(i).toNat)),(.slice v vN vC)]) w1 fun v3 c =>
 ∃(m:Int),v3=(.int .i64 m) ∧
 ∃S:World→Prop,S c.drew∧InR .i64 (i+((vN:Nat):Int))∧SlB (i+((vN:Nat):Int)) ((e:Nat):Int) ((a:Nat):Int)
 (SlB i ((sN:Nat):Int) ((sC:Nat):Int)
 (Raw Tryz.prog (Builtin.copy_ #[73,73] 3 #[(.slice (SlA k a ((i+((vN:Nat):Int))).toNat 1) ((((e:Nat):Int)).toNat-((i+((vN:Nat):Int))).toNat) (a-((i+((vN:Nat):Int))).toNat)),(.slice (SlA s sC (i).toNat 1) ((((sN:Nat):Int)).toNat-(i).toNat) (sC-(i).toNat))]) c.drew fun v4 g =>
 ∃(h:Int),v4=(.int .i64 h) ∧
 R (.returned (.slice k e a)) g)))))
 (InR .i64 (((sN:Nat):Int)+((vN:Nat):Int))∧SlB 0 (((sN:Nat):Int)+((vN:Nat):Int)) ((sC:Nat):Int)
 (InR .i64 (i+((vN:Nat):Int))∧SlB (i+((vN:Nat):Int)) ((((((sN:Nat):Int)+((vN:Nat):Int))).toNat:Nat):Int) ((sC:Nat):Int)
 (ByRow Tryz.prog 145 #[(.slice v vN vC),(.slice (SlA s sC ((i+((vN:Nat):Int))).toNat 1) ((((((((sN:Nat):Int)+((vN:Nat):Int))).toNat:Nat):Int)).toNat-((i+((vN:Nat):Int))).toNat) (sC-((i+((vN:Nat):Int))).toNat))] t (fun v2 w1 =>
 ∃(q:Bool),v2=(.bool q) ∧
 Br (!q)
 (∃S:World→Prop,S w1.drew∧InR .i64 (i+((vN:Nat):Int))∧SlB (i+((vN:Nat):Int)) ((((((sN:Nat):Int)+((vN:Nat):Int))).toNat:Nat):Int) ((sC:Nat):Int)
 (SlB i ((((((sN:Nat):Int)+((vN:Nat):Int))).toNat:Nat):Int) ((sC:Nat):Int)
 (Raw Tryz.prog (Builtin.copy_ #[73,73] 3 #[(.slice (SlA s sC ((i+((vN:Nat):Int))).toNat 1) ((((((((sN:Nat):Int)+((vN:Nat):Int))).toNat:Nat):Int)).toNat-((i+((vN:Nat):Int))).toNat) (sC-((i+((vN:Nat):Int))).toNat)),(.slice (SlA s sC (i).toNat 1) ((((((((sN:Nat):Int)+((vN:Nat):Int))).toNat:Nat):Int)).toNat-(i).toNat) (sC-(i).toNat))]) w1.drew fun v3 d =>
 ∃(n:Int),v3=(.int .i64 n) ∧
 SlB i ((((((sN:Nat):Int)+((vN:Nat):Int))).toNat:Nat):Int) ((sC:Nat):Int)
 (Raw Tryz.prog (Builtin.copy_ #[73,73] 3 #[(.slice (SlA s sC (i).toNat 1) ((((((((sN:Nat):Int)+((vN:Nat):Int))).toNat:Nat):Int)).toNat-(i).toNat) (sC-(i).toNat)),(.slice v vN vC)]) d fun v4 g =>
 ∃(j:Int),v4=(.int .i64 j) ∧
 R (.returned (.slice s ((((sN:Nat):Int)+((vN:Nat):Int))).toNat sC)) g))))
 (SlB ((sN:Nat):Int) ((((((sN:Nat):Int)+((vN:Nat):Int))).toNat:Nat):Int) ((sC:Nat):Int)
 (Raw Tryz.prog (Builtin.copy_ #[73,73] 3 #[(.slice (SlA s sC (((sN:Nat):Int)).toNat 1) ((((((((sN:Nat):Int)+((vN:Nat):Int))).toNat:Nat):Int)).toNat-(((sN:Nat):Int)).toNat) (sC-(((sN:Nat):Int)).toNat)),(.slice v vN vC)]) w1 fun v3 c =>
 ∃(r:Int),v3=(.int .i64 r) ∧
 SlB i ((((((sN:Nat):Int)+((vN:Nat):Int))).toNat:Nat):Int) ((sC:Nat):Int)
 (Calls Tryz.prog 146 #[(.slice (SlA s sC (i).toNat 1) ((((((((sN:Nat):Int)+((vN:Nat):Int))).toNat:Nat):Int)).toNat-(i).toNat) (sC-(i).toNat)),(.int .i64 ((vN:Nat):Int))] c (post R fun v4 d =>
 v4=(.tuple #[]) ∧
 R (.returned (.slice s ((((sN:Nat):Int)+((vN:Nat):Int))).toNat sC)) d)))))))))))
theorem ok122 (s:Option Addr) (sN:Nat) (sC:Nat) (i:Int) (v:Option Addr) (vN:Nat) (vC:Nat) {w:World}{R:Ending→World→Prop} (h:F122 s sN sC i v vN vC w R):Calls Tryz.prog 122 #[(.slice s sN sC),(.int .i64 i),(.slice v vN vC)] w R :=
 vc_calls (pl:=⟨95,⟨[]⟩,[],[]⟩) Tryz.func122 (by kernel_rfl) (by kernel_rfl) (by kernel_rfl) (Eq.mp (by kernel_rfl) h)
set_option maxRecDepth 100000
def F33 (x_0:Int) (x_1:ByteArray) (x_2:Option Addr) (x_2N:Nat) (x_2C:Nat) (x_3:ByteArray) (x_4:Option Addr) (x_4N:Nat) (x_4C:Nat) (n:World) (R:Ending→World→Prop):Prop :=
 Al n #[(.int .i64 x_0),(.string x_1),(.slice x_2 x_2N x_2C),(.string x_3),(.slice x_4 x_4N x_4C)] 54 fun g1 w1 =>
 LdI .i64 (w1.cell? g1) fun m =>
 LdStr (w1.cell? (g1.add 1)) fun g =>
 LdSl (w1.cell? (g1.add 2)) fun h b d =>
 LdStr (w1.cell? (g1.add 3)) fun e =>
 LdSl (w1.cell? (g1.add 4)) fun f a c =>
 Calls Tryz.prog 64 #[(.agg #[(.int .i64 m),(.string g),(.slice h b d),(.string e),(.slice f a c)]),(.int .i64 1),(.int .i64 0)] w1 (post R fun v i =>
 ∃(j:Int) (k:Int),v=(.tuple #[(.int .i64 j),(.int .i64 k)]) ∧
 R (.returned (.int .i64 k)) i)
theorem ok33 (x_0:Int) (x_1:ByteArray) (x_2:Option Addr) (x_2N:Nat) (x_2C:Nat) (x_3:ByteArray) (x_4:Option Addr) (x_4N:Nat) (x_4C:Nat) {w:World}{R:Ending→World→Prop} (h:F33 x_0 x_1 x_2 x_2N x_2C x_3 x_4 x_4N x_4C w R):Calls Tryz.prog 33 #[(.agg #[(.int .i64 x_0),(.string x_1),(.slice x_2 x_2N x_2C),(.string x_3),(.slice x_4 x_4N x_4C)])] w R :=
 vc_calls (pl:=⟨11,⟨[]⟩,[],[]⟩) Tryz.func33 (by kernel_rfl) (by kernel_rfl) (by kernel_rfl) (Eq.mp (by kernel_rfl) h)
def F131_j8 (l:Option Addr) (lN:Nat) (L4:Int→World→Prop) (i:Int) (e:World) (R:Ending→World→Prop):Prop :=
 IdxA l lN i 2 fun c =>
 LdStr (e.cell? (c.add 1)) fun d =>
 Calls Tryz.prog 106 #[(.string d)] e (post R fun v w1 =>
 ∃(b:Int) (a:Int),v=(.tuple #[(.int .i64 b),(.int .i64 a)]) ∧
 Br (a != (0:Int))
 (R (.returned (.int .i64 a)) w1)
 (InR .i64 (i+(1:Int))∧L4 (i+(1:Int)) w1))
def F131_l4 (l:Option Addr) (lN:Nat) (L4:Int→World→Prop) (i:Int) (b:World) (R:Ending→World→Prop):Prop :=
 Br (decide (i < ((lN:Nat):Int)))
 (∃J8:World→Prop,(∀ (w1:World),J8 w1→F131_j8 l lN L4 i w1 R) ∧
 (∃S:World→Prop,S b.drew∧IdxA l lN i 2 fun c =>
 ∃(h:ByteArray),Held S c (.string h)∧Calls Tryz.prog 105 #[(.string h)] b.drew (post R fun v a =>
 ∃(j:Bool),v=(.bool j) ∧
 S a∧Br (!j)
 (R (.returned (.int .i64 6)) a)
 (Br (decide (i > (0:Int)))
 (IdxA l lN i 2 fun g =>
 ∃(f:ByteArray),Held S g (.string f)∧InR .i64 (i-(1:Int))∧IdxA l lN (i-(1:Int)) 2 fun e =>
 ∃(d:ByteArray),Held S e (.string d)∧Br ((Op.bytesLess f.toList d.toList) || (f.toList == d.toList))
 (R (.returned (.int .i64 6)) a)
 (J8 a))
 (J8 a)))))
 (R (.returned (.int .i64 0)) b)
def F131 (l:Option Addr) (lN:Nat) (lC:Nat) (a:World) (R:Ending→World→Prop):Prop :=
 Br (decide (((lN:Nat):Int) > (32:Int)))
 (R (.returned (.int .i64 2)) a)
 (∃(I:Int→World→Prop) (m:Int→World→Nat),I (0:Int) a ∧
 ∀(i:Int) (w1:World),I i w1→F131_l4 l lN (fun i' w2=>I i' w2∧m i' w2 < m i w1) i w1 R)
theorem ok131 (l:Option Addr) (lN:Nat) (lC:Nat) {w:World}{R:Ending→World→Prop} (h:F131 l lN lC w R):Calls Tryz.prog 131 #[(.slice l lN lC)] w R :=
 vc_calls (pl:=⟨52,⟨[]⟩,[(8,⟨[],[(2,3),(15,40)]⟩)],[(4,⟨[(3,(.s (.int .i64)))],[(2,52)]⟩)]⟩) Tryz.func131 (by kernel_rfl) (by kernel_rfl) (by kernel_rfl) (Eq.mp (by kernel_rfl) h)
def F64_l9 (deep:Int) (q:Option Addr) (p:Nat) (L9:Int→Int→World→Prop) (n2:Int) (i:Int) (r:World) (R:Ending→World→Prop):Prop :=
 Br (decide (i < ((p:Nat):Int)))
 (IdxA q p i 5 fun s =>
 LdI .i64 (r.cell? s) fun j =>
 LdStr (r.cell? (s.add 1)) fun m =>
 LdSl (r.cell? (s.add 2)) fun f a d =>
 LdStr (r.cell? (s.add 3)) fun h =>
 LdSl (r.cell? (s.add 4)) fun g c b =>
 InR .i64 (deep+(1:Int))∧Calls Tryz.prog 64 #[(.agg #[(.int .i64 j),(.string m),(.slice f a d),(.string h),(.slice g c b)]),(.int .i64 (deep+(1:Int))),(.int .i64 n2)] r (post R fun v3 n =>
 ∃(k:Int) (e:Int),v3=(.tuple #[(.int .i64 k),(.int .i64 e)]) ∧
 Br (e != (0:Int))
 (R (.returned (.tuple #[(.int .i64 k),(.int .i64 e)])) n)
 (InR .i64 (i+(1:Int))∧L9 k (i+(1:Int)) n)))
 (R (.returned (.tuple #[(.int .i64 n2),(.int .i64 0)])) r)
def F64_j3 (deep:Int) (n:Int) (g3:Addr) (fa:World) (R:Ending→World→Prop):Prop :=
 LdI .i64 (fa.cell? g3) fun y =>
 LdStr (fa.cell? (g3.add 1)) fun k =>
 LdSl (fa.cell? (g3.add 2)) fun z b h =>
 LdStr (fa.cell? (g3.add 3)) fun j =>
 LdSl (fa.cell? (g3.add 4)) fun u d e =>
 Calls Tryz.prog 100 #[(.agg #[(.int .i64 y),(.string k),(.slice z b h),(.string j),(.slice u d e)])] fa (post R fun v da =>
 ∃(ga:Int),v=(.int .i64 ga) ∧
 Br (ga != (0:Int))
 (R (.returned (.tuple #[(.int .i64 n),(.int .i64 ga)])) da)
 (InR .i64 (n+(1:Int))∧LdI .i64 (da.cell? g3) fun p =>
 LdStr (da.cell? (g3.add 1)) fun r =>
 LdSl (da.cell? (g3.add 2)) fun q g f =>
 LdStr (da.cell? (g3.add 3)) fun t =>
 LdSl (da.cell? (g3.add 4)) fun s c a =>
 Calls Tryz.prog 92 #[(.agg #[(.int .i64 p),(.string r),(.slice q g f),(.string t),(.slice s c a)])] da (post R fun v2 ea =>
 ∃(ha:Option Addr) (ba:Nat) (aa:Nat),v2=(.slice ha ba aa) ∧
 ∃(I:Int→Int→World→Prop) (m:Int→Int→World→Nat),I (n+(1:Int)) (0:Int) ea ∧
 ∀(n2:Int) (i:Int) (ca:World),I n2 i ca→F64_l9 deep ha ba (fun n2' i' w2=>I n2' i' w2∧m n2' i' w2 < m n2 i ca) n2 i ca R)))
def F64 (x_0:Int) (x_1:ByteArray) (x_2:Option Addr) (x_2N:Nat) (x_2C:Nat) (x_3:ByteArray) (x_4:Option Addr) (x_4N:Nat) (x_4C:Nat) (deep:Int) (n:Int) (b:World) (R:Ending→World→Prop):Prop :=
 Al b #[(.int .i64 x_0),(.string x_1),(.slice x_2 x_2N x_2C),(.string x_3),(.slice x_4 x_4N x_4C)] 54 fun g3 w1 =>
 ∃J3:World→Prop,(∀ (a:World),J3 a→F64_j3 deep n g3 a R) ∧
 (Br (decide (deep > (64:Int)))
 (R (.returned (.tuple #[(.int .i64 n),(.int .i64 2)])) w1)
 (Br (decide (n≥(4096:Int)))
 (R (.returned (.tuple #[(.int .i64 n),(.int .i64 2)])) w1)
 (J3 w1)))
theorem ok64 (x_0:Int) (x_1:ByteArray) (x_2:Option Addr) (x_2N:Nat) (x_2C:Nat) (x_3:ByteArray) (x_4:Option Addr) (x_4N:Nat) (x_4C:Nat) (deep:Int) (n:Int) {w:World}{R:Ending→World→Prop} (h:F64 x_0 x_1 x_2 x_2N x_2C x_3 x_4 x_4N x_4C deep n w R):Calls Tryz.prog 64 #[(.agg #[(.int .i64 x_0),(.string x_1),(.slice x_2 x_2N x_2C),(.string x_3),(.slice x_4 x_4N x_4C)]),(.int .i64 deep),(.int .i64 n)] w R :=
 vc_calls (pl:=⟨51,⟨[]⟩,[(3,⟨[],[(6,19)]⟩)],[(9,⟨[(2,(.s (.int .i64))),(10,(.s (.int .i64)))],[(2,8),(10,50)]⟩)]⟩) Tryz.func64 (by kernel_rfl) (by kernel_rfl) (by kernel_rfl) (Eq.mp (by kernel_rfl) h)
def F92 (x_0:Int) (x_1:ByteArray) (x_2:Option Addr) (x_2N:Nat) (x_2C:Nat) (x_3:ByteArray) (x_4:Option Addr) (x_4N:Nat) (x_4C:Nat) (d:World) (R:Ending→World→Prop):Prop :=
 Al d #[(.int .i64 x_0),(.string x_1),(.slice x_2 x_2N x_2C),(.string x_3),(.slice x_4 x_4N x_4C)] 54 fun g1 w1 =>
 LdI .i64 (w1.cell? g1) fun c =>
 Br (c == (1:Int))
 (LdSl (w1.cell? (g1.add 4)) fun e b a =>
 R (.returned (.slice e b a)) w1)
 (R (.returned (.slice none 0 0)) w1)
theorem ok92 (x_0:Int) (x_1:ByteArray) (x_2:Option Addr) (x_2N:Nat) (x_2C:Nat) (x_3:ByteArray) (x_4:Option Addr) (x_4N:Nat) (x_4C:Nat) {w:World}{R:Ending→World→Prop} (h:F92 x_0 x_1 x_2 x_2N x_2C x_3 x_4 x_4N x_4C w R):Calls Tryz.prog 92 #[(.agg #[(.int .i64 x_0),(.string x_1),(.slice x_2 x_2N x_2C),(.string x_3),(.slice x_4 x_4N x_4C)])] w R :=
 vc_calls (pl:=⟨8,⟨[]⟩,[],[]⟩) Tryz.func92 (by kernel_rfl) (by kernel_rfl) (by kernel_rfl) (Eq.mp (by kernel_rfl) h)
def F100 (x_0:Int) (x_1:ByteArray) (x_2:Option Addr) (x_2N:Nat) (x_2C:Nat) (x_3:ByteArray) (x_4:Option Addr) (x_4N:Nat) (x_4C:Nat) (m:World) (R:Ending→World→Prop):Prop :=
 Al m #[(.int .i64 x_0),(.string x_1),(.slice x_2 x_2N x_2C),(.string x_3),(.slice x_4 x_4N x_4C)] 54 fun g1 w1 =>
 LdI .i64 (w1.cell? g1) fun n =>
 Br (n == (1:Int))
 (LdStr (w1.cell? (g1.add 1)) fun h =>
 Calls Tryz.prog 105 #[(.string h)] w1 (post R fun v e =>
 ∃(j:Bool),v=(.bool j) ∧
 Br (!j)
 (R (.returned (.int .i64 6)) e)
 (LdSl (e.cell? (g1.add 2)) fun i c f =>
 Calls Tryz.prog 131 #[(.slice i c f)] e (post R fun v2 d =>
 ∃(g:Int),v2=(.int .i64 g) ∧
 R (.returned (.int .i64 g)) d))))
 (Br (n == (2:Int))
 (LdStr (w1.cell? (g1.add 3)) fun k =>
 Calls Tryz.prog 106 #[(.string k)] w1 (post R fun v e =>
 ∃(a:Int) (b:Int),v=(.tuple #[(.int .i64 a),(.int .i64 b)]) ∧
 R (.returned (.int .i64 b)) e))
 (R (.returned (.int .i64 1)) w1))
theorem ok100 (x_0:Int) (x_1:ByteArray) (x_2:Option Addr) (x_2N:Nat) (x_2C:Nat) (x_3:ByteArray) (x_4:Option Addr) (x_4N:Nat) (x_4C:Nat) {w:World}{R:Ending→World→Prop} (h:F100 x_0 x_1 x_2 x_2N x_2C x_3 x_4 x_4N x_4C w R):Calls Tryz.prog 100 #[(.agg #[(.int .i64 x_0),(.string x_1),(.slice x_2 x_2N x_2C),(.string x_3),(.slice x_4 x_4N x_4C)])] w R :=
 vc_calls (pl:=⟨25,⟨[]⟩,[],[]⟩) Tryz.func100 (by kernel_rfl) (by kernel_rfl) (by kernel_rfl) (Eq.mp (by kernel_rfl) h)
end Go.Proofs.YtncbjdgcgclnnaaGreatDoor
namespace Go.Proofs.YtncbjdgcgclnnaaGreatDoor
open Go.RowKit Go.Vc
set_option linter.unusedVariables false
set_option linter.unusedSimpArgs false
set_option maxRecDepth 100000
theorem textC {f:FuncId}{s:ByteArray}{w:World}{R:Ending→World→Prop} (hc:Calls Tryz.prog f #[.string s] w fun e w'=>e=.returned (.tuple #[.int .i64 (textS s).1,.int .i64 (textS s).2])∧Below w.heap.size w w')
  (h:∀w',Below w.heap.size w w'→R (.returned (.tuple #[.int .i64 (textS s).1,.int .i64 (textS s).2])) w'):Calls Tryz.prog f #[.string s] w R :=
 hc.mono fun e w' ⟨he,hb⟩=>by rw [he];exact h w' hb
theorem charsText_calls (s:ByteArray) {w:World} (hT:Tabs w) {R:Ending→World→Prop} (h:∀w',Below w.heap.size w w'→R (.returned (.tuple #[.int .i64 (textS s).1,.int .i64 (textS s).2])) w'):Calls Tryz.prog 130 #[.string s] w R:=by
 refine ok130 s ?_
 unfold F130
 exact textC (text_calls s w hT) fun w' hb=>⟨_,_,rfl,h w' hb⟩
theorem refText_calls (s:ByteArray) {w:World}{R:Ending→World→Prop} (h:∀w',Below w.heap.size w w'→R (.returned (.tuple #[.int .i64 (textS s).1,.int .i64 (textS s).2])) w'):Calls Tryz.prog 106 #[.string s] w R :=
 textC (textR_calls s w) h
def behindB (p:Option ByteArray) (a:ByteArray):Bool:=match p with
 | none=>true
 | some b=>!(Op.bytesLess a.toList b.toList || (a.toList == b.toList))
def attrsF:Option ByteArray→List At→Int
 | _,[]=>0
 | p,a :: l=>if isName a.nm=true then if behindB p a.nm=true then if (textS a.val).2=0 then attrsF (some a.nm) l else ((textS a.val).2:Nat) else 6 else 6
def attrF (l:List At):Int:=if 32 < l.length then 2 else attrsF none l
def prevN (l:List At) (k:Nat):Option ByteArray:=if k=0 then none else (l[k-1]?).map (·.nm)
theorem prevN_succ {l:List At}{k:Nat} (h:k < l.length):prevN l (k+1)=some l[k].nm:=by
 unfold prevN;rw [if_neg (by omega),Nat.add_sub_cancel,List.getElem?_eq_getElem h];rfl
theorem attrs_calls (l:List At) (v:Sv) {w:World}{R:Ending→World→Prop} (hT:Tabs w) (hl:RR LAt w l v) (h:∀w',Below w.heap.size w w'→R (.returned (.int .i64 (attrF l))) w') :
  Calls Tryz.prog 129 #[.slice v.1 v.2.1 v.2.2] w R:=by
 obtain⟨z0,z1,z2⟩:=hl
 refine ok129 v.1 v.2.1 v.2.2 ?_
 unfold F129
 unfold attrF at h
 refine brd (fun hgt=>?_) (fun hle=>?_)
 ·rw [if_pos (by omega)] at h;exact h w (Below.refl _ _)
 rw [if_neg (by omega)] at h
 refine⟨fun i w'=>∃k:Nat,i=k∧k≤l.length∧Below w.heap.size w w'∧attrsF (prevN l k) (l.drop k)=attrsF none l,fun i _=>l.length-i.toNat,⟨0,rfl,by omega,Below.refl _ _,by simp [prevN]⟩,?_⟩
 rintro i w1 ⟨k,rfl,hk,hb1,hF⟩
 unfold F129_l4
 refine brd (fun hlt=>?_) (fun hge=>?_)
 ·have hk2:k < l.length:=by omega
  rw [List.drop_eq_getElem_cons hk2,attrsF] at hF
  refine (z2.keep hb1).at2 z1 rfl (k:=k) hk2 fun b o c0 c1=>?_
  simp only [Addr.add_mk,c0,c1,lds]
  refine al fun ga w2 hb2 b2 hge2=>?_
  refine st_blk b2 (by simp) fun w3 b3 f3=>st_blk b3 (by simp) fun w4 b4 f4=>?_
  simp only [List.setIfInBounds_toArray,List.set_cons_zero,List.set_cons_succ] at b4
  have D4:Below w1.heap.size w1 w4:=hb2.trans ((Fm.trans f3 f4:Fm (·=ga) w2 w4).toBelow hb2.size fun b hb e=>by have e:b=ga:=e;omega)
  have B4:=btr hb1 hb1.size D4
  refine⟨fun w'=>Below w4.heap.size w4 w'∧isName l[k].nm=true∧behindB (prevN l k) l[k].nm=true,?_,?_⟩
  ·rintro w5 ⟨hb5,hn,hbh⟩
   unfold F129_j8
   have b5:=b4.keep hb5
   have B5:=btr B4 B4.size hb5
   rw [if_pos hn,if_pos hbh] at hF
   simp only [Addr.add_mk,Nat.zero_add,b5.cell,lds]
   refine charsText_calls l[k].val (hT.keep B5) fun w6 hb6=>⟨_,_,rfl,?_⟩
   have B6:=btr B5 B5.size hb6
   refine brn (fun hne=>?_) (fun he=>?_)
   ·rw [if_neg (by omega)] at hF
    rw [hF];exact h w6 B6
   ·rw [if_pos (by omega)] at hF
    exact⟨inR_i64 (by omega) (by omega),⟨k+1,by simp,by omega,B6,by rw [prevN_succ hk2];exact hF⟩,(by first | omega | (dsimp only;omega))⟩
  ·have hd:Below w4.heap.size w4 w4.drew:=(Below.refl _ _).drew
   refine⟨fun w'=>Below w4.heap.size w4 w',hd,?_⟩
   refine⟨_,fun w2 h2=>by rw [(b4.keep h2).cell];rfl,?_⟩
   refine name_calls ⟨_,rfl,hd,?_⟩
   rw [brnot]
   refine br (fun hn=>?_) (fun hn=>?_)
   ·refine brd (fun hpos=>?_) (fun hz=>?_)
    ·refine⟨_,fun w2 h2=>by rw [(b4.keep h2).cell];rfl,inR_i64 (by omega) (by omega),?_⟩
     refine (z2.keep B4).at2H (fun _ h=>h) z1 (show (k:Int)-1=((k-1:Nat):Int) by omega) (by omega) fun b o d0 d1=>⟨_,d0,?_⟩
     have hpv:prevN l k=some l[k-1].nm:=by unfold prevN;rw [if_neg (by omega),List.getElem?_eq_getElem (by omega)];rfl
     refine br (fun hb=>?_) (fun hb=>⟨hd,hn,by rw [hpv];show (!(_ || _))=true;rw [hb];rfl⟩)
     rw [if_pos hn,if_neg (by rw [hpv];show ¬(!(_ || _))=true;rw [hb];decide)] at hF
     rw [hF];exact h _ (btr B4 B4.size hd)
    ·refine⟨hd,hn,?_⟩
     have:k=0:=by omega
     subst this;simp [prevN,behindB]
   ·rw [if_neg (by rw [hn];decide)] at hF
    rw [hF];exact h _ (btr B4 B4.size hd)
 ·have hk2:k=l.length:=by omega
  subst hk2
  rw [List.drop_length,attrsF] at hF
  rw [hF];exact h w1 hb1
theorem attrs2_calls (l:List At) (v:Sv) {w:World}{R:Ending→World→Prop} (hl:RR LAt w l v) (h:∀w',Below w.heap.size w w'→R (.returned (.int .i64 (attrF l))) w') :
  Calls Tryz.prog 131 #[.slice v.1 v.2.1 v.2.2] w R:=by
 obtain⟨z0,z1,z2⟩:=hl
 refine ok131 v.1 v.2.1 v.2.2 ?_
 unfold F131
 unfold attrF at h
 refine brd (fun hgt=>?_) (fun hle=>?_)
 ·rw [if_pos (by omega)] at h;exact h w (Below.refl _ _)
 rw [if_neg (by omega)] at h
 refine⟨fun i w'=>∃k:Nat,i=k∧k≤l.length∧Below w.heap.size w w'∧attrsF (prevN l k) (l.drop k)=attrsF none l,fun i _=>l.length-i.toNat,⟨0,rfl,by omega,Below.refl _ _,by simp [prevN]⟩,?_⟩
 rintro i w1 ⟨k,rfl,hk,hb1,hF⟩
 unfold F131_l4
 refine brd (fun hlt=>?_) (fun hge=>?_)
 ·have hk2:k < l.length:=by omega
  rw [List.drop_eq_getElem_cons hk2,attrsF] at hF
  refine⟨fun w'=>Below w1.heap.size w1 w'∧isName l[k].nm=true∧behindB (prevN l k) l[k].nm=true,?_,?_⟩
  ·rintro w5 ⟨hb5,hn,hbh⟩
   unfold F131_j8
   have B5:=btr hb1 hb1.size hb5
   rw [if_pos hn,if_pos hbh] at hF
   refine (z2.keep B5).at2 z1 rfl (k:=k) hk2 fun b o c0 c1=>?_
   simp only [Addr.add_mk,c0,c1,lds]
   refine refText_calls l[k].val fun w6 hb6=>⟨_,_,rfl,?_⟩
   have B6:=btr B5 B5.size hb6
   refine brn (fun hne=>?_) (fun he=>?_)
   ·rw [if_neg (by omega)] at hF
    rw [hF];exact h w6 B6
   ·rw [if_pos (by omega)] at hF
    exact⟨inR_i64 (by omega) (by omega),⟨k+1,by simp,by omega,B6,by rw [prevN_succ hk2];exact hF⟩,(by first | omega | (dsimp only;omega))⟩
  ·have hd:Below w1.heap.size w1 w1.drew:=(Below.refl _ _).drew
   refine⟨fun w'=>Below w1.heap.size w1 w',hd,?_⟩
   refine (z2.keep hb1).at2H (fun _ h=>h) z1 rfl (k:=k) hk2 fun b o d0 d1=>⟨_,d0,?_⟩
   refine name2_calls ⟨_,rfl,hd,?_⟩
   rw [brnot]
   refine br (fun hn=>?_) (fun hn=>?_)
   ·refine brd (fun hpos=>?_) (fun hz=>?_)
    ·refine (z2.keep hb1).at2H (fun _ h=>h) z1 rfl (k:=k) hk2 fun b o d0 d1=>⟨_,d0,inR_i64 (by omega) (by omega),?_⟩
     refine (z2.keep hb1).at2H (fun _ h=>h) z1 (show (k:Int)-1=((k-1:Nat):Int) by omega) (by omega) fun b o d0 d1=>⟨_,d0,?_⟩
     have hpv:prevN l k=some l[k-1].nm:=by unfold prevN;rw [if_neg (by omega),List.getElem?_eq_getElem (by omega)];rfl
     refine br (fun hb=>?_) (fun hb=>⟨hd,hn,by rw [hpv];show (!(_ || _))=true;rw [hb];rfl⟩)
     rw [if_pos hn,if_neg (by rw [hpv];show ¬(!(_ || _))=true;rw [hb];decide)] at hF
     rw [hF];exact h _ (btr hb1 hb1.size hd)
    ·refine⟨hd,hn,?_⟩
     have:k=0:=by omega
     subst this;simp [prevN,behindB]
   ·rw [if_neg (by rw [hn];decide)] at hF
    rw [hF];exact h _ (btr hb1 hb1.size hd)
 ·have hk2:k=l.length:=by omega
  subst hk2
  rw [List.drop_length,attrsF] at hF
  rw [hF];exact h w1 hb1
def ownF (kind:Int) (nm:ByteArray) (l:List At) (t:ByteArray):Int:=if kind=1 then if isName nm=true then attrF l else 6 else if kind=2 then ((textS t).2:Nat) else 1
theorem own1_calls (kind:Int) (nm:ByteArray) (l:List At) (v:Sv) (t:ByteArray) (u:Sv) {w:World}{R:Ending→World→Prop} (hT:Tabs w) (hl:RR LAt w l v) (h:∀w',Below w.heap.size w w'→R (.returned (.int .i64 (ownF kind nm l t))) w') :
  Calls Tryz.prog 99 #[.agg #[.int .i64 kind,.string nm,.slice v.1 v.2.1 v.2.2,.string t,.slice u.1 u.2.1 u.2.2]] w R:=by
 refine ok99 kind nm v.1 v.2.1 v.2.2 t u.1 u.2.1 u.2.2 ?_
 unfold F99
 unfold ownF at h
 refine al fun g w1 hb1 b1 hge=>?_
 simp only [Addr.add_mk,Nat.zero_add,b1.cell,lds]
 refine bre (fun hk=>?_) (fun hk=>?_)
 ·rw [if_pos hk] at h
  refine name_calls ⟨_,rfl,?_⟩
  rw [brnot]
  refine br (fun hn=>?_) (fun hn=>?_)
  ·rw [if_pos hn] at h
   simp only [Addr.add_mk,Nat.zero_add,b1.cell,lds]
   exact attrs_calls l v (hT.keep hb1) (hl.keep hb1) fun w2 hb2=>⟨_,rfl,h w2 (btr hb1 hb1.size hb2)⟩
  ·rw [if_neg (by rw [hn];decide)] at h
   exact h w1 hb1
 ·rw [if_neg hk] at h
  refine bre (fun hk2=>?_) (fun hk2=>?_)
  ·rw [if_pos hk2] at h
   exact charsText_calls t (hT.keep hb1) fun w2 hb2=>⟨_,_,rfl,h w2 (btr hb1 hb1.size hb2)⟩
  ·rw [if_neg hk2] at h
   exact h w1 hb1
theorem own2_calls (kind:Int) (nm:ByteArray) (l:List At) (v:Sv) (t:ByteArray) (u:Sv) {w:World}{R:Ending→World→Prop} (hl:RR LAt w l v) (h:∀w',Below w.heap.size w w'→R (.returned (.int .i64 (ownF kind nm l t))) w') :
  Calls Tryz.prog 100 #[.agg #[.int .i64 kind,.string nm,.slice v.1 v.2.1 v.2.2,.string t,.slice u.1 u.2.1 u.2.2]] w R:=by
 refine ok100 kind nm v.1 v.2.1 v.2.2 t u.1 u.2.1 u.2.2 ?_
 unfold F100
 unfold ownF at h
 refine al fun g w1 hb1 b1 hge=>?_
 simp only [Addr.add_mk,Nat.zero_add,b1.cell,lds]
 refine bre (fun hk=>?_) (fun hk=>?_)
 ·rw [if_pos hk] at h
  refine name2_calls ⟨_,rfl,?_⟩
  rw [brnot]
  refine br (fun hn=>?_) (fun hn=>?_)
  ·rw [if_pos hn] at h
   simp only [Addr.add_mk,Nat.zero_add,b1.cell,lds]
   exact attrs2_calls l v (hl.keep hb1) fun w2 hb2=>⟨_,rfl,h w2 (btr hb1 hb1.size hb2)⟩
  ·rw [if_neg (by rw [hn];decide)] at h
   exact h w1 hb1
 ·rw [if_neg hk] at h
  refine bre (fun hk2=>?_) (fun hk2=>?_)
  ·rw [if_pos hk2] at h
   exact refText_calls t fun w2 hb2=>⟨_,_,rfl,h w2 (btr hb1 hb1.size hb2)⟩
  ·rw [if_neg hk2] at h
   exact h w1 hb1
set_option maxRecDepth 100000
theorem nodup_sub {α:Type} [DecidableEq α]:∀{a b:List α},a.Nodup→(∀x∈a,x∈b)→a.length≤b.length
 | [],_,_,_=>by simp
 | x :: a,b,h,hs=>by
  have h2:=List.nodup_cons.1 h
  have hx:x∈b:=hs x (by simp)
  have ih:=nodup_sub (b:=b.erase x) h2.2 fun y hy=>by
   have hne:y≠x:=fun e=>h2.1 (e ▸ hy)
   exact (List.mem_erase_of_ne hne).2 (hs y (by simp [hy]))
  rw [List.length_erase_of_mem hx] at ih
  have:0 < b.length:=List.length_pos_of_mem hx
  rw [List.length_cons];omega
def noB:ByteArray:=⟨#[]⟩
theorem rr_nil {α:Type}{L:Lay α}{w:World}:RR L w [] (none,0,0):=⟨by simp,rfl,⟨by simp,by simp [maxLen],fun _=>rfl,fun h=>by simp at h⟩⟩
theorem old_but {w w':World}{g:Nat} (hb:Below w.heap.size w w') (hg:w.heap.size≤g):Sub w (but g w'):=fun b c t fr hc=>by
 have hlt:=(Array.getElem?_eq_some_iff.1 hc).1
 have hne:Nat.beq b g=false:=by
  cases h:Nat.beq b g with
  | false=>rfl
  | true=>have:=Nat.eq_of_beq_eq_true h;omega
 exact cells_only (by rw [hne];rfl) (by rw [hb.block b hlt];exact hc)
--PURE
inductive Tr where
 | mk (kind:Int) (nm:ByteArray) (attrs:List At) (text:ByteArray) (kids:List Tr)
def slA (sl:List Sl) (h:Nat):Option Sl:=(atF sl h).bind (sl[·]?)
theorem atF_iff {sl:List Sl}{h k:Nat}:atF sl h=some k↔h % 4294967296=k+1∧∃s,sl[k]?=some s∧s.live=true∧hnd s.gen k=h:=by
 unfold atF
 constructor
 ·intro e
  by_cases h0:h % 4294967296=0
  ·rw [if_pos h0] at e;cases e
  ·rw [if_neg h0] at e
   cases hs:sl[h % 4294967296-1]? with
   | none=>rw [hs] at e;cases e
   | some s =>
    rw [hs] at e
    simp only at e
    by_cases hc:s.live=true∧hnd s.gen (h % 4294967296-1)=h
    ·rw [if_pos hc] at e
     cases e
     exact⟨by omega,s,hs,hc.1,hc.2⟩
    ·rw [if_neg hc] at e;cases e
 ·rintro ⟨h1,s,h2,h3,h4⟩
  rw [if_neg (by omega),h1,Nat.add_sub_cancel,h2]
  simp only
  rw [if_pos ⟨h3,h4⟩]
theorem slA_iff {sl:List Sl}{h:Nat}{s:Sl}:slA sl h=some s↔∃k,h % 4294967296=k+1∧sl[k]?=some s∧s.live=true∧hnd s.gen k=h:=by
 unfold slA
 constructor
 ·intro e
  cases ha:atF sl h with
  | none=>rw [ha] at e;cases e
  | some k =>
   rw [ha] at e
   obtain⟨h1,t,h2,h3,h4⟩:=atF_iff.1 ha
   have:sl[k]?=some s:=e
   rw [h2] at this;cases this
   exact⟨k,h1,h2,h3,h4⟩
 ·rintro ⟨k,h1,h2,h3,h4⟩
  rw [atF_iff.2 ⟨h1,s,h2,h3,h4⟩];exact h2
theorem hnd_mod {g k:Nat} (hk:k+1 < 4294967296):hnd g k % 4294967296=k+1:=by
 unfold hnd;omega
theorem slA_hnd {sl:List Sl}{k:Nat}{s:Sl} (hk:k+1 < 4294967296) (h:sl[k]?=some s) (hl:s.live=true):slA sl (hnd s.gen k)=some s :=
 slA_iff.2 ⟨k,hnd_mod hk,h,hl,rfl⟩
theorem slA_zero (sl:List Sl):slA sl 0=none:=by
 cases h:slA sl 0 with
 | none=>rfl
 | some s=>obtain⟨k,h1,-⟩:=slA_iff.1 h;simp at h1
theorem slA_set {sl:List Sl}{h:Nat}{s s':Sl}{k:Nat} (hk:h % 4294967296=k+1) (hs:slA sl h=some s) (hg:s'.gen=s.gen) (hl:s'.live=true) (x:Nat) :
  slA (sl.set k s') x=if x=h then some s' else slA sl x:=by
 obtain⟨k',h1,h2,h3,h4⟩:=slA_iff.1 hs
 obtain rfl:k'=k:=by omega
 have hlt:k' < sl.length:=(List.getElem?_eq_some_iff.1 h2).1
 by_cases e:x=h
 ·subst e
  rw [if_pos rfl]
  exact slA_iff.2 ⟨k',h1,by simp [hlt],hl,by rw [hg];exact h4⟩
 ·rw [if_neg e]
  cases hx:slA sl x with
  | none =>
   cases hy:slA (sl.set k' s') x with
   | none=>rfl
   | some t =>
    obtain⟨j,j1,j2,j3,j4⟩:=slA_iff.1 hy
    by_cases ej:k'=j
    ·subst ej
     rw [List.getElem?_set_self hlt] at j2
     cases j2
     rw [hg,h4] at j4;exact absurd j4.symm e
    ·rw [List.getElem?_set_ne ej] at j2
     rw [slA_iff.2 ⟨j,j1,j2,j3,j4⟩] at hx;cases hx
  | some t =>
   obtain⟨j,j1,j2,j3,j4⟩:=slA_iff.1 hx
   refine slA_iff.2 ⟨j,j1,?_,j3,j4⟩
   rw [List.getElem?_set_ne,j2]
   rintro rfl
   rw [h2] at j2;cases j2
   exact e (j4.symm.trans h4)
def lstA (A:Nat→Option Sl) (roots:List Nat) (p:Nat):List Nat:=if p=0 then roots else match A p with | some s=>s.kids | none=>[]
inductive Ch (A:Nat→Option Sl):Nat→Nat→Prop where
 | zero:Ch A 0 0
 | succ {h c:Nat}{s:Sl}:h≠0→A h=some s→Ch A s.parent c→Ch A h (c+1)
theorem Ch.fn {A:Nat→Option Sl}{h c d:Nat} (h1:Ch A h c) (h2:Ch A h d):c=d:=by
 induction h1 generalizing d with
 | zero=>cases h2 with
  | zero=>rfl
  | succ h0=>exact absurd rfl h0
 | succ h0 ha _ ih=>cases h2 with
  | zero=>exact absurd rfl h0
  | succ _ hb hc=>rw [ha] at hb;cases hb;rw [ih hc]
theorem Ch.mono {A B:Nat→Option Sl}{h c:Nat} (hk:∀x s,A x=some s→∃t,B x=some t∧t.parent=s.parent) (h1:Ch A h c):Ch B h c:=by
 induction h1 with
 | zero=>exact .zero
 | succ h0 ha _ ih =>
  obtain⟨t,h2,h3⟩:=hk _ _ ha
  exact .succ h0 h2 (by rw [h3];exact ih)
inductive Wi (A:Nat→Option Sl) (h:Nat):Nat→Prop where
 | self:Wi A h h
 | up {x:Nat}{s:Sl}:A x=some s→Wi A h s.parent→Wi A h x
def updA (A:Nat→Option Sl) (h:Nat) (s:Option Sl):Nat→Option Sl:=fun x=>if x=h then s else A x
theorem updA_self (A:Nat→Option Sl) (h:Nat) (s:Option Sl):updA A h s h=s:=by unfold updA;rw [if_pos rfl]
theorem updA_ne {A:Nat→Option Sl}{h x:Nat}{s:Option Sl} (e:x≠h):updA A h s x=A x:=by unfold updA;rw [if_neg e]
def okSl (s:Sl):Prop:=ownF s.kind s.nm s.attrs s.text=0∧(s.kind=1∧s.text=noB∨s.kind=2∧s.nm=noB∧s.attrs=[]∧s.kids=[])
structure WfA (A:Nat→Option Sl) (roots loose:List Nat):Prop where
 zero:A 0=none
 ok:∀h s,A h=some s→okSl s
 par:∀h s,A h=some s→s.parent=0∨∃t,A s.parent=some t∧t.kind=1
 chain:∀h s,A h=some s→∃c,c≤64∧Ch A h c
 kid:∀h s,A h=some s→s.kids.Nodup∧∀x∈s.kids,x∉loose∧∃t,A x=some t∧t.parent=h
 root:roots.Nodup∧∀x∈roots,x∉loose∧∃t,A x=some t∧t.parent=0
 mem:∀h s,A h=some s→h∉loose→h∈lstA A roots s.parent
 lo:∀h∈loose,∃s,A h=some s
section
variable {A:Nat→Option Sl}{roots loose:List Nat}
theorem WfA.lst (h:WfA A roots loose) (p:Nat):(lstA A roots p).Nodup∧∀x∈lstA A roots p,x∉loose∧∃t,A x=some t∧t.parent=p:=by
 unfold lstA
 by_cases h0:p=0
 ·subst h0;rw [if_pos rfl];exact h.root
 ·rw [if_neg h0]
  cases ha:A p with
  | none=>simp
  | some s=>exact h.kid p s ha
theorem lstA_some {p:Nat}{s:Sl} (h0:p≠0) (h:A p=some s):lstA A roots p=s.kids:=by unfold lstA;rw [if_neg h0,h]
theorem lstA_zero:lstA A roots 0=roots:=by unfold lstA;rw [if_pos rfl]
theorem WfA.ne0 (h:WfA A roots loose) {x:Nat}{s:Sl} (hx:A x=some s):x≠0:=fun e=>by subst e;rw [h.zero] at hx;cases hx
theorem WfA.fresh (h:WfA A roots loose) {n p c:Nat}{s:Sl} (h0:n≠0) (hn:A n=none) (hs:okSl s) (hk:s.kids=[]) (hp:s.parent=p) (hpk:p=0∨∃t,A p=some t∧t.kind=1) (hc:Ch A p c) (hc2:c+1≤64) :
  WfA (updA A n (some s)) roots (n :: loose):=by
 have hext:∀x t,A x=some t→updA A n (some s) x=some t:=fun x t hx=>by
  rw [updA_ne];exact hx
  rintro rfl;rw [hn] at hx;cases hx
 have hext2:∀x t,A x=some t→∃u,updA A n (some s) x=some u∧u.parent=t.parent:=fun x t hx=>⟨t,hext x t hx,rfl⟩
 have hold:∀x t,updA A n (some s) x=some t→(x=n∧t=s)∨A x=some t:=fun x t hx=>by
  by_cases e:x=n
  ·subst e;rw [updA_self] at hx;cases hx;exact .inl ⟨rfl,rfl⟩
  ·rw [updA_ne e] at hx;exact .inr hx
 have hpar:∀q,(q=0∨∃t,A q=some t∧t.kind=1)→(q=0∨∃t,updA A n (some s) q=some t∧t.kind=1):=fun q hq=>by
  rcases hq with hq | ⟨t,h1,h2⟩
  ·exact .inl hq
  ·exact .inr ⟨t,hext _ _ h1,h2⟩
 refine⟨by rw [updA_ne (Ne.symm h0)];exact h.zero,fun x t hx=>?_,fun x t hx=>?_,fun x t hx=>?_,fun x t hx=>?_,⟨h.root.1,fun x hx=>?_⟩,fun x t hx hl=>?_,fun x hx=>?_⟩
 rotate_right
 ·rcases List.mem_cons.1 hx with rfl | hx
  ·exact⟨s,updA_self _ _ _⟩
  ·obtain⟨t,ht⟩:=h.lo x hx
   exact⟨t,hext _ _ ht⟩
 ·rcases hold x t hx with ⟨rfl,rfl⟩ | hx
  ·exact hs
  ·exact h.ok x t hx
 ·rcases hold x t hx with ⟨rfl,rfl⟩ | hx
  ·rw [hp];exact hpar _ hpk
  ·exact hpar _ (h.par x t hx)
 ·rcases hold x t hx with ⟨rfl,rfl⟩ | hx
  ·exact⟨c+1,hc2,.succ h0 (updA_self _ _ _) (by rw [hp];exact hc.mono hext2)⟩
  ·obtain⟨d,h1,h2⟩:=h.chain x t hx
   exact⟨d,h1,h2.mono hext2⟩
 ·rcases hold x t hx with ⟨rfl,rfl⟩ | hx
  ·rw [hk];simp
  ·obtain⟨h1,h2⟩:=h.kid x t hx
   refine⟨h1,fun y hy=>?_⟩
   obtain⟨h3,u,h4,h5⟩:=h2 y hy
   refine⟨?_,u,hext _ _ h4,h5⟩
   simp only [List.mem_cons,not_or]
   exact⟨fun e=>(by subst e;rw [hn] at h4;cases h4),h3⟩
 ·obtain⟨h3,u,h4,h5⟩:=h.root.2 x hx
  refine⟨?_,u,hext _ _ h4,h5⟩
  simp only [List.mem_cons,not_or]
  exact⟨fun e=>(by subst e;rw [hn] at h4;cases h4),h3⟩
 ·simp only [List.mem_cons,not_or] at hl
  rcases hold x t hx with ⟨rfl,rfl⟩ | hx
  ·exact absurd rfl hl.1
  ·have h1:=h.mem x t hx hl.2
   rcases h.par x t hx with h2 | ⟨u,h2,-⟩
   ·rw [h2,lstA_zero] at h1 ⊢;exact h1
   ·rw [lstA_some (h.ne0 h2) h2] at h1
    rw [lstA_some (h.ne0 h2) (hext _ _ h2)];exact h1
def setA (A:Nat→Option Sl) (p:Nat) (l:List Nat):Nat→Option Sl:=fun x=>if x=p∧p≠0 then (A x).map fun s=>{ s with kids:=l } else A x
def setR (roots:List Nat) (p:Nat) (l:List Nat):List Nat:=if p=0 then l else roots
theorem setA_some {p x:Nat}{l:List Nat}{t:Sl} (h:setA A p l x=some t):∃s,A x=some s∧t=(if x=p∧p≠0 then { s with kids:=l } else s):=by
 unfold setA at h
 by_cases e:x=p∧p≠0
 ·rw [if_pos e] at h
  obtain⟨s,h1,h2⟩:=Option.map_eq_some_iff.1 h
  exact⟨s,h1,by rw [if_pos e];exact h2.symm⟩
 ·rw [if_neg e] at h
  exact⟨t,h,by rw [if_neg e]⟩
theorem setA_of {p x:Nat}{l:List Nat}{s:Sl} (h:A x=some s):setA A p l x=some (if x=p∧p≠0 then { s with kids:=l } else s):=by
 unfold setA
 by_cases e:x=p∧p≠0
 ·rw [if_pos e,if_pos e,h];rfl
 ·rw [if_neg e,if_neg e,h]
theorem setA_of' {p x:Nat}{l:List Nat}{s:Sl} (h:A x=some s):∃t,setA A p l x=some t∧t.parent=s.parent∧t.kind=s.kind:=by
 refine⟨_,setA_of h,?_,?_⟩ <;> split <;> rfl
theorem lst_setA {p q:Nat}{l:List Nat} (hq:q=0∨∃s,A q=some s) (h0:A 0=none):lstA (setA A p l) (setR roots p l) q=if q=p then l else lstA A roots q:=by
 unfold lstA setR
 by_cases e:q=0
 ·subst e
  rw [if_pos rfl]
  by_cases e2:p=0
  ·subst e2;simp
  ·rw [if_neg e2,if_neg (Ne.symm e2),if_pos rfl]
 ·rw [if_neg e,if_neg e]
  rcases hq with hq | ⟨s,hs⟩
  ·exact absurd hq e
  ·rw [setA_of hs,hs]
   simp only
   by_cases e2:q=p
   ·subst e2;rw [if_pos ⟨rfl,e⟩,if_pos rfl]
   ·rw [if_neg (fun h=>e2 h.1),if_neg e2]
theorem WfA.setL (h:WfA A roots loose) {p:Nat}{l:List Nat}{loose':List Nat} (hp:p=0∨∃t,A p=some t∧t.kind=1) (hn:l.Nodup) (hl:∀x∈l,x∉loose'∧∃t,A x=some t∧t.parent=p)
  (hm:∀x s,A x=some s→s.parent=p→x∉loose'→x∈l) (ho:∀x s,A x=some s→s.parent≠p→(x∈loose'↔x∈loose)) (hlo:∀x∈loose',∃s,A x=some s):WfA (setA A p l) (setR roots p l) loose':=by
 have hpe:∀q,(q=0∨∃t,A q=some t∧t.kind=1)→(q=0∨∃t,setA A p l q=some t∧t.kind=1):=fun q hq=>by
  rcases hq with hq | ⟨t,h1,h2⟩
  ·exact .inl hq
  ·obtain⟨u,h3,h4,h5⟩:=setA_of' (p:=p) (l:=l) h1
   exact .inr ⟨u,h3,by rw [h5,h2]⟩
 have hch:∀x s,A x=some s→∃t,setA A p l x=some t∧t.parent=s.parent:=fun x s hx=>by
  obtain⟨u,h3,h4,h5⟩:=setA_of' (p:=p) (l:=l) hx
  exact⟨u,h3,h4⟩
 refine⟨by unfold setA;rw [if_neg (by rintro ⟨e,h2⟩;exact h2 e.symm)];exact h.zero,fun x t hx=>?_,fun x t hx=>?_,fun x t hx=>?_,fun x t hx=>?_,?_,fun x t hx hlo=>?_,fun x hx=>?_⟩
 rotate_right
 ·obtain⟨s,hs⟩:=hlo x hx
  exact⟨_,setA_of hs⟩
 ·obtain⟨s,h1,rfl⟩:=setA_some hx
  have h2:=h.ok x s h1
  split
  ·rename_i e
   rcases hp with hp | ⟨t,h3,h4⟩
   ·exact absurd hp e.2
   ·rw [←e.1,h1] at h3;cases h3
    obtain⟨h5,h6⟩:=h2
    refine⟨h5,.inl ⟨h4,?_⟩⟩
    rcases h6 with h6 | h6
    ·exact h6.2
    ·rw [h4] at h6;exact absurd h6.1 (by decide)
  ·exact h2
 ·obtain⟨s,h1,rfl⟩:=setA_some hx
  have:(if x=p∧p≠0 then { s with kids:=l } else s).parent=s.parent:=by split <;> rfl
  rw [this]
  exact hpe _ (h.par x s h1)
 ·obtain⟨s,h1,rfl⟩:=setA_some hx
  obtain⟨c,h2,h3⟩:=h.chain x s h1
  exact⟨c,h2,h3.mono hch⟩
 ·obtain⟨s,h1,rfl⟩:=setA_some hx
  split
  ·rename_i e
   refine⟨hn,fun y hy=>?_⟩
   obtain⟨h3,u,h4,h5⟩:=hl y hy
   obtain⟨v,h6,h7⟩:=hch y u h4
   exact⟨h3,v,h6,by rw [h7,h5,e.1]⟩
  ·rename_i e
   obtain⟨h2,h3⟩:=h.kid x s h1
   refine⟨h2,fun y hy=>?_⟩
   obtain⟨h4,u,h5,h6⟩:=h3 y hy
   obtain⟨v,h7,h8⟩:=hch y u h5
   refine⟨fun hy2=>h4 ((ho y u h5 ?_).1 hy2),v,h7,by rw [h8,h6]⟩
   rw [h6]
   rintro rfl
   exact e ⟨rfl,h.ne0 h1⟩
 ·unfold setR
  split
  ·rename_i e
   refine⟨hn,fun y hy=>?_⟩
   obtain⟨h3,u,h4,h5⟩:=hl y hy
   obtain⟨v,h6,h7⟩:=hch y u h4
   exact⟨h3,v,h6,by rw [h7,h5,e]⟩
  ·rename_i e
   refine⟨h.root.1,fun y hy=>?_⟩
   obtain⟨h4,u,h5,h6⟩:=h.root.2 y hy
   obtain⟨v,h7,h8⟩:=hch y u h5
   exact⟨fun hy2=>h4 ((ho y u h5 (by rw [h6];exact Ne.symm e)).1 hy2),v,h7,by rw [h8,h6]⟩
 ·obtain⟨s,h1,rfl⟩:=setA_some hx
  have hpe2:(if x=p∧p≠0 then { s with kids:=l } else s).parent=s.parent:=by split <;> rfl
  rw [hpe2]
  rw [lst_setA ((h.par x s h1).imp id fun⟨t,h2,_⟩=>⟨t,h2⟩) h.zero]
  by_cases e:s.parent=p
  ·rw [if_pos e];exact hm x s h1 e hlo
  ·rw [if_neg e];exact h.mem x s h1 fun h2=>hlo ((ho x s h1 e).2 h2)
end
--PURE
theorem Tr.ind {M:Tr→Prop} (h:∀kind nm attrs text kids,(∀k∈kids,M k)→M (.mk kind nm attrs text kids)):∀t,M t:=by
 intro t
 refine Tr.rec (motive_1:=M) (motive_2:=fun ks=>∀k∈ks,M k) (fun kind nm attrs text ks ih=>h kind nm attrs text ks ih) (fun k hk=>by simp at hk) (fun a l h1 h2 k hk=>?_) t
 rcases List.mem_cons.1 hk with rfl | hk
 ·exact h1
 ·exact h2 k hk
mutual
def szT:Tr→Nat
 | .mk kind _ _ _ kids=>if kind=2 then 1 else 1+szL kids
def szL:List Tr→Nat
 | []=>0
 | x :: l=>szT x+szL l
end
mutual
def dpT:Tr→Nat
 | .mk kind _ _ _ kids=>if kind=2 then 1 else 1+dpL kids
def dpL:List Tr→Nat
 | []=>0
 | x :: l=>max (dpT x) (dpL l)
end
mutual
def okT:Tr→Prop
 | .mk kind nm attrs text kids=>ownF kind nm attrs text=0∧(kind=1∨kind=2)∧(kind=1→okL kids)
def okL:List Tr→Prop
 | []=>True
 | x :: l=>okT x∧okL l
end
theorem szT_pos:∀x:Tr,1≤szT x
 | .mk kind _ _ _ kids=>by unfold szT;split <;> omega
theorem dpT_pos:∀x:Tr,1≤dpT x
 | .mk kind _ _ _ kids=>by unfold dpT;split <;> omega
mutual
def lookF:Tr→Nat→Nat→Nat × Int
 | .mk kind nm attrs text kids,deep,n =>
  if 64 < deep∨4096≤n then (n,2) else if ownF kind nm attrs text≠0 then (n,ownF kind nm attrs text) else if kind=2 then (n+1,0) else looksF kids (deep+1) (n+1)
def looksF:List Tr→Nat→Nat→Nat × Int
 | [],_,n=>(n,0)
 | x :: l,deep,n=>if (lookF x deep n).2≠0 then lookF x deep n else looksF l deep (lookF x deep n).1
end
def freeI (sl:List Sl):Nat:=sl.findIdx fun s=>!s.live && decide (s.gen < 4294967295)
def deadS (g:Nat):Sl:=⟨g,false,0,noB,[],noB,0,[]⟩
def roomF (sl:List Sl):List Sl:=if freeI sl < sl.length then sl else sl++[deadS 0]
def genI (sl:List Sl):Nat:=match (roomF sl)[freeI sl]? with | some s=>s.gen+1 | none=>0
def freshH (sl:List Sl):Nat:=hnd (genI sl) (freeI sl)
mutual
def makeF:Tr→Nat→List Sl→List Sl
 | .mk kind nm attrs text kids,p,sl =>
  if kind=2 then (roomF sl).set (freeI sl) ⟨genI sl,true,kind,noB,[],text,p,[]⟩
  else makesF kids (freshH sl) (freeI sl) ((roomF sl).set (freeI sl) ⟨genI sl,true,kind,nm,attrs,noB,p,[]⟩)
def makesF:List Tr→Nat→Nat→List Sl→List Sl
 | [],_,_,sl=>sl
 | x :: l,h,i,sl=>makesF l h i ((makeF x h sl).modify i fun s=>{ s with kids:=s.kids++[freshH sl] })
end
structure WfS (sl:List Sl):Prop where
 few:sl.length≤4096
 gen:∀s∈sl,s.gen < 4294967296
 dead:∀s∈sl,s.live=false→s=deadS s.gen
 live:∀s∈sl,s.live=true→1≤s.gen
def tk (sl:List Sl):Nat:=(sl.filter fun s=>s.live || decide (4294967295≤s.gen)).length
section
variable {sl:List Sl}
theorem freeI_lt (h:freeI sl < sl.length):∃s,sl[freeI sl]?=some s∧s.live=false∧s.gen < 4294967295:=by
 have h1:=List.findIdx_getElem (w:=h)
 refine⟨sl[freeI sl],List.getElem?_eq_getElem h,?_⟩
 unfold freeI
 simpa using h1
theorem freeI_le:freeI sl≤sl.length:=List.findIdx_le_length
theorem tk_le:tk sl≤sl.length:=List.length_filter_le _ _
theorem tk_full (h:¬freeI sl < sl.length):tk sl=sl.length:=by
 unfold tk
 rw [List.filter_eq_self.2]
 intro s hs
 have h1:sl.findIdx (fun s=>!s.live && decide (s.gen < 4294967295))=sl.length:=by
  have:=freeI_le (sl:=sl);unfold freeI at this h;omega
 have h2:=List.findIdx_eq_length.1 h1 s hs
 cases hl:s.live
 ·simp [hl] at h2 ⊢;omega
 ·simp
theorem room_get (hw:WfS sl):∃s,(roomF sl)[freeI sl]?=some s∧s=deadS s.gen∧s.gen < 4294967295∧s.live=false:=by
 unfold roomF
 by_cases h:freeI sl < sl.length
 ·rw [if_pos h]
  obtain⟨s,h1,h2,h3⟩:=freeI_lt h
  exact⟨s,h1,hw.dead s (List.mem_of_getElem? h1) h2,h3,h2⟩
 ·rw [if_neg h]
  have h2:freeI sl=sl.length:=by have:=freeI_le (sl:=sl);omega
  exact⟨deadS 0,by rw [h2];simp,rfl,by decide,rfl⟩
theorem genI_eq {s:Sl} (h:(roomF sl)[freeI sl]?=some s):genI sl=s.gen+1:=by unfold genI;rw [h]
theorem room_old {k:Nat}{s:Sl} (h:sl[k]?=some s):(roomF sl)[k]?=some s:=by
 unfold roomF
 split
 ·exact h
 ·rw [List.getElem?_append_left (List.getElem?_eq_some_iff.1 h).1];exact h
theorem room_len:sl.length≤(roomF sl).length∧(roomF sl).length≤tk sl+1∨(roomF sl).length=sl.length:=by
 unfold roomF
 by_cases h:freeI sl < sl.length
 ·rw [if_pos h];exact .inr rfl
 ·rw [if_neg h]
  have:=tk_full h
  exact .inl (by simp;omega)
theorem room_wf (hw:WfS sl) (ht:tk sl < 4096):WfS (roomF sl):=by
 unfold roomF
 by_cases h:freeI sl < sl.length
 ·rw [if_pos h];exact hw
 ·rw [if_neg h]
  have h2:=tk_full h
  refine⟨by simp;omega,fun s hs=>?_,fun s hs hl=>?_,fun s hs hl=>?_⟩ <;> rcases List.mem_append.1 hs with hs | hs
  ·exact hw.gen s hs
  ·rw [List.mem_singleton] at hs;subst hs;decide
  ·exact hw.dead s hs hl
  ·rw [List.mem_singleton] at hs;subst hs;rfl
  ·exact hw.live s hs hl
  ·rw [List.mem_singleton] at hs;subst hs;cases hl
theorem slA_room (hw:WfS sl) (x:Nat):slA (roomF sl) x=slA sl x:=by
 unfold roomF
 by_cases h:freeI sl < sl.length
 ·rw [if_pos h]
 ·rw [if_neg h]
  cases hx:slA sl x with
  | some s =>
   obtain⟨k,h1,h2,h3,h4⟩:=slA_iff.1 hx
   exact slA_iff.2 ⟨k,h1,by rw [List.getElem?_append_left (List.getElem?_eq_some_iff.1 h2).1];exact h2,h3,h4⟩
  | none =>
   cases hy:slA (sl++[deadS 0]) x with
   | none=>rfl
   | some s =>
    obtain⟨k,h1,h2,h3,h4⟩:=slA_iff.1 hy
    rcases Nat.lt_or_ge k sl.length with hk | hk
    ·rw [List.getElem?_append_left hk] at h2
     rw [slA_iff.2 ⟨k,h1,h2,h3,h4⟩] at hx;cases hx
    ·rw [List.getElem?_append_right hk] at h2
     have:s∈[deadS 0]:=List.mem_of_getElem? h2
     rw [List.mem_singleton] at this;subst this;cases h3
theorem slA_born {k:Nat}{s s':Sl} (hk:k+1 < 4294967296) (hs:sl[k]?=some s) (hd:s.live=false) (hl:s'.live=true) (x:Nat) :
  slA (sl.set k s') x=updA (slA sl) (hnd s'.gen k) (some s') x:=by
 have hlt:k < sl.length:=(List.getElem?_eq_some_iff.1 hs).1
 by_cases e:x=hnd s'.gen k
 ·subst e
  rw [updA_self]
  exact slA_hnd hk (by simp [hlt]) hl
 ·rw [updA_ne e]
  cases hx:slA sl x with
  | some t =>
   obtain⟨j,j1,j2,j3,j4⟩:=slA_iff.1 hx
   refine slA_iff.2 ⟨j,j1,?_,j3,j4⟩
   rw [List.getElem?_set_ne,j2]
   rintro rfl
   rw [hs] at j2;cases j2;rw [hd] at j3;cases j3
  | none =>
   cases hy:slA (sl.set k s') x with
   | none=>rfl
   | some t =>
    obtain⟨j,j1,j2,j3,j4⟩:=slA_iff.1 hy
    by_cases ej:k=j
    ·subst ej
     rw [List.getElem?_set_self hlt] at j2
     cases j2
     exact absurd j4.symm e
    ·rw [List.getElem?_set_ne ej] at j2
     rw [slA_iff.2 ⟨j,j1,j2,j3,j4⟩] at hx;cases hx
theorem slA_dead {k h:Nat}{s:Sl} (hk:k+1 < 4294967296) (hs:sl[k]?=some s) (hd:s.live=false) (hm:h % 4294967296=k+1):slA sl h=none:=by
 cases hx:slA sl h with
 | none=>rfl
 | some t =>
  obtain⟨j,j1,j2,j3,j4⟩:=slA_iff.1 hx
  obtain rfl:j=k:=by omega
  rw [hs] at j2;cases j2;rw [hd] at j3;cases j3
theorem WfS.set (hw:WfS sl) {k:Nat}{s':Sl} (h1:s'.gen < 4294967296) (h2:s'.live=false→s'=deadS s'.gen) (h3:s'.live=true→1≤s'.gen):WfS (sl.set k s'):=by
 refine⟨by simpa using hw.few,fun s hs=>?_,fun s hs hl=>?_,fun s hs hl=>?_⟩ <;> rcases List.mem_or_eq_of_mem_set hs with hs | hs
 ·exact hw.gen s hs
 ·subst hs;exact h1
 ·exact hw.dead s hs hl
 ·subst hs;exact h2 hl
 ·exact hw.live s hs hl
 ·subst hs;exact h3 hl
theorem filter_set_len {α:Type} (q:α→Bool):∀(l:List α) (k:Nat) (a b:α),l[k]?=some a→((l.set k b).filter q).length+(if q a then 1 else 0)=(l.filter q).length+(if q b then 1 else 0)
 | [],k,a,b,h=>by simp at h
 | x :: l,0,a,b,h=>by
  simp at h;subst h
  simp only [List.set_cons_zero,List.filter_cons]
  cases q x <;> cases q b <;> simp
 | x :: l,k+1,a,b,h=>by
  have ih:=filter_set_len q l k a b (by simpa using h)
  simp only [List.set_cons_succ,List.filter_cons]
  cases q x
  ·simpa using ih
  ·simp only [if_true,List.length_cons];omega
theorem tk_set {k:Nat}{a b:Sl} (h:sl[k]?=some a):tk (sl.set k b)+(if a.live || decide (4294967295≤a.gen) then 1 else 0)=tk sl+(if b.live || decide (4294967295≤b.gen) then 1 else 0) :=
 filter_set_len (fun s:Sl=>s.live || decide (4294967295≤s.gen)) sl k a b h
theorem tk_room:tk (roomF sl)=tk sl:=by
 unfold roomF tk
 split
 ·rfl
 ·rw [List.filter_append];simp [deadS]
theorem modify_set {α:Type} (f:α→α):∀(l:List α) (k:Nat) (a:α),l[k]?=some a→l.modify k f=l.set k (f a)
 | [],k,a,h=>by simp at h
 | x :: l,0,a,h=>by simp at h;subst h;rfl
 | x :: l,k+1,a,h=>by
  have ih:=modify_set f l k a (by simpa using h)
  simp [ih]
end
structure Made (roots loose:List Nat) (sl sl':List Sl) (p h n:Nat):Prop where
 wfs:WfS sl'
 wf:WfA (slA sl') roots (h :: loose)
 new:slA sl h=none
 ext:∀y s,slA sl y=some s→slA sl' y=some s
 top:∃s,slA sl' h=some s∧s.parent=p
 tk:tk sl'=tk sl+n
 len:sl.length≤sl'.length
section
variable {sl:List Sl}{roots loose:List Nat}{p c:Nat}
theorem one_wf {s:Sl} (hs:okSl s) (hk:s.kids=[]) (hsp:s.parent=p) (hsl:s.live=true) (hsg:s.gen=genI sl) (hw:WfS sl) (hA:WfA (slA sl) roots loose) (hp:p=0∨∃t,slA sl p=some t∧t.kind=1) (hc:Ch (slA sl) p c) (hc2:c+1≤64) (ht:tk sl+1≤4096) :
  Made roots loose sl ((roomF sl).set (freeI sl) s) p (freshH sl) 1∧slA ((roomF sl).set (freeI sl) s) (freshH sl)=some s:=by
 obtain⟨d,h1,h2,h3,h4⟩:=room_get hw
 have hg:=genI_eq h1
 have hR:=room_wf hw (by omega)
 have hi:freeI sl < (roomF sl).length:=(List.getElem?_eq_some_iff.1 h1).1
 have hfew:=hR.few
 have e:∀x,slA ((roomF sl).set (freeI sl) s) x=updA (slA sl) (freshH sl) (some s) x:=fun x=>by
  have e1:=slA_born (sl:=roomF sl) (k:=freeI sl) (s:=d) (s':=s) (by omega) h1 h4 hsl x
  rw [e1]
  have e2:(slA (roomF sl))=slA sl:=funext (slA_room hw)
  rw [e2,hsg];rfl
 have e':=funext e
 have hnew:slA sl (freshH sl)=none:=by
  rw [←slA_room hw]
  exact slA_dead (k:=freeI sl) (s:=d) (by omega) h1 h4 (by unfold freshH;exact hnd_mod (by omega))
 have h0:freshH sl≠0:=by unfold freshH hnd;omega
 refine⟨⟨hR.set (by rw [hsg];omega) (by rw [hsl];simp) (fun _=>by rw [hsg];omega),?_,hnew,fun y t hy=>?_,⟨s,by rw [e,updA_self],hsp⟩,?_,?_⟩,by rw [e,updA_self]⟩
 ·rw [e'];exact hA.fresh h0 hnew hs hk hsp hp hc hc2
 ·rw [e,updA_ne];exact hy
  rintro rfl;rw [hnew] at hy;cases hy
 ·have:=tk_set (b:=s) h1
  rw [tk_room] at this
  rw [h4,hsl] at this
  simp only [Bool.true_or,if_true,Bool.false_or] at this
  rw [if_neg (by simp;omega)] at this
  omega
 ·rw [List.length_set]
  rcases room_len (sl:=sl) with h | h <;> omega
theorem WfA.hang1 {A:Nat→Option Sl}{h hk:Nat}{s:Sl} (hA:WfA A roots (hk :: loose)) (hh:A h=some s) (hs1:s.kind=1) (hkp:∃t,A hk=some t∧t.parent=h) (hnl:hk∉loose) :
  WfA (setA A h (s.kids++[hk])) roots loose:=by
 have h0:=hA.ne0 hh
 have hr:setR roots h (s.kids++[hk])=roots:=by unfold setR;rw [if_neg h0]
 have:=hA.setL (p:=h) (l:=s.kids++[hk]) (loose':=loose) (.inr ⟨s,hh,hs1⟩) ?_ (fun x hx=>?_) (fun x t hx hp hl=>?_) (fun x t hx hp=>?_) (fun x hx=>hA.lo x (List.mem_cons_of_mem _ hx))
 ·rw [hr] at this;exact this
 ·obtain⟨k1,k2⟩:=hA.kid h s hh
  rw [List.nodup_append]
  refine⟨k1,by simp,fun a ha b hb e=>?_⟩
  rw [List.mem_singleton] at hb;subst hb;subst e
  exact (k2 a ha).1 (by simp)
 ·rcases List.mem_append.1 hx with hx | hx
  ·obtain⟨k1,k2⟩:=(hA.kid h s hh).2 x hx
   exact⟨fun e=>k1 (List.mem_cons_of_mem _ e),k2⟩
  ·rw [List.mem_singleton] at hx;subst hx
   exact⟨hnl,hkp⟩
 ·by_cases e:x=hk
  ·subst e;simp
  ·have:=hA.mem x t hx (by simp [e,hl])
   rw [hp,lstA_some h0 hh] at this
   exact List.mem_append_left _ this
 ·constructor
  ·intro k;exact List.mem_cons_of_mem _ k
  ·intro k
   rcases List.mem_cons.1 k with rfl | k
   ·obtain⟨u,u1,u2⟩:=hkp
    rw [hx] at u1;cases u1;exact absurd u2 hp
   ·exact k
theorem makes_wf:∀(l:List Tr),(∀x∈l,∀{sl:List Sl}{loose:List Nat}{p c:Nat},okT x→WfS sl→WfA (slA sl) roots loose→(p=0∨∃t,slA sl p=some t∧t.kind=1)→Ch (slA sl) p c→c+dpT x≤64→tk sl+szT x≤4096→Made roots loose sl (makeF x p sl) p (freshH sl) (szT x)) →
  ∀{sl:List Sl}{loose:List Nat}{h c i:Nat}{s:Sl},okL l→WfS sl→WfA (slA sl) roots loose→h % 4294967296=i+1→slA sl h=some s→s.kind=1→Ch (slA sl) h c→c+dpL l≤64→tk sl+szL l≤4096 →
  WfS (makesF l h i sl)∧WfA (slA (makesF l h i sl)) roots loose∧(∀y t,y≠h→slA sl y=some t→slA (makesF l h i sl) y=some t)∧(∃ks,slA (makesF l h i sl) h=some { s with kids:=s.kids++ks })∧tk (makesF l h i sl)=tk sl+szL l∧sl.length≤(makesF l h i sl).length
 | [],_,sl,loose,h,c,i,s,ho,hw,hA,hi,hs,hs1,hc,hd,ht=>by
  unfold makesF
  exact⟨hw,hA,fun _ _ _ h=>h,⟨[],by simpa using hs⟩,by simp [szL],Nat.le_refl _⟩
 | x :: l,ih,sl,loose,h,c,i,s,ho,hw,hA,hi,hs,hs1,hc,hd,ht=>by
  simp only [okL,dpL,szL] at ho hd ht
  have M:=ih x (by simp) ho.1 hw hA (.inr ⟨s,hs,hs1⟩) hc (by omega) (by omega)
  unfold makesF
  generalize hsl1:makeF x h sl=sl1 at M ⊢
  generalize hhk:freshH sl=hk at M ⊢
  have hs':=M.ext h s hs
  obtain⟨k,k1,k2,k3,k4⟩:=slA_iff.1 hs'
  obtain rfl:k=i:=by omega
  have hfew:=M.wfs.few
  have hlt:k < sl1.length:=(List.getElem?_eq_some_iff.1 k2).1
  rw [modify_set _ _ _ _ k2]
  have e:∀y,slA (sl1.set k { s with kids:=s.kids++[hk] }) y=setA (slA sl1) h (s.kids++[hk]) y:=fun y=>by
   rw [slA_set (s':={ s with kids:=s.kids++[hk] }) k1 hs' rfl k3]
   unfold setA
   have h0:=hA.ne0 hs
   by_cases ey:y=h
   ·subst ey;rw [if_pos rfl,if_pos ⟨rfl,h0⟩,hs'];rfl
   ·rw [if_neg ey,if_neg (fun e=>ey e.1)]
  have e':=funext e
  have hnl:hk∉loose:=fun hm=>by
   obtain⟨t,ht⟩:=hA.lo hk hm
   rw [M.new] at ht;cases ht
  have A2:WfA (slA (sl1.set k { s with kids:=s.kids++[hk] })) roots loose:=by rw [e'];exact M.wf.hang1 hs' hs1 M.top hnl
  have w2:WfS (sl1.set k { s with kids:=s.kids++[hk] }):=M.wfs.set (M.wfs.gen s (List.mem_of_getElem? k2)) (by rw [k3];simp) (fun _=>M.wfs.live s (List.mem_of_getElem? k2) k3)
  have s2:slA (sl1.set k { s with kids:=s.kids++[hk] }) h=some { s with kids:=s.kids++[hk] }:=by rw [slA_set (s':={ s with kids:=s.kids++[hk] }) k1 hs' rfl k3,if_pos rfl]
  have c2:Ch (slA (sl1.set k { s with kids:=s.kids++[hk] })) h c:=(hc.mono fun y t hy=>⟨t,M.ext y t hy,rfl⟩).mono fun y t hy=>by
   rw [e]
   obtain⟨u,u1,u2,_⟩:=setA_of' (p:=h) (l:=s.kids++[hk]) hy
   exact⟨u,u1,u2⟩
  have t2:tk (sl1.set k { s with kids:=s.kids++[hk] })=tk sl+szT x:=by
   have:=tk_set (b:={ s with kids:=s.kids++[hk] }) k2
   have mt:=M.tk
   simp only at this
   omega
  obtain⟨r1,r2,r3,⟨ks,r4⟩,r5,r6⟩:=makes_wf l (fun y hy=>ih y (by simp [hy])) (i:=k) ho.2 w2 A2 k1 s2 hs1 c2 (by omega) (by omega)
  refine⟨r1,r2,fun y t hy ht=>r3 y t hy ?_,⟨hk :: ks,by rw [r4];simp⟩,by simp only [szL];omega,?_⟩
  ·rw [e]
   unfold setA
   rw [if_neg (fun e=>hy e.1)]
   exact M.ext y t ht
  ·have ml:=M.len
   rw [List.length_set] at r6
   omega
theorem make_wf:∀(x:Tr) {sl:List Sl}{loose:List Nat}{p c:Nat},okT x→WfS sl→WfA (slA sl) roots loose→(p=0∨∃t,slA sl p=some t∧t.kind=1)→Ch (slA sl) p c→c+dpT x≤64→tk sl+szT x≤4096→Made roots loose sl (makeF x p sl) p (freshH sl) (szT x):=by
 refine Tr.ind fun kind nm attrs text kids ih sl loose p c ho hw hA hp hc hd ht=>?_
 unfold okT at ho
 obtain⟨o1,o2,o3⟩:=ho
 unfold makeF
 unfold dpT at hd
 unfold szT at ht ⊢
 by_cases hk:kind=2
 ·subst hk
  rw [if_pos rfl] at hd ht ⊢
  rw [if_pos rfl]
  refine (one_wf (s:=⟨genI sl,true,2,noB,[],text,p,[]⟩) ⟨?_,.inr ⟨rfl,rfl,rfl,rfl⟩⟩ rfl rfl rfl rfl hw hA hp hc (by omega) (by omega)).1
  unfold ownF at o1 ⊢
  rw [if_neg (by decide),if_pos rfl] at o1
  rw [if_neg (show ¬(2:Int)=1 by decide),if_pos rfl]
  exact o1
 ·have hk1:kind=1:=o2.resolve_right hk
  subst hk1
  rw [if_neg hk] at hd ht ⊢
  rw [if_neg hk]
  have hok:okSl ⟨genI sl,true,1,nm,attrs,noB,p,[]⟩:=⟨by unfold ownF at o1 ⊢;exact o1,.inl ⟨rfl,rfl⟩⟩
  obtain⟨M,hs⟩:=one_wf (s:=⟨genI sl,true,1,nm,attrs,noB,p,[]⟩) hok rfl rfl rfl rfl hw hA hp hc (by omega) (by omega)
  generalize hsl1:(roomF sl).set (freeI sl) ⟨genI sl,true,1,nm,attrs,noB,p,[]⟩=sl1 at M hs ⊢
  have h0:freshH sl≠0:=by unfold freshH hnd;omega
  have hi:freshH sl % 4294967296=freeI sl+1:=by
   obtain⟨d,d1,_⟩:=room_get hw
   have:=(room_wf hw (by omega)).few
   have:=(List.getElem?_eq_some_iff.1 d1).1
   unfold freshH;exact hnd_mod (by omega)
  have hc1:Ch (slA sl1) (freshH sl) (c+1):=.succ h0 hs (hc.mono fun y t hy=>⟨t,M.ext y t hy,rfl⟩)
  have mt:=M.tk
  obtain⟨r1,r2,r3,⟨ks,r4⟩,r5,r6⟩:=makes_wf kids ih (o3 rfl) M.wfs M.wf hi hs rfl hc1 (by omega) (by omega)
  refine⟨r1,r2,M.new,fun y t hy=>r3 y t ?_ (M.ext y t hy),⟨_,r4,rfl⟩,by omega,Nat.le_trans M.len r6⟩
  rintro rfl
  rw [M.new] at hy;cases hy
end
--PURE
inductive De (A:Nat→Option Sl) (x:Nat):Nat→Nat→Prop where
 | self:De A x x 0
 | up {y d:Nat}{s:Sl}:A y=some s→De A x s.parent d→De A x y (d+1)
def allA (A:Nat→Option Sl):Nat→Nat→List Nat
 | 0,_=>[]
 | r+1,x=>x :: (match A x with | some s=>s.kids.flatMap (allA A r) | none=>[])
theorem allA_some {A:Nat→Option Sl}{r x:Nat}{s:Sl} (h:A x=some s):allA A (r+1) x=x :: s.kids.flatMap (allA A r):=by
 rw [allA,h]
section
variable {A:Nat→Option Sl}{roots loose:List Nat}
theorem De.wi {x y d:Nat} (h:De A x y d):Wi A x y:=by
 induction h with
 | self=>exact .self
 | up ha _ ih=>exact .up ha ih
theorem Wi.de {x y:Nat} (h:Wi A x y):∃d,De A x y d:=by
 induction h with
 | self=>exact⟨0,.self⟩
 | up ha _ ih=>obtain⟨d,hd⟩:=ih;exact⟨d+1,.up ha hd⟩
theorem De.ch {x y d c:Nat} (h0:A 0=none) (h:De A x y d) (hc:Ch A x c):Ch A y (c+d):=by
 induction h with
 | self=>exact hc
 | up ha _ ih=>exact .succ (fun e=>by subst e;rw [h0] at ha;cases ha) ha ih
theorem De.fn {x x' y d:Nat} (h:De A x y d) (h':De A x' y d):x=x':=by
 induction h with
 | self=>cases h';rfl
 | up ha _ ih=>cases h' with
  | up hb h2=>rw [ha] at hb;cases hb;exact ih h2
theorem De.down {x k y d:Nat}{s:Sl} (hk:A k=some s) (hp:s.parent=x) (h:De A k y d):De A x y (d+1):=by
 induction h with
 | self=>exact .up hk (by rw [hp];exact .self)
 | up ha _ ih=>exact .up ha ih
theorem De.split (hA:WfA A roots loose) {x y d:Nat} (h:De A x y (d+1)) (hx:x≠0) (hl:∀z,z∈loose→z=x∨¬Wi A x z) (hne:∀z e,De A x z (e+1)→z≠x):∃k s,A x=some s∧k∈s.kids∧De A k y d:=by
 generalize hn:d+1=n at h
 induction h generalizing d with
 | self=>omega
 | @up y d' s ha h2 ih =>
  obtain rfl:d'=d:=by omega
  cases d' with
  | zero =>
   cases h2
   have hy:y≠s.parent:=hne y 0 (.up ha .self)
   have hm:y∉loose:=fun hy2=>by
    rcases hl y hy2 with e | e
    ·exact hy e
    ·exact e (.up ha .self)
   have h3:=hA.mem y s ha hm
   rcases hA.par y s ha with e | ⟨t,ht,_⟩
   ·exact absurd e hx
   ·rw [lstA_some hx ht] at h3
    exact⟨y,t,ht,h3,.self⟩
  | succ d =>
   obtain⟨k,t,h3,h4,h5⟩:=ih rfl
   exact⟨k,t,h3,h4,.up ha h5⟩
theorem WfA.de_ne (hA:WfA A roots loose) {x:Nat} (hx:∃s,A x=some s):∀z e,De A x z (e+1)→z≠x:=by
 rintro z e h rfl
 obtain⟨s,hs⟩:=hx
 obtain⟨c,_,hc⟩:=hA.chain z s hs
 have:=(h.ch hA.zero hc).fn hc
 omega
theorem mem_allA (hA:WfA A roots loose):∀(r x y:Nat),(∃s,A x=some s)→(∀z,z∈loose→z=x∨¬Wi A x z)→(y∈allA A r x↔∃d,d < r∧De A x y d):=by
 intro r
 induction r with
 | zero=>intro x y hx hl;simp [allA]
 | succ r ih =>
  intro x y hx hl
  obtain⟨s,hs⟩:=hx
  rw [allA_some hs,List.mem_cons,List.mem_flatMap]
  have hkid:∀k∈s.kids,∃t,A k=some t∧t.parent=x:=fun k hk=>((hA.kid x s hs).2 k hk).2
  have hkl:∀k∈s.kids,∀z,z∈loose→z=k∨¬Wi A k z:=fun k hk z hz=>by
   refine .inr fun hw=>?_
   obtain⟨t,t1,t2⟩:=hkid k hk
   obtain⟨d,hd⟩:=hw.de
   have h2:=hd.down t1 t2
   rcases hl z hz with e | e
   ·exact hA.de_ne ⟨s,hs⟩ z d h2 e
   ·exact e h2.wi
  constructor
  ·rintro (rfl | ⟨k,hk,hy⟩)
   ·exact⟨0,by omega,.self⟩
   ·obtain⟨t,t1,t2⟩:=hkid k hk
    obtain⟨d,d1,d2⟩:=(ih k y ⟨t,t1⟩ (hkl k hk)).1 hy
    exact⟨d+1,by omega,d2.down t1 t2⟩
  ·rintro ⟨d,d1,d2⟩
   cases d with
   | zero=>cases d2;exact .inl rfl
   | succ d =>
    obtain⟨k,t,k1,k2,k3⟩:=d2.split hA (hA.ne0 hs) hl (hA.de_ne ⟨s,hs⟩)
    rw [hs] at k1;cases k1
    obtain⟨t,t1,t2⟩:=hkid k k2
    exact .inr ⟨k,k2,(ih k y ⟨t,t1⟩ (hkl k k2)).2 ⟨d,by omega,k3⟩⟩
theorem mem_all (hA:WfA A roots loose) {r x y c:Nat} (hx:∃s,A x=some s) (hl:∀z,z∈loose→z=x∨¬Wi A x z) (hc:Ch A x c) (hr:65≤c+r):y∈allA A r x↔Wi A x y:=by
 rw [mem_allA hA r x y hx hl]
 constructor
 ·rintro ⟨d,_,hd⟩;exact hd.wi
 ·intro h
  obtain⟨d,hd⟩:=h.de
  refine⟨d,?_,hd⟩
  have h2:=hd.ch hA.zero hc
  have:∃s,A y=some s:=by
   cases hd with
   | self=>exact hx
   | up ha _=>exact⟨_,ha⟩
  obtain⟨s,hs⟩:=this
  obtain⟨c',h3,h4⟩:=hA.chain y s hs
  have:=h2.fn h4
  omega
theorem all_live (hA:WfA A roots loose) {r x y:Nat} (hx:∃s,A x=some s) (hl:∀z,z∈loose→z=x∨¬Wi A x z) (h:y∈allA A r x):∃s,A y=some s:=by
 obtain⟨d,_,hd⟩:=(mem_allA hA r x y hx hl).1 h
 cases hd with
 | self=>exact hx
 | up ha _=>exact⟨_,ha⟩
theorem flatMap_nodup {α β:Type} (f:α→List β):∀(l:List α),l.Nodup→(∀a∈l,(f a).Nodup)→(∀a∈l,∀b∈l,a≠b→∀y,y∈f a→y∉f b)→(l.flatMap f).Nodup
 | [],_,_,_=>by simp
 | a :: l,h1,h2,h3=>by
  rw [List.flatMap_cons,List.nodup_append]
  have h4:=List.nodup_cons.1 h1
  refine⟨h2 a (by simp),flatMap_nodup f l h4.2 (fun b hb=>h2 b (by simp [hb])) (fun b hb c hc=>h3 b (by simp [hb]) c (by simp [hc])),fun y hy z hz e=>?_⟩
  subst e
  obtain⟨b,hb,hz⟩:=List.mem_flatMap.1 hz
  exact h3 a (by simp) b (by simp [hb]) (fun e=>h4.1 (e ▸ hb)) y hy hz
theorem all_nodup (hA:WfA A roots loose):∀(r x:Nat),(∃s,A x=some s)→(∀z,z∈loose→z=x∨¬Wi A x z)→(allA A r x).Nodup:=by
 intro r
 induction r with
 | zero=>intro x hx hl;simp [allA]
 | succ r ih =>
  intro x hx hl
  obtain⟨s,hs⟩:=hx
  rw [allA_some hs,List.nodup_cons]
  have hkid:∀k∈s.kids,∃t,A k=some t∧t.parent=x:=fun k hk=>((hA.kid x s hs).2 k hk).2
  have hkl:∀k∈s.kids,∀z,z∈loose→z=k∨¬Wi A k z:=fun k hk z hz=>by
   refine .inr fun hw=>?_
   obtain⟨t,t1,t2⟩:=hkid k hk
   obtain⟨d,hd⟩:=hw.de
   have h2:=hd.down t1 t2
   rcases hl z hz with e | e
   ·exact hA.de_ne ⟨s,hs⟩ z d h2 e
   ·exact e h2.wi
  refine⟨fun hm=>?_,flatMap_nodup _ _ (hA.kid x s hs).1 (fun k hk=>?_) (fun a ha b hb hab y h1 h2=>?_)⟩
  ·obtain⟨k,k1,k2⟩:=List.mem_flatMap.1 hm
   obtain⟨t,t1,t2⟩:=hkid k k1
   obtain⟨d,_,hd⟩:=(mem_allA hA r k x ⟨t,t1⟩ (hkl k k1)).1 k2
   exact hA.de_ne ⟨s,hs⟩ x d (hd.down t1 t2) rfl
  ·obtain⟨t,t1,t2⟩:=hkid k hk
   exact ih k ⟨t,t1⟩ (hkl k hk)
  ·obtain⟨t,t1,t2⟩:=hkid a ha
   obtain⟨u,u1,u2⟩:=hkid b hb
   obtain⟨d,_,hd⟩:=(mem_allA hA r a y ⟨t,t1⟩ (hkl a ha)).1 h1
   obtain⟨e,_,he⟩:=(mem_allA hA r b y ⟨u,u1⟩ (hkl b hb)).1 h2
   obtain⟨c,_,hc⟩:=hA.chain x s hs
   have c1:Ch A a (c+1):=.succ (hA.ne0 t1) t1 (by rw [t2];exact hc)
   have c2:Ch A b (c+1):=.succ (hA.ne0 u1) u1 (by rw [u2];exact hc)
   have:=(hd.ch hA.zero c1).fn (he.ch hA.zero c2)
   obtain rfl:d=e:=by omega
   exact hab (hd.fn he)
end
--PURE
structure Wf (D:Im):Prop where
 s:WfS D.sl
 a:WfA (slA D.sl) D.roots []
def lstI (D:Im) (p:Nat):List Nat:=lstA (slA D.sl) D.roots p
def setI (D:Im) (p:Nat) (l:List Nat):Im:=if p=0 then { D with roots:=l } else { D with sl:=D.sl.modify (p % 4294967296-1) fun s=>{ s with kids:=l } }
def updI (D:Im) (h:Nat) (f:Sl→Sl):Im:={ D with sl:=D.sl.modify (h % 4294967296-1) f }
def cntF (A:Nat→Option Sl):Nat→Nat→Nat
 | 0,_=>0
 | r+1,p=>if p=0 then 0 else match A p with | some s=>cntF A r s.parent+1 | none=>0
def cntI (D:Im) (p:Nat):Nat:=cntF (slA D.sl) 65 p
def posF (wh:Int) (a:Nat) (l:List Nat):Nat:=if wh=2 then l.length else if wh=3 then l.idxOf a else if wh=4 then l.idxOf a+1 else 0
def insAt (l:List Nat) (k h:Nat):List Nat:=l.take k++h :: l.drop k
def placeF (D:Im) (wh:Int) (a:Nat):Nat × Int :=
 if wh < 1∨4 < wh∨(a=0∧2 < wh) then (0,1) else
 if a=0 then (0,0) else match slA D.sl a with
  | none=>(0,8)
  | some s=>if wh≤2 then (if s.kind=2 then (0,31) else (a,0)) else (s.parent,0)
def putI (D:Im) (n p:Nat) (wh:Int) (a:Nat):Im:=setI D p (insAt (lstI D p) (posF wh a (lstI D p)) n)
def insF (D:Im) (wh:Int) (a:Nat) (x:Tr):Im × Nat × Int :=
 if (placeF D wh a).2=1 then (D,0,1) else if (lookF x 1 0).2≠0 then (D,0,(lookF x 1 0).2) else if (placeF D wh a).2≠0 then (D,0,(placeF D wh a).2) else
 if 64 < cntI D (placeF D wh a).1+dpT x then (D,0,32) else if 4096 < tk D.sl+szT x then (D,0,33) else
 (putI { D with sl:=makeF x (placeF D wh a).1 D.sl } (freshH D.sl) (placeF D wh a).1 wh a,freshH D.sl,0)
section
variable {D:Im}
theorem slA_modify {sl:List Sl}{h:Nat}{s:Sl}{f:Sl→Sl} (hs:slA sl h=some s) (hg:(f s).gen=s.gen) (hl:(f s).live=true) (x:Nat) :
  slA (sl.modify (h % 4294967296-1) f) x=if x=h then some (f s) else slA sl x:=by
 obtain⟨k,h1,h2,h3,h4⟩:=slA_iff.1 hs
 rw [h1,Nat.add_sub_cancel,modify_set _ _ _ _ h2]
 exact slA_set h1 hs hg hl x
theorem WfS.modify {sl:List Sl} (hw:WfS sl) {h:Nat}{s:Sl}{f:Sl→Sl} (hs:slA sl h=some s) (hg:(f s).gen=s.gen) (hl:(f s).live=true):WfS (sl.modify (h % 4294967296-1) f):=by
 obtain⟨k,h1,h2,h3,h4⟩:=slA_iff.1 hs
 rw [h1,Nat.add_sub_cancel,modify_set _ _ _ _ h2]
 have hm:=List.mem_of_getElem? h2
 exact hw.set (by rw [hg];exact hw.gen s hm) (by rw [hl];simp) (fun _=>by rw [hg];exact hw.live s hm h3)
theorem setI_A {p:Nat}{l:List Nat} (hp:p=0∨∃s,slA D.sl p=some s):slA (setI D p l).sl=setA (slA D.sl) p l∧(setI D p l).roots=setR D.roots p l:=by
 unfold setI setR
 by_cases h0:p=0
 ·rw [if_pos h0,if_pos h0]
  refine⟨funext fun x=>?_,rfl⟩
  unfold setA
  rw [if_neg (fun e=>e.2 h0)]
 ·rw [if_neg h0,if_neg h0]
  obtain⟨s,hs⟩:=hp.resolve_left h0
  have hlive:=(slA_iff.1 hs).choose_spec.2.2.1
  refine⟨funext fun x=>?_,rfl⟩
  rw [slA_modify (f:=fun s=>{ s with kids:=l }) hs rfl hlive]
  unfold setA
  by_cases e:x=p
  ·subst e;rw [if_pos rfl,if_pos ⟨rfl,h0⟩,hs];rfl
  ·rw [if_neg e,if_neg (fun h=>e h.1)]
theorem slA_live {sl:List Sl}{h:Nat}{s:Sl} (hs:slA sl h=some s):s.live=true:=by
 obtain⟨k,h1,h2,h3,h4⟩:=slA_iff.1 hs;exact h3
theorem setI_S {p:Nat}{l:List Nat} (hw:WfS D.sl) (hp:p=0∨∃s,slA D.sl p=some s):WfS (setI D p l).sl:=by
 unfold setI
 by_cases h0:p=0
 ·rw [if_pos h0];exact hw
 ·rw [if_neg h0]
  obtain⟨s,hs⟩:=hp.resolve_left h0
  exact hw.modify (s:=s) (f:=fun s=>{ s with kids:=l }) hs rfl (show s.live=true from slA_live hs)
theorem cnt_ch {A:Nat→Option Sl}{p c:Nat} (h:Ch A p c):∀r,c≤r→0 < r→cntF A r p=c:=by
 induction h with
 | zero=>intro r h1 h2;cases r with
  | zero=>omega
  | succ r=>rw [cntF,if_pos rfl]
 | @succ q d s h0 ha h3 ih =>
  intro r h1 h2
  cases r with
  | zero=>omega
  | succ r =>
   rw [cntF,if_neg h0,ha]
   dsimp only
   by_cases hr:r=0
   ·subst hr
    obtain rfl:d=0:=by omega
    rw [cntF]
   ·rw [ih r (by omega) (by omega)]
theorem Wf.cnt (hw:Wf D) {p:Nat} (hp:p=0∨∃s,slA D.sl p=some s):cntI D p≤64∧Ch (slA D.sl) p (cntI D p):=by
 rcases hp with rfl | ⟨s,hs⟩
 ·have:cntI D 0=0:=by unfold cntI;rw [cntF,if_pos rfl]
  rw [this];exact⟨by omega,.zero⟩
 ·obtain⟨c,h1,h2⟩:=hw.a.chain p s hs
  have:cntI D p=c:=cnt_ch h2 65 (by omega) (by omega)
  rw [this];exact⟨h1,h2⟩
theorem place_ok (hw:Wf D) {wh:Int}{a:Nat} (h:(placeF D wh a).2=0) :
  ((placeF D wh a).1=0∨∃t,slA D.sl (placeF D wh a).1=some t∧t.kind=1)∧1≤wh∧wh≤4∧(2 < wh→∃s,slA D.sl a=some s∧s.parent=(placeF D wh a).1)∧(wh≤2→(placeF D wh a).1=a)∧(a=0∨∃s,slA D.sl a=some s):=by
 unfold placeF at h ⊢
 by_cases h1:wh < 1∨4 < wh∨(a=0∧2 < wh)
 ·rw [if_pos h1] at h;cases h
 ·rw [if_neg h1] at h ⊢
  by_cases h0:a=0
  ·rw [if_pos h0] at h ⊢
   refine⟨.inl rfl,by omega,by omega,fun h2=>by omega,fun _=>h0.symm,.inl h0⟩
  ·rw [if_neg h0] at h ⊢
   cases hs:slA D.sl a with
   | none=>rw [hs] at h;cases h
   | some s =>
    rw [hs] at h
    dsimp only at h ⊢
    have ho:=(hw.a.ok a s hs).2
    by_cases h2:wh≤2
    ·rw [if_pos h2] at h ⊢
     by_cases hk:s.kind=2
     ·rw [if_pos hk] at h;cases h
     ·rw [if_neg hk] at h ⊢
      refine⟨.inr ⟨s,hs,?_⟩,by omega,by omega,fun h3=>by omega,fun _=>rfl,.inr ⟨s,rfl⟩⟩
      rcases ho with ho | ho
      ·exact ho.1
      ·exact absurd ho.1 hk
    ·rw [if_neg h2] at h ⊢
     exact⟨hw.a.par a s hs,by omega,by omega,fun _=>⟨s,rfl,rfl⟩,fun h3=>absurd h3 h2,.inr ⟨s,rfl⟩⟩
theorem mem_insAt {l:List Nat}{k h x:Nat}:x∈insAt l k h↔x=h∨x∈l:=by
 unfold insAt
 rw [List.mem_append,List.mem_cons]
 constructor
 ·rintro (h1 | h1 | h1)
  ·exact .inr (List.mem_of_mem_take h1)
  ·exact .inl h1
  ·exact .inr (List.mem_of_mem_drop h1)
 ·rintro (h1 | h1)
  ·exact .inr (.inl h1)
  ·rw [←List.take_append_drop k l,List.mem_append] at h1
   rcases h1 with h1 | h1
   ·exact .inl h1
   ·exact .inr (.inr h1)
theorem nodup_insAt {l:List Nat}{k h:Nat} (hl:l.Nodup) (hh:h∉l):(insAt l k h).Nodup:=by
 unfold insAt
 have h1:(l.take k++l.drop k).Nodup:=by rw [List.take_append_drop];exact hl
 rw [List.nodup_append] at h1 ⊢
 obtain⟨a1,a2,a3⟩:=h1
 refine⟨a1,List.nodup_cons.2 ⟨fun hm=>hh (List.mem_of_mem_drop hm),a2⟩,fun x hx y hy e=>?_⟩
 rcases List.mem_cons.1 hy with rfl | hy
 ·subst e;exact hh (List.mem_of_mem_take hx)
 ·exact a3 x hx y hy e
theorem WfA.hang {A:Nat→Option Sl}{roots:List Nat}{n p k:Nat}{s:Sl} (h:WfA A roots [n]) (hn:A n=some s) (hp:s.parent=p):WfA (setA A p (insAt (lstA A roots p) k n)) (setR roots p (insAt (lstA A roots p) k n)) []:=by
 obtain⟨l1,l2⟩:=h.lst p
 refine h.setL (hp ▸ h.par n s hn) (nodup_insAt l1 fun hm=>(l2 n hm).1 (by simp)) (fun x hx=>⟨by simp,?_⟩) (fun x t hx hxp _=>?_) (fun x t hx hxp=>?_) (fun x hx=>by simp at hx)
 ·rcases mem_insAt.1 hx with rfl | hx
  ·exact⟨s,hn,hp⟩
  ·exact (l2 x hx).2
 ·rw [mem_insAt]
  by_cases e:x=n
  ·exact .inl e
  ·have:=h.mem x t hx (by simpa using e)
   rw [hxp] at this;exact .inr this
 ·simp only [List.mem_singleton,List.not_mem_nil,false_iff]
  rintro rfl
  rw [hn] at hx;cases hx;exact hxp hp
end
mutual
theorem look_ok:∀(x:Tr) (deep n:Nat),(lookF x deep n).2=0→okT x∧(lookF x deep n).1=n+szT x∧deep+dpT x≤65∧n+szT x≤4096
 | .mk kind nm attrs text kids,deep,n=>by
  intro h
  unfold lookF at h ⊢
  unfold okT szT dpT
  by_cases h1:64 < deep∨4096≤n
  ·rw [if_pos h1] at h;cases h
  ·rw [if_neg h1] at h ⊢
   by_cases h2:ownF kind nm attrs text≠0
   ·rw [if_pos h2] at h;exact absurd h h2
   ·rw [if_neg h2] at h ⊢
    have h2':ownF kind nm attrs text=0:=by simpa using h2
    have hk:kind=1∨kind=2:=by
     unfold ownF at h2'
     by_cases k1:kind=1
     ·exact .inl k1
     ·rw [if_neg k1] at h2'
      by_cases k2:kind=2
      ·exact .inr k2
      ·rw [if_neg k2] at h2';exact absurd h2' (by decide)
    by_cases h3:kind=2
    ·simp only [if_pos h3] at h ⊢
     refine⟨⟨h2',hk,fun h4=>?_⟩,trivial,by omega,by omega⟩
     rw [h3] at h4;exact absurd h4 (by decide)
    ·simp only [if_neg h3] at h ⊢
     obtain⟨a1,a2,a3,a4⟩:=looks_ok kids (deep+1) (n+1) h
     refine⟨⟨h2',hk,fun _=>a1⟩,by rw [a2];omega,?_,?_⟩
     ·rcases a3 with a3 | rfl
      ·omega
      ·unfold dpL;omega
     ·rcases a4 with a4 | rfl
      ·omega
      ·unfold szL;omega
theorem looks_ok:∀(l:List Tr) (deep n:Nat),(looksF l deep n).2=0→okL l∧(looksF l deep n).1=n+szL l∧(deep+dpL l≤65∨l=[])∧(n+szL l≤4096∨l=[])
 | [],deep,n=>by intro _;unfold okL looksF szL;exact⟨trivial,rfl,.inr rfl,.inr rfl⟩
 | x :: l,deep,n=>by
  intro h
  unfold looksF at h ⊢
  unfold okL szL dpL
  by_cases h1:(lookF x deep n).2≠0
  ·rw [if_pos h1] at h;exact absurd h h1
  ·rw [if_neg h1] at h ⊢
   obtain⟨a1,a2,a3,a4⟩:=look_ok x deep n (by simpa using h1)
   rw [a2] at h ⊢
   obtain⟨b1,b2,b3,b4⟩:=looks_ok l deep (n+szT x) h
   refine⟨⟨a1,b1⟩,by rw [b2];omega,.inl ?_,.inl ?_⟩
   ·rcases b3 with b3 | rfl
    ·omega
    ·unfold dpL;omega
   ·rcases b4 with b4 | rfl
    ·omega
    ·unfold szL;omega
end
section
variable {D:Im}{A B:Nat→Option Sl}
theorem put_wf {n p:Nat}{wh:Int}{a:Nat}{s:Sl} (hw:WfS D.sl) (hA:WfA (slA D.sl) D.roots [n]) (hn:slA D.sl n=some s) (hp:s.parent=p):Wf (putI D n p wh a):=by
 have hpe:p=0∨∃s,slA D.sl p=some s:=by rw [←hp];exact (hA.par n s hn).imp id fun⟨t,h,_⟩=>⟨t,h⟩
 unfold putI
 obtain⟨e1,e2⟩:=setI_A (l:=insAt (lstI D p) (posF wh a (lstI D p)) n) hpe
 refine⟨setI_S hw hpe,?_⟩
 rw [e1,e2]
 exact hA.hang hn hp
theorem ins_wf (hw:Wf D) (wh:Int) (a:Nat) (x:Tr):Wf (insF D wh a x).1:=by
 unfold insF
 by_cases h1:(placeF D wh a).2=1
 ·rw [if_pos h1];exact hw
 rw [if_neg h1]
 by_cases h2:(lookF x 1 0).2≠0
 ·rw [if_pos h2];exact hw
 rw [if_neg h2]
 by_cases h3:(placeF D wh a).2≠0
 ·rw [if_pos h3];exact hw
 rw [if_neg h3]
 by_cases h4:64 < cntI D (placeF D wh a).1+dpT x
 ·rw [if_pos h4];exact hw
 rw [if_neg h4]
 by_cases h5:4096 < tk D.sl+szT x
 ·rw [if_pos h5];exact hw
 rw [if_neg h5]
 obtain⟨p1,p2,p3,p4,p5,p6⟩:=place_ok hw (by simpa using h3)
 obtain⟨k1,k2,k3,k4⟩:=look_ok x 1 0 (by simpa using h2)
 obtain⟨c1,c2⟩:=hw.cnt (p1.imp id fun⟨t,h,_⟩=>⟨t,h⟩)
 have M:=make_wf x k1 hw.s hw.a p1 c2 (by omega) (by omega)
 obtain⟨s,s1,s2⟩:=M.top
 exact put_wf (D:={ D with sl:=makeF x (placeF D wh a).1 D.sl }) M.wfs M.wf s1 s2
theorem wi_par {roots loose:List Nat} (hA:WfA A roots loose) {n:Nat}{s:Sl} (hn:A n=some s):¬Wi A n s.parent:=fun h=>by
 obtain⟨d,hd⟩:=h.de
 exact hA.de_ne ⟨s,hn⟩ n d (.up hn hd) rfl
theorem nil_wf:Wf ⟨[],[]⟩:=by
 have h:∀x,slA [] x=none:=fun x=>by
  cases h:slA [] x with
  | none=>rfl
  | some s=>obtain⟨k,h1,h2,_⟩:=slA_iff.1 h;simp at h2
 refine⟨⟨by simp,by simp,by simp,by simp⟩,⟨h 0,?_,?_,?_,?_,by simp,?_,by simp⟩⟩ <;> intro x s hx <;> dsimp only at hx <;> rw [h] at hx <;> cases hx
end
structure E5 where
 kind:Int
 nm:ByteArray
 ats:Sv
 text:ByteArray
 kids:Sv
def E5.cells (e:E5):List Value:=[.int .i64 e.kind,.string e.nm,.slice e.ats.1 e.ats.2.1 e.ats.2.2,.string e.text,.slice e.kids.1 e.kids.2.1 e.kids.2.2]
def LE5:Lay E5:=⟨5,E5.cells,fun _=>rfl,fun _=>by simp [E5.cells,Value.oneCell'],by decide⟩
mutual
def RTr (w:World):Tr→E5→Prop
 | .mk kind nm attrs text ks,e=>e.kind=kind∧e.nm=nm∧e.text=text∧RR LAt w attrs e.ats∧ks.length≤1048576∧∃es,e.kids.2.1=es.length∧Rd LE5 w e.kids.1 e.kids.2.2 es∧RTl w ks es
def RTl (w:World):List Tr→List E5→Prop
 | [],es=>es=[]
 | t :: ts,es=>∃e es',es=e :: es'∧RTr w t e∧RTl w ts es'
end
mutual
theorem RTr.sub {w w1:World} (h:Sub w w1):∀(t:Tr) (e:E5),RTr w t e→RTr w1 t e
 | .mk kind nm attrs text ks,e,hp=>by
  simp only [RTr] at hp ⊢
  obtain⟨h1,h2,h3,h4,h0,es,h5,h6,h7⟩:=hp
  exact⟨h1,h2,h3,h4.sub h,h0,es,h5,h.rd h6,RTl.sub h ks es h7⟩
theorem RTl.sub {w w1:World} (h:Sub w w1):∀(ts:List Tr) (es:List E5),RTl w ts es→RTl w1 ts es
 | [],es,hp=>by simp only [RTl] at hp ⊢;exact hp
 | t :: ts,es,hp=>by
  simp only [RTl] at hp ⊢
  obtain⟨e,es',h1,h2,h3⟩:=hp
  exact⟨e,es',h1,RTr.sub h t e h2,RTl.sub h ts es' h3⟩
end
theorem RTr.keep {w w1:World}{t:Tr}{e:E5} (h:RTr w t e) (hb:Below w.heap.size w w1):RTr w1 t e:=RTr.sub (sub_below hb) t e h
theorem RTl.len {w:World}:∀{ts:List Tr}{es:List E5},RTl w ts es→es.length=ts.length
 | [],es,hp=>by simp only [RTl] at hp;subst hp;rfl
 | t :: ts,es,hp=>by
  simp only [RTl] at hp
  obtain⟨e,es',rfl,_,h3⟩:=hp
  simp [h3.len]
theorem RTl.get {w:World}:∀{ts:List Tr}{es:List E5},RTl w ts es→∀(i:Nat) (h:i < ts.length) (h':i < es.length),RTr w ts[i] es[i]
 | [],es,_,i,h,_=>by simp at h
 | t :: ts,es,hp,i,h,h'=>by
  simp only [RTl] at hp
  obtain⟨e,es',rfl,h2,h3⟩:=hp
  cases i with
  | zero=>exact h2
  | succ i=>exact RTl.get h3 i (by simpa using h) (by simpa using h')
section
variable {w:World}{A:Option Addr}{c:Nat}
theorem Rd.e5 {xs:List E5} (h:Rd LE5 w A c xs) {n:Nat} (hn:n=xs.length) {i:Int}{k:Nat} (hi:i=k) (hk:k < xs.length) {K:Addr→Prop}
  (hK:∀b o,w.cell? ⟨b,o,none⟩=some (.int .i64 xs[k].kind)→w.cell? ⟨b,o+1,none⟩=some (.string xs[k].nm)→w.cell? ⟨b,o+2,none⟩=some (.slice xs[k].ats.1 xs[k].ats.2.1 xs[k].ats.2.2)→w.cell? ⟨b,o+3,none⟩=some (.string xs[k].text) →
   w.cell? ⟨b,o+4,none⟩=some (.slice xs[k].kids.1 xs[k].kids.2.1 xs[k].kids.2.2)→K ⟨b,o,none⟩):IdxA A n i 5 K:=by
 subst hi
 refine h.idx hn (by omega) (by omega) rfl fun b o hc=>?_
 simp only [Int.toNat_natCast] at hc
 exact hK b o (hc 0 _ rfl) (hc 1 _ rfl) (hc 2 _ rfl) (hc 3 _ rfl) (hc 4 _ rfl)
end
set_option maxRecDepth 100000
section
variable {P:Program}{w:World}
theorem setRow_fm {g:Nat}{cur c':Array Value}{t:TypeId} (hg:Blk w g cur t):Blk (w.setRow g c') g c' t∧Fm (·=g) w (w.setRow g c'):=by
 refine⟨setRow_heap w g cur c' t _ hg,⟨rfl,rfl,rfl,by simp [World.setRow],fun b hb hm=>?_⟩⟩
 have hm:¬g=b:=fun e=>hm e.symm
 simp [World.setRow,Array.getElem?_modify,hm]
theorem sizeT_info {e:TypeId}{sz:Nat} (h:sizeT P e=some sz):∃i,P.info? e=some i∧i.size=sz:=by
 unfold sizeT at h
 split at h
 ·rename_i i hi;exact⟨i,hi,by simpa using h⟩
 ·cases h
theorem copy_blk {g:Nat}{l:List Value}{t dT sT ty elem:TypeId}{sz:Nat} (hg:Blk w g l.toArray t) (hu:P.underlying dT=some (.slice elem)) (hsz:sizeT P elem=some sz) {o dLen dCap:Nat}{a:Addr}{sLen sCap:Nat}{cs:List Value}
  (hn:cs.length=Nat.min sLen dLen*sz) (hsrc:∀j v,cs[j]?=some v→w.cell? (a.add j)=some v) (hfit:o+cs.length≤l.length) (h1:∀v∈cs,v.oneCell'=true) {K:Value→World→Prop}
  (hK:∀w',Blk w' g (l.take o++cs++l.drop (o+cs.length)).toArray t→Fm (·=g) w w'→K (goInt (Nat.min sLen dLen)) w') :
  Raw P (Builtin.copy_ #[dT,sT] ty #[.slice (some ⟨g,o,none⟩) dLen dCap,.slice (some a) sLen sCap]) w K:=by
 obtain⟨i,hi,hiz⟩:=sizeT_info hsz
 have hl:=run_loadCells_list (P:=P) w a cs hsrc
 have hst:=run_storeCells_at P g o t cs 0 l.toArray w hg (by simpa using hfit) h1
 obtain⟨q1,q2⟩:=setRow_fm (w:=w) (c':=(l.take o++cs++l.drop (o+cs.length)).toArray) hg
 refine⟨_,_,?_,hK _ q1 q2⟩
 subst hiz
 simp [Builtin.copy_,run_underlying hu,Builtin.lenOf,Builtin.firstCells,sizeOf,typeInfo,hi,←hn,hl,hst]
theorem apz {t u ty e:TypeId}{i:TypeInfo}{z:Value}{k:IntKind} (ht:P.underlying t=some (.slice e)) (hu:P.underlying u=some (.int k)) (hi:P.info? e=some i) (hz:i.zero=some z)
  {b:Addr}{sLen sCap:Nat}{olds:List Value} (hlo:olds.length=sLen*i.size) (holds:∀j v,olds[j]?=some v→w.cell? (b.add j)=some v) {n:Nat} (h0:0 < n)
  (hg:sCap < sLen+n) (h63:((sLen+n:Nat):Int)≤9223372036854775807) (hfit:Builtin.nextslicecap (sLen+n) sCap*i.bytes≤281474976710656) (hb:n*i.bytes≤281474976710656) {K:Value→World→Prop}
  (hK:K (.slice (some ⟨w.heap.size,0,none⟩) (sLen+n) (grownCap w (sLen+n) sCap e)) (w.drew.alloc (.cells (olds.toArray++(if n*i.size=0 then #[] else Builtin.zeroCells z.cells n)++Builtin.zeroCells z.cells (grownCap w (sLen+n) sCap e-(sLen+n))) e))) :
  Raw P (Builtin.append_ #[t,u] ty #[.slice (some b) sLen sCap,.int .i64 (n:Nat)]) w K:=by
 have hn:¬(sLen+n≤sCap):=by omega
 have h63':¬(9223372036854775807 < ((sLen:Int)+(n:Int))):=by omega
 have h48':¬(281474976710656 < Builtin.nextslicecap (sLen+n) sCap*i.bytes):=by omega
 have hfo:=run_firstCells_some (P:=P) w.drew i.size sLen b sLen sCap olds hlo (by simpa using holds)
 refine⟨_,_,?_,hK⟩
 have hw:IntKind.i64.wrap (n:Int)=n:=by
  simp [IntKind.wrap,IntKind.signed,IntKind.bits];omega
 have hneg:¬((n:Int) < 0):=by omega
 have hb':¬((281474976710656:Int) < (n:Int)*(i.bytes:Nat)):=by
  have:(n:Int)*(i.bytes:Nat)=((n*i.bytes:Nat):Int):=by simp
  rw [this];omega
 by_cases hz0:n*i.size=0
 ·rw [if_pos hz0]
  simp [Builtin.append_,run_underlying ht,run_underlying hu,sizeOf,typeInfo,zeroValue,asInt,asIntOf,hi,hz,hw,hneg,hb',hn,h63',h48',Question.forced,hfo,newRow,grownCap,hz0]
 ·rw [if_neg hz0]
  simp [Builtin.append_,run_underlying ht,run_underlying hu,sizeOf,typeInfo,zeroValue,asInt,asIntOf,hi,hz,hw,hneg,hb',hn,h63',h48',Question.forced,hfo,newRow,grownCap,hz0]
end
set_option maxRecDepth 100000
def nodeC (i:Nat) (s:Sl) (a:Sv) (par:Option Addr) (kv:Sv):Array Value:=#[.int .u32 (i+1:Nat),.int .u32 (s.gen:Nat),.bool s.live,.int .i64 s.kind,.string s.nm,.slice a.1 a.2.1 a.2.2,.string s.text,.pointer par,.slice kv.1 kv.2.1 kv.2.2]
def LPt:Lay Nat:=⟨1,fun b=>[.pointer (some ⟨b,0,none⟩)],fun _=>rfl,fun _=>by simp [Value.oneCell'],by decide⟩
theorem Rd.pt {w:World}{A:Option Addr}{c:Nat}{xs:List Nat} (h:Rd LPt w A c xs) {n:Nat} (hn:n=xs.length) {i:Int}{k:Nat} (hi:i=k) (hk:k < xs.length) {K:Addr→Prop}
  (hK:∀b o,w.cell? ⟨b,o,none⟩=some (.pointer (some ⟨xs[k],0,none⟩))→K ⟨b,o,none⟩):IdxA A n i 1 K:=by
 subst hi
 refine h.idx hn (by omega) (by omega) rfl fun b o hc=>?_
 simp only [Int.toNat_natCast] at hc
 exact hK b o (hc 0 _ rfl)
set_option maxRecDepth 100000
section
variable {α:Type}{L:Lay α}{w w1:World}{e:TypeId}{k:Nat}
def slV (v:Sv):Value:=.slice v.1 v.2.1 v.2.2
theorem insAtT {l:List α}{i:Nat}{x:α} (hi:i=l.length):l.take i++x :: l.drop i=l++[x]:=by subst hi;simp
theorem Own.row1 {v:Sv}{xs:List α} (h:Own L w k e (slV v) xs) (h0:0 < xs.length):∃g c rest,v=(some ⟨g,0,none⟩,xs.length,c)∧rowOf (slV v)=some g∧k≤g∧Blk w g (L.all xs++rest).toArray e∧xs.length≤c∧c≤maxLen∧(L.all xs++rest).length=c*L.n:=by
 rcases h with ⟨_,rfl⟩ | ⟨_,rfl⟩ | ⟨g,c,cur,hv,hb,hh,hn,hm,hs,ht⟩
 ·simp at h0
 ·simp at h0
 ·obtain⟨v1,v2,v3⟩:=v
  unfold slV at hv
  simp only [Value.slice.injEq] at hv
  obtain⟨rfl,rfl,rfl⟩:=hv
  refine⟨g,c+1,cur.toList.drop (xs.length*L.n),rfl,rfl,hb,?_,hn,hm,?_⟩
  ·rw [←ht,List.take_append_drop];exact hh
  ·rw [←ht,List.take_append_drop,Array.length_toList,hs]
theorem Own.ofBlk {g c:Nat}{xs:List α}{rest:List Value} (hB:Blk w g (L.all xs++rest).toArray e) (hk:k≤g) (hn:xs.length≤c) (h0:0 < c) (hm:c≤maxLen) (hs:(L.all xs++rest).length=c*L.n):Own L w k e (.slice (some ⟨g,0,none⟩) xs.length c) xs:=by
 obtain⟨c',rfl⟩:∃c',c=c'+1:=⟨c-1,by omega⟩
 exact .inr (.inr ⟨g,c',_,rfl,hk,hB,hn,hm,by simpa using hs,by simp [←L.all_length]⟩)
theorem cellL {g:Nat}{l:List Value}{t:TypeId} (h:Blk w g l.toArray t) (i:Nat):w.cell? ⟨g,i,none⟩=l[i]?:=by rw [h.cell];simp
theorem cell_add {g o:Nat}{l cs:List Value}{t:TypeId} (h:Blk w g l.toArray t) (hc:∀j v,cs[j]?=some v→l[o+j]?=some v):∀j v,cs[j]?=some v→w.cell? ((⟨g,o,none⟩:Addr).add j)=some v:=fun j v hj=>by
 rw [Addr.add_mk,cellL h];exact hc j v hj
end
theorem insP_calls {w:World}{v:Sv}{xs:List Nat}{x:Nat}{i gx:Nat}{cx:Array Value} (hO:Own LPt w 0 115 (slV v) xs) (hi:i≤xs.length) (hx:Blk w gx cx 115) (hcx:cx.toList=LPt.cells x) (hgx:rowOf (slV v)≠some gx) (hl:xs.length+1≤1048576) {R:Ending→World→Prop}
  (h:∀v' w',Own LPt w' 0 115 (slV v') (xs.take i++x :: xs.drop i)→Fm (fun b=>rowOf (slV v)=some b) w w'→(rowOf (slV v')=rowOf (slV v)∨rowOf (slV v')=none∨∃g,rowOf (slV v')=some g∧w.heap.size≤g)→R (.returned (slV v')) w') :
  Calls Tryz.prog 122 #[slV v,.int .i64 (i:Nat),.slice (some ⟨gx,0,none⟩) 1 1] w R:=by
 have hz:zeroT Tryz.prog 115=some (.pointer none):=by kernel_rfl
 have hsz:sizeT Tryz.prog 115=some 1:=by kernel_rfl
 have hst:Tryz.prog.underlying 73=some (.slice 115):=by kernel_rfl
 have hxl:cx.toList.length=1:=by rw [hcx];exact LPt.len x
 obtain⟨A,c,hv0,hrd⟩:=hO.form
 have hv:v=(A,xs.length,c):=by obtain⟨v1,v2,v3⟩:=v;unfold slV at hv0;simp only [Value.slice.injEq] at hv0;obtain⟨rfl,rfl,rfl⟩:=hv0;rfl
 have hle:=hrd.1
 have hmx:=hrd.2.1
 unfold maxLen at hmx
 refine ok122 v.1 v.2.1 v.2.2 (i:Nat) (some ⟨gx,0,none⟩) 1 1 ?_
 unfold F122
 subst hv
 dsimp only
 refine⟨by omega,by omega,by omega,?_⟩
 refine bre (fun h0=>absurd h0 (by decide)) (fun _=>?_)
 refine bre (fun hin=>?_) (fun hin=>?_)
 ·have hin:i=xs.length:=by omega
  refine ap (L:=LPt) (xs:=xs) (ys:=[x]) (base:=0) (.pointer none) 8 rfl hst (by kernel_rfl) (by kernel_rfl) hO ?_ (Nat.zero_le _) (by simp;omega) (by simp [maxLen];omega) fun A' c' w1 o1 g1=>⟨A',_,c',rfl,?_⟩
  ·refine⟨by simp,by simp [maxLen],fun h0=>(by cases h0),fun _=>⟨gx,0,rfl,fun j u hj=>?_⟩⟩
   rw [LPt.all_one,←hcx] at hj
   rw [hx.cell];simpa using hj
  ·refine h (A',_,c') w1 ?_ (Fm.grown g1.grown fun b hb=>hb) g1.row
   rw [insAtT hin];exact o1
 ·have hin:i < xs.length:=by omega
  obtain⟨g,c9,rest,hvv,hrow,_,hB,hc1,hc2,hc3⟩:=hO.row1 (by omega)
  simp only [Prod.mk.injEq] at hvv
  obtain⟨rfl,-,rfl⟩:=hvv
  have hgg:g≠gx:=fun e=>hgx (by rw [hrow,e])
  have hgl:=hB.lt
  have hgxl:=hx.lt
  have hx':Blk w gx cx.toList.toArray 115:=by simpa using hx
  have hall:=LPt.all_length xs
  have hLn:LPt.n=1:=rfl
  rw [hLn] at hall hc3
  refine⟨inR_i64 (by omega) (by omega),brd (fun hgr=>?_) (fun hgr=>?_)⟩
  ·-- a new row
   refine⟨by omega,by omega,by omega,inR_i64 (by omega) (by omega),inR_i64 (by omega) (by omega),?_⟩
   have e1:((xs.length:Nat):Int)+((1:Nat):Int)-(i:Nat)=((xs.length+1-i:Nat):Int):=by omega
   rw [e1,Int.toNat_natCast]
   obtain⟨inf,hinf,hiz⟩:=sizeT_info hsz
   have hib:inf.zero=some (.pointer none)∧inf.bytes=8:=by
    have h1:(Tryz.prog.info? 115).map (fun i=>(i.zero,i.bytes))=some (some (.pointer none),8):=by kernel_rfl
    rw [hinf] at h1
    simp only [Option.map_some,Option.some.injEq,Prod.mk.injEq] at h1
    exact h1
   have e2:i+(xs.length+1-i)=xs.length+1:=by omega
   refine apz (u:=3) (k:=.i64) (olds:=LPt.all (xs.take i)) hst (by kernel_rfl) hinf hib.1 (by rw [LPt.all_length,List.length_take,Nat.min_eq_left hi,hiz];rfl) (cell_add (o:=0) hB fun j u hj=>?_) (by omega) (by omega) (by omega) ?_ (by rw [hib.2];omega) ?_
   ·rw [Nat.zero_add,LPt.all_take] at *
    have hjl:=(List.getElem?_eq_some_iff.1 hj).1
    rw [List.length_take] at hjl
    rw [List.getElem?_append_left (by omega),←hj,List.getElem?_take_of_lt (by omega)]
   ·rw [e2,hib.2]
    refine Nat.le_trans (growslice_fits (by omega) (show (xs.length+1)*8≤140737488355328 by omega)) (Nat.le_refl _)
   rw [e2,hiz]
   rw [if_neg (by omega)]
   have hge:=grownCap_ge w (xs.length+1) c 115
   have hcm:grownCap w (xs.length+1) c 115≤maxLen:=grownCap_le_maxLen w _ c 115 (by simp [maxLen];omega)
   generalize grownCap w (xs.length+1) c 115=q at hge hcm ⊢
   refine⟨_,_,_,rfl,by omega,by omega,by omega,?_⟩
   simp only [Int.toNat_natCast]
   have hSl:∀j:Nat,j < q→SlA (some ⟨w.heap.size,0,none⟩) q j 1=some ⟨w.heap.size,j*1,none⟩:=fun j hj=>by
    unfold SlA;rw [if_neg (by omega)];simp [Addr.add_mk]
   rw [hSl i (by omega)]
   have hb1:Below w.heap.size w (w.drew.alloc (.cells ((LPt.all (xs.take i)).toArray++Builtin.zeroCells ((.pointer none):Value).cells (xs.length+1-i)++Builtin.zeroCells ((.pointer none):Value).cells (q-(xs.length+1))) 115)):=((Below.refl _ _).drew).alloc (Nat.le_refl _) _
   have hB1:=Blk.alloc_new w.drew ((LPt.all (xs.take i)).toArray++Builtin.zeroCells ((.pointer none):Value).cells (xs.length+1-i)++Builtin.zeroCells ((.pointer none):Value).cells (q-(xs.length+1))) 115
   have hzc:∀n,(Builtin.zeroCells ((.pointer none):Value).cells n).toList.length=n*1:=fun n=>by
    have:((.pointer none):Value).cells.size=1:=by kernel_rfl
    simp [Builtin.zeroCells,this]
   generalize hl0:(LPt.all (xs.take i)).toArray++Builtin.zeroCells ((.pointer none):Value).cells (xs.length+1-i)++Builtin.zeroCells ((.pointer none):Value).cells (q-(xs.length+1))=l0 at hb1 hB1 ⊢
   have hl0':l0.toList=LPt.all (xs.take i)++((Builtin.zeroCells ((.pointer none):Value).cells (xs.length+1-i)).toList++(Builtin.zeroCells ((.pointer none):Value).cells (q-(xs.length+1))).toList):=by rw [←hl0];simp
   have hti:(LPt.all (xs.take i)).length=i*1:=by rw [LPt.all_length,List.length_take,Nat.min_eq_left hi];rfl
   have hl0l:l0.toList.length=q*1:=by
    rw [hl0',List.length_append,List.length_append,hzc,hzc,hti];omega
   generalize w.drew.alloc (.cells l0 115)=w1 at hb1 hB1 ⊢
   have hB1':Blk w1 w.heap.size l0.toList.toArray 115:=by simpa using hB1
   have hx1:=hx'.keep hb1
   have hg1:=hB.keep hb1
   refine copy_blk (o:=i*1) hB1' hst hsz (cs:=cx.toList) ?_ (cell_add (o:=0) hx1 fun j u hj=>by rw [Nat.zero_add];exact hj) (by rw [hxl,hl0l];omega) ?_ fun w2 hB2 f2=>⟨_,rfl,?_⟩
   ·rw [hxl,show Nat.min 1 (xs.length+1-i)=1 from (by simp only [Nat.min_def];split <;> omega)]
   ·rw [hcx];exact LPt.one x
   have hd2:Below w2.heap.size w2 w2.drew:=(Below.refl _ _).drew
   refine⟨fun w'=>Below w2.heap.size w2 w',hd2,inR_i64 (by omega) (by omega),by omega,by omega,by omega,by omega,by omega,by omega,?_⟩
   have e3:(((i:Nat):Int)+((1:Nat):Int)).toNat=i+1:=by omega
   simp only [e3,Int.toNat_natCast]
   have hrow2:w.heap.size≠g:=by omega
   have hg2:Blk w2.drew g (LPt.all xs++rest).toArray 115:=(f2.blk hg1 (fun e=>hrow2 e.symm))
   have hS3:SlA (some ⟨g,0,none⟩) c i 1=some ⟨g,i*1,none⟩:=by unfold SlA;rw [if_neg (by omega)];simp [Addr.add_mk]
   rw [hS3]
   have hfin:∀l3 rest3 w3,Blk w3 w.heap.size l3 115→l3.toList=LPt.all (xs.take i++x :: xs.drop i)++rest3→l3.toList.length=q*1→Fm (·=w.heap.size) w2.drew w3→R (.returned (.slice (some ⟨w.heap.size,0,none⟩) (xs.length+1) q)) w3:=by
    intro l3 rest3 w3 hB3 he3 hl3 f3
    have hln:(xs.take i++x :: xs.drop i).length=xs.length+1:=by simp;omega
    have hB3':Blk w3 w.heap.size (LPt.all (xs.take i++x :: xs.drop i)++rest3).toArray 115:=by rw [←he3];simpa using hB3
    have hO3:=Own.ofBlk (k:=0) (c:=q) hB3' (Nat.zero_le _) (by rw [hln];exact hge) (by omega) hcm (by rw [←he3];exact hl3)
    rw [hln] at hO3
    refine h (some ⟨w.heap.size,0,none⟩,xs.length+1,q) w3 hO3 ?_ (.inr (.inr ⟨w.heap.size,?_,Nat.le_refl _⟩))
    ·have F1:Fm (fun b=>rowOf (slV (some ⟨g,0,none⟩,xs.length,c))=some b) w w1:=.below hb1
     exact ((F1.trans' f2 fun b hb e=>by have e:b=w.heap.size:=e;omega).tr hd2).trans' f3 fun b hb e=>by have e:b=w.heap.size:=e;omega
    ·obtain⟨q',rfl⟩:∃q',q=q'+1:=⟨q-1,by omega⟩
     rfl
   have hl2l:(l0.toList.take (i*1)++cx.toList++l0.toList.drop (i*1+cx.toList.length)).length=q*1:=by
    simp only [List.length_append,List.length_take,List.length_drop,hl0l,hxl];omega
   have hl2p:l0.toList.take (i*1)++cx.toList=LPt.all (xs.take i++[x]):=by
    rw [LPt.all_append,LPt.all_one,←hcx,hl0',←hti,List.take_left]
   have hl2q:(l0.toList.take (i*1)++cx.toList++l0.toList.drop (i*1+cx.toList.length)).take ((i+1)*1)=LPt.all (xs.take i++[x]):=by
    rw [hl2p,List.take_left' (by rw [LPt.all_length];simp [hLn];omega)]
   generalize l0.toList.take (i*1)++cx.toList++l0.toList.drop (i*1+cx.toList.length)=l2 at hl2l hl2q hB2
   have hdl:(LPt.all (xs.drop i)).length=(xs.length-i)*1:=by rw [LPt.all_length,List.length_drop];rfl
   have hS4:SlA (some ⟨w.heap.size,0,none⟩) q (i+1) 1=some ⟨w.heap.size,(i+1)*1,none⟩∨(xs.length-i=0):=by
    rcases Nat.lt_or_ge (i+1) q with h4 | h4
    ·exact .inl (hSl _ h4)
    ·omega
   rcases hS4 with hS4 | hS4
   ·rw [hS4]
    have hB2':Blk w2.drew w.heap.size l2.toArray 115:=hB2
    refine copy_blk (o:=(i+1)*1) hB2' hst hsz (cs:=LPt.all (xs.drop i)) ?_ (cell_add (o:=i*1) hg2 fun j u hj=>?_) (by rw [hdl,hl2l];omega) (LPt.all_ones _) fun w3 hB3 f3=>⟨_,rfl,?_⟩
    ·rw [hdl,show Nat.min (xs.length-i) (xs.length+1-(i+1))=xs.length-i from (by simp only [Nat.min_def];split <;> omega)]
    ·have hjl:=(List.getElem?_eq_some_iff.1 hj).1
     rw [hdl] at hjl
     rw [List.getElem?_append_left (by omega)]
     rw [LPt.all_drop _ _ hi,List.getElem?_drop] at hj
     exact hj
    ·refine hfin _ (l2.drop ((i+1)*1+(LPt.all (xs.drop i)).length)) w3 hB3 ?_ ?_ f3
     ·rw [List.toList_toArray,hl2q]
      have:xs.take i++x :: xs.drop i=(xs.take i++[x])++xs.drop i:=by simp
      rw [this,LPt.all_append (xs.take i++[x]) (xs.drop i)]
     ·rw [List.toList_toArray,List.length_append,List.length_append,List.length_take,List.length_drop,hdl,hl2l];omega
   ·omega
  ·-- in place
   refine⟨inR_i64 (by omega) (by omega),by omega,by omega,by omega,inR_i64 (by omega) (by omega),by omega,by omega,by omega,?_⟩
   have e3:(((i:Nat):Int)+((1:Nat):Int)).toNat=i+1:=by omega
   have e4:(((xs.length:Nat):Int)+((1:Nat):Int)).toNat=xs.length+1:=by omega
   simp only [e3,e4,Int.toNat_natCast]
   have hS:∀j:Nat,j < c→SlA (some ⟨g,0,none⟩) c j 1=some ⟨g,j*1,none⟩:=fun j hj=>by
    unfold SlA;rw [if_neg (by omega)];simp [Addr.add_mk]
   rw [hS (i+1) (by omega),hS i (by omega)]
   have hov:∀la ca lb cb,(callFunc 145 #[.slice (some ⟨gx,0,none⟩) la ca,.slice (some ⟨g,(i+1)*1,none⟩) lb cb]).run Tryz.prog w=.ok (.value (.bool false)) w:=fun la ca lb cb=>by
    rw [run_callFunc_extern Tryz.func145 (by kernel_rfl) (by kernel_rfl) (by kernel_rfl) (e:=Extern.SlicesOverlaps.overlaps #[73,73] #[4]) (by kernel_rfl),
     Lib.run_overlaps_apart w 73 4 115 hst 1 (run_size hsz) ⟨gx,0,none⟩ ⟨g,(i+1)*1,none⟩ la ca lb cb (Ne.symm hgg) 115 115 cx.size (LPt.all xs++rest).length (by unfold Blk at hx;simp [World.shape?,hx]) (by unfold Blk at hB;simp [World.shape?,hB]) (by rw [hc3];omega) (hx.frozen 0) (hx.frozen _)]
    rfl
   refine⟨.bool false,w,hov _ _ _ _,false,rfl,?_⟩
   rw [Bool.not_false,Br_t]
   have hd2:Below w.heap.size w w.drew:=(Below.refl _ _).drew
   refine⟨fun w'=>True,trivial,inR_i64 (by omega) (by omega),by omega,by omega,by omega,by omega,by omega,by omega,?_⟩
   have hdl:(LPt.all (xs.drop i)).length=(xs.length-i)*1:=by rw [LPt.all_length,List.length_drop];rfl
   have hB1:Blk w.drew g (LPt.all xs++rest).toArray 115:=hB
   refine copy_blk (o:=(i+1)*1) hB1 hst hsz (cs:=LPt.all (xs.drop i)) ?_ (cell_add (o:=i*1) hB1 fun j u hj=>?_) (by rw [hdl,hc3];omega) (LPt.all_ones _) fun w2 hB2 f2=>⟨_,rfl,?_⟩
   ·rw [hdl,show Nat.min (xs.length+1-i) (xs.length+1-(i+1))=xs.length-i from (by simp only [Nat.min_def];split <;> omega)]
   ·have hjl:=(List.getElem?_eq_some_iff.1 hj).1
    rw [hdl] at hjl
    rw [List.getElem?_append_left (by omega)]
    rw [LPt.all_drop _ _ hi,List.getElem?_drop] at hj
    exact hj
   have hx2:Blk w2 gx cx.toList.toArray 115:=f2.blk (show Blk w.drew gx cx.toList.toArray 115 from hx') (fun e=>hgg e.symm)
   have hl2l:((LPt.all xs++rest).take ((i+1)*1)++LPt.all (xs.drop i)++(LPt.all xs++rest).drop ((i+1)*1+(LPt.all (xs.drop i)).length)).length=c*1:=by
    rw [List.length_append,List.length_append,List.length_take,List.length_drop,hdl,hc3];omega
   have hl2t:((LPt.all xs++rest).take ((i+1)*1)++LPt.all (xs.drop i)++(LPt.all xs++rest).drop ((i+1)*1+(LPt.all (xs.drop i)).length)).take (i*1)=LPt.all (xs.take i):=by
    rw [List.append_assoc,List.take_append_of_le_length (by rw [List.length_take,hc3];omega),List.take_take,Nat.min_eq_left (by omega),List.take_append_of_le_length (by omega),LPt.all_take];rfl
   have hl2d:∃r3,((LPt.all xs++rest).take ((i+1)*1)++LPt.all (xs.drop i)++(LPt.all xs++rest).drop ((i+1)*1+(LPt.all (xs.drop i)).length)).drop ((i+1)*1)=LPt.all (xs.drop i)++r3:=by
    refine⟨(LPt.all xs++rest).drop ((i+1)*1+(LPt.all (xs.drop i)).length),?_⟩
    rw [List.append_assoc,List.drop_left' (by rw [List.length_take,hc3];omega)]
   generalize (LPt.all xs++rest).take ((i+1)*1)++LPt.all (xs.drop i)++(LPt.all xs++rest).drop ((i+1)*1+(LPt.all (xs.drop i)).length)=l2 at hl2l hl2t hl2d hB2
   obtain⟨r3,hl2d⟩:=hl2d
   refine⟨by omega,by omega,by omega,?_⟩
   refine copy_blk (o:=i*1) hB2 hst hsz (cs:=cx.toList) ?_ (cell_add (o:=0) hx2 fun j u hj=>by rw [Nat.zero_add];exact hj) (by rw [hxl,hl2l];omega) ?_ fun w3 hB3 f3=>⟨_,rfl,?_⟩
   ·rw [hxl,show Nat.min 1 (xs.length+1-i)=1 from (by simp only [Nat.min_def];split <;> omega)]
   ·rw [hcx];exact LPt.one x
   have e5:i*1+cx.toList.length=(i+1)*1:=by rw [hxl];omega
   rw [hl2t,e5,hl2d,hcx] at hB3
   have hln:(xs.take i++x :: xs.drop i).length=xs.length+1:=by simp;omega
   have he3:LPt.all (xs.take i)++LPt.cells x++(LPt.all (xs.drop i)++r3)=LPt.all (xs.take i++x :: xs.drop i)++r3:=by
    have:xs.take i++x :: xs.drop i=xs.take i++([x]++xs.drop i):=by simp
    rw [this,LPt.all_append,LPt.all_append,LPt.all_one];simp
   rw [he3] at hB3
   have hl3l:(LPt.all (xs.take i++x :: xs.drop i)++r3).length=c*1:=by
    have h6:(l2.drop ((i+1)*1)).length=c*1-(i+1)*1:=by rw [List.length_drop,hl2l]
    rw [hl2d,List.length_append,hdl] at h6
    rw [List.length_append,LPt.all_length,hln,hLn]
    omega
   have hO3:=Own.ofBlk (k:=0) (c:=c) hB3 (Nat.zero_le _) (by rw [hln];omega) (by omega) hc2 hl3l
   rw [hln] at hO3
   refine h (some ⟨g,0,none⟩,xs.length+1,c) w3 hO3 ?_ (.inl ?_)
   ·have F2:Fm (fun b=>rowOf (slV (some ⟨g,0,none⟩,xs.length,c))=some b) w w2:=(Fm.below (w:=w) (w1:=w.drew) hd2).trans (f2.mono fun b _ e=>by have e:b=g:=e;rw [hrow,e])
    exact F2.trans (f3.mono fun b _ e=>by have e:b=g:=e;rw [hrow,e])
   ·obtain⟨c',rfl⟩:∃c',c=c'+1:=⟨c-1,by omega⟩
    rfl
set_option maxRecDepth 100000
def pb (bs:List Nat) (h:Nat):Nat:=bs.getD (h % 4294967296-1) 0
def ptrH (bs:List Nat) (h:Nat):Option Addr:=if h=0 then none else some ⟨pb bs h,0,none⟩
def pc (c:Nat):Prop:=c=1∨c=2∨c=3∨(8≤c∧c % 4≠3)
structure NodeR (w:World) (o:Nat→Nat) (bs:List Nat) (i b:Nat) (s:Sl) (a kv:Sv):Prop where
 blk:Blk w b (nodeC i s a (ptrH bs s.parent) kv) 117
 at1:Own LAt w 0 120 (slV a) s.attrs
 at2:∀x,rowOf (slV a)=some x→o x=10+4*i
 kd1:Own LPt w 0 115 (slV kv) (s.kids.map (pb bs))
 kd2:∀x,rowOf (slV kv)=some x→o x=9+4*i
def inN (n h:Nat):Prop:=1≤h % 4294967296∧h % 4294967296≤n
structure RngS (n:Nat) (s:Sl):Prop where
 gen:s.gen < 4294967296
 par:s.parent=0∨inN n s.parent
 kids:∀h∈s.kids,inN n h
 few:s.kids.length≤1048576
 atf:s.attrs.length≤1048576
structure Th where
 g:Nat
 t:TypeId
 tl:List Value
structure PS where
 D:Im
 bs:List Nat
 lv:Nat
 wn:Nat
 lo:Nat
def docC (nv rv:Sv) (lv wn lo:Nat) (tl:List Value):Array Value:=(slV nv :: slV rv :: .int .i64 (lv:Nat) :: .int .i64 (wn:Nat) :: .int .i64 (lo:Nat) :: tl).toArray
structure DocR (w:World) (o:Nat→Nat) (θ:Th) (S:PS) (nv rv:Sv):Prop where
 blk:Blk w θ.g (docC nv rv S.lv S.wn S.lo θ.tl) θ.t
 n1:Own LPt w 0 115 (slV nv) S.bs
 n2:∀x,rowOf (slV nv)=some x→o x=2
 r1:Own LPt w 0 115 (slV rv) (S.D.roots.map (pb S.bs))
 r2:∀x,rowOf (slV rv)=some x→o x=3
structure PM (w:World) (o:Nat→Nat) (θ:Th) (S:PS):Prop where
 col:o θ.g=1
 lt:∀b,o b≠0→b < w.heap.size
 len:S.bs.length=S.D.sl.length
 few:S.D.sl.length≤4096
 nc:∀(i b:Nat),S.bs[i]?=some b→o b=8+4*i
 doc:∃nv rv,DocR w o θ S nv rv
 nodes:∀(i b:Nat) (s:Sl),S.bs[i]?=some b→S.D.sl[i]?=some s→∃a kv,NodeR w o S.bs i b s a kv
 rng:∀s∈S.D.sl,RngS S.D.sl.length s
 rts:(∀h∈S.D.roots,inN S.D.sl.length h)∧S.D.roots.length≤1048576
 cnt:S.lv≤4096∧S.wn≤4096∧S.lo≤4096
structure EvC (C:Nat→Prop) (w:World) (o:Nat→Nat) (w1:World) (o1:Nat→Nat):Prop where
 fm:Fm (fun b=>C (o b)) w w1
 same:∀b,o b≠0→o1 b=o b
 old:∀b,b < w.heap.size→o b=0→o1 b=0
 new:∀b,o1 b≠0→o b≠0∨pc (o1 b)
abbrev EvP:=EvC pc
section
variable {w w1 w2:World}{o o1 o2:Nat→Nat}{θ:Th}{S:PS}{M:Nat→Prop}{bs:List Nat}
theorem EvC.refl {C:Nat→Prop}:EvC C w o w o:=⟨Fm.refl _ _,fun _ _=>rfl,fun _ _ h=>h,fun _ h=>.inl h⟩
theorem EvC.mono {C C':Nat→Prop} (h:EvC C w o w1 o1) (hc:∀c,C c→C' c):EvC C' w o w1 o1:=⟨h.fm.mono fun b _ k=>hc _ k,h.same,h.old,h.new⟩
theorem EvC.trans {C C':Nat→Prop} (h:EvC C w o w1 o1) (h0:¬C 0) (hlt:∀b,o b≠0→b < w.heap.size) (hc':∀b,b < w.heap.size→C' (o b)→C (o b)) (k:EvC C' w1 o1 w2 o2):EvC C w o w2 o2:=by
 refine⟨⟨k.fm.os.trans h.fm.os,k.fm.tape.trans h.fm.tape,k.fm.output.trans h.fm.output,Nat.le_trans h.fm.size k.fm.size,fun b hb hm=>?_⟩,fun b hb=>?_,fun b hb h1=>k.old b (Nat.lt_of_lt_of_le hb h.fm.size) (h.old b hb h1),fun b hb=>?_⟩
 ·rw [k.fm.block b (Nat.lt_of_lt_of_le hb h.fm.size) fun e=>?_]
  ·exact h.fm.block b hb hm
  ·by_cases h1:o b=0
   ·rw [h.old b hb h1] at e
    exact hm (hc' b hb (by rw [h1];exact e))
   ·rw [h.same b h1] at e
    exact hm (hc' b hb e)
 ·rw [k.same b (by rw [h.same b hb];exact hb),h.same b hb]
 ·rcases k.new b hb with h1 | h1
  ·rcases h.new b h1 with h2 | h2
   ·exact .inl h2
   ·rw [k.same b h1];exact .inr h2
  ·exact .inr h1
theorem EvP.trans (h:EvP w o w1 o1) (k:EvP w1 o1 w2 o2):EvP w o w2 o2:=by
 refine⟨⟨k.fm.os.trans h.fm.os,k.fm.tape.trans h.fm.tape,k.fm.output.trans h.fm.output,Nat.le_trans h.fm.size k.fm.size,fun b hb hm=>?_⟩,fun b hb=>?_,fun b hb h1=>k.old b (Nat.lt_of_lt_of_le hb h.fm.size) (h.old b hb h1),fun b hb=>?_⟩
 ·rw [k.fm.block b (Nat.lt_of_lt_of_le hb h.fm.size) fun e=>?_]
  ·exact h.fm.block b hb hm
  ·by_cases h1:o b=0
   ·rw [h.old b hb h1] at e;exact hm (by rw [h1];exact e)
   ·rw [h.same b h1] at e;exact hm e
 ·rw [k.same b (by rw [h.same b hb];exact hb),h.same b hb]
 ·rcases k.new b hb with h1 | h1
  ·rcases h.new b h1 with h2 | h2
   ·exact .inl h2
   ·rw [k.same b h1];exact .inr h2
  ·exact .inr h1
theorem EvC.below {C:Nat→Prop} (hb:Below w.heap.size w w1):EvC C w o w1 o:=⟨.below hb,fun _ _=>rfl,fun _ _ h=>h,fun _ h=>.inl h⟩
theorem not_pc0:¬pc 0:=by rintro (h3 | h3 | h3 | h3) <;> omega
def wc (o:Nat→Nat) (w:World):World:=wOnly (fun b=>Nat.beq (o b) 0) w
theorem EvP.sub (h:EvP w o w1 o1):Sub (wc o w) (wc o1 w1) :=
 sub_only (fun b hb h1=>by
  have h2:=Nat.eq_of_beq_eq_true h1
  rw [h.old b hb h2];rfl) fun b hb h1=>by
  have h2:=Nat.eq_of_beq_eq_true h1
  exact h.fm.block b hb (by rw [h2];exact not_pc0)
theorem NodeR.keep {i b:Nat}{s:Sl}{a kv:Sv} (h:NodeR w o bs i b s a kv) (hb:o b=8+4*i) (hf:Fm M w w1) (hm:∀x,(o x=8+4*i∨o x=9+4*i∨o x=10+4*i)→¬M x) (ho:∀x,(o x=9+4*i∨o x=10+4*i)→o1 x=o x):NodeR w1 o1 bs i b s a kv :=
 ⟨hf.blk h.blk (hm b (.inl hb)),own_fm h.at1 hf fun x hx=>hm x (.inr (.inr (h.at2 x hx))),fun x hx=>by rw [ho x (.inr (h.at2 x hx))];exact h.at2 x hx,
  own_fm h.kd1 hf fun x hx=>hm x (.inr (.inl (h.kd2 x hx))),fun x hx=>by rw [ho x (.inl (h.kd2 x hx))];exact h.kd2 x hx⟩
theorem DocR.keep {nv rv:Sv} (h:DocR w o θ S nv rv) (hc:o θ.g=1) (hf:Fm M w w1) (hm:∀x,(o x=1∨o x=2∨o x=3)→¬M x) (ho:∀x,(o x=2∨o x=3)→o1 x=o x):DocR w1 o1 θ S nv rv :=
 ⟨hf.blk h.blk (hm _ (.inl hc)),own_fm h.n1 hf fun x hx=>hm x (.inr (.inl (h.n2 x hx))),fun x hx=>by rw [ho x (.inl (h.n2 x hx))];exact h.n2 x hx,
  own_fm h.r1 hf fun x hx=>hm x (.inr (.inr (h.r2 x hx))),fun x hx=>by rw [ho x (.inr (h.r2 x hx))];exact h.r2 x hx⟩
theorem pc_nd (i:Nat):pc (8+4*i)∧pc (9+4*i)∧pc (10+4*i):=by unfold pc;omega
theorem PM.keep (h:PM w o θ S) (hf:Fm M w w1) (hm:∀b,pc (o b)→¬M b) (ho:∀b,pc (o b)→o1 b=o b) (hl:∀b,o1 b≠0→b < w1.heap.size):PM w1 o1 θ S:=by
 have p1:pc 1:=.inl rfl
 have p2:pc 2:=.inr (.inl rfl)
 have p3:pc 3:=.inr (.inr (.inl rfl))
 obtain⟨nv,rv,hd⟩:=h.doc
 refine⟨by rw [ho _ (by rw [h.col];exact p1)];exact h.col,hl,h.len,h.few,fun i b hb=>?_,⟨nv,rv,hd.keep h.col hf (fun x hx=>hm x ?_) (fun x hx=>ho x ?_)⟩,fun i b s hb hs=>?_,h.rng,h.rts,h.cnt⟩
 ·have:=h.nc i b hb
  rw [ho b (by rw [this];exact (pc_nd i).1)];exact this
 ·rcases hx with e | e | e <;> rw [e] <;> assumption
 ·rcases hx with e | e <;> rw [e] <;> assumption
 ·obtain⟨a,kv,hn⟩:=h.nodes i b s hb hs
  obtain⟨q1,q2,q3⟩:=pc_nd i
  refine⟨a,kv,hn.keep (h.nc i b hb) hf (fun x hx=>hm x ?_) (fun x hx=>ho x ?_)⟩
  ·rcases hx with e | e | e <;> rw [e] <;> assumption
  ·rcases hx with e | e <;> rw [e] <;> assumption
theorem PM.below (h:PM w o θ S) (hb:Below w.heap.size w w1):PM w1 o θ S :=
 h.keep (M:=fun _=>False) (.below hb) (fun _ _ h=>h) (fun _ _=>rfl) fun b hb2=>Nat.lt_of_lt_of_le (h.lt b hb2) hb.size
def cl (o:Nat→Nat) (r:Option Nat) (c:Nat):Nat→Nat:=fun x=>if r=some x∧o x=0 then c else o x
theorem cl_old {r:Option Nat}{c x:Nat} (h:o x≠0):cl o r c x=o x:=by unfold cl;rw [if_neg (fun e=>h e.2)]
theorem cl_none {c:Nat}:cl o none c=o:=funext fun x=>by unfold cl;rw [if_neg (fun e=>by cases e.1)]
theorem cl_row {r:Option Nat}{c x:Nat} (h:r=some x) (hx:o x=0∨o x=c):cl o r c x=c:=by
 unfold cl
 rcases hx with hx | hx
 ·rw [if_pos ⟨h,hx⟩]
 ·split
  ·rfl
  ·exact hx
def PS.setS (S:PS) (i:Nat) (s:Sl):PS:={ S with D:={ S.D with sl:=S.D.sl.set i s } }
theorem nodup_col (h:PM w o θ S) {i j b:Nat} (hi:S.bs[i]?=some b) (hj:S.bs[j]?=some b):i=j:=by
 have h1:=h.nc i b hi
 have h2:=h.nc j b hj
 omega
theorem PM.setNode (h:PM w o θ S) {i b:Nat}{s s':Sl}{a kv:Sv} (hb:S.bs[i]?=some b) (hs:S.D.sl[i]?=some s) (hf:Fm M w w1) (hM:∀x,M x→(o x=8+4*i∨o x=9+4*i∨o x=10+4*i)∨w.heap.size≤x)
  {r:Option Nat}{c:Nat} (hc:c=9+4*i∨c=10+4*i) (hr:∀x,r=some x→(o x=0→w.heap.size≤x)∧x < w1.heap.size) (hN:NodeR w1 (cl o r c) S.bs i b s' a kv) (hg:RngS S.D.sl.length s') :
  PM w1 (cl o r c) θ (S.setS i s')∧EvC (fun c=>c=8+4*i∨c=9+4*i∨c=10+4*i) w o w1 (cl o r c):=by
 have hlt:i < S.D.sl.length:=(List.getElem?_eq_some_iff.1 hs).1
 have hold:∀x,o x≠0→cl o r c x=o x:=fun x hx=>cl_old hx
 have hMc:∀x,M x→x < w.heap.size→(o x=8+4*i∨o x=9+4*i∨o x=10+4*i):=fun x hx hl=>(hM x hx).resolve_right (by omega)
 have hMn:∀x,o x≠0→(o x≠8+4*i∧o x≠9+4*i∧o x≠10+4*i)→¬M x:=fun x h0 hx hm=>by
  have:=hMc x hm (h.lt x h0);omega
 obtain⟨nv,rv,hd⟩:=h.doc
 refine⟨⟨by rw [hold _ (by rw [h.col];decide)];exact h.col,fun x hx=>?_,by simpa [PS.setS] using h.len,by simpa [PS.setS] using h.few,fun j b' hb'=>?_,⟨nv,rv,?_⟩,fun j b' s2 hb' hs2=>?_,fun s2 hs2=>?_,by simpa [PS.setS] using h.rts,h.cnt⟩,⟨?_,hold,fun x hx hp=>?_,fun x hx=>?_⟩⟩
 ·unfold cl at hx
  split at hx
  ·rename_i e;exact (hr x e.1).2
  ·exact Nat.lt_of_lt_of_le (h.lt x hx) hf.size
 ·rw [hold _ (by rw [h.nc j b' hb'];omega)];exact h.nc j b' hb'
 ·have k:=hd.keep (o1:=cl o r c) h.col hf (fun x hx=>hMn x (by omega) (by omega)) fun x hx=>hold x (by omega)
  exact⟨k.blk,k.n1,k.n2,k.r1,k.r2⟩
 ·by_cases e:i=j
  ·subst e
   have hb':S.bs[i]?=some b':=hb'
   rw [hb] at hb';cases hb'
   have hs2:(S.D.sl.set i s')[i]?=some s2:=hs2
   rw [List.getElem?_set_self hlt] at hs2;cases hs2
   exact⟨a,kv,hN⟩
  ·have hs2:(S.D.sl.set i s')[j]?=some s2:=hs2
   rw [List.getElem?_set_ne e] at hs2
   obtain⟨a',kv',hn⟩:=h.nodes j b' s2 hb' hs2
   exact⟨a',kv',hn.keep (h.nc j b' hb') hf (fun x hx=>hMn x (by omega) (by omega)) fun x hx=>hold x (by omega)⟩
 ·have e:(S.setS i s').D.sl.length=S.D.sl.length:=by simp [PS.setS]
  rw [e]
  rcases List.mem_or_eq_of_mem_set hs2 with h3 | h3
  ·exact h.rng s2 h3
  ·rw [h3];exact hg
 ·exact⟨hf.os,hf.tape,hf.output,hf.size,fun x hx hp=>hf.block x hx fun hm=>hp (hMc x hm hx)⟩
 ·unfold cl
  rw [if_neg]
  ·exact hp
  ·rintro ⟨e1,e2⟩
   have:=(hr x e1).1 e2;omega
 ·obtain⟨q1,q2,q3⟩:=pc_nd i
  unfold cl at hx ⊢
  split
  ·rcases hc with e | e <;> rw [e] <;> exact .inr (by assumption)
  ·rename_i e
   rw [if_neg e] at hx
   exact .inl hx
end
set_option maxRecDepth 100000
theorem inR_u64 {z:Int} (h0:0≤z) (h1:z≤18446744073709551615):InR .u64 z:=⟨by simpa [IntKind.min,IntKind.signed,IntKind.bits] using h0,by simpa [IntKind.max,IntKind.signed,IntKind.bits] using h1⟩
section
variable {w w1:World}{g:Nat}{D:Im}{vs vr:Sv}
end
set_option maxRecDepth 100000
structure PRd (w:World) (dg:Nat) (sl:List Sl) (bs:List Nat):Prop where
 len:bs.length=sl.length
 few:sl.length≤1048576
 row:∃A c,w.cell? ⟨dg,0,none⟩=some (.slice A bs.length c)∧Rd LPt w A c bs
 c0:∀i (h:i < bs.length),w.cell? ⟨bs[i],0,none⟩=some (.int .u32 (i+1:Nat))
 c1:∀i (h:i < bs.length) (h':i < sl.length),w.cell? ⟨bs[i],1,none⟩=some (.int .u32 (sl[i].gen:Nat))
 c2:∀i (h:i < bs.length) (h':i < sl.length),w.cell? ⟨bs[i],2,none⟩=some (.bool sl[i].live)
 gen:∀s∈sl,s.gen < 4294967296
section
variable {w w1:World}{dg:Nat}{sl:List Sl}{bs:List Nat}
theorem PRd.sub (hs:Sub w w1) (h:PRd w dg sl bs):PRd w1 dg sl bs:=by
 obtain⟨A,c,h1,h2⟩:=h.row
 exact⟨h.len,h.few,⟨A,c,hs.cell h1,hs.rd h2⟩,fun i h'=>hs.cell (h.c0 i h'),fun i h' h2=>hs.cell (h.c1 i h' h2),fun i h' h2=>hs.cell (h.c2 i h' h2),h.gen⟩
theorem PRd.keep (h:PRd w dg sl bs) (hb:Below w.heap.size w w1):PRd w1 dg sl bs:=h.sub (sub_below hb)
theorem hndP_calls (h:PRd w dg sl bs) {i:Nat} (hi:i < bs.length) (hi':i < sl.length) {R:Ending→World→Prop} (hK:∀w',Below w.heap.size w w'→R (.returned (.int .u64 (hnd sl[i].gen i:Nat))) w') :
  Calls Tryz.prog 61 #[.pointer (some ⟨bs[i],0,none⟩)] w R:=by
 have hfew:=h.few
 have hg:=h.gen _ (List.getElem_mem hi')
 refine ok61 (some ⟨bs[i],0,none⟩) ?_
 unfold F61
 rw [show (some (⟨bs[i],0,none⟩:Addr)).isNone=false from rfl,Br_f]
 refine dr fun w2 hb2 _=>?_
 have h2:=h.keep hb2
 simp only [NonNil_some,Addr.add_mk,Nat.zero_add,h2.c0 i hi,h2.c1 i hi hi',lds]
 have e1:((sl[i].gen:Nat):Int)*(2 ^ (min ((32:Int)).toNat 64))=((sl[i].gen*4294967296:Nat):Int):=by simp
 rw [e1,bOr_hnd hg (by omega)]
 exact⟨inR_u64 (by omega) (by omega),inR_u64 (by omega) (by omega),inR_u64 (by omega) (by omega),hK w2 hb2⟩
theorem hndN_calls {R:Ending→World→Prop} (hK:R (.returned (.int .u64 0)) w):Calls Tryz.prog 61 #[.pointer none] w R:=by
 refine ok61 none ?_
 unfold F61
 rw [show (none:Option Addr).isNone=true from rfl,Br_t]
 exact hK
def ptrN (bs:List Nat) (o:Option Nat):Option Addr:=match o with | some k=>(bs[k]?).map fun b=>⟨b,0,none⟩ | none=>none
theorem ptrN_some {k:Nat} (h:k < bs.length):ptrN bs (some k)=some ⟨bs[k],0,none⟩:=by
 unfold ptrN;simp only [List.getElem?_eq_getElem h,Option.map_some]
theorem atP_calls (h:PRd w dg sl bs) {x:Nat} (hx:x < 18446744073709551616) {R:Ending→World→Prop} (hK:∀w',Below w.heap.size w w'→R (.returned (.pointer (ptrN bs (atF sl x)))) w') :
  Calls Tryz.prog 83 #[.pointer (some ⟨dg,0,none⟩),.int .u64 (x:Nat)] w R:=by
 have hfew:=h.few
 have hbl:=h.len
 obtain⟨A,c,h1,h2⟩:=h.row
 refine ok83 (some ⟨dg,0,none⟩) x ?_
 unfold F83
 rw [bAnd_low hx]
 have H:=hK w (Below.refl _ _)
 refine⟨fun w'=>w=w'∧0 < x % 4294967296∧x % 4294967296≤bs.length,?_,?_⟩
 ·rintro _ ⟨rfl,hp,hle⟩
  unfold F83_j4
  rw [bAnd_low hx]
  simp only [NonNil_some,h1,lds]
  have hk:x % 4294967296-1 < bs.length:=by omega
  have hk':x % 4294967296-1 < sl.length:=by omega
  have e1:((x % 4294967296:Nat):Int)-1=((x % 4294967296-1:Nat):Int):=by omega
  refine⟨inR_u64 (by omega) (by omega),?_⟩
  refine h2.pt rfl e1 hk fun b o c0=>?_
  simp only [c0,lds]
  have hat:atF sl x=if sl[x % 4294967296-1].live=true∧hnd sl[x % 4294967296-1].gen (x % 4294967296-1)=x then some (x % 4294967296-1) else none:=by
   unfold atF;rw [if_neg (by omega),List.getElem?_eq_getElem hk']
  refine⟨fun w'=>Below w.heap.size w w'∧atF sl x=some (x % 4294967296-1),?_,?_⟩
  ·rintro w' ⟨hb,ha⟩
   unfold F83_j7
   have H:=hK w' hb
   rw [ha,ptrN_some hk] at H;exact H
  ·simp only [NonNil_some,Addr.add_mk,Nat.zero_add,h.c2 _ hk hk',lds]
   rw [brnot]
   refine br (fun hl=>?_) (fun hl=>?_)
   ·refine hndP_calls h hk hk' fun w' hb=>⟨_,rfl,?_⟩
    refine brn (fun hne=>?_) (fun he=>⟨hb,by rw [hat,if_pos ⟨hl,by omega⟩]⟩)
    have H:=hK w' hb
    rw [hat,if_neg (by rintro ⟨-,h3⟩;exact hne (by rw [h3]))] at H
    exact H
   ·rw [hat,if_neg (by rintro ⟨h3,-⟩;rw [hl] at h3;cases h3)] at H
    exact H
 ·refine bre (fun h0=>?_) (fun h0=>?_)
  ·have:atF sl x=none:=by unfold atF;rw [if_pos (by omega)]
   rw [this] at H;exact H
  ·simp only [NonNil_some,h1,lds]
   refine⟨inR_u64 (by omega) (by omega),?_⟩
   refine brd (fun hgt=>?_) (fun hle=>⟨trivial,by omega,by omega⟩)
   have:atF sl x=none:=by unfold atF;rw [if_neg (by omega),List.getElem?_eq_none (by omega)]
   rw [this] at H;exact H
end
set_option maxRecDepth 100000
section
variable {w w1 w2:World}{o o1 o2:Nat→Nat}{θ:Th}{S:PS}{M:Nat→Prop}{bs:List Nat}
theorem PM.setDoc (h:PM w o θ S) {nv rv:Sv}{ro:List Nat}{lv wn lo:Nat} (hf:Fm M w w1) (hM:∀x,M x→(o x=1∨o x=2∨o x=3)∨w.heap.size≤x)
  {r:Option Nat}{c:Nat} (hc:c=2∨c=3) (hr:∀x,r=some x→(o x=0→w.heap.size≤x)∧x < w1.heap.size) (hN:DocR w1 (cl o r c) θ { S with D:={ S.D with roots:=ro },lv:=lv,wn:=wn,lo:=lo } nv rv)
  (hro:(∀h∈ro,inN S.D.sl.length h)∧ro.length≤1048576) (hcn:lv≤4096∧wn≤4096∧lo≤4096) :
  PM w1 (cl o r c) θ { S with D:={ S.D with roots:=ro },lv:=lv,wn:=wn,lo:=lo }∧EvC (fun c=>c=1∨c=2∨c=3) w o w1 (cl o r c):=by
 have hold:∀x,o x≠0→cl o r c x=o x:=fun x hx=>cl_old hx
 have hMc:∀x,M x→x < w.heap.size→(o x=1∨o x=2∨o x=3):=fun x hx hl=>(hM x hx).resolve_right (by omega)
 have hMn:∀x,o x≠0→(o x≠1∧o x≠2∧o x≠3)→¬M x:=fun x h0 hx hm=>by
  have:=hMc x hm (h.lt x h0);omega
 refine⟨⟨by rw [hold _ (by rw [h.col];decide)];exact h.col,fun x hx=>?_,h.len,h.few,fun j b' hb'=>?_,⟨nv,rv,hN⟩,fun j b' s2 hb' hs2=>?_,h.rng,hro,hcn⟩,⟨?_,hold,fun x hx hp=>?_,fun x hx=>?_⟩⟩
 ·unfold cl at hx
  split at hx
  ·rename_i e;exact (hr x e.1).2
  ·exact Nat.lt_of_lt_of_le (h.lt x hx) hf.size
 ·rw [hold _ (by rw [h.nc j b' hb'];omega)];exact h.nc j b' hb'
 ·obtain⟨a',kv',hn⟩:=h.nodes j b' s2 hb' hs2
  exact⟨a',kv',hn.keep (h.nc j b' hb') hf (fun x hx=>hMn x (by omega) (by omega)) fun x hx=>hold x (by omega)⟩
 ·exact⟨hf.os,hf.tape,hf.output,hf.size,fun x hx hp=>hf.block x hx fun hm=>hp (hMc x hm hx)⟩
 ·unfold cl
  rw [if_neg]
  ·exact hp
  ·rintro ⟨e1,e2⟩
   have:=(hr x e1).1 e2;omega
 ·unfold cl at hx ⊢
  split
  ·rcases hc with e | e <;> rw [e]
   ·exact .inr (.inr (.inl rfl))
   ·exact .inr (.inr (.inr (.inl rfl)))
  ·rename_i e
   rw [if_neg e] at hx
   exact .inl hx
theorem PM.cells (h:PM w o θ S):(∃v:Sv,w.cell? ⟨θ.g,0,none⟩=some (slV v)∧Own LPt w 0 115 (slV v) S.bs∧∀x,rowOf (slV v)=some x→o x=2)∧w.cell? ⟨θ.g,2,none⟩=some (.int .i64 (S.lv:Nat))∧w.cell? ⟨θ.g,3,none⟩=some (.int .i64 (S.wn:Nat))∧w.cell? ⟨θ.g,4,none⟩=some (.int .i64 (S.lo:Nat)):=by
 obtain⟨nv,rv,hd⟩:=h.doc
 exact⟨⟨nv,by rw [hd.blk.cell];rfl,hd.n1,hd.n2⟩,by rw [hd.blk.cell];rfl,by rw [hd.blk.cell];rfl,by rw [hd.blk.cell];rfl⟩
theorem doc_set2 {nv rv:Sv}{lv wn lo:Nat}{tl:List Value} (x:Nat):(docC nv rv lv wn lo tl).setIfInBounds 2 (.int .i64 (x:Nat))=docC nv rv x wn lo tl:=by simp [docC]
theorem doc_set4 {nv rv:Sv}{lv wn lo:Nat}{tl:List Value} (x:Nat):(docC nv rv lv wn lo tl).setIfInBounds 4 (.int .i64 (x:Nat))=docC nv rv lv wn x tl:=by simp [docC]
theorem doc_set1 {nv rv v:Sv}{lv wn lo:Nat}{tl:List Value}:(docC nv rv lv wn lo tl).setIfInBounds 1 (slV v)=docC nv v lv wn lo tl:=by simp [docC]
theorem doc_set0 {nv rv v:Sv}{lv wn lo:Nat}{tl:List Value}:(docC nv rv lv wn lo tl).setIfInBounds 0 (slV v)=docC v rv lv wn lo tl:=by simp [docC]
theorem doc_size {nv rv:Sv}{lv wn lo:Nat}{tl:List Value}:5≤(docC nv rv lv wn lo tl).size:=by simp [docC]
theorem PM.stC (h:PM w o θ S) {j:Nat}{v:Value}{lv wn lo:Nat} (hcn:lv≤4096∧wn≤4096∧lo≤4096) (hj:j < 5) (he:∀nv rv,(docC nv rv S.lv S.wn S.lo θ.tl).setIfInBounds j v=docC nv rv lv wn lo θ.tl) {K:World→Prop}
  (hK:∀w1,PM w1 o θ { S with lv:=lv,wn:=wn,lo:=lo }→EvC (fun c=>c=1∨c=2∨c=3) w o w1 o→K w1):St w ⟨θ.g,j,none⟩ v K:=by
 obtain⟨nv,rv,hd⟩:=h.doc
 refine st_blk hd.blk (Nat.lt_of_lt_of_le hj doc_size) fun w1 b1 f1=>?_
 rw [he] at b1
 have hcol:=h.col
 have hd1:DocR w1 o θ { S with lv:=lv,wn:=wn,lo:=lo } nv rv:=⟨b1,
  own_fm hd.n1 f1 fun x hx e=>by have e:x=θ.g:=e;have:=hd.n2 x hx;rw [e,hcol] at this;omega,hd.n2,
  own_fm hd.r1 f1 fun x hx e=>by have e:x=θ.g:=e;have:=hd.r2 x hx;rw [e,hcol] at this;omega,hd.r2⟩
 have:=h.setDoc (r:=none) (c:=2) (ro:=S.D.roots) (nv:=nv) (rv:=rv) (lv:=lv) (wn:=wn) (lo:=lo) f1 (fun x hx=>.inl (.inl (by have e:x=θ.g:=hx;rw [e];exact hcol))) (.inl rfl) (fun x hx=>by cases hx) (by rw [cl_none];exact hd1) h.rts hcn
 rw [cl_none] at this
 exact hK w1 this.1 this.2
theorem PM.stLive (h:PM w o θ S) (x:Nat) (hx:x≤4096) {K:World→Prop} (hK:∀w1,PM w1 o θ { S with lv:=x }→EvC (fun c=>c=1∨c=2∨c=3) w o w1 o→K w1):St w ⟨θ.g,2,none⟩ (.int .i64 (x:Nat)) K :=
 h.stC ⟨hx,h.cnt.2.1,h.cnt.2.2⟩ (by omega) (fun _ _=>doc_set2 x) hK
theorem PM.stLow (h:PM w o θ S) (x:Nat) (hx:x≤4096) {K:World→Prop} (hK:∀w1,PM w1 o θ { S with lo:=x }→EvC (fun c=>c=1∨c=2∨c=3) w o w1 o→K w1):St w ⟨θ.g,4,none⟩ (.int .i64 (x:Nat)) K :=
 h.stC ⟨h.cnt.1,h.cnt.2.1,hx⟩ (by omega) (fun _ _=>doc_set4 x) hK
def lad (g:Nat) (bs:List Nat) (p:Nat):Addr:=if p=0 then ⟨g,1,none⟩ else ⟨pb bs p,8,none⟩
def lcC (p:Nat) (c:Nat):Prop:=if p=0 then c=1∨c=2∨c=3 else c=8+4*(p % 4294967296-1)∨c=9+4*(p % 4294967296-1)∨c=10+4*(p % 4294967296-1)
def lcl (p:Nat):Nat:=if p=0 then 3 else 9+4*(p % 4294967296-1)
def lstR (D:Im) (p:Nat):List Nat:=if p=0 then D.roots else match D.sl[p % 4294967296-1]? with | some s=>s.kids | none=>[]
theorem pb_get (hl:S.bs.length=S.D.sl.length) {p:Nat} (hp:inN S.D.sl.length p):S.bs[p % 4294967296-1]?=some (pb S.bs p)∧∃s,S.D.sl[p % 4294967296-1]?=some s:=by
 obtain⟨h1,h2⟩:=hp
 have h3:p % 4294967296-1 < S.bs.length:=by omega
 unfold pb
 refine⟨by rw [List.getD_eq_getElem?_getD,List.getElem?_eq_getElem h3];rfl,_,List.getElem?_eq_getElem (by omega)⟩
theorem PM.list (h:PM w o θ S) {p:Nat} (hp:p=0∨inN S.D.sl.length p):∃v:Sv,w.cell? (lad θ.g S.bs p)=some (slV v)∧Own LPt w 0 115 (slV v) ((lstR S.D p).map (pb S.bs))∧(∀x,rowOf (slV v)=some x→o x=lcl p)∧(lstR S.D p).length≤1048576:=by
 unfold lad lcl lstR
 by_cases h0:p=0
 ·simp only [if_pos h0]
  obtain⟨nv,rv,hd⟩:=h.doc
  exact⟨rv,by rw [hd.blk.cell];rfl,hd.r1,hd.r2,h.rts.2⟩
 ·simp only [if_neg h0]
  obtain⟨h1,s,h2⟩:=pb_get h.len (hp.resolve_left h0)
  obtain⟨a,kv,hn⟩:=h.nodes _ _ _ h1 h2
  simp only [h2]
  exact⟨kv,by rw [hn.blk.cell];rfl,hn.kd1,hn.kd2,(h.rng s (List.mem_of_getElem? h2)).few⟩
theorem node_set8 {i:Nat}{s:Sl}{a kv v:Sv}{par:Option Addr}{l:List Nat}:(nodeC i s a par kv).setIfInBounds 8 (slV v)=nodeC i { s with kids:=l } a par v:=by simp [nodeC,slV]
theorem PM.setList (h:PM w o θ S) {p:Nat} (hp:p=0∨inN S.D.sl.length p) {v v':Sv}{l:List Nat} (hc:∀x,rowOf (slV v)=some x→o x=lcl p) (hfm:Fm (fun x=>rowOf (slV v)=some x) w w1)
  (hO:Own LPt w1 0 115 (slV v') (l.map (pb S.bs))) (hr:rowOf (slV v')=rowOf (slV v)∨rowOf (slV v')=none∨∃g,rowOf (slV v')=some g∧w.heap.size≤g) (hl:(∀x∈l,inN S.D.sl.length x)∧l.length≤1048576) {K:World→Prop}
  (hK:∀w2 o2,PM w2 o2 θ { S with D:=setI S.D p l }→EvC (lcC p) w o w2 o2→K w2):St w1 (lad θ.g S.bs p) (slV v') K:=by
 have hrc:∀x,rowOf (slV v')=some x→(o x=lcl p∨(o x=0∧w.heap.size≤x)):=fun x hx=>by
  rcases hr with e | e | ⟨g,e,hge⟩
  ·exact .inl (hc x (by rw [←e];exact hx))
  ·rw [e] at hx;cases hx
  ·rw [e] at hx;cases hx
   refine .inr ⟨Classical.byContradiction fun h0=>?_,hge⟩
   have:=h.lt _ h0;omega
 have hpos:lcl p≠0:=by unfold lcl;split <;> omega
 unfold lad lcl at *
 by_cases h0:p=0
 ·simp only [if_pos h0] at *
  obtain⟨nv,rv,hd⟩:=h.doc
  have hb1:Blk w1 θ.g (docC nv rv S.lv S.wn S.lo θ.tl) θ.t:=hfm.blk hd.blk fun e=>by have:=hc _ e;rw [h.col] at this;omega
  refine st_blk hb1 (Nat.lt_of_lt_of_le (by omega) doc_size) fun w2 b2 f2=>?_
  rw [doc_set1] at b2
  have hg1:o θ.g=1:=h.col
  have F:Fm (fun x=>o x=1∨o x=2∨o x=3) w w2:=(hfm.mono fun x _ e=>.inr (.inr (hc x e))).trans (f2.mono fun x _ e=>.inl (by have e:x=θ.g:=e;rw [e];exact hg1))
  have hrow:∀x,rowOf (slV v')=some x→x≠θ.g:=fun x hx e=>by
   rcases hrc x hx with e2 | ⟨e2,_⟩ <;> rw [e,hg1] at e2 <;> omega
  have hlt2:∀x,rowOf (slV v')=some x→x < w2.heap.size:=fun x hx=>Nat.lt_of_lt_of_le (hO.lt x hx).2 f2.size
  have hN:DocR w2 (cl o (rowOf (slV v')) 3) θ { S with D:={ S.D with roots:=l },lv:=S.lv,wn:=S.wn,lo:=S.lo } nv v':=by
   refine⟨b2,own_fm (own_fm hd.n1 hfm fun x hx e=>?_) f2 fun x hx e=>?_,fun x hx=>?_,own_fm hO f2 fun x hx e=>hrow x hx e,fun x hx=>cl_row hx ?_⟩
   ·have:=hd.n2 x hx;rw [hc x e] at this;omega
   ·have e:x=θ.g:=e
    have:=hd.n2 x hx;rw [e,hg1] at this;omega
   ·have:=hd.n2 x hx
    rw [cl_old (by omega)];exact this
   ·rcases hrc x hx with e | ⟨e,_⟩
    ·exact .inr e
    ·exact .inl e
  have:=h.setDoc (r:=rowOf (slV v')) (c:=3) (nv:=nv) (rv:=v') (ro:=l) (lv:=S.lv) (wn:=S.wn) (lo:=S.lo) F (fun x hx=>.inl hx) (.inr rfl) (fun x hx=>⟨fun e=>?_,hlt2 x hx⟩) hN hl h.cnt
  ·refine hK w2 _ ?_ (this.2.mono fun c hc=>by unfold lcC;rw [if_pos h0];exact hc)
   unfold setI
   rw [if_pos h0];exact this.1
  ·rcases hrc x hx with e2 | ⟨_,e2⟩
   ·rw [e] at e2;omega
   ·exact e2
 ·simp only [if_neg h0] at *
  have hp':=hp.resolve_left h0
  obtain⟨k1,s,k2⟩:=pb_get h.len hp'
  generalize hi:p % 4294967296-1=i at *
  generalize hb:pb S.bs p=b at *
  obtain⟨a,kv,hn⟩:=h.nodes i b s k1 k2
  have hcb:=h.nc i b k1
  have hb1:Blk w1 b (nodeC i s a (ptrH S.bs s.parent) kv) 117:=hfm.blk hn.blk fun e=>by have:=hc _ e;omega
  refine st_blk hb1 (by simp [nodeC]) fun w2 b2 f2=>?_
  have b2:Blk w2 b (nodeC i { s with kids:=l } a (ptrH S.bs s.parent) v') 117:=by rw [node_set8] at b2;exact b2
  have F:Fm (fun x=>o x=8+4*i∨o x=9+4*i∨o x=10+4*i) w w2:=(hfm.mono fun x _ e=>.inr (.inl (hc x e))).trans (f2.mono fun x _ e=>.inl (by have e:x=b:=e;rw [e];exact hcb))
  have hrow:∀x,rowOf (slV v')=some x→x≠b:=fun x hx e=>by
   rcases hrc x hx with e2 | ⟨e2,_⟩ <;> rw [e,hcb] at e2 <;> omega
  have hlt2:∀x,rowOf (slV v')=some x→x < w2.heap.size:=fun x hx=>Nat.lt_of_lt_of_le (hO.lt x hx).2 f2.size
  have hN:NodeR w2 (cl o (rowOf (slV v')) (9+4*i)) S.bs i b { s with kids:=l } a v':=by
   refine⟨b2,own_fm (own_fm hn.at1 hfm fun x hx e=>?_) f2 fun x hx e=>?_,fun x hx=>?_,own_fm hO f2 fun x hx e=>hrow x hx e,fun x hx=>cl_row hx ?_⟩
   ·have:=hn.at2 x hx;rw [hc x e] at this;omega
   ·have e:x=b:=e
    have:=hn.at2 x hx;rw [e,hcb] at this;omega
   ·have:=hn.at2 x hx
    rw [cl_old (by omega)];exact this
   ·rcases hrc x hx with e | ⟨e,_⟩
    ·exact .inr e
    ·exact .inl e
  have hrs:=h.rng s (List.mem_of_getElem? k2)
  have:=h.setNode (r:=rowOf (slV v')) (c:=9+4*i) k1 k2 F (fun x hx=>.inl hx) (.inl rfl) (fun x hx=>⟨fun e=>?_,hlt2 x hx⟩) hN ⟨hrs.gen,hrs.par,hl.1,hl.2,hrs.atf⟩
  ·refine hK w2 _ ?_ (this.2.mono fun c hc=>by unfold lcC;rw [if_neg h0,hi];exact hc)
   unfold setI
   rw [if_neg h0,hi,modify_set _ _ _ _ k2];exact this.1
  ·rcases hrc x hx with e2 | ⟨_,e2⟩
   ·rw [e] at e2;omega
   ·exact e2
end
set_option maxRecDepth 100000
section
variable {w w1 w2:World}{o o1 o2:Nat→Nat}{θ:Th}{S:PS}{M:Nat→Prop}{bs:List Nat}
theorem PM.stN (h:PM w o θ S) {i b:Nat}{s s':Sl} (hb:S.bs[i]?=some b) (hs:S.D.sl[i]?=some s) {j:Nat}{v:Value} (hj:j < 9) (he:∀a kv,(nodeC i s a (ptrH S.bs s.parent) kv).setIfInBounds j v=nodeC i s' a (ptrH S.bs s'.parent) kv)
  (ha:s'.attrs=s.attrs) (hk:s'.kids=s.kids) (hg:s'.gen < 4294967296) (hp:s'.parent=0∨inN S.D.sl.length s'.parent) {K:World→Prop} (hK:∀w1,PM w1 o θ (S.setS i s')→EvC (fun c=>c=8+4*i∨c=9+4*i∨c=10+4*i) w o w1 o→K w1):St w ⟨b,j,none⟩ v K:=by
 obtain⟨a,kv,hn⟩:=h.nodes i b s hb hs
 have hcb:=h.nc i b hb
 refine st_blk hn.blk (by simpa [nodeC] using hj) fun w1 b1 f1=>?_
 rw [he] at b1
 have hrs:=h.rng s (List.mem_of_getElem? hs)
 have hN:NodeR w1 (cl o none (9+4*i)) S.bs i b s' a kv:=by
  rw [cl_none]
  refine⟨b1,?_,hn.at2,?_,hn.kd2⟩
  ·rw [ha]
   refine own_fm hn.at1 f1 fun x hx e=>?_
   have e:x=b:=e
   have:=hn.at2 x hx;rw [e,hcb] at this;omega
  ·rw [hk]
   refine own_fm hn.kd1 f1 fun x hx e=>?_
   have e:x=b:=e
   have:=hn.kd2 x hx;rw [e,hcb] at this;omega
 have:=h.setNode (r:=none) (c:=9+4*i) hb hs f1 (fun x hx=>.inl (.inl (by have e:x=b:=hx;rw [e];exact hcb))) (.inl rfl) (fun x hx=>by cases hx) hN ⟨hg,hp,by rw [hk];exact hrs.kids,by rw [hk];exact hrs.few,by rw [ha];exact hrs.atf⟩
 rw [cl_none] at this
 exact hK w1 this.1 this.2
theorem node_set1 {i:Nat}{s:Sl}{a kv:Sv}{par:Option Addr} (g:Nat):(nodeC i s a par kv).setIfInBounds 1 (.int .u32 (g:Nat))=nodeC i { s with gen:=g } a par kv:=by simp [nodeC]
theorem node_set2 {i:Nat}{s:Sl}{a kv:Sv}{par:Option Addr} (l:Bool):(nodeC i s a par kv).setIfInBounds 2 (.bool l)=nodeC i { s with live:=l } a par kv:=by simp [nodeC]
theorem node_set3 {i:Nat}{s:Sl}{a kv:Sv}{par:Option Addr} (k:Int):(nodeC i s a par kv).setIfInBounds 3 (.int .i64 k)=nodeC i { s with kind:=k } a par kv:=by simp [nodeC]
theorem node_set6 {i:Nat}{s:Sl}{a kv:Sv}{par:Option Addr} (n:ByteArray):(nodeC i s a par kv).setIfInBounds 6 (.string n)=nodeC i { s with text:=n } a par kv:=by simp [nodeC]
theorem node_set7 {i:Nat}{s:Sl}{a kv:Sv}{par q:Option Addr} (p:Nat):(nodeC i s a par kv).setIfInBounds 7 (.pointer q)=nodeC i { s with parent:=p } a q kv:=by simp [nodeC]
theorem PM.stGen (h:PM w o θ S) {i b:Nat}{s:Sl} (hb:S.bs[i]?=some b) (hs:S.D.sl[i]?=some s) {g:Nat} (hg:g < 4294967296) {K:World→Prop} (hK:∀w1,PM w1 o θ (S.setS i { s with gen:=g })→EvC (fun c=>c=8+4*i∨c=9+4*i∨c=10+4*i) w o w1 o→K w1):St w ⟨b,1,none⟩ (.int .u32 (g:Nat)) K :=
 h.stN (s':={ s with gen:=g }) hb hs (by omega) (fun _ _=>node_set1 g) rfl rfl hg (h.rng s (List.mem_of_getElem? hs)).par hK
theorem PM.stLiv (h:PM w o θ S) {i b:Nat}{s:Sl} (hb:S.bs[i]?=some b) (hs:S.D.sl[i]?=some s) (l:Bool) {K:World→Prop} (hK:∀w1,PM w1 o θ (S.setS i { s with live:=l })→EvC (fun c=>c=8+4*i∨c=9+4*i∨c=10+4*i) w o w1 o→K w1):St w ⟨b,2,none⟩ (.bool l) K :=
 h.stN (s':={ s with live:=l }) hb hs (by omega) (fun _ _=>node_set2 l) rfl rfl (h.rng s (List.mem_of_getElem? hs)).gen (h.rng s (List.mem_of_getElem? hs)).par hK
theorem PM.stKind (h:PM w o θ S) {i b:Nat}{s:Sl} (hb:S.bs[i]?=some b) (hs:S.D.sl[i]?=some s) (k:Int) {K:World→Prop} (hK:∀w1,PM w1 o θ (S.setS i { s with kind:=k })→EvC (fun c=>c=8+4*i∨c=9+4*i∨c=10+4*i) w o w1 o→K w1):St w ⟨b,3,none⟩ (.int .i64 k) K :=
 h.stN (s':={ s with kind:=k }) hb hs (by omega) (fun _ _=>node_set3 k) rfl rfl (h.rng s (List.mem_of_getElem? hs)).gen (h.rng s (List.mem_of_getElem? hs)).par hK
theorem PM.stText (h:PM w o θ S) {i b:Nat}{s:Sl} (hb:S.bs[i]?=some b) (hs:S.D.sl[i]?=some s) (n:ByteArray) {K:World→Prop} (hK:∀w1,PM w1 o θ (S.setS i { s with text:=n })→EvC (fun c=>c=8+4*i∨c=9+4*i∨c=10+4*i) w o w1 o→K w1):St w ⟨b,6,none⟩ (.string n) K :=
 h.stN (s':={ s with text:=n }) hb hs (by omega) (fun _ _=>node_set6 n) rfl rfl (h.rng s (List.mem_of_getElem? hs)).gen (h.rng s (List.mem_of_getElem? hs)).par hK
theorem PM.stPar (h:PM w o θ S) {i b:Nat}{s:Sl} (hb:S.bs[i]?=some b) (hs:S.D.sl[i]?=some s) {p:Nat} (hp:p=0∨inN S.D.sl.length p) {K:World→Prop} (hK:∀w1,PM w1 o θ (S.setS i { s with parent:=p })→EvC (fun c=>c=8+4*i∨c=9+4*i∨c=10+4*i) w o w1 o→K w1):St w ⟨b,7,none⟩ (.pointer (ptrH S.bs p)) K :=
 h.stN (s':={ s with parent:=p }) hb hs (by omega) (fun _ _=>node_set7 p) rfl rfl (h.rng s (List.mem_of_getElem? hs)).gen hp hK
theorem pb_app {b h:Nat} (hh:inN bs.length h):pb (bs++[b]) h=pb bs h:=by
 obtain⟨h1,h2⟩:=hh
 unfold pb
 rw [List.getD_eq_getElem?_getD,List.getD_eq_getElem?_getD,List.getElem?_append_left (by omega)]
theorem ptr_app {b h:Nat} (hh:h=0∨inN bs.length h):ptrH (bs++[b]) h=ptrH bs h:=by
 unfold ptrH
 split
 ·rfl
 ·rw [pb_app (hh.resolve_left (by assumption))]
theorem map_pb_app {b:Nat}{l:List Nat} (hl:∀h∈l,inN bs.length h):l.map (pb (bs++[b]))=l.map (pb bs):=List.map_congr_left fun h hh=>pb_app (hl h hh)
theorem PM.grow (h:PM w o θ S) {b:Nat} (hb0:w.heap.size≤b) (hB:Blk w1 b (nodeC S.D.sl.length (deadS 0) (none,0,0) none (none,0,0)) 117) {v v':Sv} (hc:∀x,rowOf (slV v)=some x→o x=2) (hf:Fm (fun x=>rowOf (slV v)=some x) w w1)
  (hO:Own LPt w1 0 115 (slV v') (S.bs++[b])) (hr:rowOf (slV v')=rowOf (slV v)∨rowOf (slV v')=none∨∃g,rowOf (slV v')=some g∧w.heap.size≤g∧g≠b) (hl:S.D.sl.length < 4096) {K:World→Prop}
  (hK:∀w2 o2,PM w2 o2 θ { S with D:={ S.D with sl:=S.D.sl++[deadS 0] },bs:=S.bs++[b] }→EvC (fun c=>c=1∨c=2) w o w2 o2→K w2):St w1 ⟨θ.g,0,none⟩ (slV v') K:=by
 have ob0:o b=0:=Classical.byContradiction fun h0=>by have:=h.lt b h0;omega
 have hrc:∀x,rowOf (slV v')=some x→(o x=2∨(o x=0∧w.heap.size≤x))∧x≠b:=fun x hx=>by
  rcases hr with e | e | ⟨g,e,hge,hgb⟩
  ·have:=hc x (by rw [←e];exact hx)
   exact⟨.inl this,fun e=>by rw [e,ob0] at this;omega⟩
  ·rw [e] at hx;cases hx
  ·rw [e] at hx;cases hx
   refine⟨.inr ⟨Classical.byContradiction fun h0=>?_,hge⟩,hgb⟩
   have:=h.lt _ h0;omega
 obtain⟨nv,rv,hd⟩:=h.doc
 have hg1:=h.col
 have hbl:=h.len
 have hb1:Blk w1 θ.g (docC nv rv S.lv S.wn S.lo θ.tl) θ.t:=hf.blk hd.blk fun e=>by have:=hc _ e;omega
 refine st_blk hb1 (Nat.lt_of_lt_of_le (by omega) doc_size) fun w2 b2 f2=>?_
 rw [doc_set0] at b2
 have hbg:b≠θ.g:=fun e=>by rw [e,hg1] at ob0;omega
 have F:Fm (fun x=>o x=1∨o x=2) w w2:=(hf.mono fun x _ e=>.inr (hc x e)).trans (f2.mono fun x _ e=>.inl (by have e:x=θ.g:=e;rw [e];exact hg1))
 have hlt2:∀x,rowOf (slV v')=some x→x < w2.heap.size:=fun x hx=>Nat.lt_of_lt_of_le (hO.lt x hx).2 f2.size
 have hbl2:b < w2.heap.size:=Nat.lt_of_lt_of_le hB.lt f2.size
 let o2:Nat→Nat:=fun x=>if x=b then 8+4*S.D.sl.length else cl o (rowOf (slV v')) 2 x
 have hold:∀x,o x≠0→o2 x=o x:=fun x hx=>by
  show (if x=b then _ else _)=_
  rw [if_neg (fun e=>hx (by rw [e];exact ob0)),cl_old hx]
 have hob:o2 b=8+4*S.D.sl.length:=by
  show (if b=b then _ else _)=_
  rw [if_pos rfl]
 have hrow2:∀x,rowOf (slV v')=some x→o2 x=2:=fun x hx=>by
  show (if x=b then _ else _)=_
  obtain⟨e1,e2⟩:=hrc x hx
  rw [if_neg e2]
  exact cl_row hx (e1.elim .inr fun e=>.inl e.1)
 have hnew:∀x,o x=0→o2 x≠0→w.heap.size≤x∧x < w2.heap.size∧(o2 x=2∨o2 x=8+4*S.D.sl.length):=fun x h0 h2=>by
  by_cases e:x=b
  ·subst e;exact⟨hb0,hbl2,.inr hob⟩
  ·have e3:o2 x=cl o (rowOf (slV v')) 2 x:=by
    show (if x=b then _ else _)=_
    rw [if_neg e]
   by_cases e4:rowOf (slV v')=some x
   ·refine⟨?_,hlt2 x e4,.inl (hrow2 x e4)⟩
    rcases (hrc x e4).1 with e5 | e5
    ·rw [h0] at e5;omega
    ·exact e5.2
   ·rw [e3] at h2
    unfold cl at h2
    rw [if_neg (fun e=>e4 e.1)] at h2
    exact absurd h0 h2
 have Fn:∀x,o x≠0→o x≠1→o x≠2→¬(o x=1∨o x=2):=fun x _ h1 h2 h3=>h3.elim h1 h2
 have hkid:∀s∈S.D.sl,∀x∈s.kids,inN S.bs.length x:=fun s hs x hx=>by rw [hbl];exact (h.rng s hs).kids x hx
 have inN1:∀x,inN S.D.sl.length x→inN (S.D.sl++[deadS 0]).length x:=fun x hx=>⟨hx.1,by have:=hx.2;simp;omega⟩
 refine hK w2 o2 ⟨by rw [hold _ (by omega)];exact hg1,fun x hx=>?_,by simp [hbl],by simp;omega,fun i b' hb'=>?_,⟨v',rv,?_⟩,fun i b' s hb' hs=>?_,fun s hs=>?_,⟨fun x hx=>inN1 x (h.rts.1 x hx),h.rts.2⟩,h.cnt⟩ ⟨F,hold,fun x hx h0=>?_,fun x hx=>?_⟩
 ·by_cases h0:o x=0
  ·exact (hnew x h0 hx).2.1
  ·exact Nat.lt_of_lt_of_le (h.lt x h0) F.size
 ·rcases Nat.lt_or_ge i S.bs.length with hi | hi
  ·have hb':S.bs[i]?=some b':=by rw [←hb'];exact (List.getElem?_append_left hi).symm
   have:=h.nc i b' hb'
   rw [hold _ (by omega)];exact this
  ·have hb':(S.bs++[b])[i]?=some b':=hb'
   rw [List.getElem?_append_right hi] at hb'
   have hi2:i-S.bs.length=0:=by
    have:=(List.getElem?_eq_some_iff.1 hb').1
    simp at this;omega
   rw [hi2] at hb'
   simp at hb'
   subst hb'
   rw [hob];omega
 ·refine⟨b2,own_fm hO f2 fun x hx e=>?_,hrow2,?_,fun x hx=>?_⟩
  ·have e:x=θ.g:=e
   rcases (hrc x hx).1 with e2 | ⟨e2,_⟩ <;> rw [e,hg1] at e2 <;> omega
  ·show Own LPt w2 0 _ (slV rv) (S.D.roots.map (pb (S.bs++[b])))
   rw [map_pb_app (fun x hx=>by rw [hbl];exact h.rts.1 x hx)]
   exact own_fm hd.r1 F fun x hx=>by have:=hd.r2 x hx;omega
  ·have:=hd.r2 x hx
   rw [hold _ (by omega)];exact this
 ·rcases Nat.lt_or_ge i S.bs.length with hi | hi
  ·have hb':S.bs[i]?=some b':=by rw [←hb'];exact (List.getElem?_append_left hi).symm
   have hs:S.D.sl[i]?=some s:=by rw [←hs];exact (List.getElem?_append_left (by omega)).symm
   obtain⟨a,kv,hn⟩:=h.nodes i b' s hb' hs
   have hn2:=hn.keep (o1:=o2) (h.nc i b' hb') F (fun x hx=>Fn x (by omega) (by omega) (by omega)) fun x hx=>hold x (by omega)
   have hsm:=List.mem_of_getElem? hs
   refine⟨a,kv,⟨?_,hn2.at1,hn2.at2,?_,hn2.kd2⟩⟩
   ·show Blk w2 b' (nodeC i s a (ptrH (S.bs++[b]) s.parent) kv) _
    rw [ptr_app (by rw [hbl];exact (h.rng s hsm).par)];exact hn2.blk
   ·show Own LPt w2 0 _ (slV kv) (s.kids.map (pb (S.bs++[b])))
    rw [map_pb_app (hkid s hsm)];exact hn2.kd1
  ·have hb':(S.bs++[b])[i]?=some b':=hb'
   have hs:(S.D.sl++[deadS 0])[i]?=some s:=hs
   rw [List.getElem?_append_right hi] at hb'
   rw [List.getElem?_append_right (by omega)] at hs
   have hi2:i-S.bs.length=0:=by
    have:=(List.getElem?_eq_some_iff.1 hb').1
    simp at this;omega
   rw [hi2] at hb'
   rw [show i-S.D.sl.length=0 by omega] at hs
   simp at hb' hs
   subst hb' hs
   have e:i=S.D.sl.length:=by omega
   subst e
   refine⟨(none,0,0),(none,0,0),⟨f2.blk hB hbg,Own.nil _ _ _ _,fun x hx=>(by cases hx),Own.nil _ _ _ _,fun x hx=>(by cases hx)⟩⟩
 ·rcases List.mem_append.1 hs with hs | hs
  ·have r:=h.rng s hs
   exact⟨r.gen,r.par.imp id (inN1 _),fun x hx=>inN1 x (r.kids x hx),r.few,r.atf⟩
  ·rw [List.mem_singleton] at hs
   subst hs
   exact⟨by simp [deadS],.inl rfl,by simp [deadS],by simp [deadS],by simp [deadS]⟩
 ·refine Classical.byContradiction fun h2=>?_
  have:=(hnew x h0 h2).1
  omega
 ·by_cases h0:o x=0
  ·refine .inr ?_
   rcases (hnew x h0 hx).2.2 with e | e <;> rw [e]
   ·exact .inr (.inl rfl)
   ·exact (pc_nd _).1
  ·exact .inl h0
end
set_option maxRecDepth 100000
section
variable {w w1 w2:World}{o o1 o2:Nat→Nat}{θ:Th}{S:PS}{M:Nat→Prop}{bs:List Nat}{R:Ending→World→Prop}
theorem PM.cGen (h:PM w o θ S) {i b:Nat}{s:Sl} (hb:S.bs[i]?=some b) (hs:S.D.sl[i]?=some s):w.cell? ⟨b,1,none⟩=some (.int .u32 (s.gen:Nat)):=by
 obtain⟨a,kv,hn⟩:=h.nodes i b s hb hs;rw [hn.blk.cell];rfl
theorem PM.cIdx (h:PM w o θ S) {i b:Nat}{s:Sl} (hb:S.bs[i]?=some b) (hs:S.D.sl[i]?=some s):w.cell? ⟨b,0,none⟩=some (.int .u32 (i+1:Nat)):=by
 obtain⟨a,kv,hn⟩:=h.nodes i b s hb hs;rw [hn.blk.cell];rfl
theorem PM.cLive (h:PM w o θ S) {i b:Nat}{s:Sl} (hb:S.bs[i]?=some b) (hs:S.D.sl[i]?=some s):w.cell? ⟨b,2,none⟩=some (.bool s.live):=by
 obtain⟨a,kv,hn⟩:=h.nodes i b s hb hs;rw [hn.blk.cell];rfl
theorem PM.cKind (h:PM w o θ S) {i b:Nat}{s:Sl} (hb:S.bs[i]?=some b) (hs:S.D.sl[i]?=some s):w.cell? ⟨b,3,none⟩=some (.int .i64 s.kind):=by
 obtain⟨a,kv,hn⟩:=h.nodes i b s hb hs;rw [hn.blk.cell];rfl
theorem PM.cPar (h:PM w o θ S) {i b:Nat}{s:Sl} (hb:S.bs[i]?=some b) (hs:S.D.sl[i]?=some s):w.cell? ⟨b,7,none⟩=some (.pointer (ptrH S.bs s.parent)):=by
 obtain⟨a,kv,hn⟩:=h.nodes i b s hb hs;rw [hn.blk.cell];rfl
theorem PM.cKids (h:PM w o θ S) {i b:Nat}{s:Sl} (hb:S.bs[i]?=some b) (hs:S.D.sl[i]?=some s):∃v:Sv,w.cell? ⟨b,8,none⟩=some (slV v)∧Own LPt w 0 115 (slV v) (s.kids.map (pb S.bs))∧∀x,rowOf (slV v)=some x→o x=9+4*i:=by
 obtain⟨a,kv,hn⟩:=h.nodes i b s hb hs
 exact⟨kv,by rw [hn.blk.cell];rfl,hn.kd1,hn.kd2⟩
theorem PM.of (h:PM w o θ S) {x:Nat}{s:Sl} (hx:slA S.D.sl x=some s):∃i,x % 4294967296=i+1∧S.bs[i]?=some (pb S.bs x)∧S.D.sl[i]?=some s∧inN S.D.sl.length x:=by
 obtain⟨i,h1,h2,h3,h4⟩:=slA_iff.1 hx
 have hl:=(List.getElem?_eq_some_iff.1 h2).1
 have hin:inN S.D.sl.length x:=⟨by omega,by omega⟩
 obtain⟨k1,_⟩:=pb_get h.len hin
 rw [h1,Nat.add_sub_cancel] at k1
 exact⟨i,h1,k1,h2,hin⟩
theorem PM.prd (h:PM w o θ S):PRd w θ.g S.D.sl S.bs:=by
 obtain⟨⟨v,v1,v2,_⟩,_⟩:=h.cells
 obtain⟨A,c,e,hr⟩:=v2.form
 have hfew:=h.few
 refine⟨h.len,by omega,⟨A,c,by rw [v1,e],hr⟩,fun i hi=>?_,fun i hi hi'=>h.cGen (List.getElem?_eq_getElem hi) (List.getElem?_eq_getElem hi'),fun i hi hi'=>h.cLive (List.getElem?_eq_getElem hi) (List.getElem?_eq_getElem hi'),fun s hs=>(h.rng s hs).gen⟩
 exact h.cIdx (List.getElem?_eq_getElem hi) (List.getElem?_eq_getElem (by rw [←h.len];exact hi))
def ptrL (S:PS) (x:Nat):Option Addr:=if (slA S.D.sl x).isSome then some ⟨pb S.bs x,0,none⟩ else none
theorem ptrN_L (hl:S.bs.length=S.D.sl.length) (x:Nat):ptrN S.bs (atF S.D.sl x)=ptrL S x:=by
 unfold ptrL slA
 cases ha:atF S.D.sl x with
 | none=>rfl
 | some k =>
  obtain⟨h1,s,h2,_⟩:=atF_iff.1 ha
  have hk:k < S.bs.length:=by rw [hl];exact (List.getElem?_eq_some_iff.1 h2).1
  rw [ptrN_some hk]
  have:pb S.bs x=S.bs[k]:=by
   unfold pb;rw [h1,Nat.add_sub_cancel,List.getD_eq_getElem?_getD,List.getElem?_eq_getElem hk];rfl
  simp only [Option.bind_some,h2,Option.isSome_some,if_true,this]
theorem atL_calls (h:PM w o θ S) {x:Nat} (hx:x < 18446744073709551616) (hK:∀w',Below w.heap.size w w'→R (.returned (.pointer (ptrL S x))) w'):Calls Tryz.prog 83 #[.pointer (some ⟨θ.g,0,none⟩),.int .u64 (x:Nat)] w R :=
 atP_calls h.prd hx fun w' hb=>by rw [ptrN_L h.len];exact hK w' hb
theorem hnd_calls (h:PM w o θ S) {x:Nat}{s:Sl} (hx:slA S.D.sl x=some s) (hK:∀w',Below w.heap.size w w'→R (.returned (.int .u64 (x:Nat))) w'):Calls Tryz.prog 61 #[.pointer (some ⟨pb S.bs x,0,none⟩)] w R:=by
 obtain⟨i,h1,h2,h3,h4⟩:=h.of hx
 obtain⟨j,j1,j2,j3,j4⟩:=slA_iff.1 hx
 obtain rfl:j=i:=by omega
 obtain⟨hi,e1⟩:=List.getElem?_eq_some_iff.1 h2
 obtain⟨hi',e2⟩:=List.getElem?_eq_some_iff.1 h3
 rw [←e1]
 refine hndP_calls h.prd hi hi' fun w' hb=>?_
 rw [e2,j4];exact hK w' hb
theorem list_calls {p:Nat} (hK:R (.returned (.pointer (some (lad θ.g S.bs p)))) w):Calls Tryz.prog 120 #[.pointer (some ⟨θ.g,0,none⟩),.pointer (ptrH S.bs p)] w R:=by
 refine ok120 (some ⟨θ.g,0,none⟩) (ptrH S.bs p) ?_
 unfold F120
 unfold ptrH lad at *
 by_cases h0:p=0
 ·rw [if_pos h0] at *
  exact hK
 ·rw [if_neg h0] at *
  simpa [Br,NonNil,Addr.add_mk] using hK
theorem level_calls (h:PM w o θ S) (h0:slA S.D.sl 0=none) {p c:Nat} (hc:Ch (slA S.D.sl) p c) (hc2:c≤64) (hK:R (.returned (.int .i64 ((c:Nat)-1))) w):Calls Tryz.prog 85 #[.pointer (ptrH S.bs p)] w R:=by
 refine ok85 (ptrH S.bs p) ?_
 unfold F85
 refine⟨fun n i w'=>∃(q d:Nat),n=ptrH S.bs q∧Ch (slA S.D.sl) q d∧d≤c∧i=(c:Nat)-1-(d:Nat)∧w=w',fun n i w'=>((c:Nat)-i).toNat,⟨p,c,rfl,hc,Nat.le_refl _,by omega,rfl⟩,?_⟩
 rintro n i _ ⟨q,d,rfl,hd,hdc,rfl,rfl⟩
 unfold F85_l2
 cases hd with
 | zero =>
  have e:(ptrH S.bs 0).isNone=true:=by simp [ptrH]
  rw [e]
  simp only [Bool.not_true,Br_f]
  simpa using hK
 | @succ q d s hq0 ha h3 =>
  have e:ptrH S.bs q=some ⟨pb S.bs q,0,none⟩:=by unfold ptrH;rw [if_neg hq0]
  rw [e]
  obtain⟨k,k1,k2,k3,_⟩:=h.of ha
  simp only [Option.isNone_some,Bool.not_false,Br_t,NonNil_some,Addr.add_mk,Nat.zero_add,h.cPar k2 k3,lds]
  exact⟨inR_i64 (by omega) (by omega),⟨s.parent,d,rfl,h3,by omega,by omega,trivial⟩,(by first | omega | (dsimp only;omega))⟩
theorem shaped_calls {wh:Int}{a:Nat} (hK:R (.returned (.bool (!decide (wh < 1∨4 < wh∨(a=0∧2 < wh))))) w):Calls Tryz.prog 82 #[.int .i64 wh,.int .u64 (a:Nat)] w R:=by
 refine ok82 wh a ?_
 unfold F82
 refine brd (fun h1=>brd (fun h2=>brn (fun h3=>?_) (fun h3=>?_)) (fun h2=>?_)) (fun h1=>?_)
 ·rw [show decide (wh < 1∨4 < wh∨(a=0∧2 < wh))=false from decide_eq_false (by omega)] at hK;exact hK
 ·have e:(!decide (wh < 1∨4 < wh∨(a=0∧2 < wh)))=decide (wh≤2):=by
   by_cases h:wh≤2
   ·rw [decide_eq_true h,decide_eq_false (by omega)];rfl
   ·rw [decide_eq_false h,decide_eq_true (by omega)];rfl
  rw [e] at hK;exact hK
 ·rw [show decide (wh < 1∨4 < wh∨(a=0∧2 < wh))=true from decide_eq_true (by omega)] at hK;exact hK
 ·rw [show decide (wh < 1∨4 < wh∨(a=0∧2 < wh))=true from decide_eq_true (by omega)] at hK;exact hK
theorem par_calls (h:PM w o θ S) {wh:Int}{a:Nat} (hsh:¬(wh < 1∨4 < wh∨(a=0∧2 < wh))) (ha:a=0∨∃s,slA S.D.sl a=some s)
  (hK:R (.returned (.tuple #[.pointer (ptrH S.bs (placeF S.D wh a).1),.int .i64 (placeF S.D wh a).2])) w):Calls Tryz.prog 84 #[.pointer (some ⟨θ.g,0,none⟩),.int .i64 wh,.pointer (ptrH S.bs a)] w R:=by
 refine ok84 (some ⟨θ.g,0,none⟩) wh (ptrH S.bs a) ?_
 unfold F84
 unfold placeF at hK
 rw [if_neg hsh] at hK
 by_cases h0:a=0
 ·rw [if_pos h0] at hK
  have e:ptrH S.bs a=none:=by unfold ptrH;rw [if_pos h0]
  have e0:ptrH S.bs 0=none:=rfl
  rw [e]
  rw [e0] at hK
  refine⟨fun w'=>w=w',fun w' e=>by subst e;unfold F84_j5;exact hK,?_⟩
  refine brd (fun h1=>by omega) (fun h1=>?_)
  exact rfl
 ·rw [if_neg h0] at hK
  obtain⟨s,hs⟩:=ha.resolve_left h0
  rw [hs] at hK
  obtain⟨k,k1,k2,k3,_⟩:=h.of hs
  have e:ptrH S.bs a=some ⟨pb S.bs a,0,none⟩:=by unfold ptrH;rw [if_neg h0]
  rw [e]
  dsimp only at hK
  refine⟨fun w'=>w=w'∧wh≤2∧s.kind≠2,?_,?_⟩
  ·rintro _ ⟨rfl,h1,h2⟩
   unfold F84_j5
   rw [if_pos h1,if_neg h2,e] at hK;exact hK
  ·refine brd (fun h1=>?_) (fun h1=>?_)
   ·rw [if_neg (by omega)] at hK
    simp only [NonNil_some,Addr.add_mk,Nat.zero_add,h.cPar k2 k3,lds]
    exact hK
   ·rw [if_pos (by omega)] at hK
    simp only [Option.isNone_some,Bool.not_false,Br_t,NonNil_some,Addr.add_mk,Nat.zero_add,h.cKind k2 k3,lds]
    refine bre (fun h2=>?_) (fun h2=>⟨trivial,by omega,h2⟩)
    rw [if_pos h2] at hK
    exact hK
theorem idx_calls {l:List Nat}{v:Sv}{b:Nat} (hv:v.2.1=l.length) (hr:Rd LPt w v.1 v.2.2 l) (hl:l.length≤1048576) (hok:∀x,x=b∨x∈l→∃c t,w.heap[x]?=some (.cells c t (0,0))) (hm:b∈l)
  (hK:R (.returned (.int .i64 (l.idxOf b:Nat))) w):Calls Tryz.prog 121 #[slV v,.pointer (some ⟨b,0,none⟩)] w R:=by
 refine ok121 v.1 v.2.1 v.2.2 (some ⟨b,0,none⟩) ?_
 unfold F121
 refine⟨fun i w'=>∃k:Nat,i=k∧k≤l.idxOf b∧w=w',fun i _=>l.length-i.toNat,⟨0,rfl,by omega,rfl⟩,?_⟩
 rintro i _ ⟨k,rfl,hk,rfl⟩
 unfold F121_l2
 have hlt:l.idxOf b < l.length:=List.idxOf_lt_length_iff.2 hm
 refine brd (fun h1=>?_) (fun h1=>by omega)
 have hk2:k < l.length:=by omega
 refine hr.pt hv rfl hk2 fun x y c0=>?_
 simp only [c0,lds]
 refine⟨fun p q e1 e2 hne=>?_,brd (fun e=>?_) (fun e=>?_)⟩
 ·cases e1;cases e2
  exact⟨hok _ (.inl rfl),hok _ (.inr (List.getElem_mem hk2))⟩
 ·have e:b=l[k]:=by simpa using e
  have:l.idxOf b=k:=by
   rcases Nat.lt_or_ge k (l.idxOf b) with h2 | h2
   ·have:=List.not_of_lt_findIdx (p:=(· == b)) (xs:=l) h2
    exact absurd e.symm (by simpa using this)
   ·omega
  rw [this] at hK;exact hK
 ·have e:l[k]≠b:=fun h2=>e (by rw [h2])
  have:k≠l.idxOf b:=fun h2=>e (by
   have:=List.getElem_idxOf hlt
   simp only [←h2] at this
   exact this)
  exact⟨inR_i64 (by omega) (by omega),⟨k+1,by simp,by omega,trivial⟩,(by first | omega | (dsimp only;omega))⟩
end
set_option maxRecDepth 100000
def wornN (sl:List Sl):Nat:=(sl.filter fun s=>!s.live && decide (4294967295≤s.gen)).length
theorem tk_sum (sl:List Sl):tk sl=liveN sl+wornN sl:=by
 induction sl with
 | nil=>rfl
 | cons s l ih =>
  unfold tk liveN wornN at *
  simp only [List.filter_cons]
  cases hl:s.live <;> cases hd:decide (4294967295≤s.gen) <;> simp_all <;> omega
theorem live_set {sl:List Sl}{k:Nat}{a b:Sl} (h:sl[k]?=some a):liveN (sl.set k b)+(if a.live then 1 else 0)=liveN sl+(if b.live then 1 else 0):=filter_set_len (fun s:Sl=>s.live) sl k a b h
theorem worn_set {sl:List Sl}{k:Nat}{a b:Sl} (h:sl[k]?=some a):wornN (sl.set k b)+(if (!a.live && decide (4294967295≤a.gen)) then 1 else 0)=wornN sl+(if (!b.live && decide (4294967295≤b.gen)) then 1 else 0):=filter_set_len (fun s:Sl=>!s.live && decide (4294967295≤s.gen)) sl k a b h
theorem live_room {sl:List Sl}:liveN (roomF sl)=liveN sl∧wornN (roomF sl)=wornN sl:=by
 unfold roomF liveN wornN
 split
 ·exact⟨rfl,rfl⟩
 ·rw [List.filter_append,List.filter_append];simp [deadS]
def bornS (g:Nat):Sl:=⟨g,true,0,noB,[],noB,0,[]⟩
structure PI (S:PS):Prop where
 lv:S.lv=liveN S.D.sl
 wn:S.wn=wornN S.D.sl
 lo:S.lo≤S.D.sl.length
 lo2:∀(i:Nat) (s:Sl),i < S.lo→S.D.sl[i]?=some s→s.live=true∨4294967295≤s.gen
def Cl (S:PS) (c:Nat):Prop:=pc c∧∀(i:Nat) (s:Sl),S.D.sl[i]?=some s→s.live=true→c≠8+4*i
theorem free_low {sl:List Sl}{n:Nat} (h:∀(i:Nat) (s:Sl),i < n→sl[i]?=some s→s.live=true∨4294967295≤s.gen) (hn:n≤sl.length):n≤freeI sl:=by
 refine Classical.byContradiction fun hlt=>?_
 have hf:freeI sl < sl.length:=by omega
 obtain⟨s,h1,h2,h3⟩:=freeI_lt hf
 rcases h _ s (by omega) h1 with h4 | h4
 ·rw [h2] at h4;cases h4
 ·omega
theorem below_free {sl:List Sl}{i:Nat}{s:Sl} (hi:i < freeI sl) (hs:sl[i]?=some s):s.live=true∨4294967295≤s.gen:=by
 have h1:=List.not_of_lt_findIdx (p:=fun s:Sl=>!s.live && decide (s.gen < 4294967295)) (xs:=sl) hi
 obtain⟨hl,e⟩:=List.getElem?_eq_some_iff.1 hs
 rw [e] at h1
 cases hv:s.live
 ·simp [hv] at h1;exact .inr h1
 ·exact .inl rfl
def lowIn (g:Nat) (w:World):Nat:=match w.cell? ⟨g,4,none⟩ with | some (.int _ n)=>n.toNat | _=>0
section
variable {w w1 w2:World}{o o1 o2:Nat→Nat}{θ:Th}{S:PS}{M:Nat→Prop}{bs:List Nat}{R:Ending→World→Prop}
theorem Cl_zero:¬Cl S 0:=fun h=>not_pc0 h.1
theorem Cl_doc {c:Nat} (h:c=1∨c=2∨c=3):Cl S c:=by
 refine⟨?_,fun i s _ _=>by omega⟩
 unfold pc;omega
theorem Cl_node {c i:Nat} (h:c=8+4*i∨c=9+4*i∨c=10+4*i) (hd:∀s,S.D.sl[i]?=some s→s.live=false):Cl S c:=by
 refine⟨?_,fun j s hs hl e=>?_⟩
 ·unfold pc;omega
 ·have:j=i:=by omega
  subst this
  rw [hd s hs] at hl;cases hl
theorem lowIn_pm (h:PM w o θ S):lowIn θ.g w=S.lo:=by unfold lowIn;rw [h.cells.2.2.2];simp
theorem fresh_calls (h:PM w o θ S) (hp:PI S) (hw:WfS S.D.sl) (ht:tk S.D.sl < 4096) (hK:∀w' o' S' b,PM w' o' θ S'→PI S'→S'.D={ S.D with sl:=(roomF S.D.sl).set (freeI S.D.sl) (bornS (genI S.D.sl)) }→(∃x,S'.bs=S.bs++x) →
   S'.bs[freeI S.D.sl]?=some b→EvC (Cl S) w o w' o'→R (.returned (.pointer (some ⟨b,0,none⟩))) w'):Calls Tryz.prog 119 #[.pointer (some ⟨θ.g,0,none⟩)] w R:=by
 refine ok119 (some ⟨θ.g,0,none⟩) ?_
 unfold F119
 have hlo:=free_low hp.lo2 hp.lo
 have hfl:=freeI_le (sl:=S.D.sl)
 have hfew:=h.few
 have hlt:=h.lt
 have tr:∀{w1 w2:World}{o1 o2:Nat→Nat},EvC (Cl S) w o w1 o1→EvC (Cl S) w1 o1 w2 o2→EvC (Cl S) w o w2 o2:=fun a b=>a.trans Cl_zero hlt (fun _ _ h=>h) b
 refine⟨fun w'=>PM w' o θ { S with lo:=freeI S.D.sl }∧EvC (Cl S) w o w' o,?_,?_⟩
 ·rintro w1 ⟨h1,e1⟩
  unfold F119_j3
  refine⟨fun w'=>∃o' S',PM w' o' θ S'∧S'.D={ S.D with sl:=roomF S.D.sl }∧S'.lv=S.lv∧S'.wn=S.wn∧S'.lo=freeI S.D.sl∧(∃x,S'.bs=S.bs++x)∧EvC (Cl S) w o w' o',?_,?_⟩
  ·rintro w2 ⟨o2,S2,h2,hD,hlv,hwn,hlo2,hbs,e2⟩
   unfold F119_j5
   refine dr fun w3 hb3 _=>?_
   have h3:=h2.below hb3
   obtain⟨⟨v,v1,v2,v3⟩,_,_,c4⟩:=h3.cells
   obtain⟨A,c,ev,hr⟩:=v2.form
   obtain⟨s,s1,s2,s3,s4⟩:=room_get hw
   have hsl:S2.D.sl=roomF S.D.sl:=by rw [hD]
   have hgl:=(List.getElem?_eq_some_iff.1 s1).1
   have hlen:=h3.len
   rw [hsl] at hlen
   have hgb:freeI S.D.sl < S2.bs.length:=by omega
   have k1:S2.bs[freeI S.D.sl]?=some S2.bs[freeI S.D.sl]:=List.getElem?_eq_getElem hgb
   generalize hb:S2.bs[freeI S.D.sl]=b at k1
   have k2:S2.D.sl[freeI S.D.sl]?=some s:=by rw [hsl];exact s1
   rw [hlo2] at c4
   rw [ev] at v1
   have hdead:∀t,S.D.sl[freeI S.D.sl]?=some t→t.live=false:=fun t ht=>by
    have:=room_old ht
    rw [s1] at this;cases this;exact s4
   simp only [NonNil_some,v1,c4,lds]
   refine hr.pt rfl rfl hgb fun x y c0=>?_
   rw [hb] at c0
   simp only [c0,NonNil_some,h3.cGen k1 k2,lds]
   have e5:((s.gen:Nat):Int)+1=((s.gen+1:Nat):Int):=by omega
   rw [e5]
   refine⟨⟨by simp [IntKind.min,IntKind.signed];omega,by simp [IntKind.max,IntKind.signed,IntKind.bits];omega⟩,?_⟩
   refine h3.stGen k1 k2 (g:=s.gen+1) (by omega) fun w4 h4 e4=>?_
   have k3:(S2.setS (freeI S.D.sl) { s with gen:=s.gen+1 }).D.sl[freeI S.D.sl]?=some { s with gen:=s.gen+1 }:=by simp [PS.setS,hsl,hgl]
   refine h4.stLiv (b:=b) k1 k3 true fun w5 h5 e5'=>?_
   obtain⟨_,d2,_,_⟩:=h5.cells
   have d2:w5.cell? ⟨θ.g,2,none⟩=some (.int .i64 (S.lv:Nat)):=by rw [←hlv];exact d2
   simp only [d2,lds]
   have hlvn:=hp.lv
   have htk:=tk_sum S.D.sl
   have e6:((S.lv:Nat):Int)+1=((S.lv+1:Nat):Int):=by omega
   rw [e6]
   refine⟨inR_i64 (by omega) (by omega),h5.stLive (S.lv+1) (by omega) fun w6 h6 e7=>?_⟩
   have hev:EvC (Cl S) w o w6 o2:=by
    refine tr (tr (tr (tr e2 (EvC.below hb3)) (e4.mono fun c hc=>Cl_node hc hdead)) (e5'.mono fun c hc=>Cl_node hc hdead)) (e7.mono fun c hc=>Cl_doc hc)
   obtain⟨S6,hS6⟩:∃S6:PS,S6={ (S2.setS (freeI S.D.sl) { s with gen:=s.gen+1 }).setS (freeI S.D.sl) { { s with gen:=s.gen+1 } with live:=true } with lv:=S.lv+1 }:=⟨_,rfl⟩
   have h6':PM w6 o2 θ S6:=by rw [hS6];exact h6
   have hfin:S6.D.sl=(roomF S.D.sl).set (freeI S.D.sl) (bornS (genI S.D.sl)):=by
    rw [hS6]
    show (S2.D.sl.set _ _).set _ _=_
    rw [List.set_set,hsl,genI_eq s1]
    congr 1
    rw [s2];rfl
   have f1:S6.lv=S.lv+1:=by rw [hS6]
   have f2:S6.wn=S2.wn:=by rw [hS6];rfl
   have f3:S6.lo=S2.lo:=by rw [hS6];rfl
   have f4:S6.bs=S2.bs:=by rw [hS6];rfl
   have f5:S6.D.roots=S2.D.roots:=by rw [hS6];rfl
   have hset:=live_set (b:=(bornS (genI S.D.sl))) s1
   have wset:=worn_set (b:=(bornS (genI S.D.sl))) s1
   rw [s4] at hset wset
   have hg2:¬4294967295≤s.gen:=by omega
   simp [live_room.1,live_room.2,hg2,show (bornS (genI S.D.sl)).live=true from rfl] at hset wset
   refine hK w6 o2 S6 b h6' ⟨?_,?_,?_,?_⟩ ?_ (by rw [f4];exact hbs) (by rw [f4];exact k1) hev
   ·rw [f1,hfin];omega
   ·rw [f2,hfin,hwn,hp.wn];omega
   ·rw [f3,hfin,hlo2,List.length_set];omega
   ·intro i t hi ht2
    rw [f3,hlo2] at hi
    rw [hfin,List.getElem?_set_ne (by omega)] at ht2
    have hi2:i < S.D.sl.length:=by omega
    have:=room_old (List.getElem?_eq_getElem hi2)
    rw [this] at ht2
    exact below_free hi (by rw [←ht2];exact List.getElem?_eq_getElem hi2)
   ·cases hS:S6.D with
    | mk l r =>
     rw [hS] at hfin f5
     dsimp only at hfin f5
     rw [hfin,f5,hD]
  ·refine dr fun w2 hb2 _=>?_
   have h2:=h1.below hb2
   obtain⟨⟨v,v1,v2,v3⟩,_,_,c4⟩:=h2.cells
   obtain⟨A,c,ev,hr⟩:=v2.form
   rw [ev] at v1
   have c4:w2.cell? ⟨θ.g,4,none⟩=some (.int .i64 (freeI S.D.sl:Nat)):=c4
   have hlen:S.bs.length=S.D.sl.length:=h2.len
   simp only [NonNil_some,v1,c4,lds]
   refine bre (fun heq=>?_) (fun hne=>?_)
   ·have heq:freeI S.D.sl=S.bs.length:=Int.ofNat.inj heq
    have hfull:¬freeI S.D.sl < S.D.sl.length:=by omega
    have hl4:S.D.sl.length < 4096:=by have:=tk_full hfull;omega
    refine⟨fun w'=>Below w2.heap.size w2 w',(Below.refl _ _).drew,?_⟩
    refine⟨_,_,_,fun w' hb=>by rw [(sub_below hb).cell v1],?_⟩
    refine⟨_,fun w' hb=>by rw [(sub_below hb).cell c4],?_⟩
    have e5:((freeI S.D.sl:Nat):Int)+1=((freeI S.D.sl+1:Nat):Int):=by omega
    rw [e5]
    refine⟨inR_i64 (by omega) (by omega),⟨by simp [IntKind.min,IntKind.signed];omega,by simp [IntKind.max,IntKind.signed,IntKind.bits];omega⟩,?_⟩
    refine al fun b w3 hb3 bn hge3=>?_
    have D3:Below w2.heap.size w2 w3:=btr ((Below.refl _ w2).drew) (by simp) hb3
    refine⟨D3,al fun g5 w4 hb4 b5 hge4=>?_⟩
    have D4:=btr D3 D3.size hb4
    refine⟨D4,?_⟩
    have hO4:Own LPt w4 0 115 (.slice A S.bs.length c) S.bs:=by rw [←ev];exact v2.keep D4
    have hbl:=bn.lt
    have hgeb:w2.heap.size≤b:=by simpa using hge3
    refine ap (L:=LPt) (xs:=S.bs) (ys:=[b]) (base:=0) (.pointer none) 8 rfl (by kernel_rfl) (by kernel_rfl) (by kernel_rfl) hO4 ?_ (Nat.zero_le _) (by simp;omega) (by simp [maxLen];omega) fun A' c' w5 o5 g5'=>⟨A',_,c',rfl,?_⟩
    ·refine⟨by simp,by simp [maxLen],fun h0=>(by cases h0),fun _=>⟨g5,0,rfl,fun j u hj=>?_⟩⟩
     rw [LPt.all_one] at hj
     rw [b5.cell];simpa [LPt] using hj
    ·have F5:Fm (fun x=>rowOf (slV (A,S.bs.length,c))=some x) w2 w5:=(Fm.below D4).trans (Fm.grown g5'.grown fun x hx=>hx)
     have hbn5:Blk w5 b (nodeC S.D.sl.length (deadS 0) (none,0,0) none (none,0,0)) 117:=by
      have bn4:=bn.keep hb4
      have:Blk w5 b _ 117:=(Fm.grown g5'.grown (M:=fun x=>rowOf (slV (A,S.bs.length,c))=some x) fun x hx=>hx).blk bn4 fun e=>by
       have:=v3 b (by rw [ev];exact e)
       have:=h2.lt b (by rw [this];decide)
       omega
      rw [heq,hlen] at this
      exact this
     refine h2.grow (v:=(A,S.bs.length,c)) (v':=(A',S.bs.length+1,c')) hgeb hbn5 (fun x hx=>v3 x (by rw [ev];exact hx)) F5 o5 ?_ hl4 fun w6 o6 h6 e6=>?_
     ·rcases g5'.row with e | e | ⟨g,e,hge⟩
      ·exact .inl e
      ·exact .inr (.inl e)
      ·refine .inr (.inr ⟨g,e,?_,?_⟩)
       ·have:=D4.size;omega
       ·have:=hb4.size;omega
     ·refine⟨o6,_,h6,?_,rfl,rfl,rfl,⟨[b],rfl⟩,tr (tr e1 (EvC.below hb2)) (e6.mono fun c hc=>Cl_doc (by omega))⟩
      show { S.D with sl:=S.D.sl++[deadS 0] }=_
      unfold roomF
      rw [if_neg hfull]
   ·have hne:freeI S.D.sl≠S.bs.length:=fun e=>hne (by rw [e])
    refine⟨o,_,h2,?_,rfl,rfl,rfl,⟨[],by simp⟩,tr e1 (EvC.below hb2)⟩
    show S.D=_
    unfold roomF
    rw [if_pos (by omega)]
 ·refine⟨fun w'=>∃n,n≤freeI S.D.sl∧PM w' o θ { S with lo:=n }∧EvC (Cl S) w o w' o,fun w'=>4097-lowIn θ.g w',⟨S.lo,hlo,h,EvC.refl⟩,?_⟩
  rintro w1 ⟨n,hn,h1,e1⟩
  have hlw:lowIn θ.g w1=n:=lowIn_pm h1
  unfold F119_l1
  refine⟨fun w'=>n < freeI S.D.sl∧PM w' o θ { S with lo:=n }∧EvC (Cl S) w o w' o,?_,?_⟩
  ·rintro w2 ⟨hn2,h2,e2⟩
   unfold F119_j2
   obtain⟨_,_,_,c4⟩:=h2.cells
   have c4:w2.cell? ⟨θ.g,4,none⟩=some (.int .i64 (n:Nat)):=c4
   simp only [NonNil_some,c4,lds]
   have e5:((n:Nat):Int)+1=((n+1:Nat):Int):=by omega
   rw [e5]
   refine⟨inR_i64 (by omega) (by omega),h2.stLow (n+1) (by omega) fun w3 h3 e3=>⟨⟨n+1,by omega,h3,tr e2 (e3.mono fun c hc=>Cl_doc hc)⟩,?_⟩⟩
   have:=lowIn_pm h3
   dsimp only at this
   rw [this,hlw];omega
  ·refine dr fun w2 hb2 _=>?_
   have h2:=h1.below hb2
   have e2:=tr e1 (EvC.below hb2)
   obtain⟨⟨v,v1,v2,v3⟩,_,_,c4⟩:=h2.cells
   obtain⟨A,c,ev,hr⟩:=v2.form
   rw [ev] at v1
   have c4:w2.cell? ⟨θ.g,4,none⟩=some (.int .i64 (n:Nat)):=c4
   have hlen:S.bs.length=S.D.sl.length:=h2.len
   simp only [NonNil_some,v1,c4,lds]
   have exit:(∀s,S.D.sl[n]?=some s→s.live=false∧s.gen < 4294967295)→n=freeI S.D.sl:=fun hs=>by
    refine Classical.byContradiction fun hne=>?_
    have hlt2:n < freeI S.D.sl:=by omega
    have hl:n < S.D.sl.length:=by omega
    have:=below_free hlt2 (List.getElem?_eq_getElem hl)
    obtain⟨a,b⟩:=hs _ (List.getElem?_eq_getElem hl)
    rcases this with h3 | h3
    ·rw [a] at h3;cases h3
    ·omega
   refine brd (fun hlt2=>?_) (fun hge=>?_)
   ·have hnl:n < S.bs.length:=by simpa using hlt2
    have k1:S.bs[n]?=some S.bs[n]:=List.getElem?_eq_getElem hnl
    have k2:S.D.sl[n]?=some (S.D.sl[n]'(by omega)):=List.getElem?_eq_getElem (by omega)
    generalize hb:S.bs[n]=b at k1
    generalize (S.D.sl[n]'(by omega))=s at k2
    refine hr.pt rfl rfl hnl fun x y c0=>?_
    rw [hb] at c0
    have gl:=h2.cLive k1 k2
    have gg:=h2.cGen k1 k2
    simp only [c0,gl,NonNil_some,lds]
    have notfree:(s.live=true∨4294967295≤s.gen)→n < freeI S.D.sl:=fun hs=>by
     refine Nat.lt_of_le_of_ne hn fun e=>?_
     have hf:freeI S.D.sl < S.D.sl.length:=by omega
     obtain⟨t,t1,t2,t3⟩:=freeI_lt hf
     rw [←e,k2] at t1;cases t1
     rcases hs with h3 | h3
     ·rw [t2] at h3;cases h3
     ·omega
    refine br (fun hl=>⟨notfree (.inl hl),h2,e2⟩) (fun hl=>?_)
    refine hr.pt rfl rfl hnl fun x y c0=>?_
    rw [hb] at c0
    simp only [c0,gg,NonNil_some,lds]
    refine bre (fun hg=>⟨notfree (.inr (by omega)),h2,e2⟩) (fun hg=>?_)
    have hsg:=(h.rng s (List.mem_of_getElem? k2)).gen
    have:=exit fun t ht=>by rw [k2] at ht;cases ht;exact⟨hl,by omega⟩
    rw [←this]
    exact⟨h2,e2⟩
   ·have:=exit fun t ht=>by
     have:=(List.getElem?_eq_some_iff.1 ht).1
     have hge:¬((n:Nat):Int) < ((S.bs.length:Nat):Int):=hge
     omega
    rw [←this]
    exact⟨h2,e2⟩
end
set_option maxRecDepth 100000
theorem cloneOwn_calls (l:List At) (v:Sv) {w:World}{R:Ending→World→Prop} (hl:RR LAt w l v) (h:∀v' w',Below w.heap.size w w'→Own LAt w' w.heap.size 120 (slV v') l→R (.returned (slV v')) w') :
  Calls Tryz.prog 60 #[slV v] w R:=by
 refine ok60 v.1 v.2.1 v.2.2 ?_
 unfold F60
 refine br (fun hz=>?_) (fun hz=>?_)
 ·have h1:v.1=none:=by simpa using hz
  have h2:=hl.2.2.2.2.1 h1
  have h3:=hl.2.2.1
  have:l=[]:=List.eq_nil_of_length_eq_zero (by omega)
  subst this
  exact h (none,0,0) w (Below.refl _ _) (Own.nil _ _ _ _)
 ·refine al fun g w1 hb1 b1 hge=>?_
  obtain⟨h1,h2,h3⟩:=hl.keep hb1
  have hm:l.length*32≤1048576*32:=Nat.mul_le_mul h1 (Nat.le_refl _)
  refine ap (L:=LAt) (xs:=[]) (ys:=l) (base:=w.heap.size) (.agg #[.string ⟨#[]⟩,.string ⟨#[]⟩]) 32 h2 rfl rfl rfl (Own.bare _ _ _ _ _) h3 hb1.size (by simp only [List.length_nil,Nat.zero_add];omega) (by simp [maxLen];omega) fun A' c' w2 o2 g2=>⟨_,_,_,rfl,?_⟩
  exact h (A',_,c') w2 (hb1.trans g2.below) (by rw [List.nil_append] at o2;exact o2)
theorem makesF_snoc {x:Tr}{h i:Nat}:∀(l:List Tr) (sl:List Sl),makesF (l++[x]) h i sl=(makeF x h (makesF l h i sl)).modify i fun s=>{ s with kids:=s.kids++[freshH (makesF l h i sl)] }
 | [],sl=>by
  rw [List.nil_append,makesF]
  simp only [makesF]
 | y :: l,sl=>by
  rw [List.cons_append,makesF]
  conv=>rhs;simp only [makesF]
  exact makesF_snoc l _
theorem okL_take:∀(l:List Tr) (k:Nat),okL l→okL (l.take k)
 | [],k,h=>by simp [okL]
 | x :: l,0,h=>by simp [okL]
 | x :: l,k+1,h=>by
  simp only [List.take_succ_cons,okL] at *
  exact⟨h.1,okL_take l k h.2⟩
theorem okL_get:∀(l:List Tr) (k:Nat) (hk:k < l.length),okL l→okT l[k]
 | [],k,hk,h=>by simp at hk
 | x :: l,0,hk,h=>by simp only [okL] at h;exact h.1
 | x :: l,k+1,hk,h=>by simp only [okL] at h;exact okL_get l k (by simpa using hk) h.2
theorem dpL_take:∀(l:List Tr) (k:Nat),dpL (l.take k)≤dpL l
 | [],k=>by simp [dpL]
 | x :: l,0=>by simp [dpL]
 | x :: l,k+1=>by
  have:=dpL_take l k
  simp only [List.take_succ_cons,dpL];omega
theorem dpL_get:∀(l:List Tr) (k:Nat) (hk:k < l.length),dpT l[k]≤dpL l
 | [],k,hk=>by simp at hk
 | x :: l,0,hk=>by simp only [List.getElem_cons_zero,dpL];omega
 | x :: l,k+1,hk=>by
  have:=dpL_get l k (by simpa using hk)
  simp only [List.getElem_cons_succ,dpL];omega
theorem szL_get:∀(l:List Tr) (k:Nat) (hk:k < l.length),szL (l.take k)+szT l[k]≤szL l
 | [],k,hk=>by simp at hk
 | x :: l,0,hk=>by simp only [List.take_zero,List.getElem_cons_zero,szL];omega
 | x :: l,k+1,hk=>by
  have:=szL_get l k (by simpa using hk)
  simp only [List.take_succ_cons,List.getElem_cons_succ,szL];omega
theorem szL_take:∀(l:List Tr) (k:Nat),szL (l.take k)≤szL l
 | [],k=>by simp
 | x :: l,0=>by simp [szL]
 | x :: l,k+1=>by
  have:=szL_take l k
  simp only [List.take_succ_cons,szL];omega
section
variable {w w1 w2:World}{o o1 o2:Nat→Nat}{θ:Th}{S:PS}{M:Nat→Prop}{bs:List Nat}{R:Ending→World→Prop}
theorem PI.set (h:PI S) {i:Nat}{s s':Sl} (hs:S.D.sl[i]?=some s) (hl:s'.live=s.live) (hg:s'.gen=s.gen):PI (S.setS i s'):=by
 have h1:=live_set (b:=s') hs
 have h2:=worn_set (b:=s') hs
 rw [hl] at h1
 rw [hl,hg] at h2
 refine⟨?_,?_,?_,fun j t hj ht=>?_⟩
 ·show S.lv=liveN (S.D.sl.set i s');rw [h.lv];omega
 ·show S.wn=wornN (S.D.sl.set i s');rw [h.wn];omega
 ·show S.lo≤(S.D.sl.set i s').length;rw [List.length_set];exact h.lo
 ·have ht:(S.D.sl.set i s')[j]?=some t:=ht
  by_cases e:i=j
  ·subst e
   rw [List.getElem?_set_self (List.getElem?_eq_some_iff.1 hs).1] at ht
   cases ht
   rw [hl,hg];exact h.lo2 i s hj hs
  ·rw [List.getElem?_set_ne e] at ht
   exact h.lo2 j t hj ht
theorem pb_ext {y:List Nat}{h:Nat} (hh:inN bs.length h):pb (bs++y) h=pb bs h:=by
 obtain⟨h1,h2⟩:=hh
 unfold pb
 rw [List.getD_eq_getElem?_getD,List.getD_eq_getElem?_getD,List.getElem?_append_left (by omega)]
theorem ptr_ext {y:List Nat}{h:Nat} (hh:h=0∨inN bs.length h):ptrH (bs++y) h=ptrH bs h:=by
 unfold ptrH
 split
 ·rfl
 ·rw [pb_ext (hh.resolve_left (by assumption))]
theorem live_inN {sl:List Sl}{p:Nat} (hp:p=0∨∃t,slA sl p=some t∧t.kind=1):p=0∨inN sl.length p:=by
 rcases hp with hp | ⟨t,ht,_⟩
 ·exact .inl hp
 ·obtain⟨k,h1,h2,_⟩:=slA_iff.1 ht
  have:=(List.getElem?_eq_some_iff.1 h2).1
  exact .inr ⟨by omega,by omega⟩
theorem live_few {sl:List Sl}{l:List Nat} (hl:∀h∈l,∃s,slA sl h=some s) (hn:l.Nodup):l.length≤sl.length:=by
 have h1:(l.map fun h=>h % 4294967296-1).Nodup:=by
  refine List.pairwise_map.2 (List.Pairwise.imp_of_mem (fun {a b} ha hb hab e=>?_) hn)
  obtain⟨s,hs⟩:=hl a ha
  obtain⟨t,ht⟩:=hl b hb
  obtain⟨i,i1,i2,i3,i4⟩:=slA_iff.1 hs
  obtain⟨j,j1,j2,j3,j4⟩:=slA_iff.1 ht
  obtain rfl:i=j:=by omega
  rw [i2] at j2;cases j2
  exact hab (i4.symm.trans j4)
 have h2:=nodup_sub h1 (b:=List.range sl.length) fun x hx=>by
  obtain⟨h,hh,rfl⟩:=List.mem_map.1 hx
  obtain⟨s,hs⟩:=hl h hh
  obtain⟨i,i1,i2,i3,i4⟩:=slA_iff.1 hs
  have:=(List.getElem?_eq_some_iff.1 i2).1
  exact List.mem_range.2 (by omega)
 simpa using h2
theorem setS_setS {i:Nat}{a b:Sl}:(S.setS i a).setS i b=S.setS i b:=by unfold PS.setS;dsimp only;rw [List.set_set]
theorem make_calls:∀(x:Tr) {w:World}{o:Nat→Nat}{S:PS}{p c:Nat}{loose:List Nat}{e:E5}{R:Ending→World→Prop},PM w o θ S→PI S→okT x→WfS S.D.sl→WfA (slA S.D.sl) S.D.roots loose→(p=0∨∃t,slA S.D.sl p=some t∧t.kind=1) →
  Ch (slA S.D.sl) p c→c+dpT x≤64→tk S.D.sl+szT x≤4096→RTr (wc o w) x e →
  (∀w' o' S',PM w' o' θ S'→PI S'→S'.D={ S.D with sl:=makeF x p S.D.sl }→(∃y,S'.bs=S.bs++y)→EvC (Cl S) w o w' o'→R (.returned (.pointer (ptrH S'.bs (freshH S.D.sl)))) w') →
  Calls Tryz.prog 86 #[.pointer (some ⟨θ.g,0,none⟩),.agg #[.int .i64 e.kind,.string e.nm,slV e.ats,.string e.text,slV e.kids],.pointer (ptrH S.bs p)] w R:=by
 refine Tr.ind fun kind nm attrs text kids ih=>?_
 intro w o S p c loose e R h hp hok hw hA hpp hc hd ht hT hK
 simp only [RTr] at hT
 obtain⟨t1,t2,t3,t4,t5,es,t6,t7,t8⟩:=hT
 have hel:=t8.len
 have hW:=make_wf (.mk kind nm attrs text kids) hok hw hA hpp hc hd ht
 unfold okT at hok
 obtain⟨ok1,ok2,ok3⟩:=hok
 unfold dpT at hd
 unfold szT at ht
 have htk:tk S.D.sl < 4096:=by split at ht <;> omega
 have hlt:=h.lt
 refine ok86 (some ⟨θ.g,0,none⟩) e.kind e.nm e.ats.1 e.ats.2.1 e.ats.2.2 e.text e.kids.1 e.kids.2.1 e.kids.2.2 (ptrH S.bs p) ?_
 unfold F86
 refine al fun g4 w1 hb1 b4 hge4=>?_
 have h1:=h.below hb1
 have o4:o g4=0:=Classical.byContradiction fun h0=>by have:=hlt g4 h0;omega
 refine fresh_calls h1 hp hw htk fun w2 o2 S2 b h2 p2 hD2 ⟨y2,hy2⟩ hb2 e2=>⟨_,rfl,?_⟩
 have tr:∀{w1 w2:World}{o1 o2:Nat→Nat},EvC (Cl S) w o w1 o1→EvC (Cl S) w1 o1 w2 o2→EvC (Cl S) w o w2 o2:=fun a b=>a.trans Cl_zero hlt (fun _ _ h=>h) b
 have E2:EvC (Cl S) w o w2 o2:=tr (EvC.below hb1) e2
 obtain⟨sd,d1,d2,d3,d4⟩:=room_get hw
 generalize hi:freeI S.D.sl=i at *
 generalize hg:genI S.D.sl=g at *
 have hgl:=(List.getElem?_eq_some_iff.1 d1).1
 have hsl2:S2.D.sl=(roomF S.D.sl).set i (bornS g):=by rw [hD2]
 have k2:S2.D.sl[i]?=some (bornS g):=by rw [hsl2];simp [hgl]
 have hdead:∀t,S.D.sl[i]?=some t→t.live=false:=fun t ht=>by
  have:=room_old ht
  rw [d1] at this;cases this;exact d4
 have g4k:∀{w':World}{o':Nat→Nat}{ce:Array Value}{ty:TypeId},EvC (Cl S) w1 o w' o'→Blk w1 g4 ce ty→Blk w' g4 ce ty:=fun ev hb=>ev.fm.blk hb (by rw [o4];exact Cl_zero)
 have B2:=g4k e2 b4
 simp only [Addr.add_mk,Nat.zero_add,NonNil_some,B2.cell,lds]
 refine h2.stKind hb2 k2 e.kind fun w3 h3 e3=>?_
 have h3:PM w3 o2 θ (S2.setS i ⟨g,true,e.kind,noB,[],noB,0,[]⟩):=h3
 have kS:∀s',(S2.setS i s').D.sl[i]?=some s':=fun s'=>by simp [PS.setS,hsl2,hgl]
 have hpn:p=0∨inN S.bs.length p:=by rw [h.len];exact live_inN hpp
 have hlen2:S.D.sl.length≤S2.D.sl.length:=by
  rw [hsl2,List.length_set]
  rcases room_len (sl:=S.D.sl) with h | h <;> omega
 have hlenS:∀s',(S2.setS i s').D.sl.length=S2.D.sl.length:=fun s'=>by simp [PS.setS]
 have hpn2:p=0∨inN (S2.setS i ⟨g,true,e.kind,noB,[],noB,0,[]⟩).D.sl.length p:=by
  rcases hpn with e | ⟨a,b⟩
  ·exact .inl e
  ·refine .inr ⟨a,?_⟩
   rw [h.len] at b
   rw [hlenS];omega
 have hpe:ptrH S.bs p=ptrH (S2.setS i ⟨g,true,e.kind,noB,[],noB,0,[]⟩).bs p:=by
  show _=ptrH S2.bs p
  rw [hy2];exact (ptr_ext hpn).symm
 rw [hpe]
 refine h3.stPar (b:=b) hb2 (kS _) hpn2 fun w4 h4 e4=>?_
 have h4:PM w4 o2 θ (S2.setS i ⟨g,true,e.kind,noB,[],noB,p,[]⟩):=by rw [setS_setS] at h4;exact h4
 have nd:∀{c:Nat},(c=8+4*i∨c=9+4*i∨c=10+4*i)→Cl S c:=fun hc=>Cl_node hc hdead
 have e24:EvC (Cl S) w1 o w4 o2:=(e2.trans Cl_zero h1.lt (fun _ _ h=>h) (e3.mono fun c hc=>nd hc)).trans Cl_zero h1.lt (fun _ _ h=>h) (e4.mono fun c hc=>nd hc)
 have E4:EvC (Cl S) w o w4 o2:=tr (EvC.below hb1) e24
 have B4:=g4k e24 b4
 have p4:PI (S2.setS i ⟨g,true,e.kind,noB,[],noB,p,[]⟩):=p2.set k2 rfl rfl
 have hh:freshH S.D.sl % 4294967296=i+1:=by
  have:=(room_wf hw htk).few
  unfold freshH;rw [hi];exact hnd_mod (by omega)
 have hne:freshH S.D.sl≠0:=by unfold freshH hnd;omega
 have hfin:∀{bs':List Nat},(∃y,bs'=S2.bs++y)→pb bs' (freshH S.D.sl)=b:=fun {bs'} ⟨y,hy⟩=>by
  unfold pb
  rw [hh,Nat.add_sub_cancel,hy,List.getD_eq_getElem?_getD,List.getElem?_append_left (List.getElem?_eq_some_iff.1 hb2).1,hb2];rfl
 have hfinp:∀{bs':List Nat},(∃y,bs'=S2.bs++y)→ptrH bs' (freshH S.D.sl)=some ⟨b,0,none⟩:=fun {bs'} hy=>by
  unfold ptrH
  rw [if_neg hne,hfin hy]
 have hDS:∀s',(S2.setS i s').D={ S.D with sl:=(roomF S.D.sl).set i s' }:=fun s'=>by
  show { S2.D with sl:=S2.D.sl.set i s' }=_
  rw [hD2]
  dsimp only
  rw [List.set_set]
 simp only [Addr.add_mk,Nat.zero_add,NonNil_some,B4.cell,lds]
 refine bre (fun hk=>?_) (fun hk=>?_)
 ·-- a text
  refine h4.stText (b:=b) hb2 (kS _) e.text fun w5 h5 e5=>?_
  have h5:PM w5 o2 θ (S2.setS i ⟨g,true,e.kind,noB,[],e.text,p,[]⟩):=by rw [setS_setS] at h5;exact h5
  have:=hK w5 o2 _ h5 (p2.set k2 rfl rfl) ?_ ⟨y2,hy2⟩ (tr E4 (e5.mono fun c hc=>nd hc))
  ·have e6:=hfinp (bs':=S2.bs) ⟨[],by simp⟩
   rw [←e6];exact this
  ·rw [hDS]
   unfold makeF
   rw [if_pos (by rw [←t1];exact hk),hi,hg,←t1,←t3]
 ·-- an element
  have hk1:kind≠2:=by rw [←t1];exact hk
  have hkk:kind=1:=ok2.resolve_right hk1
  rw [if_neg hk1] at hd ht
  have hd4:Below w4.heap.size w4 w4.drew:=(Below.refl _ _).drew
  refine⟨fun w'=>Below w4.heap.size w4 w',hd4,?_⟩
  refine⟨_,fun w' hb=>by rw [(B4.keep hb).cell];rfl,?_⟩
  refine⟨_,_,_,fun w' hb=>by rw [(B4.keep hb).cell];rfl,?_⟩
  have E4d:EvC (Cl S) w o w4.drew o2:=tr E4 (EvC.below hd4)
  have hats:RR LAt w4.drew attrs e.ats:=(t4.sub (EvP.sub (E4d.mono fun c h=>h.1))).sub sub_of_only
  refine cloneOwn_calls attrs e.ats hats fun a w5 hb5 ha=>⟨_,_,_,rfl,?_⟩
  have D5:Below w4.heap.size w4 w5:=btr hd4 (by simp) hb5
  refine⟨D5,?_⟩
  obtain⟨a0,kv0,hn⟩:=h4.nodes i b _ hb2 (kS _)
  have hb6:o2 b=8+4*i:=h4.nc i b hb2
  have hbl:=hn.blk.lt
  refine st_blk (hn.blk.keep D5) (by simp [nodeC]) fun w6 b6 f6=>st_blk b6 (by simp [nodeC]) fun w7 b7 f7=>?_
  have b7:Blk w7 b (nodeC i ⟨g,true,e.kind,e.nm,attrs,noB,p,[]⟩ a (ptrH S2.bs p) kv0) 117:=by
   simpa [nodeC,slV,PS.setS] using b7
  have F67:Fm (·=b) w5 w7:=Fm.trans f6 f7
  have harow:∀x,rowOf (slV a)=some x→w4.heap.size≤x:=fun x hx=>by have:=(ha.lt x hx).1;simpa using this
  have F47b:Fm (·=b) w4 w7:=(Fm.below D5).trans F67
  have F47:Fm (fun x=>o2 x=8+4*i∨o2 x=9+4*i∨o2 x=10+4*i) w4 w7:=F47b.mono fun x _ e=>.inl (by have e:x=b:=e;rw [e];exact hb6)
  have oz:∀x,w4.heap.size≤x→o2 x=0:=fun x hx=>Classical.byContradiction fun h0=>by have:=h4.lt x h0;omega
  have hN:NodeR w7 (cl o2 (rowOf (slV a)) (10+4*i)) S2.bs i b ⟨g,true,e.kind,e.nm,attrs,noB,p,[]⟩ a kv0:=by
   refine⟨b7,(own_fm ha F67 fun x hx e=>?_).rebase fun k _=>Nat.zero_le _,fun x hx=>cl_row hx (.inl (oz x (harow x hx))),own_fm hn.kd1 F47b fun x hx e=>?_,fun x hx=>?_⟩
   ·have e:x=b:=e
    have:=harow x hx;omega
   ·have e:x=b:=e
    have:=hn.kd2 x hx;rw [e,hb6] at this;omega
   ·have:=hn.kd2 x hx
    rw [cl_old (by omega)];exact this
  have rg4:=h4.rng _ (List.mem_of_getElem? (kS _))
  obtain⟨h7,e7⟩:=h4.setNode (r:=rowOf (slV a)) (c:=10+4*i) hb2 (kS _) F47 (fun x hx=>.inl hx) (.inr rfl) (fun x hx=>⟨fun _=>harow x hx,Nat.lt_of_lt_of_le (ha.lt x hx).2 F67.size⟩) hN ⟨rg4.gen,rg4.par,by simp,by simp,t4.1⟩
  generalize cl o2 (rowOf (slV a)) (10+4*i)=o7 at h7 e7
  rw [setS_setS] at h7
  have e17:EvC (Cl S) w1 o w7 o7:=e24.trans Cl_zero h1.lt (fun _ _ h=>h) (e7.mono fun c hc=>nd hc)
  have E7:EvC (Cl S) w o w7 o7:=tr (EvC.below hb1) e17
  have B7:=g4k e17 b4
  simp only [Addr.add_mk,Nat.zero_add,NonNil_some,B7.cell,lds]
  clear hN F47 F47b F67 b7 b6 f6 f7 hn ha hats D5 hd4 B4 e4 e3 h3 h4 hb5 E4d E4 e24
  have hok7:okSl ⟨g,true,1,nm,attrs,noB,p,[]⟩:=⟨by rw [hkk] at ok1;unfold ownF at ok1 ⊢;exact ok1,.inl ⟨rfl,rfl⟩⟩
  obtain⟨M7,hs7⟩:=one_wf (s:=⟨g,true,1,nm,attrs,noB,p,[]⟩) hok7 rfl rfl rfl hg.symm hw hA hpp hc (by omega) (by omega)
  rw [hi] at M7 hs7
  generalize hsl7:(roomF S.D.sl).set i ⟨g,true,1,nm,attrs,noB,p,[]⟩=sl7 at M7 hs7
  have hD7:(S2.setS i ⟨g,true,e.kind,e.nm,attrs,noB,p,[]⟩).D={ S.D with sl:=sl7 }:=by rw [hDS,←hsl7,t1,hkk,t2]
  have p7:PI (S2.setS i ⟨g,true,e.kind,e.nm,attrs,noB,p,[]⟩):=p2.set k2 rfl rfl
  have hbs7:(S2.setS i ⟨g,true,e.kind,e.nm,attrs,noB,p,[]⟩).bs=S2.bs:=rfl
  generalize S2.setS i ⟨g,true,e.kind,e.nm,attrs,noB,p,[]⟩=S7 at h7 hD7 p7 hbs7
  generalize hH:freshH S.D.sl=hh0 at *
  have hc7:Ch (slA sl7) hh0 (c+1):=.succ hne hs7 (hc.mono fun y t hy=>⟨t,M7.ext y t hy,rfl⟩)
  have mt7:=M7.tk
  have hmake:makeF (.mk kind nm attrs text kids) p S.D.sl=makesF kids hh0 i sl7:=by
   unfold makeF
   rw [if_neg hk1,hi,hg,hkk,hsl7,hH]
  rw [hmake] at hK
  have WK:∀k,k≤kids.length→WfS (makesF (kids.take k) hh0 i sl7)∧WfA (slA (makesF (kids.take k) hh0 i sl7)) S.D.roots (hh0 :: loose)∧(∃ks,slA (makesF (kids.take k) hh0 i sl7) hh0=some { (⟨g,true,1,nm,attrs,noB,p,[]⟩:Sl) with kids:=[]++ks })∧tk (makesF (kids.take k) hh0 i sl7)=tk sl7+szL (kids.take k)∧(∀y t,slA S.D.sl y=some t→slA (makesF (kids.take k) hh0 i sl7) y=some t):=fun k hk=>by
   have ht2:=szL_take kids k
   have hd2:=dpL_take kids k
   obtain⟨r1,r2,r3,r4,r5,r6⟩:=makes_wf (kids.take k) (fun x hx {sl loose p c}=>make_wf x (roots:=S.D.roots)) (sl:=sl7) (loose:=hh0 :: loose) (h:=hh0) (c:=c+1) (i:=i) (okL_take _ _ (ok3 hkk)) M7.wfs M7.wf hh hs7 rfl hc7 (by omega) (by omega)
   refine⟨r1,r2,r4,r5,fun y t hy=>r3 y t ?_ (M7.ext y t hy)⟩
   rintro rfl
   have:=M7.new
   rw [this] at hy;cases hy
  refine⟨fun j w'=>∃(k:Nat) (o':Nat→Nat) (S':PS),j=k∧k≤kids.length∧PM w' o' θ S'∧PI S'∧S'.D={ S.D with sl:=makesF (kids.take k) hh0 i sl7 }∧(∃y,S'.bs=S2.bs++y)∧EvC (Cl S) w1 o w' o',fun j _=>kids.length-j.toNat,
   ⟨0,o7,S7,rfl,by omega,h7,p7,by simpa [makesF] using hD7,⟨[],by simp [hbs7]⟩,e17⟩,?_⟩
  rintro j w8 ⟨k,o8,S8,rfl,hk8,h8,p8,hD8,⟨y8,hy8⟩,e8⟩
  unfold F86_l8
  have hsub8:Sub (wc o w) (wc o8 w8):=EvP.sub ((tr (EvC.below hb1) e8).mono fun c h=>h.1)
  have hr8:Rd LE5 w8 e.kids.1 e.kids.2.2 es:=sub_of_only.rd (hsub8.rd t7)
  refine brd (fun hlt8=>?_) (fun hge8=>?_)
  rotate_left
  ·have hk9:k=kids.length:=by omega
   subst hk9
   rw [List.take_length] at hD8
   have:=hK w8 o8 S8 h8 p8 hD8 ⟨y2++y8,by rw [hy8,hy2,List.append_assoc]⟩ (tr (EvC.below hb1) e8)
   rw [hfinp ⟨y8,hy8⟩] at this
   exact this
  ·have hk9:k < kids.length:=by omega
   have hk10:k < es.length:=by omega
   obtain⟨r1,r2,⟨ks,r4⟩,r5,r6⟩:=WK k hk8
   have hsnoc:=makesF_snoc (x:=kids[k]) (h:=hh0) (i:=i) (kids.take k) sl7
   generalize hslk:makesF (kids.take k) hh0 i sl7=slk at *
   have hsl8:S8.D.sl=slk:=by rw [hD8]
   have hro8:S8.D.roots=S.D.roots:=by rw [hD8]
   rw [List.nil_append] at r4
   have hs8:slA S8.D.sl hh0=some ⟨g,true,1,nm,attrs,noB,p,ks⟩:=by rw [hsl8];exact r4
   refine hr8.e5 t6 rfl (k:=k) hk10 fun bb oo c0 c1 c2 c3 c4=>?_
   simp only [Addr.add_mk,Nat.zero_add,c0,c1,c2,c3,c4,lds]
   refine al fun kb w9 hb9 bk9 hge9=>?_
   refine st_blk bk9 (by simp) fun u1 q1 f1=>st_blk q1 (by simp) fun u2 q2 f2=>st_blk q2 (by simp) fun u3 q3 f3=>st_blk q3 (by simp) fun u4 q4 f4=>st_blk q4 (by simp) fun w10 q5 f5=>?_
   simp only [List.setIfInBounds_toArray,List.set_cons_zero,List.set_cons_succ] at q5
   have FK:Fm (·=kb) w9 w10:=(((f1.trans f2).trans f3).trans f4).trans f5
   have D10:Below w8.heap.size w8 w10:=hb9.trans (FK.toBelow hb9.size fun b hb e=>by have e:b=kb:=e;omega)
   have D10d:Below w8.heap.size w8 w10.drew:=btr D10 D10.size ((Below.refl _ _).drew)
   have h10:=h8.below D10d
   obtain⟨i8,i8a,i8b,i8c,i8d⟩:=h10.of hs8
   obtain rfl:i=i8:=by omega
   have hpb8:pb S8.bs hh0=b:=hfin ⟨y8,hy8⟩
   rw [hpb8] at i8b
   obtain⟨v,cv,ov,rv,lv⟩:=h10.list (.inr i8d)
   have hlad:lad θ.g S8.bs hh0=⟨b,8,none⟩:=by unfold lad;rw [if_neg hne,hpb8]
   rw [hlad] at cv
   have okb:o8 kb=0:=Classical.byContradiction fun h0=>by have:=h8.lt kb h0;omega
   simp only [Addr.add_mk,Nat.zero_add,NonNil_some]
   refine⟨fun w'=>w'.cell? ⟨b,8,none⟩=some (slV v)∧Blk w' kb #[.int .i64 es[k].kind,.string es[k].nm,slV es[k].ats,.string es[k].text,slV es[k].kids] 54,⟨cv,q5⟩,?_⟩
   refine⟨_,_,_,fun w' hw'=>hw'.1,?_⟩
   refine⟨_,fun w' hw'=>by rw [hw'.2.cell];rfl,?_⟩
   refine⟨_,fun w' hw'=>by rw [hw'.2.cell];rfl,?_⟩
   refine⟨_,_,_,fun w' hw'=>by rw [hw'.2.cell];rfl,?_⟩
   refine⟨_,fun w' hw'=>by rw [hw'.2.cell];rfl,?_⟩
   refine⟨_,_,_,fun w' hw'=>by rw [hw'.2.cell];rfl,?_⟩
   have hdk:=dpL_get kids k hk9
   have hzk:=szL_get kids k hk9
   have hA8:WfA (slA S8.D.sl) S8.D.roots (hh0 :: loose):=by rw [hsl8,hro8];exact r2
   have hw8:WfS S8.D.sl:=by rw [hsl8];exact r1
   have hck:Ch (slA S8.D.sl) hh0 (c+1):=by
    rw [hsl8]
    exact .succ hne r4 (hc.mono fun y t hy=>⟨t,r6 y t hy,rfl⟩)
   have om1:c+1+dpT kids[k]≤64:=by omega
   have om2:tk S8.D.sl+szT kids[k]≤4096:=by rw [hsl8];omega
   have key:=fun R=>ih kids[k] (List.getElem_mem hk9) (w:=w10.drew) (o:=o8) (S:=S8) (p:=hh0) (c:=c+1) (loose:=hh0 :: loose) (e:=es[k]) (R:=R) h10 p8 (okL_get kids k hk9 (ok3 hkk)) hw8 hA8 (.inr ⟨_,hs8,rfl⟩) hck om1 om2
    (RTr.sub (EvP.sub (EvC.below D10d)) _ _ (RTr.sub hsub8 _ _ (t8.get k hk9 hk10)))
   rw [hfinp ⟨y8,hy8⟩] at key
   refine key _ fun w11 o11 S11 h11 p11 hD11 ⟨y11,hy11⟩ e11=>⟨_,rfl,?_⟩
   clear key
   have hlive8:∃s,S8.D.sl[i]?=some s∧s.live=true:=⟨_,i8c,slA_live hs8⟩
   have hbk:w11.heap[b]?=w10.drew.heap[b]?:=e11.fm.block b (Array.getElem?_eq_some_iff.1 (h10.nodes i b _ i8b i8c).choose_spec.choose_spec.blk).1 (by
    rw [h10.nc i b i8b]
    rintro ⟨_,hc⟩
    exact hc i _ i8c (slA_live hs8) rfl)
   have hcell:w11.cell? ⟨b,8,none⟩=some (slV v):=by
    rw [←cv];unfold World.cell?;rw [hbk]
   have hkb:Blk w11 kb #[.int .i64 es[k].kind,.string es[k].nm,slV es[k].ats,.string es[k].text,slV es[k].kids] 54:=e11.fm.blk (show Blk w10.drew kb _ _ from q5) (by rw [okb];exact Cl_zero)
   have Mk:=make_wf kids[k] (okL_get kids k hk9 (ok3 hkk)) hw8 hA8 (.inr ⟨_,hs8,rfl⟩) hck om1 om2
   have hne2:freshH S8.D.sl≠0:=by unfold freshH hnd;omega
   have hptr:ptrH S11.bs (freshH S8.D.sl)=some ⟨pb S11.bs (freshH S8.D.sl),0,none⟩:=by unfold ptrH;rw [if_neg hne2]
   rw [hptr]
   have hsl11:S11.D.sl=makeF kids[k] hh0 S8.D.sl:=by rw [hD11]
   have hro11:S11.D.roots=S.D.roots:=by rw [hD11,hD8]
   have hs11:slA S11.D.sl hh0=some ⟨g,true,1,nm,attrs,noB,p,ks⟩:=by rw [hsl11];exact Mk.ext _ _ hs8
   obtain⟨i11,i11a,i11b,i11c,i11d⟩:=h11.of hs11
   obtain rfl:i=i11:=by omega
   have hpb11:pb S11.bs hh0=b:=hfin ⟨y8++y11,by rw [hy11,hy8,List.append_assoc]⟩
   rw [hpb11] at i11b
   obtain⟨v11,cv11,ov11,rv11,lv11⟩:=h11.list (.inr i11d)
   have hlad11:lad θ.g S11.bs hh0=⟨b,8,none⟩:=by unfold lad;rw [if_neg hne,hpb11]
   rw [hlad11,hcell] at cv11
   have hvv:v11=v:=by
    obtain⟨a1,a2,a3⟩:=v
    obtain⟨c1,c2,c3⟩:=v11
    unfold slV at cv11
    simp only [Option.some.injEq,Value.slice.injEq] at cv11
    obtain⟨rfl,rfl,rfl⟩:=cv11
    rfl
   subst hvv
   have hlst:lstR S11.D hh0=ks:=by
    unfold lstR
    rw [if_neg hne,hh,Nat.add_sub_cancel,i11c]
   rw [hlst] at ov11
   refine⟨⟨hcell,hkb⟩,al fun g57 w12 hb12 b57 hge57=>⟨⟨by rw [(sub_below hb12).cell hcell],hkb.keep hb12⟩,?_⟩⟩
   obtain⟨A9,c9,hv9,hr9⟩:=ov11.form
   have hlen9:(ks.map (pb S11.bs)).length=ks.length:=List.length_map _
   have hks4:ks.length≤S8.D.sl.length:=live_few (fun x hx=>by
    obtain⟨_,t,ht,_⟩:=(hA8.kid hh0 _ hs8).2 x hx
    exact⟨t,ht⟩) (hA8.kid hh0 _ hs8).1
   have hfew8:=h8.few
   have hO12:Own LPt w12 0 115 (slV v11) (ks.map (pb S11.bs)):=ov11.keep hb12
   refine ap (L:=LPt) (xs:=ks.map (pb S11.bs)) (ys:=[pb S11.bs (freshH S8.D.sl)]) (base:=0) (v:=slV v11) (.pointer none) 8 rfl (by kernel_rfl) (by kernel_rfl) (by kernel_rfl) hO12 ?_ (Nat.zero_le _) (by rw [hlen9];simp;omega) (by rw [hlen9];simp [maxLen];omega) fun A' c' w13 o13 g13=>⟨A',_,c',rfl,?_⟩
   ·refine⟨by simp,by simp [maxLen],fun h0=>(by cases h0),fun _=>⟨g57,0,rfl,fun j u hj=>?_⟩⟩
    rw [LPt.all_one] at hj
    rw [b57.cell];simpa [LPt] using hj
   ·obtain⟨st,hst,hstp⟩:=Mk.top
    have hst11:slA S11.D.sl (freshH S8.D.sl)=some st:=by rw [hsl11];exact hst
    have F13:Fm (fun x=>rowOf (slV v11)=some x) w11 w13:=(Fm.below hb12).trans (Fm.grown g13.grown fun x hx=>hx)
    have hrow13:rowOf (slV (A',(ks.map (pb S11.bs)).length+[pb S11.bs (freshH S8.D.sl)].length,c'))=rowOf (slV v11)∨rowOf (slV (A',(ks.map (pb S11.bs)).length+[pb S11.bs (freshH S8.D.sl)].length,c'))=none∨∃g,rowOf (slV (A',(ks.map (pb S11.bs)).length+[pb S11.bs (freshH S8.D.sl)].length,c'))=some g∧w11.heap.size≤g:=by
     rcases g13.row with e | e | ⟨g,e,hge⟩
     ·exact .inl e
     ·exact .inr (.inl e)
     ·exact .inr (.inr ⟨g,e,by have:=hb12.size;omega⟩)
    have hkin:∀x∈ks++[freshH S8.D.sl],inN S11.D.sl.length x:=fun x hx=>by
     rcases List.mem_append.1 hx with hx | hx
     ·exact (h11.rng _ (List.mem_of_getElem? i11c)).kids x hx
     ·rw [List.mem_singleton] at hx
      subst hx
      obtain⟨_,_,_,_,hin⟩:=h11.of hst11
      exact hin
    have hst14:=fun K=>h11.setList (K:=K) (p:=hh0) (v':=(A',(ks.map (pb S11.bs)).length+[pb S11.bs (freshH S8.D.sl)].length,c')) (l:=ks++[freshH S8.D.sl]) (.inr i11d) rv11 F13 (by rw [List.map_append];exact o13) hrow13 ⟨hkin,by simp;omega⟩
    rw [hlad11] at hst14
    refine hst14 _ fun w14 o14 h14 e14=>⟨inR_i64 (by omega) (by omega),⟨k+1,o14,_,by simp,by omega,h14,?_,?_,⟨y8++y11,?_⟩,?_⟩,(by first | omega | (dsimp only;omega))⟩
    ·-- the counters
     have hi11:=i11c
     have e5:(setI S11.D hh0 (ks++[freshH S8.D.sl])).sl=S11.D.sl.set i ⟨g,true,1,nm,attrs,noB,p,ks++[freshH S8.D.sl]⟩:=by
      unfold setI
      rw [if_neg hne,hh,Nat.add_sub_cancel,modify_set _ _ _ _ hi11]
     have e6:(setI S11.D hh0 (ks++[freshH S8.D.sl])).roots=S11.D.roots:=by
      unfold setI
      rw [if_neg hne]
     have:=p11.set (s':=⟨g,true,1,nm,attrs,noB,p,ks++[freshH S8.D.sl]⟩) hi11 rfl rfl
     refine⟨?_,?_,?_,?_⟩
     ·show S11.lv=liveN (setI _ _ _).sl;rw [e5];exact this.lv
     ·show S11.wn=wornN (setI _ _ _).sl;rw [e5];exact this.wn
     ·show S11.lo≤(setI _ _ _).sl.length;rw [e5];exact this.lo
     ·intro j t hj ht
      have ht:(setI S11.D hh0 (ks++[freshH S8.D.sl])).sl[j]?=some t:=ht
      rw [e5] at ht
      exact this.lo2 j t hj ht
    ·show setI S11.D hh0 (ks++[freshH S8.D.sl])=_
     rw [List.take_succ_eq_append_getElem hk9,hsnoc]
     unfold setI
     rw [if_neg hne,hh,Nat.add_sub_cancel]
     have hi8:(makeF kids[k] hh0 slk)[i]?=some ⟨g,true,1,nm,attrs,noB,p,ks⟩:=by rw [←hsl8,←hsl11];exact i11c
     rw [hD11,hD8]
     dsimp only
     rw [modify_set _ _ _ _ hi8,modify_set _ _ _ _ hi8]
    ·show S11.bs=_
     rw [hy11,hy8,List.append_assoc]
    ·have hC:∀b,b < w1.heap.size→Cl S8 (o b)→Cl S (o b):=fun x _ hx=>⟨hx.1,fun j t hj hl=>by
      have hjl:j+1 < 4294967296:=by
       have:=(List.getElem?_eq_some_iff.1 hj).1
       have:=hw.few
       omega
      have h1:=r6 _ _ (slA_hnd hjl hj hl)
      rw [←hsl8] at h1
      obtain⟨j',j1,j2,j3,j4⟩:=slA_iff.1 h1
      rw [hnd_mod hjl] at j1
      obtain rfl:j'=j:=by omega
      exact hx.2 j' t j2 j3⟩
     have e18:=(e8.trans Cl_zero h1.lt (fun _ _ h=>h) (EvC.below (C:=Cl S) D10d)).trans Cl_zero h1.lt hC e11
     exact e18.trans Cl_zero h1.lt (fun x _ hx=>by
      refine nd ?_
      unfold lcC at hx
      rw [if_neg hne,hh,Nat.add_sub_cancel] at hx
      exact hx) e14
end
set_option maxRecDepth 100000
section
variable {w w1 w2:World}{o o1 o2:Nat→Nat}{θ:Th}{S:PS}{M:Nat→Prop}{bs:List Nat}{R:Ending→World→Prop}
theorem ptrL_H (h0:slA S.D.sl 0=none) {x:Nat} (hx:x=0∨∃s,slA S.D.sl x=some s):ptrL S x=ptrH S.bs x:=by
 unfold ptrL ptrH
 rcases hx with rfl | ⟨s,hs⟩
 ·rw [h0];simp
 ·have:x≠0:=fun e=>by subst e;rw [h0] at hs;cases hs
  rw [hs,if_neg this];simp
theorem lstI_R {p:Nat} (hp:p=0∨∃s,slA S.D.sl p=some s):lstR S.D p=lstI S.D p:=by
 unfold lstR lstI lstA
 by_cases h0:p=0
 ·rw [if_pos h0,if_pos h0]
 ·rw [if_neg h0,if_neg h0]
  obtain⟨s,hs⟩:=hp.resolve_left h0
  obtain⟨k,h1,h2,_⟩:=slA_iff.1 hs
  rw [h1,Nat.add_sub_cancel,h2,hs]
theorem pb_inj (h:PM w o θ S) {x y:Nat}{s t:Sl} (hx:slA S.D.sl x=some s) (hy:slA S.D.sl y=some t) (e:pb S.bs x=pb S.bs y):x=y:=by
 obtain⟨i,i1,i2,i3,_⟩:=h.of hx
 obtain⟨j,j1,j2,j3,_⟩:=h.of hy
 rw [e] at i2
 obtain rfl:=nodup_col h i2 j2
 obtain⟨i',a1,a2,a3,a4⟩:=slA_iff.1 hx
 obtain⟨j',b1,b2,b3,b4⟩:=slA_iff.1 hy
 obtain rfl:i'=i:=by omega
 obtain rfl:j'=i':=by omega
 rw [a2] at b2;cases b2
 exact a4.symm.trans b4
theorem idxOf_map {f:Nat→Nat}{a:Nat}:∀{l:List Nat},(∀x∈l,f x=f a→x=a)→(l.map f).idxOf (f a)=l.idxOf a
 | [],_=>rfl
 | x :: l,h=>by
  rw [List.map_cons,List.idxOf_cons,List.idxOf_cons]
  by_cases e:x=a
  ·subst e;simp
  ·have h1:f x≠f a:=fun e2=>e (h x (by simp) e2)
   have e1:(f x == f a)=false:=by simpa using h1
   have e2:(x == a)=false:=by simpa using e
   rw [e1,e2]
   simp only [cond_false]
   rw [idxOf_map fun y hy=>h y (by simp [hy])]
theorem take_drop_erase {a:Nat}:∀{l:List Nat},a∈l→l.take (l.idxOf a)++l.drop (l.idxOf a+1)=l.erase a
 | [],h=>by simp at h
 | x :: l,h=>by
  rw [List.idxOf_cons,List.erase_cons]
  by_cases e:x=a
  ·subst e;simp
  ·have e2:(x == a)=false:=by simpa using e
   rw [e2]
   simp only [cond_false,List.take_succ_cons,List.drop_succ_cons,List.cons_append,Bool.false_eq_true,if_false]
   rw [take_drop_erase ((List.mem_cons.1 h).resolve_left (Ne.symm e))]
theorem pb_cells (h:PM w o θ S) {x:Nat}{s:Sl} (hx:slA S.D.sl x=some s):∃c t,w.heap[pb S.bs x]?=some (.cells c t (0,0)):=by
 obtain⟨i,i1,i2,i3,_⟩:=h.of hx
 obtain⟨a,kv,hn⟩:=h.nodes _ _ _ i2 i3
 exact⟨_,_,hn.blk⟩
theorem idxH_calls (h:PM w o θ S) {l:List Nat}{v:Sv}{a:Nat}{s:Sl} (hv:v.2.1=l.length) (hr:Rd LPt w v.1 v.2.2 (l.map (pb S.bs))) (hl:l.length≤1048576) (ha:slA S.D.sl a=some s) (hll:∀x∈l,∃t,slA S.D.sl x=some t) (hm:a∈l)
  (hK:R (.returned (.int .i64 (l.idxOf a:Nat))) w):Calls Tryz.prog 121 #[slV v,.pointer (some ⟨pb S.bs a,0,none⟩)] w R:=by
 refine idx_calls (l:=l.map (pb S.bs)) (by rw [List.length_map];exact hv) hr (by rw [List.length_map];exact hl) (fun x hx=>?_) (List.mem_map.2 ⟨a,hm,rfl⟩) ?_
 ·rcases hx with rfl | hx
  ·exact pb_cells h ha
  ·obtain⟨y,hy,rfl⟩:=List.mem_map.1 hx
   obtain⟨t,ht⟩:=hll y hy
   exact pb_cells h ht
 ·rw [idxOf_map fun x hx e=>?_]
  ·exact hK
  ·obtain⟨t,ht⟩:=hll x hx
   exact pb_inj h ht ha e
theorem put_calls (h:PM w o θ S) {n p a:Nat}{wh:Int}{s:Sl} (hn:slA S.D.sl n=some s) (hp:p=0∨∃t,slA S.D.sl p=some t) (hll:∀x∈lstI S.D p,∃t,slA S.D.sl x=some t) (hfew:(lstI S.D p).length≤4096)
  (ha:2 < wh→a∈lstI S.D p) (hnp:n≠p)
  (hK:∀w' o',PM w' o' θ { S with D:=updI (putI S.D n p wh a) n fun s=>{ s with parent:=p } }→EvP w o w' o'→R (.returned (.tuple #[])) w') :
  Calls Tryz.prog 87 #[.pointer (some ⟨θ.g,0,none⟩),.pointer (some ⟨pb S.bs n,0,none⟩),.pointer (ptrH S.bs p),.int .i64 wh,.pointer (ptrH S.bs a)] w R:=by
 obtain⟨i,i1,i2,i3,i4⟩:=h.of hn
 have hpn:p=0∨inN S.D.sl.length p:=by
  rcases hp with e | ⟨t,ht⟩
  ·exact .inl e
  ·obtain⟨_,_,_,_,hin⟩:=h.of ht;exact .inr hin
 refine ok87 (some ⟨θ.g,0,none⟩) (some ⟨pb S.bs n,0,none⟩) (ptrH S.bs p) wh (ptrH S.bs a) ?_
 unfold F87
 refine list_calls ⟨_,rfl,?_⟩
 obtain⟨v,cv,ov,rv,lv⟩:=h.list hpn
 rw [lstI_R hp] at ov lv
 generalize hL:lstI S.D p=l at *
 obtain⟨A,c,hv,hr⟩:=ov.form
 have hv2:v=(A,l.length,c):=by
  obtain⟨a1,a2,a3⟩:=v
  unfold slV at hv
  simp only [Value.slice.injEq,List.length_map] at hv
  obtain⟨rfl,rfl,rfl⟩:=hv
  rfl
 have cv':w.cell? (lad θ.g S.bs p)=some (.slice A l.length c):=by rw [cv,hv2];rfl
 rw [hv2] at ov rv
 have hpos:posF wh a l≤l.length:=by
  unfold posF
  split
  ·omega
  ·split
   ·exact List.idxOf_le_length
   ·split
    ·have:=List.idxOf_lt_length_iff.2 (ha (by omega));omega
    ·omega
 refine⟨fun j w'=>w=w'∧j=(posF wh a l:Nat),?_,?_⟩
 ·rintro j _ ⟨rfl,rfl⟩
  unfold F87_j9
  simp only [NonNil_some,cv',LdSl_some]
  refine al fun gx w1 hb1 bx hgex=>?_
  have h1:=h.below hb1
  refine insP_calls (x:=pb S.bs n) (ov.keep hb1) (by rw [List.length_map];exact hpos) bx rfl (fun e=>by
   have:=rv gx e
   have:=h.lt gx (by unfold lcl at this;split at this <;> omega)
   omega) (by rw [List.length_map];omega) fun v' w2 o2 f2 r2=>⟨_,_,_,rfl,?_⟩
  rw [←List.map_take,←List.map_drop,←List.map_cons,←List.map_append] at o2
  refine h1.setList (v':=v') (l:=insAt l (posF wh a l) n) hpn rv f2 o2 r2 ⟨fun x hx=>?_,?_⟩ fun w3 o3 h3 e3=>?_
  ·rcases mem_insAt.1 hx with rfl | hx
   ·exact i4
   ·obtain⟨t,ht⟩:=hll x hx
    obtain⟨_,_,_,_,hin⟩:=h.of ht
    exact hin
  ·unfold insAt;simp;omega
  ·have e4:slA (setI S.D p (insAt l (posF wh a l) n)).sl n=some s:=by
    rw [(setI_A (l:=insAt l (posF wh a l) n) hp).1,setA_of hn,if_neg (fun e=>hnp e.1)]
   obtain⟨j,j1,j2,j3,j4⟩:=h3.of e4
   obtain rfl:i=j:=by omega
   simp only [NonNil_some,Addr.add_mk,Nat.zero_add]
   have hlen3:(setI S.D p (insAt l (posF wh a l) n)).sl.length=S.D.sl.length:=by
    unfold setI;split
    ·rfl
    ·simp
   have:=fun K=>h3.stPar (K:=K) j2 j3 (p:=p) (by dsimp only;rw [hlen3];exact hpn)
   refine this _ fun w4 h4 e4'=>?_
   refine hK w4 o3 ?_ (EvP.trans (EvP.trans (EvC.below hb1) (e3.mono fun c hc=>?_)) (e4'.mono fun c hc=>?_))
   ·have e5:({ S with D:=setI S.D p (insAt l (posF wh a l) n) }:PS).setS i { s with parent:=p }={ S with D:=updI (putI S.D n p wh a) n fun s=>{ s with parent:=p } }:=by
     unfold PS.setS updI putI
     rw [hL,i1,Nat.add_sub_cancel,modify_set _ _ _ _ j3]
    rw [←e5];exact h4
   ·unfold lcC at hc
    unfold pc
    split at hc <;> omega
   ·unfold pc;omega
 ·refine bre (fun h2=>?_) (fun h2=>bre (fun h3=>?_) (fun h3=>bre (fun h4=>?_) (fun h4=>?_)))
  ·simp only [NonNil_some,cv',LdSl_some]
   exact⟨trivial,by unfold posF;rw [if_pos h2]⟩
  ·simp only [NonNil_some,cv',LdSl_some]
   have ham:=ha (by omega)
   obtain⟨t,ht⟩:=hll a ham
   have a0:ptrH S.bs a=some ⟨pb S.bs a,0,none⟩:=by
    unfold ptrH;rw [if_neg]
    rintro rfl;rw [slA_zero] at ht;cases ht
   rw [a0]
   refine idxH_calls (v:=(A,l.length,c)) h rfl hr lv ht hll ham ⟨_,rfl,rfl,?_⟩
   unfold posF;rw [if_neg h2,if_pos h3]
  ·simp only [NonNil_some,cv',LdSl_some]
   have ham:=ha (by omega)
   obtain⟨t,ht⟩:=hll a ham
   have a0:ptrH S.bs a=some ⟨pb S.bs a,0,none⟩:=by
    unfold ptrH;rw [if_neg]
    rintro rfl;rw [slA_zero] at ht;cases ht
   rw [a0]
   have hlt:=List.idxOf_lt_length_iff.2 ham
   refine idxH_calls (v:=(A,l.length,c)) h rfl hr lv ht hll ham ⟨_,rfl,inR_i64 (by omega) (by omega),rfl,?_⟩
   unfold posF;rw [if_neg h2,if_neg h3,if_pos h4];omega
  ·exact⟨rfl,by unfold posF;rw [if_neg h2,if_neg h3,if_neg h4];rfl⟩
end
end Go.Proofs.YtncbjdgcgclnnaaGreatDoor
