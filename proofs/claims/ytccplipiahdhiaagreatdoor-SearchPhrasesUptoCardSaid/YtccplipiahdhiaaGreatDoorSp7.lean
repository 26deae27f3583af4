/- SearchPhrases: where a phrase stands, each of its words stands at its place. -/
import Derived.Test.YtccplipiahdhiaaGreatDoorProg
import Derived.Deep.Slices
import Derived.SizedLaws
import Derived.DataReads
import Derived.WideShapes
import Derived.Test.YtccplipiahdhiaaGreatDoorRows
import Derived.Lib.SmallJoins
import Derived.Test.YtccplipiahdhiaaGreatDoorCards
import Derived.Test.YtccplipiahdhiaaGreatDoorTie
import Derived.WalkKit
import Derived.RowKit3
import Derived.ProofKit
import Derived.OpenShut
import Derived.ShutString
import Derived.ChangeOld
import Derived.Below
import Derived.Carry
import Derived.LaidMore
import Derived.PinnedBridge
import Derived.Lib.LaidIn
import Derived.Lib.LaidU8T
import Derived.SevenTiedAt
import Derived.Stop.Joined
import Derived.Deep.DeepHandedRow
import Derived.JoinedCond
import Derived.Deep.CondSized
import Derived.Test.YtccplipiahdhiaaGreatDoorSp6
namespace Go.Proofs.YtccplipiahdhiaaGreatDoor
open Go.RowKit Go.Vc
set_option linter.unusedVariables false
set_option linter.unusedSimpArgs false
set_option maxRecDepth 100000
section
variable {w:World}{g:Nat}
def S0:PS:=⟨⟨[],[]⟩,[],0,0,0⟩
theorem pm_zero {ty:TypeId}{tl:List Value} (hB:Blk w g (docC (none,0,0) (none,0,0) 0 0 0 tl) ty):PM w (fun b=>if b=g then 1 else 0) ⟨g,ty,tl⟩ S0:=by
 refine⟨if_pos rfl,fun b hb=>?_,rfl,by decide,fun i b hb=>(by cases hb),⟨(none,0,0),(none,0,0),hB,.inl ⟨rfl,rfl⟩,fun x hx=>(by cases hx),.inl ⟨rfl,rfl⟩,fun x hx=>(by cases hx)⟩,fun i b s hb=>(by cases hb),fun s hs=>(by cases hs),⟨fun h hh=>(by cases hh),by decide⟩,by decide⟩
 have hb:(if b=g then 1 else 0)≠0:=hb
 by_cases e:b=g
 ·rw [e];exact hB.lt
 ·rw [if_neg e] at hb;exact absurd rfl hb
theorem pi_zero:PI S0:=⟨rfl,rfl,by decide,fun j t hj ht=>(by cases ht)⟩
theorem ld_zero (hB:Blk w g #[.slice none 0 0,.slice none 0 0,.int .i64 0,.int .i64 0,.int .i64 0,.map none,.pointer none,.int .u64 0,.int .u64 0,.map none] 105):LD 0 g 105 w (fun b=>if b=g then 1 else 0) ⟨[],[]⟩:=by
 have hn:∀y,slA ([]:List Sl) y=none:=fun y=>by
  cases h:slA ([]:List Sl) y with
  | none=>rfl
  | some s =>
   obtain⟨k,_,h2,_⟩:=slA_iff.1 h
   cases h2
 refine⟨S0,[0],0,fun _=>none,rfl,⟨.inr ⟨⟨pm_zero hB⟩,rfl,rfl,fun _=>rfl⟩,pi_zero,rfl,fun y hy=>absurd rfl hy,fun y s hs=>?_,by decide⟩⟩
 have hs:slA ([]:List Sl) y=some s:=hs
 rw [hn] at hs;cases hs
theorem rm_zero {ok:Nat→Bool} (hB:Blk w g #[.slice none 0 0,.slice none 0 0] 107):RM ok w g ⟨[],[]⟩ (none,0,0) (none,0,0) :=
 ⟨hB,⟨by decide,⟨[],rfl,Rd.nil _ _,rfl⟩,rr_none _ _,fun s hs=>(by cases hs),fun h hh=>(by cases hh)⟩,by decide⟩
end
end Go.Proofs.YtccplipiahdhiaaGreatDoor
set_option linter.unusedVariables false
set_option maxRecDepth 100000
namespace Go.Proofs.YtccplipiahdhiaaGreatDoor
open Go.Vc
def F5_l23 (L16:Option Addr→Nat→Nat→Int→World→Prop) (each:Option Addr) (eachN:Nat) (eachC:Nat) (i:Int) (q:Option Addr) (c:Nat) (b:Nat) (g:Option Addr) (e:Nat) (L23:Int→World→Prop) (k:Int) (v:World) (R:Ending→World→Prop):Prop :=
 Br (decide (k < ((c:Nat):Int)))
 (Dr v fun r =>
 IdxA q c k 3 fun y =>
 LdI .u64 (r.cell? y) fun h =>
 LdI .i64 (r.cell? (y.add 1)) fun j =>
 LdI .i64 (r.cell? (y.add 2)) fun p =>
 IdxA g e k 3 fun s =>
 LdI .u64 (r.cell? s) fun a =>
 LdI .i64 (r.cell? (s.add 1)) fun f =>
 LdI .i64 (r.cell? (s.add 2)) fun d =>
 Br (!((h == a) && ((j == f) && ((p == d) && true))))
 (R (.returned (.bool false)) r)
 (InR .i64 (k+(1:Int))∧L23 (k+(1:Int)) r))
 (Al v #[(.slice q c b)] 42 fun g107 r =>
 Raw Tryz.prog (Builtin.append_ #[63,63] 63 #[(.slice each eachN eachC),(.slice (some g107) 1 1)]) r fun v7 u =>
 ∃(t:Option Addr) (m:Nat) (n:Nat),v7=(.slice t m n) ∧
 InR .i64 (i+(1:Int))∧L16 t m n (i+(1:Int)) u)
def F5_j22 (L16:Option Addr→Nat→Nat→Int→World→Prop) (each:Option Addr) (eachN:Nat) (eachC:Nat) (i:Int) (e:Option Addr) (c:Nat) (b:Nat) (d:Option Addr) (a:Nat) (g:World) (R:Ending→World→Prop):Prop :=
 ∃(I:Int→World→Prop) (m:Int→World→Nat),I (0:Int) g ∧
 ∀(k:Int) (f:World),I k f→F5_l23 L16 each eachN eachC i e c b d a (fun k' w2=>I k' w2∧m k' w2 < m k f) k f R
def F5_j31 (L30:Int→Int→World→Prop) (i2:Int) (n2:Int) (a:World) (R:Ending→World→Prop):Prop :=
 InR .i64 (i2+(1:Int))∧L30 n2 (i2+(1:Int)) a
def F5_j35 (L34:Bool→Int→World→Prop) (k:Int) (is2:Bool) (a:World) (R:Ending→World→Prop):Prop :=
 InR .i64 (k+(1:Int))∧L34 is2 (k+(1:Int)) a
def F5_j40 (n:Int) (J31:Int→World→Prop) (a:World) (R:Ending→World→Prop):Prop :=
 InR .i64 (n+(1:Int))∧J31 (n+(1:Int)) a
def F5_l34 (wordsN:Nat) (s:Option Addr) (e:Nat) (each:Option Addr) (eachN:Nat) (n:Int) (i2:Int) (J31:Int→World→Prop) (L34:Bool→Int→World→Prop) (is:Bool) (k:Int) (pa:World) (R:Ending→World→Prop):Prop :=
 Br (decide (k < ((wordsN:Nat):Int)))
 (∃J35:Bool→World→Prop,(∀(is2:Bool) (y:World),J35 is2 y→F5_j35 L34 k is2 y R) ∧
 (∃S:World→Prop,S pa.drew∧Br is
 (IdxA each eachN k 1 fun ha =>
 ∃(aa:Option Addr) (h:Nat) (p:Nat),Held S ha (.slice aa h p)∧IdxA each eachN (0:Int) 1 fun ja =>
 ∃(da:Option Addr) (r:Nat) (i:Nat),Held S ja (.slice da r i)∧IdxA da r i2 3 fun ea =>
 ∃(ca:Int),Held S ea (.int .u64 ca)∧IdxA each eachN (0:Int) 1 fun na =>
 ∃(ba:Option Addr) (j:Nat) (m:Nat),Held S na (.slice ba j m)∧IdxA ba j i2 3 fun z =>
 ∃(ga:Int),Held S (z.add 1) (.int .i64 ga)∧InR .i64 (ga+k)∧Calls Tryz.prog 29 #[(.slice aa h p),(.agg #[(.int .u64 ca),(.int .i64 (ga+k)),(.int .i64 0)])] pa.drew (post R fun v5 u =>
 ∃(ka:Bool),v5=(.bool ka) ∧
 J35 ka u))
 (J35 false pa.drew)))
 (Br (!is)
 (J31 n pa)
 (∃J40:World→Prop,(∀ (y:World),J40 y→F5_j40 n J31 y R) ∧
 (Dr pa fun y =>
 Br (decide (n≥((e:Nat):Int)))
 (R (.returned (.bool false)) y)
 (IdxA s e n 3 fun fa =>
 LdI .u64 (y.cell? fa) fun a =>
 LdI .i64 (y.cell? (fa.add 1)) fun c =>
 LdI .i64 (y.cell? (fa.add 2)) fun b =>
 IdxA each eachN (0:Int) 1 fun ia =>
 LdSl (y.cell? ia) fun v t q =>
 IdxA v t i2 3 fun ma =>
 LdI .u64 (y.cell? ma) fun f =>
 LdI .i64 (y.cell? (ma.add 1)) fun d =>
 LdI .i64 (y.cell? (ma.add 2)) fun g =>
 Br (!((a == f) && ((c == d) && ((b == g) && true))))
 (R (.returned (.bool false)) y)
 (J40 y)))))
def F5_l30 (wordsN:Nat) (b:Option Addr) (a:Nat) (each:Option Addr) (eachN:Nat) (L30:Int→Int→World→Prop) (n:Int) (i2:Int) (h:World) (R:Ending→World→Prop):Prop :=
 IdxA each eachN (0:Int) 1 fun f =>
 LdSl (h.cell? f) fun e d c =>
 Br (decide (i2 < ((d:Nat):Int)))
 (∃J31:Int→World→Prop,(∀(n2:Int) (g:World),J31 n2 g→F5_j31 L30 i2 n2 g R) ∧
 (∃(I:Bool→Int→World→Prop) (m:Bool→Int→World→Nat),I true (1:Int) h ∧
 ∀(is:Bool) (k:Int) (g:World),I is k g→F5_l34 wordsN b a each eachN n i2 J31 (fun is' k' w2=>I is' k' w2∧m is' k' w2 < m is k g) is k g R))
 (R (.returned (.bool (n == ((a:Nat):Int)))) h)
def F5_l16 (words:Option Addr) (wordsN:Nat) (wordsC:Nat) (k:Option Addr) (h:Option Addr) (a:Nat) (L16:Option Addr→Nat→Nat→Int→World→Prop) (each:Option Addr) (eachN:Nat) (eachC:Nat) (i:Int) (t:World) (R:Ending→World→Prop):Prop :=
 Br (decide (i < ((wordsN:Nat):Int)))
 (IdxA words wordsN i 1 fun v =>
 LdStr (t.cell? v) fun u =>
 Calls Tryz.prog 16 #[(.pointer k),(.string u)] t (post R fun v5 s =>
 ∃(j:Option Addr) (d:Nat) (c:Nat) (p:Int),v5=(.tuple #[(.slice j d c),(.int .i64 p)]) ∧
 InR .i64 (i+(1:Int))∧SlB i (i+(1:Int)) ((wordsC:Nat):Int)
 (Calls Tryz.prog 20 #[(.pointer k),(.slice (SlA words wordsC (i).toNat 1) (((i+(1:Int))).toNat-(i).toNat) (wordsC-(i).toNat))] s (post R fun v6 q =>
 ∃(f:Option Addr) (b:Nat) (e:Nat) (g:Int),v6=(.tuple #[(.slice f b e),(.int .i64 g)]) ∧
 ∃J22:World→Prop,(∀ (r:World),J22 r→F5_j22 L16 each eachN eachC i j d c f b r R) ∧
 (Br (p != (0:Int))
 (R (.returned (.bool false)) q)
 (Br (g != (0:Int))
 (R (.returned (.bool false)) q)
 (Br (((d:Nat):Int) != ((b:Nat):Int))
 (R (.returned (.bool false)) q)
 (J22 q))))))))
 (∃(I:Int→Int→World→Prop) (m:Int→Int→World→Nat),I (0:Int) (0:Int) t ∧
 ∀(n:Int) (i2:Int) (s:World),I n i2 s→F5_l30 wordsN h a each eachN (fun n' i2' w2=>I n' i2' w2∧m n' i2' w2 < m n i2 s) n i2 s R)
def F5_j9 (words:Option Addr) (wordsN:Nat) (wordsC:Nat) (e:Option Addr) (h:World) (R:Ending→World→Prop):Prop :=
 Calls Tryz.prog 20 #[(.pointer e),(.slice words wordsN wordsC)] h (post R fun v4 f =>
 ∃(d:Option Addr) (a:Nat) (b:Nat) (c:Int),v4=(.tuple #[(.slice d a b),(.int .i64 c)]) ∧
 Br (c != (0:Int))
 (R (.returned (.bool (((a:Nat):Int) == (0:Int)))) f)
 (Br (((wordsN:Nat):Int) == (0:Int))
 (R (.returned (.bool false)) f)
 (∃(I:Option Addr→Nat→Nat→Int→World→Prop) (m:Option Addr→Nat→Nat→Int→World→Nat),I none 0 0 (0:Int) f ∧
 ∀(each:Option Addr) (eachN:Nat) (eachC:Nat) (i:Int) (g:World),I each eachN eachC i g→F5_l16 words wordsN wordsC e d a (fun each' eachN' eachC' i' w2=>I each' eachN' eachC' i' w2∧m each' eachN' eachC' i' w2 < m each eachN eachC i g) each eachN eachC i g R)))
def F5 (acts:Option Addr) (actsN:Nat) (actsC:Nat) (words:Option Addr) (wordsN:Nat) (wordsC:Nat) (h:World) (R:Ending→World→Prop):Prop :=
 Calls Tryz.prog 27 #[] h (post R fun v w1 =>
 ∃(f:Bool),v=(.bool f) ∧
 Br (!f)
 (R (.returned (.bool false)) w1)
 (Calls Tryz.prog 28 #[(.slice acts actsN actsC)] w1 (post R fun v2 e =>
 ∃(g:Option Addr),v2=(.pointer g) ∧
 Br (g).isNone
 (R (.returned (.bool false)) e)
 (Calls Tryz.prog 26 #[(.pointer g)] e (post R fun v3 c =>
 ∃(a:Option Addr) (b:Int),v3=(.tuple #[(.pointer a),(.int .i64 b)]) ∧
 ∃J9:World→Prop,(∀ (d:World),J9 d→F5_j9 words wordsN wordsC a d R) ∧
 (Br (b != (0:Int))
 (R (.returned (.bool false)) c)
 (Br (a).isNone
 (R (.returned (.bool false)) c)
 (J9 c))))))))
theorem ok5 (acts:Option Addr) (actsN:Nat) (actsC:Nat) (words:Option Addr) (wordsN:Nat) (wordsC:Nat) {w:World}{R:Ending→World→Prop} (h:F5 acts actsN actsC words wordsN wordsC w R):Calls Tryz.prog 5 #[(.slice acts actsN actsC),(.slice words wordsN wordsC)] w R :=
 vc_calls (pl:=⟨173,⟨[]⟩,[(22,⟨[],[(4,5),(77,90)]⟩),(35,⟨[(19,(.s .bool))],[(19,20),(123,148)]⟩),(40,⟨[],[(4,5),(150,167)]⟩),(31,⟨[(17,(.s (.int .i64)))],[(4,5),(17,18),(19,169)]⟩),(9,⟨[],[(4,5),(32,38)]⟩)],[(23,⟨[(16,(.s (.int .i64)))],[(4,5),(16,105)]⟩),(16,⟨[(10,(.s .slice)),(11,(.s (.int .i64)))],[(4,5),(10,109)]⟩),(34,⟨[(19,(.s .bool)),(20,(.s (.int .i64)))],[(19,148)]⟩),(30,⟨[(17,(.s (.int .i64))),(18,(.s (.int .i64)))],[(4,5),(17,169)]⟩)]⟩) Tryz.func5 (by kernel_rfl) (by kernel_rfl) (by kernel_rfl) (Eq.mp (by kernel_rfl) h)
def F29_j3 (L2:Int→World→Prop) (i:Int) (a:World) (R:Ending→World→Prop):Prop :=
 InR .i64 (i+(1:Int))∧L2 (i+(1:Int)) a
def F29_l2 (l:Option Addr) (lN:Nat) (h_:Addr) (L2:Int→World→Prop) (i:Int) (h:World) (R:Ending→World→Prop):Prop :=
 Br (decide (i < ((lN:Nat):Int)))
 (∃J3:World→Prop,(∀ (a:World),J3 a→F29_j3 L2 i a R) ∧
 (Dr h fun a =>
 IdxA l lN i 3 fun b =>
 LdI .u64 (a.cell? b) fun f =>
 LdI .u64 (a.cell? h_) fun g =>
 Br (f == g)
 (IdxA l lN i 3 fun e =>
 LdI .i64 (a.cell? (e.add 1)) fun d =>
 LdI .i64 (a.cell? (h_.add 1)) fun c =>
 Br (d == c)
 (R (.returned (.bool true)) a)
 (J3 a))
 (J3 a)))
 (R (.returned (.bool false)) h)
def F29 (l:Option Addr) (lN:Nat) (lC:Nat) (h_0:Int) (h_1:Int) (h_2:Int) (b:World) (R:Ending→World→Prop):Prop :=
 Al b #[(.int .u64 h_0),(.int .i64 h_1),(.int .i64 h_2)] 67 fun h_ w1 =>
 ∃(I:Int→World→Prop) (m:Int→World→Nat),I (0:Int) w1 ∧
 ∀(i:Int) (a:World),I i a→F29_l2 l lN h_ (fun i' w2=>I i' w2∧m i' w2 < m i a) i a R
theorem ok29 (l:Option Addr) (lN:Nat) (lC:Nat) (h_0:Int) (h_1:Int) (h_2:Int) {w:World}{R:Ending→World→Prop} (h:F29 l lN lC h_0 h_1 h_2 w R):Calls Tryz.prog 29 #[(.slice l lN lC),(.agg #[(.int .u64 h_0),(.int .i64 h_1),(.int .i64 h_2)])] w R :=
 vc_calls (pl:=⟨30,⟨[]⟩,[(3,⟨[],[(4,5),(12,30)]⟩)],[(2,⟨[(5,(.s (.int .i64)))],[(4,30)]⟩)]⟩) Tryz.func29 (by kernel_rfl) (by kernel_rfl) (by kernel_rfl) (Eq.mp (by kernel_rfl) h)
def F27_j8 (r:Option Addr) (ha:World) (R:Ending→World→Prop):Prop :=
 Al ha #[(.string (ByteArray.mk #[120])),(.string (ByteArray.mk #[121]))] 9 fun g59 n =>
 Calls Tryz.prog 11 #[(.pointer r),(.slice (some g59) 2 2)] n (post R fun v10 ba =>
 ∃(z:Option Addr) (j:Nat) (e:Nat) (t:Int),v10=(.tuple #[(.slice z j e),(.int .i64 t)]) ∧
 Al ba #[(.string (ByteArray.mk #[120])),(.string (ByteArray.mk #[121]))] 9 fun g65 q =>
 Calls Tryz.prog 12 #[(.pointer r),(.slice (some g65) 2 2)] q (post R fun v11 p =>
 ∃(s:Option Addr) (i:Nat) (f:Nat) (m:Int),v11=(.tuple #[(.slice s i f),(.int .i64 m)]) ∧
 Al p #[(.string (ByteArray.mk #[120])),(.string (ByteArray.mk #[121]))] 9 fun g71 k =>
 Calls Tryz.prog 20 #[(.pointer r),(.slice (some g71) 2 2)] k (post R fun v12 ea =>
 ∃(y:Option Addr) (c:Nat) (b:Nat) (aa:Int),v12=(.tuple #[(.slice y c b),(.int .i64 aa)]) ∧
 Calls Tryz.prog 36 #[(.string (ByteArray.mk #[65,98,45,99]))] ea (post R fun v13 v =>
 ∃(da:Option Addr) (d:Nat) (g:Nat) (u:Option Addr) (h:Nat) (a:Nat) (ca:Int),v13=(.tuple #[(.slice da d g),(.slice u h a),(.int .i64 ca)]) ∧
 Br (t == (0:Int))
 (Br (((j:Nat):Int) == (3:Int))
 (Br (m == (0:Int))
 (Br (((i:Nat):Int) == (2:Int))
 (Br (aa == (0:Int))
 (Br (((c:Nat):Int) == (1:Int))
 (Br (ca == (0:Int))
 (Br (((d:Nat):Int) == (2:Int))
 (IdxA da d (0:Int) 1 fun ga =>
 LdStr (v.cell? ga) fun fa =>
 R (.returned (.bool (fa.toList == (ByteArray.mk #[97,98]).toList))) v)
 (R (.returned (.bool false)) v))
 (R (.returned (.bool false)) v))
 (R (.returned (.bool false)) v))
 (R (.returned (.bool false)) v))
 (R (.returned (.bool false)) v))
 (R (.returned (.bool false)) v))
 (R (.returned (.bool false)) v))
 (R (.returned (.bool false)) v)))))
def F27  (w_:World) (R:Ending→World→Prop):Prop :=
 Al w_ #[(.slice none 0 0),(.slice none 0 0),(.int .i64 0),(.int .i64 0),(.int .i64 0),(.map none),(.pointer none),(.int .u64 0),(.int .u64 0),(.map none)] 105 fun g18 w1 =>
 CallV Tryz.prog (.func (.func 58) #[] #[]) #[(.string (ByteArray.mk #[120,32,121]))] w1 R (fun v pc =>
 ∃(ib:Int) (ja:ByteArray) (hb:Option Addr) (fa:Nat) (j:Nat) (nb:ByteArray) (sb:Option Addr) (ga:Nat) (n:Nat),v=(.agg #[(.int .i64 ib),(.string ja),(.slice hb fa j),(.string nb),(.slice sb ga n)]) ∧
 Al pc #[(.int .i64 ib),(.string ja),(.slice hb fa j),(.string nb),(.slice sb ga n)] 84 fun g25 nc =>
 CallV Tryz.prog (.func (.func 59) #[] #[]) #[(.string (ByteArray.mk #[98])),(.slice (some g25) 1 1)] nc R (fun v2 rc =>
 ∃(gb:Int) (vb:ByteArray) (ua:Option Addr) (b:Nat) (m:Nat) (dc:ByteArray) (qb:Option Addr) (a:Nat) (g:Nat),v2=(.agg #[(.int .i64 gb),(.string vb),(.slice ua b m),(.string dc),(.slice qb a g)]) ∧
 CallV Tryz.prog (.func (.func 58) #[] #[]) #[(.string (ByteArray.mk #[121,32]))] rc R (fun v3 jc =>
 ∃(yb:Int) (zb:ByteArray) (ia:Option Addr) (ca:Nat) (da:Nat) (db:ByteArray) (ub:Option Addr) (u:Nat) (i:Nat),v3=(.agg #[(.int .i64 yb),(.string zb),(.slice ia ca da),(.string db),(.slice ub u i)]) ∧
 CallV Tryz.prog (.func (.func 58) #[] #[]) #[(.string (ByteArray.mk #[120]))] jc R (fun v4 ic =>
 ∃(eb:Int) (ka:ByteArray) (rb:Option Addr) (r:Nat) (k:Nat) (ab:ByteArray) (pb:Option Addr) (p:Nat) (e:Nat),v4=(.agg #[(.int .i64 eb),(.string ka),(.slice rb r k),(.string ab),(.slice pb p e)]) ∧
 Al ic #[(.int .i64 eb),(.string ka),(.slice rb r k),(.string ab),(.slice pb p e)] 84 fun g33 kc =>
 CallV Tryz.prog (.func (.func 59) #[] #[]) #[(.string (ByteArray.mk #[100])),(.slice (some g33) 1 1)] kc R (fun v5 qc =>
 ∃(va:Int) (gc:ByteArray) (hc:Option Addr) (c:Nat) (q:Nat) (ma:ByteArray) (fc:Option Addr) (s:Nat) (d:Nat),v5=(.agg #[(.int .i64 va),(.string gc),(.slice hc c q),(.string ma),(.slice fc s d)]) ∧
 Al qc #[(.int .i64 yb),(.string zb),(.slice ia ca da),(.string db),(.slice ub u i),(.int .i64 va),(.string gc),(.slice hc c q),(.string ma),(.slice fc s d)] 84 fun g35 mc =>
 CallV Tryz.prog (.func (.func 59) #[] #[]) #[(.string (ByteArray.mk #[99])),(.slice (some g35) 2 2)] mc R (fun v6 mb =>
 ∃(pa:Int) (kb:ByteArray) (fb:Option Addr) (f:Nat) (aa:Nat) (ta:ByteArray) (sa:Option Addr) (h:Nat) (z:Nat),v6=(.agg #[(.int .i64 pa),(.string kb),(.slice fb f aa),(.string ta),(.slice sa h z)]) ∧
 Al mb #[(.int .i64 gb),(.string vb),(.slice ua b m),(.string dc),(.slice qb a g),(.int .i64 pa),(.string kb),(.slice fb f aa),(.string ta),(.slice sa h z)] 84 fun g37 ya =>
 CallV Tryz.prog (.func (.func 59) #[] #[]) #[(.string (ByteArray.mk #[97])),(.slice (some g37) 2 2)] ya R (fun v7 jb =>
 ∃(ac:Int) (ec:ByteArray) (na:Option Addr) (y:Nat) (ea:Nat) (qa:ByteArray) (tb:Option Addr) (t:Nat) (ba:Nat),v7=(.agg #[(.int .i64 ac),(.string ec),(.slice na y ea),(.string qa),(.slice tb t ba)]) ∧
 Calls Tryz.prog 40 #[(.pointer (some g18)),(.int .i64 2),(.int .u64 0),(.agg #[(.int .i64 ac),(.string ec),(.slice na y ea),(.string qa),(.slice tb t ba)])] jb (post R fun v8 bc =>
 ∃(cb:Int) (ha:Int),v8=(.tuple #[(.int .u64 cb),(.int .i64 ha)]) ∧
 Calls Tryz.prog 26 #[(.pointer (some g18))] bc (post R fun v9 ra =>
 ∃(bb:Option Addr) (za:Int),v9=(.tuple #[(.pointer bb),(.int .i64 za)]) ∧
 ∃J8:World→Prop,(∀ (cc:World),J8 cc→F27_j8 bb cc R) ∧
 (Br (ha != (0:Int))
 (R (.returned (.bool false)) ra)
 (Br (za != (0:Int))
 (R (.returned (.bool false)) ra)
 (Br (bb).isNone
 (R (.returned (.bool false)) ra)
 (J8 ra)))))))))))))
theorem ok27  {w:World}{R:Ending→World→Prop} (h:F27  w R):Calls Tryz.prog 27 #[] w R :=
 vc_calls (pl:=⟨120,⟨[]⟩,[(8,⟨[],[(0,1),(47,57)]⟩)],[]⟩) Tryz.func27 (by kernel_rfl) (by kernel_rfl) (by kernel_rfl) (Eq.mp (by kernel_rfl) h)
def F58 (s:ByteArray) (f:World) (R:Ending→World→Prop):Prop :=
 Al f #[(.int .i64 0),(.string (ByteArray.mk #[])),(.slice none 0 0),(.string (ByteArray.mk #[])),(.slice none 0 0)] 84 fun g2 w1 =>
 St w1 g2 (.int .i64 2) fun d =>
 St d (g2.add 1) (.string (ByteArray.mk #[])) fun a =>
 St a (g2.add 2) (.slice none 0 0) fun b =>
 St b (g2.add 3) (.string s) fun e =>
 St e (g2.add 4) (.slice none 0 0) fun c =>
 LdI .i64 (c.cell? g2) fun res0_0 =>
 LdStr (c.cell? (g2.add 1)) fun res0_1 =>
 LdSl (c.cell? (g2.add 2)) fun res0_2 res0_2N res0_2C =>
 LdStr (c.cell? (g2.add 3)) fun res0_3 =>
 LdSl (c.cell? (g2.add 4)) fun res0_4 res0_4N res0_4C =>
 R (.returned (.agg #[(.int .i64 res0_0),(.string res0_1),(.slice res0_2 res0_2N res0_2C),(.string res0_3),(.slice res0_4 res0_4N res0_4C)])) c
theorem ok58 (s:ByteArray) {w:World}{R:Ending→World→Prop} (h:F58 s w R):Calls Tryz.prog 58 #[(.string s)] w R :=
 vc_calls (pl:=⟨5,⟨[]⟩,[],[]⟩) Tryz.func58 (by kernel_rfl) (by kernel_rfl) (by kernel_rfl) (Eq.mp (by kernel_rfl) h)
def F59 (name:ByteArray) (kids:Option Addr) (kidsN:Nat) (kidsC:Nat) (f:World) (R:Ending→World→Prop):Prop :=
 Al f #[(.int .i64 0),(.string (ByteArray.mk #[])),(.slice none 0 0),(.string (ByteArray.mk #[])),(.slice none 0 0)] 84 fun g4 w1 =>
 St w1 g4 (.int .i64 1) fun d =>
 St d (g4.add 1) (.string name) fun a =>
 St a (g4.add 2) (.slice none 0 0) fun b =>
 St b (g4.add 3) (.string (ByteArray.mk #[])) fun e =>
 St e (g4.add 4) (.slice kids kidsN kidsC) fun c =>
 LdI .i64 (c.cell? g4) fun res0_0 =>
 LdStr (c.cell? (g4.add 1)) fun res0_1 =>
 LdSl (c.cell? (g4.add 2)) fun res0_2 res0_2N res0_2C =>
 LdStr (c.cell? (g4.add 3)) fun res0_3 =>
 LdSl (c.cell? (g4.add 4)) fun res0_4 res0_4N res0_4C =>
 R (.returned (.agg #[(.int .i64 res0_0),(.string res0_1),(.slice res0_2 res0_2N res0_2C),(.string res0_3),(.slice res0_4 res0_4N res0_4C)])) c
theorem ok59 (name:ByteArray) (kids:Option Addr) (kidsN:Nat) (kidsC:Nat) {w:World}{R:Ending→World→Prop} (h:F59 name kids kidsN kidsC w R):Calls Tryz.prog 59 #[(.string name),(.slice kids kidsN kidsC)] w R :=
 vc_calls (pl:=⟨8,⟨[]⟩,[],[]⟩) Tryz.func59 (by kernel_rfl) (by kernel_rfl) (by kernel_rfl) (Eq.mp (by kernel_rfl) h)
def F28_l3 (acts:Option Addr) (actsN:Nat) (g7:Addr) (g9:Addr) (L3:Int→World→Prop) (i:Int) (y:World) (R:Ending→World→Prop):Prop :=
 Br (decide (i < ((actsN:Nat):Int)))
 (IdxA acts actsN i 12 fun u =>
 LdI .i64 (y.cell? u) fun p =>
 LdI .i64 (y.cell? (u.add 1)) fun m =>
 LdB (y.cell? (u.add 2)) fun q =>
 LdI .u64 (y.cell? (u.add 3)) fun k =>
 LdI .u64 (y.cell? (u.add 4)) fun g =>
 LdStr (y.cell? (u.add 5)) fun j =>
 LdStr (y.cell? (u.add 6)) fun s =>
 LdI .i64 (y.cell? (u.add 7)) fun n =>
 LdStr (y.cell? (u.add 8)) fun r =>
 LdSl (y.cell? (u.add 9)) fun h c f =>
 LdStr (y.cell? (u.add 10)) fun e =>
 LdSl (y.cell? (u.add 11)) fun d a b =>
 Calls Tryz.prog 60 #[(.iface 61 (.pointer (some g7))),(.pointer (some g9)),(.agg #[(.int .i64 p),(.int .i64 m),(.bool q),(.int .u64 k),(.int .u64 g),(.string j),(.string s),(.int .i64 n),(.string r),(.slice h c f),(.string e),(.slice d a b)])] y (post R fun v t =>
 ∃(z:Bool),v=(.bool z) ∧
 Br (!z)
 (R (.returned (.pointer none)) t)
 (InR .i64 (i+(1:Int))∧L3 (i+(1:Int)) t)))
 (R (.returned (.pointer (some g7))) y)
def F28 (acts:Option Addr) (actsN:Nat) (actsC:Nat) (c:World) (R:Ending→World→Prop):Prop :=
 Al c #[(.slice none 0 0),(.slice none 0 0),(.int .i64 0),(.int .i64 0),(.int .i64 0),(.map none),(.pointer none),(.int .u64 0),(.int .u64 0),(.map none)] 105 fun g7 w1 =>
 Al w1 #[(.slice none 0 0),(.slice none 0 0)] 107 fun g9 a =>
 ∃(I:Int→World→Prop) (m:Int→World→Nat),I (0:Int) a ∧
 ∀(i:Int) (b:World),I i b→F28_l3 acts actsN g7 g9 (fun i' w2=>I i' w2∧m i' w2 < m i b) i b R
theorem ok28 (acts:Option Addr) (actsN:Nat) (actsC:Nat) {w:World}{R:Ending→World→Prop} (h:F28 acts actsN actsC w R):Calls Tryz.prog 28 #[(.slice acts actsN actsC)] w R :=
 vc_calls (pl:=⟨26,⟨[]⟩,[],[(3,⟨[(5,(.s (.int .i64)))],[(2,3),(5,25)]⟩)]⟩) Tryz.func28 (by kernel_rfl) (by kernel_rfl) (by kernel_rfl) (Eq.mp (by kernel_rfl) h)
end Go.Proofs.YtccplipiahdhiaaGreatDoor
namespace Go.Proofs.YtccplipiahdhiaaGreatDoor
open Go.RowKit Go.Vc
set_option linter.unusedVariables false
set_option linter.unusedSimpArgs false
set_option maxRecDepth 100000
def exX (s:ByteArray):Tr:=.mk 2 noB [] s []
def exE (s:ByteArray) (l:List Tr):Tr:=.mk 1 s [] noB l
def exT:Tr:=exE (ByteArray.mk #[97]) [exE (ByteArray.mk #[98]) [exX (ByteArray.mk #[120,32,121])],exE (ByteArray.mk #[99]) [exX (ByteArray.mk #[121,32]),exE (ByteArray.mk #[100]) [exX (ByteArray.mk #[120])]]]
def exD:Im:=(insF ⟨[],[]⟩ 2 0 exT).1
def exW:List ByteArray:=[ByteArray.mk #[120],ByteArray.mk #[121]]
theorem ex_ins:(insF ⟨[],[]⟩ 2 0 exT).2.2=0:=by decide +kernel
theorem ex_all:(AllS exD exW).length=3:=by decide +kernel
theorem ex_small:(SmallS exD exW).length=2:=by decide +kernel
theorem ex_phr:(phrF (slA exD.sl) (stD exD) exW).length=1:=by decide +kernel
theorem ex_can:canS exW=true:=by decide +kernel
theorem ex_text:(textS (ByteArray.mk #[65,98,45,99])).2=0:=by decide +kernel
theorem ex_words:(wordsF (ByteArray.mk #[65,98,45,99]) 0).map (·.1)=[ByteArray.mk #[97,98],ByteArray.mk #[99]]:=by decide +kernel
def eX (s:ByteArray):E5:=⟨2,noB,(none,0,0),s,(none,0,0)⟩
def eE (s:ByteArray) (v:Sv):E5:=⟨1,s,(none,0,0),noB,v⟩
section
variable {w w1:World}{R:Ending→World→Prop}
theorem rd_blk {α:Type}{L:Lay α}{g:Nat}{cs:Array Value}{t:TypeId}{xs:List α} (h:Blk w g cs t) (hc:cs.toList=L.all xs) (hm:xs.length≤maxLen):Rd L w (some ⟨g,0,none⟩) xs.length xs :=
 ⟨Nat.le_refl _,hm,(fun h=>by cases h),fun _=>⟨g,0,rfl,fun j u hj=>by rw [h.cell,Nat.zero_add,←Array.getElem?_toList,hc];exact hj⟩⟩
theorem exX_rd (s:ByteArray):RTr w (exX s) (eX s):=by
 unfold exX eX
 simp only [RTr]
 exact⟨trivial,trivial,trivial,rr_nil,by simp,[],rfl,Rd.nil _ _,by simp only [RTl]⟩
theorem exE_rd {s:ByteArray}{l:List Tr}{v:Sv}{es:List E5} (hl:l.length≤1048576) (hn:v.2.1=es.length) (hr:Rd LE5 w v.1 v.2.2 es) (ht:RTl w l es):RTr w (exE s l) (eE s v):=by
 unfold exE eE
 simp only [RTr]
 exact⟨trivial,trivial,trivial,rr_nil,hl,es,hn,hr,ht⟩
theorem exX_call {K:Value→World→Prop}{R':Ending→World→Prop} (s:ByteArray) (h:∀w',Below w.heap.size w w'→K (.agg #[.int .i64 2,.string noB,.slice none 0 0,.string s,.slice none 0 0]) w'):CallV Tryz.prog (.func (.func 58) #[] #[]) #[.string s] w R' K:=by
 refine⟨by kernel_rfl,?_⟩
 refine ok58 s ?_
 unfold F58
 refine al fun g w1 hb1 b1 hge=>?_
 simp only [Addr.add_mk,Nat.zero_add]
 refine st_blk b1 (by simp) fun w2 b2 f2=>?_
 refine st_blk b2 (by simp) fun w3 b3 f3=>?_
 refine st_blk b3 (by simp) fun w4 b4 f4=>?_
 refine st_blk b4 (by simp) fun w5 b5 f5=>?_
 refine st_blk b5 (by simp) fun w6 b6 f6=>?_
 have b7:Blk w6 g #[.int .i64 2,.string noB,.slice none 0 0,.string s,.slice none 0 0] 84:=b6
 simp only [b7.cell,lds]
 refine h w6 ?_
 exact (hb1.trans (((((f2.trans f3).trans f4).trans f5).trans f6).toBelow hb1.size fun x hx e=>by have e:x=g:=e;omega))
theorem exE_call {K:Value→World→Prop}{R':Ending→World→Prop} (s:ByteArray) (v:Sv) (h:∀w',Below w.heap.size w w'→K (.agg #[.int .i64 1,.string s,.slice none 0 0,.string noB,.slice v.1 v.2.1 v.2.2]) w'):CallV Tryz.prog (.func (.func 59) #[] #[]) #[.string s,.slice v.1 v.2.1 v.2.2] w R' K:=by
 refine⟨by kernel_rfl,?_⟩
 refine ok59 s v.1 v.2.1 v.2.2 ?_
 unfold F59
 refine al fun g w1 hb1 b1 hge=>?_
 simp only [Addr.add_mk,Nat.zero_add]
 refine st_blk b1 (by simp) fun w2 b2 f2=>?_
 refine st_blk b2 (by simp) fun w3 b3 f3=>?_
 refine st_blk b3 (by simp) fun w4 b4 f4=>?_
 refine st_blk b4 (by simp) fun w5 b5 f5=>?_
 refine st_blk b5 (by simp) fun w6 b6 f6=>?_
 have b7:Blk w6 g #[.int .i64 1,.string s,.slice none 0 0,.string noB,.slice v.1 v.2.1 v.2.2] 84:=b6
 simp only [b7.cell,lds]
 refine h w6 ?_
 exact (hb1.trans (((((f2.trans f3).trans f4).trans f5).trans f6).toBelow hb1.size fun x hx e=>by have e:x=g:=e;omega))
end
set_option maxRecDepth 100000
section
variable {w w1:World}{R:Ending→World→Prop}
theorem exW_rd {g:Nat} (h:Blk w g #[.string (ByteArray.mk #[120]),.string (ByteArray.mk #[121])] 9):RdV LS w exW (some ⟨g,0,none⟩,2,2) :=
 ⟨rfl,by decide,rd_blk (xs:=exW) h rfl (by decide)⟩
theorem lives_calls (hT:Tabs w) (hK:∀w',Below w.heap.size w w'→R (.returned (.bool true)) w'):Calls Tryz.prog 27 #[] w R:=by
 refine ok27 ?_
 unfold F27
 refine al fun gp w1 hb1 b1 hge=>?_
 refine exX_call _ fun w2 hb2=>⟨_,_,_,_,_,_,_,_,_,rfl,?_⟩
 refine al fun g25 w3 hb3 b25 hge25=>?_
 refine exE_call _ (some ⟨g25,0,none⟩,1,1) fun w4 hb4=>⟨_,_,_,_,_,_,_,_,_,rfl,?_⟩
 refine exX_call _ fun w5 hb5=>⟨_,_,_,_,_,_,_,_,_,rfl,?_⟩
 refine exX_call _ fun w6 hb6=>⟨_,_,_,_,_,_,_,_,_,rfl,?_⟩
 refine al fun g33 w7 hb7 b33 hge33=>?_
 refine exE_call _ (some ⟨g33,0,none⟩,1,1) fun w8 hb8=>⟨_,_,_,_,_,_,_,_,_,rfl,?_⟩
 refine al fun g35 w9 hb9 b35 hge35=>?_
 refine exE_call _ (some ⟨g35,0,none⟩,2,2) fun w10 hb10=>⟨_,_,_,_,_,_,_,_,_,rfl,?_⟩
 refine al fun g37 w11 hb11 b37 hge37=>?_
 refine exE_call _ (some ⟨g37,0,none⟩,2,2) fun w12 hb12=>⟨_,_,_,_,_,_,_,_,_,rfl,?_⟩
 have hs1:=hb1.size
 have hs2:=hb2.size
 have hs3:=hb3.size
 have hs4:=hb4.size
 have hs5:=hb5.size
 have hs6:=hb6.size
 have hs7:=hb7.size
 have hs8:=hb8.size
 have hs9:=hb9.size
 have hs10:=hb10.size
 have hs11:=hb11.size
 have hgp:=b1.lt
 have c11:=btr hb11 hb11.size hb12
 have c10:=btr hb10 hb10.size c11
 have c9:=btr hb9 hb9.size c10
 have c8:=btr hb8 hb8.size c9
 have c7:=btr hb7 hb7.size c8
 have c6:=btr hb6 hb6.size c7
 have c5:=btr hb5 hb5.size c6
 have c4:=btr hb4 hb4.size c5
 have c3:=btr hb3 hb3.size c4
 have c2:=btr hb2 hb2.size c3
 have c1:=btr hb1 hb1.size c2
 have p1:=b1.keep c2
 have p25:=b25.keep c4
 have p33:=b33.keep c8
 have p35:=b35.keep c10
 have p37:=b37.keep hb12
 have hL:=ld_zero p1
 generalize ho:(fun b=>if b=gp then 1 else 0)=o at hL
 have hoc:∀b,b≠gp→(o b).beq 0=true:=fun b hb=>by rw [←ho];simp only [if_neg hb];rfl
 have hW:∀{g:Nat}{c:Array Value}{t:TypeId},g≠gp→Blk w12 g c t→Blk (wc o w12) g c t:=fun hne hh=>cells_only (ok:=fun b=>Nat.beq (o b) 0) (hoc _ hne) hh
 have hsub:Sub w (wc o w12):=fun b c t fr hb=>by
  have hlt:=(Array.getElem?_eq_some_iff.1 hb).1
  refine cells_only (hoc b (by omega)) ?_
  rw [c1.block b hlt];exact hb
 have hx:RTr (wc o w12) exT (eE (ByteArray.mk #[97]) (some ⟨g37,0,none⟩,2,2)):=by
  have r25:RTr (wc o w12) (exE (ByteArray.mk #[98]) [exX (ByteArray.mk #[120,32,121])]) (eE (ByteArray.mk #[98]) (some ⟨g25,0,none⟩,1,1)) :=
   exE_rd (by decide) rfl (rd_blk (xs:=[eX (ByteArray.mk #[120,32,121])]) (hW (by omega) p25) rfl (by decide)) (by simp only [RTl];exact⟨_,_,rfl,exX_rd _,rfl⟩)
  have r33:RTr (wc o w12) (exE (ByteArray.mk #[100]) [exX (ByteArray.mk #[120])]) (eE (ByteArray.mk #[100]) (some ⟨g33,0,none⟩,1,1)) :=
   exE_rd (by decide) rfl (rd_blk (xs:=[eX (ByteArray.mk #[120])]) (hW (by omega) p33) rfl (by decide)) (by simp only [RTl];exact⟨_,_,rfl,exX_rd _,rfl⟩)
  have r35:RTr (wc o w12) (exE (ByteArray.mk #[99]) [exX (ByteArray.mk #[121,32]),exE (ByteArray.mk #[100]) [exX (ByteArray.mk #[120])]]) (eE (ByteArray.mk #[99]) (some ⟨g35,0,none⟩,2,2)) :=
   exE_rd (by decide) rfl (rd_blk (xs:=[eX (ByteArray.mk #[121,32]),eE (ByteArray.mk #[100]) (some ⟨g33,0,none⟩,1,1)]) (hW (by omega) p35) rfl (by simp [maxLen])) (by simp only [RTl];exact⟨_,_,rfl,exX_rd _,_,_,rfl,r33,rfl⟩)
  exact exE_rd (by decide) rfl (rd_blk (xs:=[eE (ByteArray.mk #[98]) (some ⟨g25,0,none⟩,1,1),eE (ByteArray.mk #[99]) (some ⟨g35,0,none⟩,2,2)]) (hW (by omega) p37) rfl (by simp [maxLen])) (by simp only [RTl];exact⟨_,_,rfl,r25,_,_,rfl,r35,rfl⟩)
 refine insertL_calls (a:=0) (e:=eE (ByteArray.mk #[97]) (some ⟨g37,0,none⟩,2,2)) hL (by decide) nil_wf (hT.sub hsub) hx (by decide) fun w13 o13 hL13 ev=>⟨_,_,rfl,?_⟩
 have B13:Below w.heap.size w w13:=c1.trans (ev.fm.toBelow c1.size fun b hb e=>e (by rw [←ho];exact if_neg (by omega)))
 refine New_calls hL13 (ins_wf nil_wf 2 0 exT) fun gx w14 hb14 hix=>⟨_,_,rfl,?_⟩
 have B14:=btr B13 B13.size hb14
 have hix:Ix w14 gx exD:=hix
 obtain⟨gd,mt,mh,o',S,nv,tv,hv,hix⟩:=hix
 refine⟨fun w'=>w'=w14,?_,?_⟩
 rotate_left
 ·refine brn (fun h=>absurd ex_ins h) fun _=>brn (fun h=>absurd rfl h) fun _=>?_
  rw [Option.isNone_some,Br_f]
 rintro w15 rfl
 unfold F27_j8
 have nc:canS exW=false→False:=fun h=>by rw [ex_can] at h;cases h
 refine al fun ga w16 hb16 b16 _=>?_
 have B16:=btr B14 B14.size hb16
 refine All_calls (vw:=(some ⟨ga,0,none⟩,2,2)) (hix.keep hb16) (hT.keep B16) (exW_rd b16) (fun _ va w17 hb17 oa=>⟨_,_,_,_,rfl,?_⟩) fun h=>(nc h).elim
 have B17:=btr B16 B16.size hb17
 refine al fun gb w18 hb18 b18 _=>?_
 have B18:=btr B17 B17.size hb18
 have C18:=btr hb16 hb16.size (btr hb17 hb17.size hb18)
 refine Smallest_calls (vw:=(some ⟨gb,0,none⟩,2,2)) (hix.keep C18) (hT.keep B18) (exW_rd b18) (fun _ vb w19 hb19 ob=>⟨_,_,_,_,rfl,?_⟩) fun h=>(nc h).elim
 have B19:=btr B18 B18.size hb19
 refine al fun gc w20 hb20 b20 _=>?_
 have B20:=btr B19 B19.size hb20
 have C20:=btr C18 C18.size (btr hb19 hb19.size hb20)
 refine Phrase_calls (v:=(some ⟨gc,0,none⟩,2,2)) (hix.keep C20) (hT.keep B20) (exW_rd b20) (fun _ vc w21 hb21 oc=>⟨_,_,_,_,rfl,?_⟩) fun h=>(nc h).elim
 have B21:=btr B20 B20.size hb21
 refine wordsA_k _ (hT.keep B21) fun v w22 ⟨A,n,c,A2,n2,c2,hv,hw⟩=>⟨_,_,_,_,_,_,_,hv,?_⟩
 have B22:=btr B21 B21.size hw.below
 have ea:=(rdO oa).1
 have eb:=(rdO ob).1
 have ec:=(rdO oc).1
 rw [ex_all] at ea
 rw [ex_small] at eb
 rw [ex_phr] at ec
 have hws:=hw.ws
 rw [if_pos ex_text,ex_words] at hws
 obtain⟨q1,q2⟩:=hws.rd
 rw [ea,eb,ec,ex_text,q1]
 refine bre (fun _=>?_) fun h=>absurd rfl h
 refine bre (fun _=>?_) fun h=>absurd rfl h
 refine bre (fun _=>?_) fun h=>absurd rfl h
 refine bre (fun _=>?_) fun h=>absurd rfl h
 refine bre (fun _=>?_) fun h=>absurd rfl h
 refine bre (fun _=>?_) fun h=>absurd rfl h
 refine bre (fun _=>?_) fun h=>absurd rfl h
 refine bre (fun _=>?_) fun h=>absurd rfl h
 refine q2.str rfl rfl (k:=0) (by decide) fun b oo cs=>?_
 simp only [cs,lds]
 rw [bytes_eq]
 exact hK w22 B22
end
set_option maxRecDepth 100000
structure E12 where
 a:Ac
 e:E5
def E12.cells (x:E12):List Value:=[.int .i64 x.a.kind,.int .i64 x.a.wh,.bool x.a.how,.int .u64 (x.a.n:Nat),.int .u64 (x.a.at_:Nat),.string x.a.nm,.string x.a.val,.int .i64 x.e.kind,.string x.e.nm,.slice x.e.ats.1 x.e.ats.2.1 x.e.ats.2.2,.string x.e.text,.slice x.e.kids.1 x.e.kids.2.1 x.e.kids.2.2]
def LAc:Lay E12:=⟨12,E12.cells,fun _=>rfl,fun _=>by simp [E12.cells,Value.oneCell'],by decide⟩
def RAc (w:World) (x:E12):Prop:=AcOk x.a∧RTr w x.a.x x.e
theorem RAc.sub {w w1:World}{x:E12} (h:RAc w x) (hs:Sub w w1):RAc w1 x:=⟨h.1,RTr.sub hs _ _ h.2⟩
structure Both (p:Value) (P:Nat→World→(Nat→Nat)→Im→Prop) (w0:World) (g k:Nat) (w:World) (o:Nat→Nat) (D:Im) (vs vr:Sv):Prop where
 p:P k w o D
 wf:Wf D
 r:RM (okc o) w g D vs vr
 og:o g=0
 old:Below w0.heap.size w0 w
 col:∀b,b < w0.heap.size→o b=0
 gne:w0.heap.size≤g
section
variable {p:Value}{P:Nat→World→(Nat→Nat)→Im→Prop}{k:Nat}{w w0 w1:World}{o:Nat→Nat}{g:Nat}{D:Im}{vs vr:Sv}{R:Ending→World→Prop}
theorem Both.sub (h:Both p P w0 g k w o D vs vr):Sub w0 (vw (okc o) g w):=fun b c t fr hb=>by
 have hlt:=(Array.getElem?_eq_some_iff.1 hb).1
 refine cells_only (vw_iff.2 ⟨okc_iff.2 (h.col b hlt),by have:=h.gne;omega⟩) ?_
 rw [h.old.block b hlt];exact hb
theorem Both.keep (E:Edr p P) (h:Both p P w0 g k w o D vs vr) (hb:Below w.heap.size w w1):Both p P w0 g k w1 o D vs vr :=
 ⟨E.keep (M:=fun _=>False) h.p (.below hb) fun _ _ h=>h.elim,h.wf,h.r.keep hb,h.og,btr h.old h.old.size hb,h.col,h.gne⟩
theorem both_does (E:Edr p P) (h:Both p P w0 g k w o D vs vr) (hk:k < 1099511627776) (hT:Tabs w0) {x:E12} (hx:RAc w0 x)
  (hK:∀w' o' vs' vr',Both p P w0 g (k+1) w' o' (doF D x.a) vs' vr'→R (.returned (.bool true)) w'):Calls Tryz.prog 60 #[p,.pointer (some ⟨g,0,none⟩),acV x.a x.e] w R:=by
 have hs:=h.sub
 refine does_calls E h.p hk h.wf h.r h.og (hT.sub hs) hx.1 (RTr.sub hs _ _ hx.2) fun w' o' vs' vr' hp hr hf ho=>hK w' o' vs' vr' ⟨hp,do_wf h.wf _,hr,?_,?_,fun b hb=>ho b (Nat.lt_of_lt_of_le hb h.old.size) (h.col b hb),h.gne⟩
 ·exact ho g h.r.blk.lt h.og
 ·refine h.old.trans (hf.toBelow h.old.size fun b hb e=>?_)
  rcases e with e | e
  ·exact e (h.col b hb)
  ·have:=h.gne;omega
end
set_option maxRecDepth 100000
section
variable {w w1:World}{R:Ending→World→Prop}
abbrev LBoth (gp:Nat) (w0:World) (g k:Nat) (w:World) (o:Nat→Nat) (D:Im) (vs vr:Sv):Prop:=Both (.iface 61 (.pointer (some ⟨gp,0,none⟩))) (fun k w o D=>LD k gp 105 w o D) w0 g k w o D vs vr
theorem played_calls {A:Option Addr}{c:Nat}{xs:List E12} (hT:Tabs w) (hr:Rd LAc w A c xs) (hx:∀x∈xs,RAc w x) (hl:xs.length≤1048576)
  (hK:∀gp gd w' o D vs vr k,k≤1048576→LBoth gp w gd k w' o D vs vr→R (.returned (.pointer (some ⟨gp,0,none⟩))) w'):Calls Tryz.prog 28 #[.slice A xs.length c] w R:=by
 refine ok28 A xs.length c ?_
 unfold F28
 refine al fun gp w1 hb1 b1 hge1=>al fun gd w2 hb2 b2 hge2=>?_
 have B2:=btr hb1 hb1.size hb2
 have hs1:=hb1.size
 have hb1l:=b1.lt
 have b12:=b1.keep hb2
 have h0:LBoth gp w gd 0 w2 (fun b=>if b=gp then 1 else 0) ⟨[],[]⟩ (none,0,0) (none,0,0) :=
  ⟨ld_zero b12,nil_wf,rm_zero b2,if_neg (by omega),B2,fun b hb=>if_neg (by omega),by omega⟩
 refine⟨fun i w'=>∃(m:Nat) (o:Nat→Nat) (D:Im) (vs vr:Sv),i=m∧m≤xs.length∧LBoth gp w gd m w' o D vs vr,fun i _=>xs.length-i.toNat,⟨0,_,_,_,_,rfl,by omega,h0⟩,?_⟩
 rintro _ w3 ⟨m,o,D,vs,vr,rfl,hm,h3⟩
 unfold F28_l3
 refine brd (fun hlt=>?_) (fun hge=>?_)
 ·have hml:m < xs.length:=by omega
  refine (hr.keep h3.old).idx rfl (by omega) (by omega) rfl fun b oo hc=>?_
  simp only [Int.toNat_natCast] at hc
  have k0:=hc 0 _ rfl
  have k1:=hc 1 _ rfl
  have k2:=hc 2 _ rfl
  have k3:=hc 3 _ rfl
  have k4:=hc 4 _ rfl
  have k5:=hc 5 _ rfl
  have k6:=hc 6 _ rfl
  have k7:=hc 7 _ rfl
  have k8:=hc 8 _ rfl
  have k9:=hc 9 _ rfl
  have k10:=hc 10 _ rfl
  have k11:=hc 11 _ rfl
  simp only [Nat.add_zero] at k0
  simp only [k0,k1,k2,k3,k4,k5,k6,k7,k8,k9,k10,k11,lds]
  refine both_does label_edr h3 (by omega) hT (hx _ (List.getElem_mem hml)) fun w4 o4 vs4 vr4 h4=>⟨_,rfl,?_⟩
  rw [brnot,Br_t]
  exact⟨inR_i64 (by omega) (by omega),⟨m+1,o4,_,vs4,vr4,by simp,by omega,h4⟩,(by first | omega | (dsimp only;omega))⟩
 ·exact hK gp gd w3 o D vs vr m (by omega) h3
end
set_option maxRecDepth 100000
def hasB (l:List Hit) (n k:Nat):Bool:=l.any fun h=>decide (h.1=n) && decide (h.2.1=k)
section
variable {w:World}{R:Ending→World→Prop}
theorem has_calls {l:List Hit}{v:Sv}{n k:Nat}{z:Int} (hl:RdV LHt w l v) (hK:∀w',Below w.heap.size w w'→R (.returned (.bool (hasB l n k))) w'):Calls Tryz.prog 29 #[.slice v.1 v.2.1 v.2.2,.agg #[.int .u64 (n:Nat),.int .i64 (k:Nat),.int .i64 z]] w R:=by
 obtain⟨z1,z0,z2⟩:=hl
 refine ok29 v.1 v.2.1 v.2.2 n k z ?_
 unfold F29
 refine al fun g w1 hb1 b1 hge=>?_
 refine⟨fun i w'=>∃m:Nat,i=m∧m≤l.length∧Below w1.heap.size w1 w'∧hasB (l.take m) n k=false,fun i _=>l.length-i.toNat,⟨0,rfl,by omega,.refl _ _,rfl⟩,?_⟩
 rintro i w2 ⟨m,rfl,hm,hb2,hF⟩
 have B2:=btr hb1 hb1.size hb2
 unfold F29_l2
 refine brd (fun hlt=>?_) (fun hge=>?_)
 ·have hm2:m < l.length:=by omega
  have htk:hasB (l.take (m+1)) n k=(decide (l[m].1=n) && decide (l[m].2.1=k)):=by
   unfold hasB at hF ⊢
   rw [List.take_succ_eq_append_getElem hm2,List.any_append,hF];simp
  refine⟨fun w'=>Below w1.heap.size w1 w'∧hasB (l.take (m+1)) n k=false,fun w' ⟨p1,p2⟩=>?_,?_⟩
  ·unfold F29_j3
   exact⟨inR_i64 (by omega) (by omega),⟨m+1,by simp,by omega,p1,p2⟩,(by first | omega | (dsimp only;omega))⟩
  refine dr fun w3 hb3 _=>?_
  have B3:=btr hb2 hb2.size hb3
  refine (z2.keep (btr B2 B2.size hb3)).idx z1 (by omega) (by omega) rfl fun b3 o3 cc3=>?_
  simp only [Int.toNat_natCast] at cc3
  have k0:=cc3 0 _ rfl
  have k1:=cc3 1 _ rfl
  have b4:=b1.keep B3
  simp only [Nat.add_zero] at k0
  simp only [Addr.add_mk,Nat.zero_add,k0,k1,b4.cell,lds]
  refine bre (fun h1=>?_) (fun h1=>?_)
  ·refine (z2.keep (btr B2 B2.size hb3)).idx z1 (by omega) (by omega) rfl fun b5 o5 cc5=>?_
   simp only [Int.toNat_natCast] at cc5
   have k5:=cc5 1 _ rfl
   simp only [Addr.add_mk,Nat.zero_add,k5,b4.cell,lds]
   refine bre (fun h2=>?_) (fun h2=>?_)
   ·have e:hasB l n k=true:=by
     unfold hasB
     rw [List.any_eq_true]
     exact⟨l[m],List.getElem_mem hm2,by rw [Bool.and_eq_true,decide_eq_true_eq,decide_eq_true_eq];omega⟩
    have:=hK w3 (btr hb1 hb1.size B3)
    rw [e] at this;exact this
   ·exact⟨B3,by rw [htk,Bool.and_eq_false_iff];exact .inr (decide_eq_false (by omega))⟩
  ·exact⟨B3,by rw [htk,Bool.and_eq_false_iff];exact .inl (decide_eq_false (by omega))⟩
 ·have hm2:m=l.length:=by omega
  subst hm2
  rw [List.take_length] at hF
  have:=hK w2 B2
  rw [hF] at this;exact this
end
set_option maxRecDepth 100000
section
variable {W:World}{R:Ending→World→Prop}{A:Option Addr}{c:Nat}{xs:List E12}{ws:List ByteArray}{vw:Sv}
end
set_option maxRecDepth 100000
def isB (E:Nat→List Hit) (h:Hit):Nat→Bool
 | 0=>true
 | k+1=>isB E h k && (decide (k=0) || hasB (E k) h.1 (h.2.1+k))
theorem isB_one (E:Nat→List Hit) (h:Hit):isB E h 1=true:=by simp [isB]
theorem isB_succ {E:Nat→List Hit}{h:Hit}{k:Nat} (hk:1≤k):isB E h (k+1)=(isB E h k && hasB (E k) h.1 (h.2.1+k)):=by
 rw [isB,decide_eq_false (by omega),Bool.false_or]
theorem isB_iff {E:Nat→List Hit}{h:Hit}:∀k,isB E h k=true↔∀j,1≤j→j < k→hasB (E j) h.1 (h.2.1+j)=true
 | 0=>⟨fun _ j h1 h2=>by omega,fun _=>rfl⟩
 | k+1=>by
  rw [isB,Bool.and_eq_true,isB_iff k,Bool.or_eq_true,decide_eq_true_eq]
  constructor
  ·rintro ⟨a,b⟩ j h1 h2
   by_cases e:j=k
   ·subst e;exact b.resolve_left (by omega)
   ·exact a j h1 (by omega)
  ·intro a
   refine⟨fun j h1 h2=>a j h1 (by omega),?_⟩
   by_cases e:k=0
   ·exact .inl e
   ·exact .inr (a k (by omega) (by omega))
abbrev eachF (st:List (ByteArray × Hit)) (ws:List ByteArray) (j:Nat):List Hit:=hitF st (ws.getD j ByteArray.empty)
theorem getD_at {ws:List ByteArray}{j:Nat} (h:j < ws.length):ws.getD j ByteArray.empty=ws[j]:=by rw [List.getD_eq_getElem?_getD,List.getElem?_eq_getElem h];rfl
theorem phr_isB {A:Nat→Option Sl}{N:List Nat} (x0:ByteArray) (xs:List ByteArray):phrF A (stsF A N) (x0 :: xs)=(hitF (stsF A N) x0).filter fun h=>isB (eachF (stsF A N) (x0 :: xs)) h (x0 :: xs).length:=by
 unfold phrF
 rw [List.headD_cons]
 refine List.filter_congr fun h hh=>?_
 rw [Bool.eq_iff_iff,phr_iff hh xs,isB_iff]
 constructor
 ·intro hk j h1 h2
  obtain⟨j,rfl⟩:∃i,j=i+1:=⟨j-1,by omega⟩
  have h3:j < xs.length:=by simpa using h2
  have:=hk j xs[j] (List.getElem?_eq_getElem h3)
  unfold eachF
  rw [getD_at h2];exact this
 ·intro hk j v hv
  obtain⟨h3,rfl⟩:=List.getElem?_eq_some_iff.1 hv
  have h2:j+1 < (x0 :: xs).length:=by simp;omega
  have:=hk (j+1) (by omega) h2
  unfold eachF at this
  rw [getD_at h2] at this;exact this
theorem filt_at {α:Type}{H:List α}{p:α→Bool}{k:Nat} (hk:k < H.length) (hp:p H[k]=true):(H.filter p)[((H.take k).filter p).length]?=some H[k]:=by
 have e:H.filter p=(H.take k).filter p++(H[k] :: (H.drop (k+1)).filter p):=by
  conv=>lhs;rw [←List.take_append_drop k H,List.filter_append,List.drop_eq_getElem_cons hk,List.filter_cons_of_pos hp]
 rw [e,List.getElem?_append_right (Nat.le_refl _),Nat.sub_self];rfl
theorem filt_step {α:Type}{H:List α}{p:α→Bool}{k:Nat} (hk:k < H.length):((H.take (k+1)).filter p).length=((H.take k).filter p).length+(if p H[k]=true then 1 else 0):=by
 rw [List.take_succ_eq_append_getElem hk,List.filter_append,List.length_append]
 congr 1
 by_cases e:p H[k]=true
 ·rw [List.filter_cons_of_pos e,if_pos e];rfl
 ·rw [List.filter_cons_of_neg e,if_neg e];rfl
theorem hit_small {D:Im} (hw:Wf D) {k:ByteArray}{h:Hit} (hh:h∈hitF (stD D) k):h.2.1 < 16384:=by
 obtain⟨p1,p2⟩:=sts_mem.1 (hitF_mem.1 hh)
 have p3:=(List.getElem?_eq_some_iff.1 p2).1
 have h1:=sts_len hw [h.1]
 have:(stsF (slA D.sl) [h.1]).length=(wdF (slA D.sl) h.1).length:=by unfold stsF;simp [stF,numF_len]
 simp only [List.length_singleton] at h1;omega
theorem hit_beq {a b c:Int}:(!((a == a) && ((b == b) && ((c == c) && true))))=false:=by simp
section
variable {w0:World}{R:Ending→World→Prop}{D:Im}{ws:List ByteArray}{vp ve:Sv}{es:List Sv}
theorem phr2 (hw : Wf D) (rp : RdV LHt w0 (phrF (slA D.sl) (stD D) ws) vp) (re : RdV LSv w0 es ve) (hes : ∀ j (hj : j < ws.length), ∃ v, es[j]? = some v ∧ RdV LHt w0 (hitF (stD D) ws[j]) v) (h0 : 0 < ws.length) (hel : es.length = ws.length) (hl : ws.length ≤ 16)
    (hK : ∀ w', Below w0.heap.size w0 w' → R (.returned (.bool true)) w') :
    ∃ (I : Int → Int → World → Prop) (m : Int → Int → World → Nat), I (0 : Int) (0 : Int) w0 ∧
     ∀ (n : Int) (i2 : Int) (w1 : World), I n i2 w1 → F5_l30 ws.length vp.1 vp.2.1 ve.1 ve.2.1 (fun n' i2' w2 => I n' i2' w2 ∧ m n' i2' w2 < m n i2 w1) n i2 w1 R := by
  obtain ⟨x0, xs, rfl⟩ : ∃ x0 xs, ws = x0 :: xs := by
    cases ws with
    | nil => simp at h0
    | cons x0 xs => exact ⟨x0, xs, rfl⟩
  obtain ⟨v0, e0, r0⟩ := hes 0 (by simp)
  simp only [List.getElem_cons_zero] at r0
  rw [phr_isB] at rp
  obtain ⟨hz, hz2⟩ := List.getElem?_eq_some_iff.1 e0
  have hsm : ∀ h ∈ hitF (stD D) x0, h.2.1 < 16384 := fun h hh => hit_small hw hh
  have hfew := hit_few hw x0
  have hE : ∀ j (hj : j < (x0 :: xs).length), ∃ v, es[j]? = some v ∧ RdV LHt w0 (eachF (stD D) (x0 :: xs) j) v := fun j hj => by
    obtain ⟨v, q1, q2⟩ := hes j hj
    exact ⟨v, q1, by unfold eachF; rw [getD_at hj]; exact q2⟩
  clear hes
  generalize hH : hitF (stD D) x0 = H at *
  generalize hEE : eachF (stD D) (x0 :: xs) = E at *
  generalize hN : (x0 :: xs).length = N at *
  have hpN : (H.filter fun h => isB E h N).length ≤ H.length := List.length_filter_le _ _
  refine ⟨fun n i w' => ∃ m : Nat, i = m ∧ m ≤ H.length ∧ n = (((H.take m).filter fun h => isB E h N).length : Nat) ∧ Below w0.heap.size w0 w', fun _ i _ => H.length - i.toNat, ⟨0, rfl, by omega, rfl, .refl _ _⟩, ?_⟩
  rintro n _ w1 ⟨m, rfl, hm, rfl, hb1⟩
  unfold F5_l30
  refine (re.keep hb1).2.2.idx re.1 (by omega) (by have := re.1; omega) rfl fun b oo cc => ?_
  have cc := cc 0 _ rfl
  simp only [Int.toNat_zero, hz2, Nat.add_zero] at cc
  simp only [cc, lds]
  refine brd (fun hlt => ?_) (fun hge => ?_)
  · have hm2 : m < H.length := by have := r0.1; omega
    have hcl : ((H.take m).filter fun h => isB E h N).length ≤ H.length := Nat.le_trans (List.length_filter_le _ _) (by rw [List.length_take]; omega)
    have hst := filt_step (p := fun h => isB E h N) hm2
    refine ⟨fun n2 w' => n2 = (((H.take (m + 1)).filter fun h => isB E h N).length : Nat) ∧ Below w0.heap.size w0 w', ?_, ?_⟩
    · rintro n2 w' ⟨rfl, hb⟩
      exact ⟨inR_i64 (by omega) (by omega), ⟨m + 1, by simp, by omega, rfl, hb⟩, (by first | omega | (dsimp only; omega))⟩
    refine ⟨fun is k w' => ∃ q : Nat, k = q ∧ 1 ≤ q ∧ q ≤ N ∧ is = isB E H[m] q ∧ Below w1.heap.size w1 w', fun _ k _ => N - k.toNat, ⟨1, rfl, by omega, h0, (isB_one _ _).symm, .refl _ _⟩, ?_⟩
    rintro is _ w2 ⟨q, rfl, hq1, hq, rfl, hb2⟩
    have B2 := btr hb1 hb1.size hb2
    unfold F5_l34
    refine brd (fun hqlt => ?_) (fun hqge => ?_)
    · have hq2 : q < N := by omega
      refine ⟨fun is2 w' => is2 = isB E H[m] (q + 1) ∧ Below w1.heap.size w1 w', ?_, ?_⟩
      · rintro is2 w' ⟨rfl, hb⟩
        exact ⟨inR_i64 (by omega) (by omega), ⟨q + 1, by simp, by omega, by omega, rfl, hb⟩, (by first | omega | (dsimp only; omega))⟩
      have hdr : Below w2.heap.size w2 w2.drew := (Below.refl _ _).drew
      have B3 := btr B2 B2.size hdr
      have D3 := btr hb2 hb2.size hdr
      refine ⟨fun w' => Below w2.drew.heap.size w2.drew w', .refl _ _, ?_⟩
      rw [isB_succ hq1]
      have re3 := re.keep B3
      have r03 := r0.keep B3
      refine br (fun ht => ?_) (fun hf => ?_)
      · obtain ⟨vq, eq1, rq⟩ := hE q hq2
        obtain ⟨hzq, hzq2⟩ := List.getElem?_eq_some_iff.1 eq1
        refine re3.2.2.held (fun _ h => h) re3.1 (by omega) (by have := re.1; omega) rfl fun b1 o1 c1 => ?_
        have c1 := c1 0 _ rfl
        simp only [Int.toNat_natCast, hzq2, Nat.add_zero] at c1
        refine ⟨_, _, _, c1, ?_⟩
        refine re3.2.2.held (fun _ h => h) re3.1 (by omega) (by have := re.1; omega) rfl fun b2 o2 c2 => ?_
        have c2 := c2 0 _ rfl
        simp only [Int.toNat_zero, hz2, Nat.add_zero] at c2
        refine ⟨_, _, _, c2, ?_⟩
        refine r03.2.2.held (fun _ h => h) r03.1 (by omega) (by have := r0.1; omega) rfl fun b3 o3 c3 => ?_
        have c3 := c3 0 _ rfl
        simp only [Int.toNat_natCast, Nat.add_zero] at c3
        refine ⟨_, c3, ?_⟩
        refine re3.2.2.held (fun _ h => h) re3.1 (by omega) (by have := re.1; omega) rfl fun b4 o4 c4 => ?_
        have c4 := c4 0 _ rfl
        simp only [Int.toNat_zero, hz2, Nat.add_zero] at c4
        refine ⟨_, _, _, c4, ?_⟩
        refine r03.2.2.held (fun _ h => h) r03.1 (by omega) (by have := r0.1; omega) rfl fun b5 o5 c5 => ?_
        have c5 := c5 1 _ rfl
        simp only [Int.toNat_natCast] at c5
        have hs5 := hsm H[m] (List.getElem_mem hm2)
        refine ⟨_, c5, inR_i64 (by omega) (by omega), ?_⟩
        have e6 : (((H[m].2.1 : Nat) : Int) + (q : Nat)) = ((H[m].2.1 + q : Nat) : Int) := by omega
        rw [e6]
        refine has_calls (rq.keep B3) fun w4 hb4 => ⟨_, rfl, ?_, btr D3 D3.size hb4⟩
        rw [ht, Bool.true_and]
      · exact ⟨by rw [hf, Bool.false_and], D3⟩
    · have hqe : q = N := by omega
      subst hqe
      rw [brnot]
      refine br (fun ht => ?_) (fun hf => ?_)
      · have hat := filt_at (p := fun h => isB E h q) hm2 ht
        obtain ⟨hn1, hn2⟩ := List.getElem?_eq_some_iff.1 hat
        rw [if_pos ht] at hst
        refine ⟨fun w' => Below w0.heap.size w0 w', ?_, ?_⟩
        · rintro w' hb
          exact ⟨inR_i64 (by omega) (by omega), by rw [hst]; simp, hb⟩
        refine dr fun w3 hb3 _ => ?_
        have B3 := btr B2 B2.size hb3
        have rp3 := rp.keep B3
        refine brd (fun hge => absurd hge (by have := rp.1; omega)) (fun _ => ?_)
        refine rp3.2.2.idx rp3.1 (by omega) (by have := rp.1; omega) rfl fun b6 o6 c6 => ?_
        simp only [Int.toNat_natCast, hn2] at c6
        have k0 := c6 0 _ rfl
        have k1 := c6 1 _ rfl
        have k2 := c6 2 _ rfl
        simp only [Nat.add_zero] at k0
        simp only [Addr.add_mk, k0, k1, k2, lds]
        refine (re.keep B3).2.2.idx re.1 (by omega) (by have := re.1; omega) rfl fun b7 o7 c7 => ?_
        have c7 := c7 0 _ rfl
        simp only [Int.toNat_zero, hz2, Nat.add_zero] at c7
        simp only [c7, lds]
        refine (r0.keep B3).2.2.idx r0.1 (by omega) (by have := r0.1; omega) rfl fun b8 o8 c8 => ?_
        simp only [Int.toNat_natCast] at c8
        have m0 := c8 0 _ rfl
        have m1 := c8 1 _ rfl
        have m2 := c8 2 _ rfl
        simp only [Nat.add_zero] at m0
        simp only [Addr.add_mk, m0, m1, m2, lds]
        rw [hit_beq, Br_f]
        exact B3
      · rw [if_neg (by rw [hf]; decide)] at hst
        exact ⟨by rw [hst]; rfl, B2⟩
  · have hm2 : m = H.length := by have := r0.1; omega
    subst hm2
    rw [List.take_length]
    have : ((((H.filter fun h => isB E h N).length : Nat) : Int) == ((vp.2.1 : Nat) : Int)) = true := by rw [rp.1]; simp
    rw [this]
    exact hK w1 hb1
end
section
variable {W:World}{R:Ending→World→Prop}{A:Option Addr}{c:Nat}{xs:List E12}{ws:List ByteArray}{vw:Sv}
theorem phrasesS_calls (hT:Tabs W) (hr:Rd LAc W A c xs) (hx:∀x∈xs,RAc W x) (hl:xs.length≤1048576) (hw:RdV LS W ws vw) (hK:∀w',Below W.heap.size W w'→R (.returned (.bool true)) w') :
  Calls Tryz.prog 5 #[.slice A xs.length c,.slice vw.1 vw.2.1 vw.2.2] W R:=by
 refine ok5 A xs.length c vw.1 vw.2.1 vw.2.2 ?_
 unfold F5
 refine lives_calls hT fun w1 hb1=>⟨_,rfl,?_⟩
 rw [brnot,Br_t]
 refine played_calls (hT.keep hb1) (hr.keep hb1) (fun x h=>(hx x h).sub (sub_below hb1)) hl fun gp gd w2 o D vs vr kk hkk h2=>⟨_,rfl,?_⟩
 rw [Option.isNone_some,Br_f]
 refine New_calls h2.p h2.wf fun gx w3 hb3 hix=>⟨_,_,rfl,?_⟩
 have B2:=btr hb1 hb1.size h2.old
 have B3:=btr B2 B2.size hb3
 have h3:=h2.keep label_edr hb3
 refine⟨fun w'=>w'=w3,?_,brn (fun h=>absurd rfl h) fun _=>by rw [Option.isNone_some,Br_f]⟩
 rintro w4 rfl
 unfold F5_j9
 obtain⟨gd',mt,mh,o',S,nv,tv,hv,hix⟩:=hix
 have hT4:=hT.keep B3
 have hw4:=hw.keep B3
 refine Phrase_calls hix hT4 hw4 (fun ho vp w5 hb5 op=>⟨_,_,_,_,rfl,?_⟩) fun ho w5 hb5=>⟨_,_,_,_,rfl,?_⟩
 ·refine brn (fun h=>absurd rfl h) fun _=>?_
  have h16:0 < ws.length∧ws.length≤16∧∀x∈ws,oneF x=true:=by
   unfold canS at ho
   simp only [Bool.and_eq_true,decide_eq_true_eq,Bool.not_eq_true',List.any_eq_false,Bool.not_eq_true] at ho
   exact⟨ho.1,ho.2.1,fun x hx=>by have:=ho.2.2 x hx;simpa using this⟩
  obtain⟨h0,h16,hone⟩:=h16
  refine bre (fun he=>absurd he (by have:=hw.1;omega)) fun _=>?_
  have B5:=btr B3 B3.size hb5
  have hpl:(phrF (slA D.sl) (stD D) ws).length≤67108864:=Nat.le_trans (List.length_filter_le _ _) (hit_few hix.wf _)
  have rp:=rdV_own op (by omega)
  refine⟨fun A' n' c' i w'=>∃(m:Nat) (es:List Sv),i=m∧m≤ws.length∧es.length=m∧Below w5.heap.size w5 w'∧Own LSv w' w5.heap.size 42 (.slice A' n' c') es ∧
   ∀j (hj:j < ws.length),j < m→∃v,es[j]?=some v∧Own LHt w' w5.heap.size 67 (slV v) (hitF (stD D) ws[j])∧Apart (slV v) (.slice A' n' c'),fun _ _ _ i _=>ws.length-i.toNat,
   ⟨0,[],rfl,by omega,rfl,.refl _ _,Own.nil _ _ _ _,fun j _ h=>by omega⟩,?_⟩
  rintro A' n' c' _ w6 ⟨m,es,rfl,hm,hel,hb6,oe,hes⟩
  have B6:=btr B5 B5.size hb6
  have C6:=btr hb5 hb5.size hb6
  obtain⟨q1,q2⟩:=oe.rd
  unfold F5_l16
  refine brd (fun hlt=>?_) (fun hge=>?_)
  ·have hm2:m < ws.length:=by have:=hw.1;omega
   have hw6:=hw.keep B6
   obtain⟨z1,z0,z2⟩:=hw6
   refine z2.str z1 rfl (k:=m) hm2 fun b oo cs=>?_
   simp only [cs,lds]
   have ho1:=hone ws[m] (List.getElem_mem hm2)
   have no1:oneF ws[m]=false→False:=fun e=>by rw [ho1] at e;cases e
   refine Find_calls (hix.keep C6) (hT.keep B6) ws[m] (fun _ v7 w7 hb7 o7=>⟨_,_,_,_,rfl,?_⟩) fun e=>(no1 e).elim
   have B7:=btr B6 B6.size hb7
   have D7:=btr hb6 hb6.size hb7
   have hcap:=z2.1
   refine⟨inR_i64 (by omega) (by omega),by omega,by omega,by omega,?_⟩
   have e1:((m:Nat):Int).toNat=m:=by omega
   have e2:(((m:Nat):Int)+1).toNat-((m:Nat):Int).toNat=[ws[m]].length:=by rw [List.length_singleton];omega
   rw [e2,e1]
   have hsub:RdV LS w7 [ws[m]] (SlA vw.1 vw.2.2 m 1,[ws[m]].length,vw.2.2-m):=by
    have hd:(ws.drop m).take 1=[ws[m]]:=by rw [List.drop_eq_getElem_cons hm2];rfl
    refine⟨rfl,by simp,?_⟩
    rw [←hd]
    exact (((z2.keep hb7).slice (k:=m) (by omega)).take _)
   have hc1:canS [ws[m]]=true:=by unfold canS;simp [ho1]
   have no2:canS [ws[m]]=false→False:=fun e=>by rw [hc1] at e;cases e
   refine Phrase_calls (v:=(SlA vw.1 vw.2.2 m 1,[ws[m]].length,vw.2.2-m)) (hix.keep (btr hb5 hb5.size D7)) (hT.keep B7) hsub (fun _ v8 w8 hb8 o8=>⟨_,_,_,_,rfl,?_⟩) fun e=>(no2 e).elim
   rw [phr_one] at o8
   have D8:=btr D7 D7.size hb8
   have hfw:=hit_few hix.wf ws[m]
   have r7:=rdV_own (o7.keep hb8) (by omega)
   have r8:RdV LHt w8 (hitF (stD D) ws[m]) v8:=rdV_own o8 (by omega)
   have oe8:=oe.keep (btr hb7 hb7.size hb8)
   have ap7:Apart (slV v7) (.slice A' n' c'):=(oe.apart_new (by
    cases hr7:rowOf (slV v7) with
    | none=>exact .inl rfl
    | some x=>exact .inr ⟨x,rfl,(o7.lt x hr7).1⟩)).symm
   refine⟨fun w'=>Below w8.heap.size w8 w',?_,brn (fun h=>absurd rfl h) fun _=>brn (fun h=>absurd rfl h) fun _=>brn (fun h=>absurd (by rw [r7.1,r8.1]) h) fun _=>.refl _ _⟩
   rintro w9 hb9
   unfold F5_j22
   refine⟨fun k w'=>∃p:Nat,k=p∧p≤(hitF (stD D) ws[m]).length∧Below w8.heap.size w8 w',fun k _=>(hitF (stD D) ws[m]).length-k.toNat,⟨0,rfl,by omega,hb9⟩,?_⟩
   rintro _ w10 ⟨p,rfl,hp,hb10⟩
   unfold F5_l23
   refine brd (fun hlt2=>?_) (fun hge2=>?_)
   ·have hp2:p < (hitF (stD D) ws[m]).length:=by have:=r7.1;omega
    refine dr fun w11 hb11 _=>?_
    have D11:=btr hb10 hb10.size hb11
    refine (r7.keep D11).2.2.idx r7.1 (by omega) (by have:=r7.1;omega) rfl fun b1 o1 c1=>?_
    simp only [Int.toNat_natCast] at c1
    have k0:=c1 0 _ rfl
    have k1:=c1 1 _ rfl
    have k2:=c1 2 _ rfl
    simp only [Nat.add_zero] at k0
    simp only [Addr.add_mk,k0,k1,k2,lds]
    refine (r8.keep D11).2.2.idx r8.1 (by omega) (by have:=r8.1;omega) rfl fun b2 o2 c2=>?_
    simp only [Int.toNat_natCast] at c2
    have m0:=c2 0 _ rfl
    have m1:=c2 1 _ rfl
    have m2:=c2 2 _ rfl
    simp only [Nat.add_zero] at m0
    simp only [Addr.add_mk,m0,m1,m2,lds]
    rw [hit_beq,Br_f]
    exact⟨inR_i64 (by omega) (by omega),⟨p+1,by simp,by omega,D11⟩,(by first | omega | (dsimp only;omega))⟩
   ·have D10:=btr D8 D8.size hb10
    have oe10:=oe8.keep hb10
    have o10:Own LHt w10 w5.heap.size 67 (slV v7) (hitF (stD D) ws[m]):=((o7.keep hb8).keep hb10).rebase fun x hx=>by have:=(o7.lt x hx).1;have:=hb6.size;omega
    have hsz:=D10.size
    refine ap1 (L:=LSv) (x:=v7) (base:=w5.heap.size) (.slice none 0 0) 24 rfl (by kernel_rfl) (by kernel_rfl) (by kernel_rfl) oe10 hsz (by omega) (by unfold maxLen;omega) fun A2 c2 w11 o11 g11=>⟨A2,_,c2,rfl,?_⟩
    refine⟨inR_i64 (by omega) (by omega),⟨m+1,es++[v7],by simp,by omega,by simp [hel],D10.trans g11.below,o11,fun j hj hjm=>?_⟩,(by first | omega | (dsimp only;omega))⟩
    by_cases ej:j=m
    ·subst ej
     have:=g11.own o10 ap7
     exact⟨v7,by rw [List.getElem?_append_right (by omega),hel,Nat.sub_self];rfl,this.1,this.2⟩
    ·obtain⟨v,p1,p2,p3⟩:=hes j hj (by omega)
     have p2':=p2.keep (btr (btr hb7 hb7.size hb8) (btr hb7 hb7.size hb8).size hb10)
     have:=g11.own p2' p3
     exact⟨v,by rw [List.getElem?_append_left (by omega)];exact p1,this.1,this.2⟩
  ·have hm2:m=ws.length:=by have:=hw.1;omega
   rw [hw.1]
   have few1:∀x,(hitF (stD D) x).length < 4611686018427387904:=fun x=>by have:=hit_few hix.wf x;omega
   exact phr2 (ve:=(A',n',c')) hix.wf (rp.keep hb6) (rdV_own (v:=(A',n',c')) oe (by omega)) (fun j hj=>by
    obtain⟨v,p1,p2,_⟩:=hes j hj (by omega)
    exact⟨v,p1,rdV_own p2 (few1 _)⟩) h0 (by omega) h16 fun w7 hb7=>hK w7 (btr B6 B6.size hb7)
 ·have B5:=btr B3 B3.size hb5
  refine brn (fun _=>?_) fun h=>absurd h (by decide)
  exact hK w5 B5
end
end Go.Proofs.YtccplipiahdhiaaGreatDoor
namespace Go.Proofs.YtccplipiahdhiaaGreatDoor
open Go.RowKit Go.Deep Go.WideShapes Go.ChangeShapes
section
variable {H:Type}{enc:TypeId × Value→H}{P:Program}{W:World}{α:Type}
theorem cells_of_rows {L:Lay α}{w:World}{b o:Nat}:∀(xs:List α),(∀i (h:i < xs.length),∀j u,(L.cells xs[i])[j]?=some u→w.cell? ⟨b,o+i*L.n+j,none⟩=some u) →
  ∀j u,(L.all xs)[j]?=some u→w.cell? ⟨b,o+j,none⟩=some u:=by
 intro xs h j u hj
 have hlt:j < xs.length*L.n:=by rw [←L.all_length];exact (List.getElem?_eq_some_iff.1 hj).1
 have hi:j / L.n < xs.length:=(Nat.div_lt_iff_lt_mul L.pos).2 hlt
 have hr:j % L.n < L.n:=Nat.mod_lt _ L.pos
 have hd:j / L.n*L.n+j % L.n=j:=by rw [Nat.mul_comm];exact Nat.div_add_mod j L.n
 have:=h (j / L.n) hi (j % L.n) u (by rw [←L.all_at xs _ hi _ hr,hd];exact hj)
 rwa [Nat.add_assoc,hd] at this
end
end Go.Proofs.YtccplipiahdhiaaGreatDoor
namespace Go.Proofs.YtccplipiahdhiaaGreatDoor
open Go.RowKit Go.Deep Go.WideShapes Go.ChangeShapes Go.Vc
set_option linter.unusedSimpArgs false
set_option linter.unusedVariables false
set_option maxRecDepth 100000
theorem upto_one {H:Type} (d:DataW H):1≤Rows.uptoBulk d:=by
 cases d with
 | lit l=>cases l <;> simp only [Rows.uptoBulk] <;> omega
 | _=>simp only [Rows.uptoBulk];omega
theorem upto_len {H:Type}:∀(l:List (DataW H)),l.length≤Rows.uptoBulkAll l
 | []=>by simp
 | d :: l=>by
  have:=upto_len l
  have:=upto_one d
  simp only [Rows.uptoBulkAll,List.length_cons];omega
theorem upto_part {H:Type}{d:DataW H}:∀{l:List (DataW H)},d∈l→Rows.uptoBulk d≤Rows.uptoBulkAll l
 | e :: l,h=>by
  simp only [Rows.uptoBulkAll]
  rcases List.mem_cons.1 h with rfl | h
  ·omega
  ·have:=upto_part h;omega
theorem upto_small {H:Type}{d:DataW H}{l:List (DataW H)} (hk:Rows.uptoSmall H l=true) (h:d∈l):Rows.uptoBulk d≤1048576 :=
 Nat.le_trans (upto_part h) (of_decide_eq_true hk)
section
variable {H:Type}{enc:TypeId × Value→H}{P:Program}{W:World}{α:Type}
theorem trod_parts {t:TypeId}{fs:Array Field}{fuel:Nat}{cs:List Value}{x:DataW H × List MemPlace} (ht:P.underlying t=some (.struct fs)) (h:DataW.trod enc P W 0 (fun _=>true) true fuel t cs=some x) :
  cs.length=P.cellsOf t∧∀(i:Nat) (f:Field),fs[i]?=some f→∃n y,DataW.trod enc P W 0 (fun _=>true) true n f.type ((cs.drop f.offset).take (P.cellsOf f.type))=some y∧Rows.uptoBulk y.1 < Rows.uptoBulk x.1:=by
 obtain⟨xs,n,_,rfl,hl,hlen,hf⟩:=DataW.trod_struct ht h
 refine⟨hl,fun i f hi=>?_⟩
 have hlt:i < xs.length:=by rw [hlen];exact (Array.getElem?_eq_some_iff.1 hi).1
 refine⟨n,xs[i],?_,?_⟩
 ·rw [hf i f hi,List.getElem?_eq_getElem hlt]
 ·have:=upto_part (List.mem_map.2 ⟨xs[i],List.getElem_mem hlt,rfl⟩:xs[i].1∈xs.map (·.1))
  simp only [Rows.uptoBulk];omega
theorem open_bk [Inhabited α] (L:Lay α) (Q:α→Prop) {t e:TypeId}{fuel:Nat}{cs:List Value}{x:DataW H × List MemPlace} (h:DataW.trod enc P W 0 (fun _=>true) true fuel t cs=some x) (ht:P.underlying t=some (.slice e)) (hC:P.cellsOf e=L.n)
  (hel:∀(n:Nat) (cs:List Value) (y:DataW H × List MemPlace),DataW.trod enc P W 0 (fun _=>true) true n e cs=some y→Rows.uptoBulk y.1 < Rows.uptoBulk x.1→∃z:α,cs=L.cells z∧Q z) :
  ∃A c xs,cs=[.slice A xs.length c]∧Rd L W A c xs∧(∀y∈xs,Q y)∧xs.length≤Rows.uptoBulk x.1:=by
 rcases open_slice ht h with ⟨hcs,_⟩ | ⟨a,len,cap,m,n,D,Pl,hcs,_,hl,hm,hmm,hx,hi⟩
 ·exact⟨none,0,[],hcs,Rd.nil _ _,by simp,by simp⟩
 ·have hlm:len≤m:=by rw [hmm];simp;exact hl
  have hx1:=(Prod.mk.inj hx).1
  rw [hx1] at hel ⊢
  have hbulk:∀i,i < len→Rows.uptoBulk (D i) < Rows.uptoBulk (.slice ((List.range len).map D) ((List.range (m-len)).map fun j=>D (len+j))):=fun i hi=>by
   have:=upto_part (List.mem_map.2 ⟨i,List.mem_range.2 hi,rfl⟩:D i∈(List.range len).map D)
   simp only [Rows.uptoBulk];omega
  obtain⟨f,hfx⟩:=choose_lt (α:=α) (n:=len) (p:=fun i y=>(∀j u,(L.cells y)[j]?=some u→W.cell? ((a.add (i*L.n)).add j)=some u)∧Q y) (fun i hil=>by
   obtain⟨cs',h1,h2⟩:=hi i (by omega)
   obtain⟨y,rfl,hq⟩:=hel _ _ _ h2 (hbulk i hil)
   obtain⟨_,hlen,hat⟩:=World.cells?_some h1
   refine⟨y,fun j u hj=>?_,hq⟩
   rw [hC] at hat hlen
   rw [hat j (by rw [←L.len y];exact (List.getElem?_eq_some_iff.1 hj).1)]
   exact hj)
  refine⟨some a,cap,(List.range len).map f,by simpa using hcs,⟨by simpa using hl,hm,(fun h=>by cases h),fun h0=>?_⟩,fun y hy=>?_,?_⟩
  ·simp at h0
   have hspot:a.spot=Option.none:=by
    have hy:=(hfx 0 h0).1
    have hn:0 < (L.cells (f 0)).length:=by rw [L.len];exact L.pos
    have:=hy 0 _ (List.getElem?_eq_getElem hn)
    simp only [Nat.zero_mul,Addr.add,if_true] at this
    unfold World.cell? at this
    cases hs:a.spot with
    | none=>rfl
    | some q =>
     split at this
     ·rw [hs] at this;simp at this
     ·cases this
   obtain⟨b,o,s⟩:=a
   simp only at hspot
   subst hspot
   refine⟨b,o,rfl,cells_of_rows _ (fun i hi j u hj=>?_)⟩
   simp at hi hj
   have:=(hfx i hi).1 j u hj
   rw [Addr.add_lit,Addr.add_lit] at this
   exact this
  ·obtain⟨i,hi,rfl⟩:=List.mem_map.1 hy
   exact (hfx i (List.mem_range.1 hi)).2
  ·have:=upto_len ((List.range len).map D)
   simp only [Rows.uptoBulk,List.length_map,List.length_range] at this ⊢
   omega
theorem list2 {α:Type}{l:List α} (h:l.length=2):∃a b,l=[a,b]:=by
 match l,h with
 | [a,b],_=>exact⟨a,b,rfl⟩
theorem list5 {α:Type}{l:List α} (h:l.length=5):∃a b c d e,l=[a,b,c,d,e]:=by
 match l,h with
 | [a,b,c,d,e],_=>exact⟨a,b,c,d,e,rfl⟩
theorem list12 {α:Type}{l:List α} (h:l.length=12):∃a b c d e f g i j k m n,l=[a,b,c,d,e,f,g,i,j,k,m,n]:=by
 match l,h with
 | [a,b,c,d,e,f,g,i,j,k,m,n],_=>exact⟨a,b,c,d,e,f,g,i,j,k,m,n,rfl⟩
end
instance:Inhabited E5:=⟨⟨0,noB,(none,0,0),noB,(none,0,0)⟩⟩
instance:Inhabited At:=⟨⟨noB,noB⟩⟩
instance:Inhabited Ac:=⟨⟨0,0,false,0,0,noB,noB,.mk 0 noB [] noB []⟩⟩
instance:Inhabited E12:=⟨⟨default,default⟩⟩
theorem rtl_of {w:World}:∀(es:List E5),(∀e∈es,∃t,RTr w t e)→∃ts,RTl w ts es
 | [],_=>⟨[],by simp only [RTl]⟩
 | e :: es,h=>by
  obtain⟨t,ht⟩:=h e (by simp)
  obtain⟨ts,hts⟩:=rtl_of es fun x hx=>h x (by simp [hx])
  exact⟨t :: ts,by simp only [RTl];exact⟨e,es,rfl,ht,hts⟩⟩
section
variable {H:Type}{enc:TypeId × Value→H}{W:World}
theorem kStr:(Tryz.prog).cellsOf 9=1:=by kernel_rfl
theorem kInt:(Tryz.prog).cellsOf 3=1:=by kernel_rfl
theorem kBool:(Tryz.prog).cellsOf 4=1:=by kernel_rfl
theorem kHn:(Tryz.prog).cellsOf 65=1:=by kernel_rfl
theorem kAts:(Tryz.prog).cellsOf 81=1:=by kernel_rfl
theorem kTrs:(Tryz.prog).cellsOf 82=1:=by kernel_rfl
theorem kTr:(Tryz.prog).cellsOf 84=5:=by kernel_rfl
theorem kAt:(Tryz.prog).cellsOf 205=2:=by kernel_rfl
theorem at_cells (n:Nat) (cs:List Value) (x:DataW H × List MemPlace) (h:DataW.trod enc Tryz.prog W 0 (fun _=>true) true n 205 cs=some x):∃y:At,cs=LAt.cells y:=by
 obtain⟨hl,hp⟩:=trod_parts Tryz.underlying205 h
 obtain⟨a,b,rfl⟩:=list2 (hl.trans kAt)
 obtain⟨_,_,h0,-⟩:=hp 0 _ rfl
 obtain⟨_,_,h1,-⟩:=hp 1 _ rfl
 simp only [List.getElem_toArray,List.getElem_cons_zero,List.getElem_cons_succ,kStr,List.drop_zero,List.drop_succ_cons,List.take_succ_cons,List.take_zero] at h0 h1
 obtain⟨s,e0,-,-⟩:=DataW.trod_string Tryz.underlying9 h0
 obtain⟨t,e1,-,-⟩:=DataW.trod_string Tryz.underlying9 h1
 simp only [List.cons.injEq,and_true] at e0 e1
 subst e0 e1
 exact⟨⟨s,t⟩,rfl⟩
theorem ats_cells {n:Nat}{cs:List Value}{x:DataW H × List MemPlace} (h:DataW.trod enc Tryz.prog W 0 (fun _=>true) true n 81 cs=some x) (hx:Rows.uptoBulk x.1≤1048576):∃(v:Sv) (l:List At),cs=[.slice v.1 v.2.1 v.2.2]∧RR LAt W l v:=by
 obtain⟨A,c,l,e,hr,-,hlen⟩:=open_bk LAt (fun _=>True) h Tryz.underlying81 kAt fun n cs y hy _=>by
  obtain⟨z,hz⟩:=at_cells n cs y hy
  exact⟨z,hz,trivial⟩
 exact⟨(A,l.length,c),l,e,Nat.le_trans hlen hx,rfl,hr⟩
theorem tr_cells:∀(B:Nat),B≤1048576→∀(n:Nat) (cs:List Value) (x:DataW H × List MemPlace),DataW.trod enc Tryz.prog W 0 (fun _=>true) true n 84 cs=some x→Rows.uptoBulk x.1≤B →
  ∃(e:E5),cs=e.cells∧∃t,RTr W t e:=by
 intro B
 induction B using Nat.strongRecOn with
 | _ B ih =>
  intro hB n cs x h hx
  obtain⟨hl,hp⟩:=trod_parts Tryz.underlying84 h
  obtain⟨a,b,c,d,e,rfl⟩:=list5 (hl.trans kTr)
  obtain⟨_,_,h0,b0⟩:=hp 0 _ rfl
  obtain⟨_,_,h1,b1⟩:=hp 1 _ rfl
  obtain⟨_,_,h2,b2⟩:=hp 2 _ rfl
  obtain⟨_,_,h3,b3⟩:=hp 3 _ rfl
  obtain⟨_,y4,h4,b4⟩:=hp 4 _ rfl
  simp only [List.getElem_toArray,List.getElem_cons_zero,List.getElem_cons_succ,kInt,kStr,kAts,kTrs,List.drop_zero,List.drop_succ_cons,List.take_succ_cons,List.take_zero] at h0 h1 h2 h3 h4
  obtain⟨kd,e0,-,-⟩:=DataW.trod_int Tryz.underlying3 h0
  obtain⟨nm,e1,-,-⟩:=DataW.trod_string Tryz.underlying9 h1
  obtain⟨va,la,e2,ha⟩:=ats_cells h2 (by omega)
  obtain⟨tx,e3,-,-⟩:=DataW.trod_string Tryz.underlying9 h3
  obtain⟨A,c',es,e4,hr,hq,hlen⟩:=open_bk LE5 (fun e=>∃t,RTr W t e) h4 Tryz.underlying82 kTr fun n cs y hy hby=>ih (Rows.uptoBulk y.1) (by omega) (by omega) n cs y hy (Nat.le_refl _)
  simp only [List.cons.injEq,and_true] at e0 e1 e2 e3 e4
  subst e0 e1 e2 e3 e4
  obtain⟨ts,hts⟩:=rtl_of es hq
  refine⟨⟨kd,nm,va,tx,(A,es.length,c')⟩,rfl,.mk kd nm la tx ts,?_⟩
  simp only [RTr]
  exact⟨by trivial,by trivial,by trivial,ha,by rw [←hts.len];omega,es,rfl,hr,hts⟩
theorem hn_cells {n:Nat}{cs:List Value}{x:DataW H × List MemPlace} (h:DataW.trod enc Tryz.prog W 0 (fun _=>true) true n 65 cs=some x):∃k:Nat,k < 18446744073709551616∧cs=[.int .u64 (k:Nat)]:=by
 obtain⟨k,rfl,-,hw⟩:=DataW.trod_int Tryz.underlying65 h
 have hx:0≤k∧k≤18446744073709551615:=by simpa [Lit.wf,IntKind.min,IntKind.max,IntKind.signed,IntKind.bits] using hw
 exact⟨k.toNat,by omega,by rw [Int.toNat_of_nonneg hx.1]⟩
theorem ac_cells {n:Nat}{cs:List Value}{x:DataW H × List MemPlace} (h:DataW.trod enc Tryz.prog W 0 (fun _=>true) true n 143 cs=some x) (hx:Rows.uptoBulk x.1≤1048576):∃y:E12,cs=LAc.cells y∧RAc W y:=by
 obtain⟨hl,hp⟩:=trod_parts Tryz.underlying143 h
 have kAc:(Tryz.prog).cellsOf 143=12:=by kernel_rfl
 obtain⟨a,b,c,d,e,f,g,i,j,k,m,o,rfl⟩:=list12 (hl.trans kAc)
 obtain⟨_,_,h0,b0⟩:=hp 0 _ rfl
 obtain⟨_,_,h1,b1⟩:=hp 1 _ rfl
 obtain⟨_,_,h2,b2⟩:=hp 2 _ rfl
 obtain⟨_,_,h3,b3⟩:=hp 3 _ rfl
 obtain⟨_,_,h4,b4⟩:=hp 4 _ rfl
 obtain⟨_,_,h5,b5⟩:=hp 5 _ rfl
 obtain⟨_,_,h6,b6⟩:=hp 6 _ rfl
 obtain⟨_,_,h7,b7⟩:=hp 7 _ rfl
 simp only [List.getElem_toArray,List.getElem_cons_zero,List.getElem_cons_succ,kInt,kStr,kBool,kHn,kTr,List.drop_zero,List.drop_succ_cons,List.take_succ_cons,List.take_zero] at h0 h1 h2 h3 h4 h5 h6 h7
 obtain⟨q0,e0,-,-⟩:=DataW.trod_int Tryz.underlying3 h0
 obtain⟨q1,e1,-,-⟩:=DataW.trod_int Tryz.underlying3 h1
 obtain⟨q2,e2,-⟩:=DataW.trod_bool Tryz.underlying4 h2
 obtain⟨q3,l3,e3⟩:=hn_cells h3
 obtain⟨q4,l4,e4⟩:=hn_cells h4
 obtain⟨q5,e5,-,-⟩:=DataW.trod_string Tryz.underlying9 h5
 obtain⟨q6,e6,-,-⟩:=DataW.trod_string Tryz.underlying9 h6
 obtain⟨q7,e7,t,ht⟩:=tr_cells 1048576 (Nat.le_refl _) _ _ _ h7 (by omega)
 simp only [E5.cells,List.cons.injEq,and_true] at e0 e1 e2 e3 e4 e5 e6 e7
 obtain⟨e7,e8,e9,e10,e11⟩:=e7
 subst e0 e1 e2 e3 e4 e5 e6 e7 e8 e9 e10 e11
 exact⟨⟨⟨q0,q1,q2,q3,q4,q5,q6,t⟩,q7⟩,rfl,⟨l3,l4⟩,ht⟩
theorem acs_open {n:Nat}{cs:List Value}{x:DataW H × List MemPlace} (h:DataW.trod enc Tryz.prog W 0 (fun _=>true) true n 59 cs=some x) (hx:Rows.uptoBulk x.1≤1048576) :
  ∃(A:Option Addr) (c:Nat) (xs:List E12),cs=[.slice A xs.length c]∧Rd LAc W A c xs∧(∀y∈xs,RAc W y)∧xs.length≤1048576:=by
 obtain⟨A,c,l,e,hr,hq,hlen⟩:=open_bk LAc (RAc W) h Tryz.underlying59 (by kernel_rfl) fun n cs y hy hb=>ac_cells hy (by omega)
 exact⟨A,c,l,e,hr,hq,Nat.le_trans hlen hx⟩
end
set_option maxRecDepth 100000
section
variable {H:Type}{enc:TypeId × Value→H}{W:World}
theorem strs_open {n:Nat}{cs:List Value}{x:DataW H × List MemPlace} (h:DataW.trod enc Tryz.prog W 0 (fun _=>true) true n 26 cs=some x) (hx:Rows.uptoBulk x.1≤1048576) :
  ∃(v:Sv) (l:List ByteArray),cs=[slV v]∧RdV LS W l v∧l.length≤1048576:=by
 obtain⟨A,c,l,e,hr,hq,hlen⟩:=open_bk LS (fun _=>True) h Tryz.underlying26 kStr fun n cs y hy hb=>by
  obtain⟨s,rfl,-,-⟩:=DataW.trod_string Tryz.underlying9 hy
  exact⟨s,rfl,trivial⟩
 exact⟨(A,l.length,c),l,e,⟨rfl,by omega,hr⟩,Nat.le_trans hlen hx⟩
end
end Go.Proofs.YtccplipiahdhiaaGreatDoor
/- SearchPhrases: where a phrase stands, each of its words stands at its place. -/
namespace Go.Proofs.YtccplipiahdhiaaGreatDoor.searchPhrases
open Go.ChangeShapes Go.WideShapes Go.ChangeAt Go.RowKit Go.Joins Go.Lib Go.Vc
open Go.ChangeMaps (open_string shut_string)
set_option maxRecDepth 100000
set_option linter.unusedVariables false
set_option linter.unusedSimpArgs false
theorem own : ownKnob Tryz.prog.godebug = none := by kernel_rfl
theorem laidOut : laidOutB Tryz.prog = true := by kernel_rfl
/-- A world in which the tables are laid. -/
noncomputable def laidWorld (os : Os) : World :=
  let w0 := World.holding Tryz.prog os ⟨#[], #[], []⟩
  let put (h : Array Obj) (g : Nat) (cs : Array Value) : Array Obj := h.modify g fun
    | .cells _ t frozen => .cells cs t frozen
    | o => o
  let h1 := put w0.heap 1 (Lib.firstTab.map fun z => Value.int .u8 z).toArray
  let h2 := put h1 2 ((List.range 16).flatMap fun i => [Value.int .u8 (Lib.accLo i), Value.int .u8 (Lib.accHi i)]).toArray
  { w0 with heap := h2 }
theorem laid_met (os : Os) : laidMet Tryz.prog Rows.searchPhrasesUptoRow.laid ((laidWorld os).forCall (fun _ _ => 0) ⟨#[], #[.slice none 0 0, .slice none 0 0], []⟩).memory :=
  (LaidIn.of_run (l := Rows.searchPhrasesUptoRow.laid) [2, 1] 8 (by kernel_rfl) (by kernel_rfl) (by kernel_rfl) (by kernel_rfl)).met
theorem u8Types : U8Types Tryz.prog decRen := { decLays with }
theorem tabs_of {W : World} (h : laidMet Tryz.prog Rows.searchPhrasesUptoRow.laid W) : Tabs W :=
  utf8Tabs_of_readsT (ρ := decRen) u8Types ⟨by kernel_rfl, by kernel_rfl, by kernel_rfl, by kernel_rfl, by kernel_rfl, by kernel_rfl, by kernel_rfl⟩
    (by rw [← Pinned.utf8First_eq]; exact Lib.laidMet.reads h (.tail _ (.head _))) (Lib.laidMet.reads h (.head _))
theorem reads (os : Os) {H : Type} (enc : TypeId × Value → H) : ∃ places, DataW.whole enc Tryz.prog ((laidWorld os).forCall (fun _ _ => 0) ⟨#[], #[.slice none 0 0, .slice none 0 0], []⟩).memory Tryz.f5.params.toList Rows.searchPhrasesSpec.vars false (#[.slice none 0 0, .slice none 0 0] : Array Value).toList 8 = some ([.nil, .nil], [], places) :=
  ⟨[], by kernel_rfl⟩
theorem lifted (os : Os) (started : os.Started) (H : Type) (enc : TypeId × Value → H) (F : Stop.Interp) :
    ReturnsInHanded {} Tryz.checked os 5 .any ((Rows.OpenSpec.upto Rows.searchPhrasesSpec).preRow enc Tryz.prog Tryz.f5 Rows.searchPhrasesUptoRow.domain false Rows.searchPhrasesUptoRow.laid) (((Rows.OpenSpec.upto Rows.searchPhrasesSpec).at F).post enc Tryz.prog Tryz.f5 false true false false) := by
  obtain ⟨places, hx⟩ := reads os enc
  refine returnsInHanded_of_row (C := Tryz.checked) (s := Rows.OpenSpec.upto Rows.searchPhrasesSpec) own started (by kernel_rfl) Tryz.func5
    (witness_row_at (enc := enc) (C := Tryz.checked) false (laidWorld os) #[.slice none 0 0, .slice none 0 0] rfl (by kernel_rfl) (by kernel_rfl) (by kernel_rfl)
      (OpenSpec.preRow_of_cond 8 hx (by kernel_rfl) (fun k hk => by cases hk; kernel_rfl) (by kernel_rfl) (laid_met os))) ?_
  intro W base args ds gs before hval0 hW _ hcond hsz0 hL _ _
  rw [MakeChecks.laidMetH_plain _ _ _ (by kernel_rfl)] at hL
  have hT : Tabs W := tabs_of hL
  have hk : Rows.uptoSmall H (ds ++ gs) = true := hcond _ rfl
  have hval : ∀ (j : Nat) t v, Tryz.f5.params[j]? = some t → args[j]? = some v → Value.okWide Tryz.prog W .any base t v := hval0
  have hWw : DataW.Whole enc Tryz.prog Tryz.f5.params.toList Rows.searchPhrasesSpec.vars false W args.toList ds gs before := hW
  clear hW
  have hW := hWw
  obtain ⟨p, q, hA0, hV, rfl, hfz, hnd⟩ := hW
  have hW' := hWw
  have hA : DataW.TrodAll enc Tryz.prog W 0 (fun _ => true) true Tryz.f5.params.toList args.toList ds p := hA0
  rw [Tryz.params5] at hA hval
  obtain ⟨v0, vs0, d0, ds0, p0, q0, hargs, rfl, rfl, h0, r0⟩ := trodAll_cons hA
  obtain ⟨v1, vs1, d1, ds1, p1, q1, rfl, rfl, rfl, h1, r1⟩ := trodAll_cons r0
  obtain ⟨rfl, rfl, rfl⟩ := trodAll_nil r1
  obtain rfl : args = #[v0, v1] := by cases args; simp_all
  obtain ⟨rfl, rfl⟩ := trodVars_none hV
  have k0 := h0
  have lt0 : ∀ x ∈ p0, x.block < W.heap.size := by obtain ⟨m, hm⟩ := k0; exact DataW.trod_lt m _ _ _ hm
  have k1 := h1
  have lt1 : ∀ x ∈ p1, x.block < W.heap.size := by obtain ⟨m, hm⟩ := k1; exact DataW.trod_lt m _ _ _ hm
  clear hA0 hval0
  obtain ⟨la, ln, lc, rfl⟩ := okWide_slice Tryz.underlying59 (hval 0 59 _ rfl rfl)
  obtain ⟨lb, lm, ld, rfl⟩ := okWide_slice Tryz.underlying26 (hval 1 26 _ rfl rfl)
  obtain ⟨fl, hfl⟩ := h0
  obtain ⟨A, c, xs, hle, hR, hQ, hlen⟩ := acs_open hfl (upto_small hk (by simp))
  obtain ⟨fm, hfm⟩ := h1
  obtain ⟨vw, ws, hlf, hW2, hwl⟩ := strs_open hfm (upto_small hk (by simp))
  unfold slV at hlf
  simp [Value.cells] at hle hlf
  obtain ⟨rfl, rfl, rfl⟩ := hle
  obtain ⟨rfl, rfl, rfl⟩ := hlf
  refine (phrasesS_calls (R := fun e W' => e = .returned (.bool true) ∧ Below W.heap.size W W') hT hR hQ hlen hW2 fun w' hb => ⟨rfl, hb⟩).mono fun e W' ⟨he, bel⟩ => ?_
  subst he
  exact ⟨_, rfl, _, _, _, [], _, [], hW', trodAll_mk1 (shut_bool Tryz.underlying4 _), (trodAll_cons_mk (Below.trod laidOut (by kernel_rfl) (of_decide_eq_true (by kernel_rfl)) k0 bel lt0) (trodAll_cons_mk (Below.trod laidOut (by kernel_rfl) (of_decide_eq_true (by kernel_rfl)) k1 bel lt1) trodAll_mk0)), rfl, bel.frame _, fun h => by cases h⟩
theorem said : Rows.SearchPhrasesUptoSaid :=
  OpenClaim.holds_of_cond 5 Tryz.f5 rfl rfl rfl rfl rfl rfl rfl ⟨rfl, rfl, rfl, rfl, rfl⟩ rfl rfl rfl rfl rfl (by kernel_rfl) Tryz.func5 (by kernel_rfl)
    (of_decide_eq_true (by kernel_rfl)) (by unfold Func.isWrapper; first | (rw [if_neg (of_decide_eq_false (by kernel_rfl))]; exact ⟨rfl, rfl⟩) | (rw [if_pos (of_decide_eq_true (by kernel_rfl))]; kernel_rfl))
    (fun os started H enc _ F => by rw [OpenClaim.pre_eq_preRow]; exact lifted os started H enc F)
theorem plain (f : FuncId) (fn : Func) (hf : Tryz.pinned.checked.prog.funcNamed "espalier/espalierlaw26.SearchPhrases" = some f) (hfn : Tryz.pinned.checked.prog.funcs[f]? = some fn) :
    false = Tryz.pinned.checked.prog.looks [] ∧ ∀ (j : Nat) t, fn.params[j]? = some t → Tryz.pinned.checked.prog.wantsStandIn t = false := by
  obtain rfl : f = 5 := Option.some.inj ((show Tryz.prog.funcNamed "espalier/espalierlaw26.SearchPhrases" = some 5 by kernel_rfl).symm.trans hf) |>.symm
  obtain rfl : fn = Tryz.f5 := (Option.some.inj (Tryz.func5.symm.trans hfn)).symm
  refine ⟨by kernel_rfl, fun j t ht => ?_⟩
  have hm : t ∈ Tryz.f5.params.toList := by simpa using Array.mem_of_getElem? ht
  have hall : (Tryz.f5.params.toList.all fun u => !Tryz.prog.wantsStandIn u) = true := by kernel_rfl
  exact (show Tryz.prog.wantsStandIn t = false by simpa using List.all_eq_true.1 hall t hm)
end Go.Proofs.YtccplipiahdhiaaGreatDoor.searchPhrases
namespace Go.Proofs.YtccplipiahdhiaaGreatDoor
open Go.ChangeShapes Go.WideShapes Go.ChangeAt Go.RowKit Go.Joins Go.Lib
theorem searchPhrases_holds : Rows.SearchPhrasesUptoCardSaid :=
  Claim7.holds_tied_plain_at .later [] _ _ _ _ searchPhrases.said (fun _ h => by cases h) (by kernel_rfl) (fun _ h => by cases h) searchPhrasesUpto_row_tie rfl ⟨rfl, rfl⟩ (by kernel_rfl) rfl searchPhrases.plain (by kernel_rfl)
#print axioms searchPhrases_holds
end Go.Proofs.YtccplipiahdhiaaGreatDoor
