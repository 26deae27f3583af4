/- UpdateOnes: a list of edits comes to the same when they are made one by one, and when two that stand beside one another in unlike phases change places. -/
import Derived.Deep.Slices
import Derived.SizedLaws
import Derived.DataReads
import Derived.WideShapes
import Derived.Test.YtnbgiacnbheonaaGreatDoorRows
import Derived.Lib.SmallJoins
import Derived.MapKept
import Derived.Laws.IdiomRangeMap
import Derived.Test.YtnbgiacnbheonaaGreatDoorProg
import Derived.Test.YtnbgiacnbheonaaGreatDoorUo4
namespace Go.Proofs.YtnbgiacnbheonaaGreatDoor
open Go.RowKit Go.Vc
set_option linter.unusedVariables false
set_option linter.unusedSimpArgs false
set_option maxRecDepth 100000
theorem al11 {z0 z1 z2 z3 z4 z5 z6 z7 z8 z9 z10 v0 v1 v2 v3 v4 v5 v6 v7 v8 v9 v10:Value}{w:Wd}{t:TypeId}{K:Addr->Wd->Prop} (h:∀g w1,Below w.heap.size w w1->Blk w1 g #[v0,v1,v2,v3,v4,v5,v6,v7,v8,v9,v10] t->w.heap.size<=g->K ⟨g,0,none⟩ w1) :
  Al w #[z0,z1,z2,z3,z4,z5,z6,z7,z8,z9,z10] t fun p w1=>St w1 p v0 fun w2=>St w2 (p.add 1) v1 fun w3=>St w3 (p.add 2) v2 fun w4=>St w4 (p.add 3) v3 fun w5=>St w5 (p.add 4) v4 fun w6=>St w6 (p.add 5) v5 fun w7=>St w7 (p.add 6) v6 fun w8=>St w8 (p.add 7) v7 fun w9=>St w9 (p.add 8) v8 fun w10=>St w10 (p.add 9) v9 fun w11=>St w11 (p.add 10) v10 fun w12=>K p w12:=by
 refine al fun g w1 hb hg hge=>?_
 simp only [Addr.add_mk]
 refine st_blk hg sm fun w2 b2 f2=>st_blk b2 sm fun w3 b3 f3=>st_blk b3 sm fun w4 b4 f4=>st_blk b4 sm fun w5 b5 f5=>st_blk b5 sm fun w6 b6 f6=>st_blk b6 sm fun w7 b7 f7=>st_blk b7 sm fun w8 b8 f8=>st_blk b8 sm fun w9 b9 f9=>st_blk b9 sm fun w10 b10 f10=>st_blk b10 sm fun w11 b11 f11=>st_blk b11 sm fun w12 b12 f12=>?_
 simp only [sls] at b12
 have F:Fm (·=g) w1 w12:=((((((((((f2.trans f3).trans f4).trans f5).trans f6).trans f7).trans f8).trans f9).trans f10).trans f11).trans f12)
 exact h g w12 (hb.trans (F.toBelow hb.size fun b hb e=>by have e:b=g:=e;omega)) b12 hge
theorem rd_row {α:Type}{L:Lay α}{w:Wd}{g:Nat}{cs:Array Value}{t:TypeId}{xs:List α} (h:Blk w g cs t) (hc:cs.toList=L.all xs) (hm:xs.length<=maxLen):Rd L w (some ⟨g,0,none⟩) xs.length xs:=
 ⟨nlr _,hm,(fun h=>by cases h),fun _=>⟨g,0,rfl,fun j u hj=>by rw [h.cell,nza,<-Array.getElem?_toList,hc];exact hj⟩⟩
abbrev opV (x:E11):Value:=.agg #[.int .i64 x.o.kind,.int .u64 (x.o.node:Nat),.int .u64 (x.o.at_:Nat),.int .i64 x.o.wh,.string x.o.nm,.string x.o.val,.int .i64 x.e.kind,.string x.e.nm,.slice x.e.ats.1 x.e.ats.2.1 x.e.ats.2.2,.string x.e.text,.slice x.e.kids.1 x.e.kids.2.1 x.e.kids.2.2]
abbrev opC (x:E11):Array Value:=#[.int .i64 x.o.kind,.int .u64 (x.o.node:Nat),.int .u64 (x.o.at_:Nat),.int .i64 x.o.wh,.string x.o.nm,.string x.o.val,.int .i64 x.e.kind,.string x.e.nm,.slice x.e.ats.1 x.e.ats.2.1 x.e.ats.2.2,.string x.e.text,.slice x.e.kids.1 x.e.kids.2.1 x.e.kids.2.2]
section
variable {w:Wd}{R:RT}
theorem sg_calls (k:Int) (hK:R (.returned (.bool (sgB k))) w):CL 131 #[.int .i64 k] w R:=by
 refine ok131 k ?_
 unfold F131
 unfold sgB at hK
 refine bre (fun h=>?_) (fun h=>?_)
 ·rw [det h,Bool.true_or] at hK;exact hK
 rw [def0 h,Bool.false_or] at hK
 refine bre (fun h=>?_) (fun h=>?_)
 ·rw [det h,Bool.true_or] at hK;exact hK
 rw [def0 h,Bool.false_or] at hK
 refine bre (fun h=>?_) (fun h=>?_)
 ·rw [det h,Bool.true_or] at hK;exact hK
 rw [def0 h,Bool.false_or] at hK
 exact hK
theorem atk_calls (k:Int) (hK:R (.returned (.bool (atK k))) w):CL 132 #[.int .i64 k] w R:=by
 refine ok132 k ?_
 unfold F132
 unfold atK at hK
 refine bre (fun h=>?_) (fun h=>?_)
 ·rw [det h,Bool.true_or] at hK;exact hK
 rw [def0 h,Bool.false_or] at hK
 exact hK
theorem phP_calls (k:Int) (hK:R (.returned (.int .i64 (phF k))) w):CL 75 #[.int .i64 k] w R:=by
 refine ok75 k ?_
 unfold F75
 unfold phF at hK
 refine bre (fun h=>?_) (fun h=>?_)
 ·rw [if_pos h] at hK;exact hK
 rw [if_neg h] at hK
 refine bre (fun h=>?_) (fun h=>?_)
 ·rw [if_pos h] at hK;exact hK
 rw [if_neg h] at hK
 refine bre (fun h=>?_) (fun h=>?_)
 ·rw [if_pos h] at hK;exact hK
 rw [if_neg h] at hK
 refine bre (fun h=>?_) (fun h=>?_)
 ·rw [if_pos h] at hK;exact hK
 rw [if_neg h] at hK
 exact hK
theorem phR_calls (k:Int) (hK:R (.returned (.int .i64 (phF k))) w):CL 81 #[.int .i64 k] w R:=by
 refine ok81 k ?_
 unfold F81
 unfold phF at hK
 refine bre (fun h=>?_) (fun h=>?_)
 ·rw [if_pos h] at hK;exact hK
 rw [if_neg h] at hK
 refine bre (fun h=>?_) (fun h=>?_)
 ·rw [if_pos h] at hK;exact hK
 rw [if_neg h] at hK
 refine bre (fun h=>?_) (fun h=>?_)
 ·rw [if_pos h] at hK;exact hK
 rw [if_neg h] at hK
 refine bre (fun h=>?_) (fun h=>?_)
 ·rw [if_pos h] at hK;exact hK
 rw [if_neg h] at hK
 exact hK
theorem cfP_calls (x y:E11) (hK:∀w',Below w.heap.size w w'->R (.returned (.bool (cfB x.o y.o))) w'):CL 130 #[opV x,opV y] w R:=by
 refine ok130 x.o.kind x.o.node x.o.at_ x.o.wh x.o.nm x.o.val x.e.kind x.e.nm x.e.ats.1 x.e.ats.2.1 x.e.ats.2.2 x.e.text x.e.kids.1 x.e.kids.2.1 x.e.kids.2.2 y.o.kind y.o.node y.o.at_ y.o.wh y.o.nm y.o.val y.e.kind y.e.nm y.e.ats.1 y.e.ats.2.1 y.e.ats.2.2 y.e.text y.e.kids.1 y.e.kids.2.1 y.e.kids.2.2 ?_
 unfold F130
 refine al fun ga w1 hb1 ba _=>al fun gb w2 hb2 bb _=>?_
 have ba2:=ba.keep hb2
 have H:=hK w2 (btr hb1 hb1.size hb2)
 unfold cfB at H
 simp only [ba2.cell,bb.cell,lds]
 refine⟨fun w'=>w'=w2/\x.o.node=y.o.node/\(decide (x.o.kind=y.o.kind) && sgB x.o.kind)=false,?_,?_⟩
 ·rintro _ ⟨rfl,hn,hs⟩
  rw [det hn,Bool.true_and,hs,Bool.false_or] at H
  unfold F130_j5
  simp only [ba2.cell,bb.cell,lds]
  refine atk_calls _ ⟨_,rfl,?_⟩
  refine br (fun h1=>?_) (fun h1=>by rw [h1,Bool.false_and,Bool.false_and] at H;exact H)
  rw [h1,Bool.true_and] at H
  simp only [ba2.cell,bb.cell,lds]
  refine atk_calls _ ⟨_,rfl,?_⟩
  refine br (fun h2=>?_) (fun h2=>by rw [h2,Bool.false_and] at H;exact H)
  rw [h2,Bool.true_and] at H
  simp only [ba2.cell,bb.cell,lds]
  rw [bytes_eq]
  exact H
 ·refine brn (fun hn=>?_) (fun hn=>?_)
  ·rw [def0 (fun e=>hn (by rw [e])),Bool.false_and] at H;exact H
  ·have hn:x.o.node=y.o.node:=by omega
   refine bre (fun hk=>?_) (fun hk=>⟨rfl,hn,by rw [def0 hk,Bool.false_and]⟩)
   refine sg_calls _ ⟨_,rfl,?_⟩
   refine br (fun h1=>?_) (fun h1=>⟨rfl,hn,by rw [h1,Bool.and_false]⟩)
   rw [det hn,Bool.true_and,det hk,h1] at H
   exact H
theorem cfR_calls (x y:E11) (hK:∀w',Below w.heap.size w w'->R (.returned (.bool (cfB x.o y.o))) w'):CL 111 #[opV x,opV y] w R:=by
 refine ok111 x.o.kind x.o.node x.o.at_ x.o.wh x.o.nm x.o.val x.e.kind x.e.nm x.e.ats.1 x.e.ats.2.1 x.e.ats.2.2 x.e.text x.e.kids.1 x.e.kids.2.1 x.e.kids.2.2 y.o.kind y.o.node y.o.at_ y.o.wh y.o.nm y.o.val y.e.kind y.e.nm y.e.ats.1 y.e.ats.2.1 y.e.ats.2.2 y.e.text y.e.kids.1 y.e.kids.2.1 y.e.kids.2.2 ?_
 unfold F111
 refine al fun ga w1 hb1 ba _=>al fun gb w2 hb2 bb _=>?_
 have ba2:=ba.keep hb2
 have H:=hK w2 (btr hb1 hb1.size hb2)
 unfold cfB at H
 simp only [ba2.cell,bb.cell,lds]
 refine brn (fun hn=>?_) (fun hn=>?_)
 ·rw [def0 (fun e=>hn (by rw [e])),Bool.false_and] at H;exact H
 have hn:x.o.node=y.o.node:=by omega
 rw [det hn,Bool.true_and] at H
 refine⟨fun at_ w'=>w'=w2/\at_=(atK x.o.kind && atK y.o.kind),?_,?_⟩
 ·rintro at_ w5 ⟨rfl,rfl⟩
  unfold F111_j4
  simp only [ba2.cell,bb.cell,lds]
  refine⟨fun one w3=>w3=w5/\one=(decide (x.o.kind=y.o.kind) && sgB x.o.kind),?_,?_⟩
  ·rintro one _ ⟨rfl,rfl⟩
   unfold F111_j5
   simp only [ba2.cell,bb.cell,lds]
   refine br (fun h1=>by rw [h1,Bool.true_or] at H;exact H) (fun h1=>?_)
   rw [h1,Bool.false_or] at H
   refine br (fun h2=>?_) (fun h2=>by rw [h2,Bool.false_and] at H;exact H)
   rw [h2,Bool.true_and] at H
   rw [bytes_eq]
   exact H
  ·unfold sgB
   refine bre (fun hk=>?_) (fun hk=>⟨rfl,by rw [def0 hk,Bool.false_and]⟩)
   rw [det hk,Bool.true_and]
   refine bre (fun h=>⟨rfl,by rw [det h,Bool.true_or]⟩) (fun h=>?_)
   rw [def0 h,Bool.false_or]
   refine bre (fun h=>⟨rfl,by rw [det h,Bool.true_or]⟩) (fun h=>?_)
   rw [def0 h,Bool.false_or]
   refine bre (fun h=>⟨rfl,by rw [det h,Bool.true_or]⟩) (fun h=>?_)
   rw [def0 h,Bool.false_or]
   exact⟨rfl,rfl⟩
 ·unfold atK
  refine bre (fun h=>?_) (fun h=>?_)
  ·rw [det h,Bool.true_or,Bool.true_and]
   refine bre (fun h=>⟨rfl,by rw [det h,Bool.true_or]⟩) (fun h=>?_)
   rw [def0 h,Bool.false_or]
   exact⟨rfl,rfl⟩
  rw [def0 h,Bool.false_or]
  refine bre (fun h=>?_) (fun h=>?_)
  ·rw [det h,Bool.true_and]
   refine bre (fun h=>⟨rfl,by rw [det h,Bool.true_or]⟩) (fun h=>?_)
   rw [def0 h,Bool.false_or]
   exact⟨rfl,rfl⟩
  ·exact⟨rfl,by rw [def0 h,Bool.false_and]⟩
theorem checkT_calls {x:Tr}{e:E5} (hx:RTr w x e) (hT:Tabs w) (hK:∀w',Below w.heap.size w w'->R (.returned (.int .i64 (lookF x 1 0).2)) w'):CL 129 #[.agg #[.int .i64 e.kind,.string e.nm,slV e.ats,.string e.text,slV e.kids]] w R:=by
 refine ok129 e.kind e.nm e.ats.1 e.ats.2.1 e.ats.2.2 e.text e.kids.1 e.kids.2.1 e.kids.2.2 ?_
 unfold F129
 refine al fun g1 w1 hb1 b1 hge1=>al fun gl w2 hb2 bl hgel=>?_
 have b12:=b1.keep hb2
 have B2:=btr hb1 hb1.size hb2
 simp only [b12.cell,lds]
 have hlsub:Sub w (but gl w2):=old_but B2 (by have:=hb1.size;omega)
 refine look_calls x (gl:=gl) (deep:=1) (n:=0) (md:=0) (e:=e) bl (RTr.sub hlsub _ _ hx) (hT.sub hlsub) om om om om fun w3 n3 md3 F3 hB3 q1 q2=>⟨_,rfl,?_⟩
 exact hK w3 (B2.trans (F3.toBelow B2.size fun b hb e=>by have e:b=gl:=e;have:=hb1.size;omega))
end
end Go.Proofs.YtnbgiacnbheonaaGreatDoor
namespace Go.Proofs.YtnbgiacnbheonaaGreatDoor
open Go.RowKit Go.Deep Go.WideShapes Go.ChangeShapes
section
variable {H:Type}{enc:TypeId × Value→H}{P:Program}{W:World}{α:Type}
theorem cells_of_rows {L:Lay α}{w:World}{b o:Nat}:∀(xs:List α),(∀i (h:i < xs.length),∀j u,(L.cells xs[i])[j]?=some u→w.cell? ⟨b,o+i*L.n+j,none⟩=some u) →
  ∀j u,(L.all xs)[j]?=some u→w.cell? ⟨b,o+j,none⟩=some u:=by
 intro xs h j u hj
 have hlt:j < xs.length*L.n:=by rw [←L.all_length];exact (List.getElem?_eq_some_iff.1 hj).1
 have hi:j / L.n < xs.length:=(Nat.div_lt_iff_lt_mul L.pos).2 hlt
 have hr:j % L.n < L.n:=Nat.mod_lt _ L.pos
 have hd:j / L.n*L.n+j % L.n=j:=by rw [Nat.mul_comm];exact Nat.div_add_mod j L.n
 have:=h (j / L.n) hi (j % L.n) u (by rw [←L.all_at xs _ hi _ hr,hd];exact hj)
 rwa [Nat.add_assoc,hd] at this
end
end Go.Proofs.YtnbgiacnbheonaaGreatDoor
namespace Go.Proofs.YtnbgiacnbheonaaGreatDoor
open Go.RowKit Go.Vc
set_option linter.unusedVariables false
set_option linter.unusedSimpArgs false
set_option maxRecDepth 100000
theorem Own.st5 {w:Wd}{q:Nat}{v:Sv}{xs:List E5}{k:Nat} (e':E5) (hO:Own LE5 w q 48 (slV v) xs) (hk:k<xs.length) {b:Nat} (hb:rowOf (slV v)=some b) {K:Wd->Prop}
  (hK:∀w1,Own LE5 w1 q 48 (slV v) (xs.set k e')->Fm (fun b=>rowOf (slV v)=some b) w w1->K w1) :
  St w ⟨b,k*LE5.n,none⟩ (.int .i64 e'.kind) fun w1=>St w1 ⟨b,k*LE5.n+1,none⟩ (.string e'.nm) fun w2=>St w2 ⟨b,k*LE5.n+2,none⟩ (.slice e'.ats.1 e'.ats.2.1 e'.ats.2.2) fun w3=>St w3 ⟨b,k*LE5.n+3,none⟩ (.string e'.text) fun w4=>
  St w4 ⟨b,k*LE5.n+4,none⟩ (.slice e'.kids.1 e'.kids.2.1 e'.kids.2.2) K:=by
 have h8:LE5.n=5:=rfl
 have hO0:Own LE5 w q 48 (slV v) (xs.set k xs[k]):=by rw [List.set_getElem_self];exact hO
 generalize xs[k]=a0 at hO0
 refine hO0.stc2 (j:=0) (a':={ a0 with kind:=e'.kind }) hk dc rfl hb fun w1 o1 f1=>?_
 refine o1.stc2 (a':={ a0 with kind:=e'.kind,nm:=e'.nm }) hk dc rfl hb fun w2 o2 f2=>?_
 refine o2.stc2 (a':={ a0 with kind:=e'.kind,nm:=e'.nm,ats:=e'.ats }) hk dc rfl hb fun w3 o3 f3=>?_
 refine o3.stc2 (a':={ a0 with kind:=e'.kind,nm:=e'.nm,ats:=e'.ats,text:=e'.text }) hk dc rfl hb fun w4 o4 f4=>?_
 refine o4.stc2 (a':=e') hk dc rfl hb fun w5 o5 f5=>hK w5 o5 ?_
 exact (((f1.trans f2).trans f3).trans f4).trans f5
theorem spoil_calls:∀(x:Tr) {w:Wd}{e:E5}{lo hi:Nat}{R:RT},OTr w x e lo hi->hi<=w.heap.size->(∀w',Fm (fun b=>lo<=b/\b<hi) w w'->R (.returned (.tuple #[])) w') ->
  CL 60 #[.agg #[.int .i64 e.kind,.string e.nm,slV e.ats,.string e.text,slV e.kids]] w R:=by
 refine Tr.ind fun kind nm attrs text kids ih=>?_
 intro w e lo hi R hT hhi hK
 simp only [OTr] at hT
 obtain⟨h1,h2,h3,h4,h5,h6,mid,es,h7,h8,h9,h10,h11,h12⟩:=hT
 have hel:=h12.len
 refine ok60 e.kind e.nm e.ats.1 e.ats.2.1 e.ats.2.2 e.text e.kids.1 e.kids.2.1 e.kids.2.2 ?_
 unfold F60
 refine al fun g1 w1 hb1 b1 hge1=>?_
 have hav:e.ats.2.1=attrs.length:=by
  obtain⟨A,c,hv,_⟩:=h6.form
  rw [slv_form hv]
 have hkv:e.kids.2.1=kids.length:=by
  obtain⟨A,c,hv,_⟩:=h10.form
  rw [slv_form hv];exact hel
 have hs1:=hb1.size
 refine⟨fun j w'=>∃(k:Nat) (l:List At),j=k/\k<=attrs.length/\l.length=attrs.length/\Own LAt w' 0 145 (slV e.ats) l/\Fm (fun b=>rowOf (slV e.ats)=some b) w1 w',fun j _=>attrs.length-j.toNat,⟨0,attrs,rfl,Nat.zero_le _,rfl,h6.keep hb1,.refl _ _⟩,?_⟩
 rintro j w2 ⟨k,l,rfl,hk,hl,o2,f2⟩
 unfold F60_l2
 have hn1:rowOf (slV e.ats)≠some g1:=fun e9=>by have:=h9 g1 e9;omega
 have b12:=f2.blk b1 hn1
 simp only [b12.cell,lds]
 refine brd (fun hlt=>?_) (fun hge=>?_)
 ·have hk2:k<l.length:=by omega
  refine o2.elA rfl hk2 (show 2=LAt.n from rfl) fun b hb=>?_
  simp only [Addr.add_mk]
  refine o2.stc (j:=0) (x':=⟨ByteArray.mk #[115,112,111,105,108,116],l[k].val⟩) hk2 dc rfl hb fun w3 o3 f3=>?_
  refine o3.stc2 (a':=⟨ByteArray.mk #[115,112,111,105,108,116],ByteArray.mk #[]⟩) hk2 dc rfl hb fun w4 o4 f4=>?_
  exact⟨inR_i64 om om,⟨k+1,_,sm,om,by simpa using hl,o4,(f2.trans f3).trans f4⟩,odz⟩
 ·have hfa:Fm (fun b=>lo<=b/\b<hi) w w2:=(Fm.below hb1).trans (f2.mono fun b _ hb=>by have:=h9 b hb;omega)
  have f02:Fm (fun b=>rowOf (slV e.ats)=some b) w w2:=(Fm.below hb1).trans f2
  have okid:Own LE5 w2 0 48 (slV e.kids) es:=own_fm h10 f02 fun b hb e9=>by have:=h9 b e9;have:=h11 b hb;omega
  have otl:OTl w2 kids es mid hi (rowOf (slV e.kids)):=OTl.fm f02 _ _ _ _ _ (fun b g1 g2 _ e9=>by have:=h9 b e9;omega) h12
  refine⟨fun j w'=>∃(m lo':Nat) (ex:List E5),j=m/\m<=kids.length/\mid<=lo'/\ex.length=es.length/\(∀i,m<=i->ex[i]?=es[i]?)/\Own LE5 w' 0 48 (slV e.kids) ex/\OTl w' (kids.drop m) (es.drop m) lo' hi (rowOf (slV e.kids))/\Fm (fun b=>lo<=b/\b<hi) w w'/\Blk w' g1 #[.int .i64 e.kind,.string e.nm,slV e.ats,.string e.text,slV e.kids] 48,
   fun j _=>kids.length-j.toNat,⟨0,mid,es,rfl,Nat.zero_le _,nlr _,rfl,fun _ _=>rfl,okid,by simpa using otl,hfa,b12⟩,?_⟩
  rintro j w5 ⟨m,lo',ex,rfl,hm,hlo,hexl,hexg,o5,ot5,f5,b15⟩
  unfold F60_l6
  simp only [b15.cell,lds]
  simp only [slV,lds]
  refine brd (fun hlt2=>?_) (fun hge2=>hK w5 f5)
  have hm2:m<kids.length:=by omega
  have hm3:m<es.length:=by omega
  have hm4:m<ex.length:=by omega
  rw [dgc hm2,dgc hm3] at ot5
  simp only [OTl] at ot5
  obtain⟨e9,es9,a,b,heq,p1,p2,p3,p4,p5,p6⟩:=ot5
  obtain⟨q1,q2⟩:=List.cons.inj heq
  subst q1 q2
  have hem:ex[m]=es[m]:=by
   have:=hexg m (nlr _)
   rw [gge hm4,gge hm3] at this
   exact osi this
  obtain⟨A,c,hv,hrd⟩:=o5.form
  have e1:e.kids.1=A:=by rw [slv_form hv]
  have e2:e.kids.2.1=ex.length:=by rw [slv_form hv]
  rw [<-e1] at hrd
  refine hrd.e5 e2 rfl hm4 fun bb oo c0 c1 c2 c3 c4=>?_
  rw [hem] at c0 c1 c2 c3 c4
  simp only [c0,c1,c2,c3,c4,lds]
  have hs5:=f5.size
  refine ih kids[m] (gem hm2) (e:=es[m]) p5 om fun w6 f6=>⟨rfl,?_⟩
  have o6:Own LE5 w6 0 48 (slV e.kids) ex:=own_fm o5 f6 fun r hr h9=>p4 r hr h9
  have ot6:OTl w6 (kids.drop (m+1)) (es.drop (m+1)) b hi (rowOf (slV e.kids)):=OTl.fm f6 _ _ _ _ _ (fun r h1 h2 _ h9=>by omega) p6
  have b16:=f6.blk b15 (fun h9=>by omega)
  have f06:Fm (fun b=>lo<=b/\b<hi) w w6:=f5.trans (f6.mono fun r _ h9=>by omega)
  simp only [b16.cell,lds]
  simp only [slV,lds]
  refine o6.elA rfl hm4 (show 5=LE5.n from rfl) fun bw hbw=>?_
  simp only [Addr.add_mk]
  refine o6.st5 ⟨99,ByteArray.mk #[],(none,0,0),ByteArray.mk #[],(none,0,0)⟩ hm4 hbw fun w7 o7 f7=>?_
  refine⟨inR_i64 om om,⟨m+1,b,_,sm,om,om,by simpa using hexl,fun i hi=>?_,o7,OTl.fm f7 _ _ _ _ _ (fun r _ _ h1 h2=>h1 h2) ot6,f06.trans (f7.mono fun r _ h9=>by have:=h11 r h9;omega),f7.blk b16 (fun h9=>by have:=h11 _ h9;omega)⟩,odz⟩
  rw [gsn om]
  exact hexg i om
theorem set_ok {s:Sl} (h:okSl s) {s':Sl} (hk:s'.kind=s.kind) (hkids:s'.kids=s.kids) (h1:s.kind=1->isName s'.nm=true/\attrF s'.attrs=0/\s'.text=s.text) (h2:s.kind=2->(textS s'.text).2=0/\s'.nm=s.nm/\s'.attrs=s.attrs):okSl s':=by
 obtain⟨a,b⟩:=h
 unfold okSl ownF
 rw [hk,hkids]
 rcases b with b | b
 ·obtain⟨c1,c2,c3⟩:=h1 b.1
  refine⟨by rw [if_pos b.1,if_pos c1];exact c2,.inl ⟨b.1,by rw [c3];exact b.2⟩⟩
 ·obtain⟨c1,c2,c3⟩:=h2 b.1
  refine⟨by rw [if_neg om,if_pos b.1,c1];rfl,.inr ⟨b.1,by rw [c2];exact b.2.1,by rw [c3];exact b.2.2.1,b.2.2.2⟩⟩
theorem ok_own1 {s:Sl} (h:okSl s) (hk:s.kind=1):isName s.nm=true/\attrF s.attrs=0:=by
 obtain⟨a,b⟩:=h
 unfold ownF at a
 rw [if_pos hk] at a
 by_cases hn:isName s.nm=true
 ·rw [if_pos hn] at a;exact⟨hn,a⟩
 ·rw [if_neg hn] at a;cases a
section
variable {D:Im}
theorem setName_wf (hw:Wf D) (n:Nat) (nm:ByteArray):Wf (setNameF D n nm).1:=by
 unfold setNameF
 by_cases h1:chgF D n 1≠0
 ·rw [if_pos h1];exact hw
 rw [if_neg h1]
 obtain⟨s,hs,hk⟩:=chg_some (by simpa using h1)
 by_cases h2:isName nm=true
 ·rw [if_pos h2]
  have ho:=hw.a.ok n s hs
  exact node_wf hw hs rfl rfl rfl rfl rfl (set_ok ho rfl rfl (fun _=>⟨h2,(ok_own1 ho hk).2,rfl⟩) fun e=>by omega)
 ·rw [if_neg h2];exact hw
theorem setText_wf (hw:Wf D) (n:Nat) (t:ByteArray):Wf (setTextF D n t).1:=by
 unfold setTextF
 by_cases h1:chgF D n 2≠0
 ·rw [if_pos h1];exact hw
 rw [if_neg h1]
 obtain⟨s,hs,hk⟩:=chg_some (by simpa using h1)
 by_cases h2:(textS t).2=0
 ·rw [if_pos h2]
  have ho:=hw.a.ok n s hs
  exact node_wf hw hs rfl rfl rfl rfl rfl (set_ok ho rfl rfl (fun e=>by omega) fun _=>⟨h2,rfl,rfl⟩)
 ·rw [if_neg h2];exact hw
theorem setAttr_wf (hw:Wf D) (n:Nat) (nm v:ByteArray):Wf (setAttrF D n nm v).1:=by
 unfold setAttrF
 by_cases h1:chgF D n 1≠0
 ·rw [if_pos h1];exact hw
 rw [if_neg h1]
 obtain⟨s,hs,hk⟩:=chg_some (by simpa using h1)
 by_cases h2:isName nm≠true
 ·rw [if_pos h2];exact hw
 rw [if_neg h2]
 by_cases h3:(textS v).2≠0
 ·rw [if_pos h3];exact hw
 rw [if_neg h3]
 by_cases h4:thereA (atsI D n) nm=false/\32<=(atsI D n).length
 ·rw [if_pos h4];exact hw
 rw [if_neg h4]
 rw [ats_some hs] at h4
 have ho:=hw.a.ok n s hs
 obtain⟨a1,a2⟩:=okS_ats ho hk
 have h2:isName nm=true:=by simpa using h2
 have h3:(textS v).2=0:=by simpa using h3
 have hlen:(setA' s.attrs nm v).length<=32:=by
  have hp:=posA_le s.attrs nm
  unfold setA'
  split
  ·simpa using a1
  ·rename_i ht
   have ht:thereA s.attrs nm=false:=by simpa using ht
   have:¬32<=s.attrs.length:=fun h=>h4 ⟨ht,h⟩
   simp;omega
 exact node_wf hw hs rfl rfl rfl rfl rfl (set_ok ho rfl rfl (fun _=>⟨(ok_own1 ho hk).1,(attrF_ok _).2 ⟨hlen,okA_set a2 h2 h3⟩,rfl⟩) fun e=>by omega)
theorem dropAttr_wf (hw:Wf D) (n:Nat) (nm:ByteArray):Wf (dropAttrF D n nm).1:=by
 unfold dropAttrF
 by_cases h1:chgF D n 1≠0
 ·rw [if_pos h1];exact hw
 rw [if_neg h1]
 obtain⟨s,hs,hk⟩:=chg_some (by simpa using h1)
 by_cases h2:thereA (atsI D n) nm=true
 ·rw [if_pos h2]
  have ho:=hw.a.ok n s hs
  obtain⟨a1,a2⟩:=okS_ats ho hk
  exact node_wf hw hs rfl rfl rfl rfl rfl (set_ok ho rfl rfl (fun _=>⟨(ok_own1 ho hk).1,(attrF_ok _).2 ⟨by simp;omega,okA_drop a2 _⟩,rfl⟩) fun e=>by omega)
 ·rw [if_neg h2];exact hw
end
structure Ac where
 kind:Int
 wh:Int
 how:Bool
 n:Nat
 at_:Nat
 nm:ByteArray
 val:ByteArray
 x:Tr
def meantF (D:Im) (a:Ac):Ac:=
 if a.how=false then a else
 if (allI D 0).length=0 then { a with how:=false,at_:=0 } else
 { a with how:=false,n:=(allI D 0).getD (a.n % (allI D 0).length) 0,at_:=if a.at_ % ((allI D 0).length+1)=(allI D 0).length then 0 else (allI D 0).getD (a.at_ % ((allI D 0).length+1)) 0 }
def actF (D:Im) (a:Ac):Im:=
 if a.kind=0 then (insF D a.wh a.at_ a.x).1 else if a.kind=1 then (movF D a.n a.wh a.at_).1 else if a.kind=2 then (delF D a.n).1 else if a.kind=3 then (setNameF D a.n a.nm).1 else
 if a.kind=4 then (setTextF D a.n a.val).1 else if a.kind=5 then (setAttrF D a.n a.nm a.val).1 else if a.kind=6 then (dropAttrF D a.n a.nm).1 else D
def doF (D:Im) (a:Ac):Im:=actF D (meantF D a)
theorem act_wf {D:Im} (hw:Wf D) (a:Ac):Wf (actF D a):=by
 unfold actF
 split
 ·exact ins_wf hw _ _ _
 split
 ·exact mov_wf hw _ _ _
 split
 ·exact del_wf hw _
 split
 ·exact setName_wf hw _ _
 split
 ·exact setText_wf hw _ _
 split
 ·exact setAttr_wf hw _ _ _
 split
 ·exact dropAttr_wf hw _ _
 ·exact hw
theorem do_wf {D:Im} (hw:Wf D) (a:Ac):Wf (doF D a):=act_wf hw _
structure AcOk (a:Ac):Prop where
 n:a.n<18446744073709551616
 at_:a.at_<18446744073709551616
theorem allI_live {D:Im} (hw:Wf D) {x:Nat} (hx:x∈allI D 0):∃s,slA D.sl x=some s:=by
 unfold allI at hx
 rw [if_pos rfl,mfm] at hx
 obtain⟨y,hy,hx⟩:=hx
 obtain⟨_,t,t1,t2⟩:=hw.a.root.2 y hy
 exact all_live hw.a ⟨t,t1⟩ (fun z hz=>by simp at hz) hx
section
variable {w w1:Wd}{g:Nat}{D:Im}{vs vr:Sv}{es:List S8}{R:RT}
theorem allI_lt (h:RW [] w g D vs vr es) (hw:Wf D) {x:Nat} (hx:x∈allI D 0):x<18446744073709551616:=by
 obtain⟨s,hs⟩:=allI_live hw hx
 exact hnd_lt h.ok h.few hs
theorem getD_lt (h:RW [] w g D vs vr es) (hw:Wf D) (i:Nat):(allI D 0).getD i 0<18446744073709551616:=by
 rw [gdd]
 cases hi:(allI D 0)[i]? with
 | none=>show 0<_;omega
 | some x=>exact allI_lt h hw (mog hi)
theorem meant_ok (h:RW [] w g D vs vr es) (hw:Wf D) {a:Ac} (ha:AcOk a):AcOk (meantF D a):=by
 unfold meantF
 split
 ·exact ha
 split
 ·exact⟨ha.n,show 0<18446744073709551616 by decide⟩
 ·refine⟨getD_lt h hw _,?_⟩
  dsimp only
  split
  ·show 0<_;omega
  ·exact getD_lt h hw _
theorem meant_x (a:Ac):(meantF D a).x=a.x/\(meantF D a).kind=a.kind/\(meantF D a).wh=a.wh/\(meantF D a).nm=a.nm/\(meantF D a).val=a.val:=by
 unfold meantF
 split
 ·exact⟨rfl,rfl,rfl,rfl,rfl⟩
 split
 ·exact⟨rfl,rfl,rfl,rfl,rfl⟩
 ·exact⟨rfl,rfl,rfl,rfl,rfl⟩
def acV (a:Ac) (e:E5):Value:=.agg #[.int .i64 a.kind,.int .i64 a.wh,.bool a.how,.int .u64 (a.n:Nat),.int .u64 (a.at_:Nat),.string a.nm,.string a.val,.int .i64 e.kind,.string e.nm,slV e.ats,.string e.text,slV e.kids]
theorem meant_calls (h:RW [] w g D vs vr es) (hw:Wf D) {a:Ac} (e:E5) (ha:AcOk a) (hK:∀w',Below w.heap.size w w'->R (.returned (acV (meantF D a) e)) w') :
  CL 102 #[.pointer (some ⟨g,0,none⟩),acV a e] w R:=by
 refine ok102 (some ⟨g,0,none⟩) a.kind a.wh a.how (a.n:Nat) (a.at_:Nat) a.nm a.val e.kind e.nm e.ats.1 e.ats.2.1 e.ats.2.2 e.text e.kids.1 e.kids.2.1 e.kids.2.2 ?_
 unfold F102
 refine al fun ga w1 hb1 b1 hge1=>al fun g4 w2 hb2 b2 hge2=>?_
 have B2:=btr hb1 hb1.size hb2
 have hs1:=hb1.size
 have hs2:=hb2.size
 refine AllW (n:=0) (h.keep B2) hw om fun v w3 hb3 hv _=>⟨_,_,_,_,rfl,?_⟩
 have hv:=hv (.inl rfl)
 have B3:=btr B2 B2.size hb3
 have b13:=(b1.keep hb2).keep hb3
 have b23:=b2.keep hb3
 have hne:ga≠g4:=by have:=b1.lt;omega
 have hga:=b1.lt
 have fin:∀(w':Wd) (a':Ac),Fm (·=ga) w3 w'->Blk w' ga #[.int .i64 a'.kind,.int .i64 a'.wh,.bool a'.how,.int .u64 (a'.n:Nat),.int .u64 (a'.at_:Nat),.string a'.nm,.string a'.val,.int .i64 e.kind,.string e.nm,.slice e.ats.1 e.ats.2.1 e.ats.2.2,.string e.text,.slice e.kids.1 e.kids.2.1 e.kids.2.2] 116->a'=meantF D a->F102_j12 ⟨ga,0,none⟩ ⟨g4,0,none⟩ w' R:=by
  intro w' a' hf hb ha'
  unfold F102_j12
  have b24:=hf.blk b23 (fun e=>hne e.symm)
  simp only [hb.cell,lds]
  refine st_blk b24 sm fun u1 q1 f1=>st_blk q1 sm fun u2 q2 f2=>st_blk q2 sm fun u3 q3 f3=>st_blk q3 sm fun u4 q4 f4=>st_blk q4 sm fun u5 q5 f5=>st_blk q5 sm fun u6 q6 f6=>st_blk q6 sm fun u7 q7 f7=>st_blk q7 sm fun u8 q8 f8=>st_blk q8 sm fun u9 q9 f9=>st_blk q9 sm fun u10 q10 f10=>st_blk q10 sm fun u11 q11 f11=>st_blk q11 sm fun u12 q12 f12=>?_
  simp only [sls] at q12
  have F12:Fm (·=g4) w' u12:=((((((((((f1.trans f2).trans f3).trans f4).trans f5).trans f6).trans f7).trans f8).trans f9).trans f10).trans f11).trans f12
  simp only [q12.cell,lds]
  have FF:Fm (fun b=>b=ga\/b=g4) w3 u12:=(hf.mono fun b _ e=>.inl e).trans (F12.mono fun b _ e=>.inr e)
  have:=hK u12 (B3.trans (FF.toBelow B3.size fun b hb e=>by rcases e with e | e <;> omega))
  rw [<-ha'] at this
  exact this
 simp only [b13.cell,lds]
 rw [brnot]
 refine br (fun hh=>?_) (fun hh=>?_)
 rotate_left
 ·have:=fin w3 a (.refl _ _) b13 (by unfold meantF;rw [if_pos hh])
  unfold F102_j12 at this
  simp only [b13.cell,lds] at this
  exact this
 refine st_blk b13 sm fun w4 b14 f4=>?_
 simp only [sls] at b14
 have hlen:=allI_len hw 0 (.inl rfl)
 have hv1:v.2.1=(allI D 0).length:=by
  obtain⟨A,c,hv',_⟩:=hv.form
  rw [slv_form hv']
 have hmeant:meantF D a=if (allI D 0).length=0 then { a with how:=false,at_:=0 } else
   { a with how:=false,n:=(allI D 0).getD (a.n % (allI D 0).length) 0,at_:=if a.at_ % ((allI D 0).length+1)=(allI D 0).length then 0 else (allI D 0).getD (a.at_ % ((allI D 0).length+1)) 0 }:=by
  unfold meantF;rw [if_neg (by rw [hh];decide)]
 rw [hmeant] at fin
 have hv4:Own LHn w4 w2.heap.size 42 (slV v) (allI D 0):=own_fm hv f4 fun b hb e=>by have e:b=ga:=e;have:=(hv.lt b hb).1;omega
 generalize allI D 0=L at *
 refine⟨fun w'=>∃a',Fm (·=ga) w3 w'/\Blk w' ga #[.int .i64 a'.kind,.int .i64 a'.wh,.bool a'.how,.int .u64 (a'.n:Nat),.int .u64 (a'.at_:Nat),.string a'.nm,.string a'.val,.int .i64 e.kind,.string e.nm,.slice e.ats.1 e.ats.2.1 e.ats.2.2,.string e.text,.slice e.kids.1 e.kids.2.1 e.kids.2.2] 116/\a'=if L.length=0 then { a with how:=false,at_:=0 } else
   { a with how:=false,n:=L.getD (a.n % L.length) 0,at_:=if a.at_ % (L.length+1)=L.length then 0 else L.getD (a.at_ % (L.length+1)) 0 },fun w' ⟨a',z1,z2,z3⟩=>fin w' a' z1 z2 z3,?_⟩
 refine⟨inR_u64 om om,?_⟩
 refine brd (fun hpos=>?_) (fun hz=>?_)
 rotate_left
 ·rw [if_pos om]
  refine st_blk b14 sm fun w5 b15 f5=>?_
  simp only [sls] at b15
  exact⟨{ a with how:=false,at_:=0 },f4.trans f5,b15,rfl⟩
 rw [if_neg om]
 simp only [b14.cell,lds]
 have hpos':0<L.length:=by omega
 rw [hv1]
 have hm1:((a.n:Nat):Int).tmod ((L.length:Nat):Int)=((a.n % L.length:Nat):Int):=by rw [Int.tmod_eq_emod_of_nonneg om];rfl
 rw [hm1]
 have hi1:a.n % L.length<L.length:=Nat.mod_lt _ hpos'
 obtain⟨A,c,hvf,hrd⟩:=hv4.form
 have e1:v.1=A:=by rw [slv_form hvf]
 rw [<-e1] at hrd
 refine⟨om,hrd.hn rfl rfl hi1 fun bb oo cc=>?_⟩
 simp only [cc,lds]
 refine st_blk b14 sm fun w5 b15 f5=>?_
 simp only [sls] at b15
 simp only [b15.cell,lds]
 have hv5:Own LHn w5 w2.heap.size 42 (slV v) L:=own_fm hv4 f5 fun b hb e=>by have e:b=ga:=e;have:=(hv.lt b hb).1;omega
 have eN:((L.length:Nat):Int)+1=((L.length+1:Nat):Int):=by omega
 rw [eN]
 have hm2:((a.at_:Nat):Int).tmod ((L.length+1:Nat):Int)=((a.at_ % (L.length+1):Nat):Int):=by rw [Int.tmod_eq_emod_of_nonneg om];rfl
 rw [hm2]
 have hi2:a.at_ % (L.length+1)<L.length+1:=Nat.mod_lt _ om
 have hg1:L.getD (a.n % L.length) 0=L[a.n % L.length]:=by rw [gdd,gge hi1];rfl
 refine⟨inR_u64 om om,om,?_⟩
 refine bre (fun heq=>?_) (fun hne2=>?_)
 ·refine st_blk b15 sm fun w6 b16 f6=>?_
  simp only [sls] at b16
  refine⟨_,(f4.trans f5).trans f6,?_,rfl⟩
  dsimp only
  rw [hg1,if_pos om]
  exact b16
 ·obtain⟨A',c',hvf',hrd'⟩:=hv5.form
  have e1':v.1=A':=by rw [slv_form hvf']
  rw [<-e1'] at hrd'
  have hi3:a.at_ % (L.length+1)<L.length:=by omega
  refine⟨inR_u64 om om,om,hrd'.hn rfl rfl hi3 fun bb oo cc=>?_⟩
  simp only [cc,lds]
  refine st_blk b15 sm fun w6 b16 f6=>?_
  simp only [sls] at b16
  have hg2:L.getD (a.at_ % (L.length+1)) 0=L[a.at_ % (L.length+1)]:=by rw [gdd,gge hi3];rfl
  refine⟨_,(f4.trans f5).trans f6,?_,rfl⟩
  dsimp only
  rw [hg1,if_neg om,hg2]
  exact b16
end
def okc (o:Nat->Nat) (b:Nat):Bool:=Nat.beq (o b) 0
theorem okc_iff {o:Nat->Nat}{b:Nat}:okc o b=true↔o b=0:=⟨fun h=>nbe h,fun h=>by unfold okc;rw [h];rfl⟩
theorem vw_iff {ok:Nat->Bool}{g b:Nat}:(ok b && !(Nat.beq b g))=true↔ok b=true/\b≠g:=by
 rw [bae]
 constructor
 ·rintro ⟨h1,h2⟩
  refine⟨h1,fun e=>?_⟩
  subst e
  rw [show Nat.beq b b=true from Nat.beq_refl b] at h2;cases h2
 ·rintro ⟨h1,h2⟩
  refine⟨h1,?_⟩
  cases h:Nat.beq b g with
  | false=>rfl
  | true=>exact absurd (nbe h) h2
structure EvA (w:Wd) (o:Nat->Nat) (w1:Wd) (o1:Nat->Nat):Prop where
 fm:Fm (fun b=>o b≠0) w w1
 old:∀b,b<w.heap.size->o b=0->o1 b=0
structure Edr (p:Value) (P:Nat->Wd->(Nat->Nat)->Im->Prop):Prop where
 up:∀{k w o D},P k w o D->P (k+1) w o D
 lt:∀{k w o D},P k w o D->∀b,o b≠0->b<w.heap.size
 keep:∀{k:Nat}{w w1:Wd}{o:Nat->Nat}{D:Im}{M:Nat->Prop},P k w o D->Fm M w w1->(∀b,b<w.heap.size->M b->o b=0)->P k w1 o D
 ins:∀{k:Nat}{w:Wd}{o:Nat->Nat}{D:Im}{x:Tr}{e:E5}{wh:Int}{a:Nat}{R:RT}{K:Value->Wd->Prop},P k w o D->k<1099511627776->Wf D->Tabs (wc o w)->RTr (wc o w) x e->a<18446744073709551616 ->
  (∀ w' o', P (k + 1) w' o' (insF D wh a x).1 -> EvA w o w' o' -> K (.tuple #[.int .u64 ((insF D wh a x).2.1 : Nat), .int .i64 (insF D wh a x).2.2]) w') -> CallM P0 p "Insert" #[.int .i64 wh, .int .u64 (a : Nat), .agg #[.int .i64 e.kind, .string e.nm, slV e.ats, .string e.text, slV e.kids]] w R K
 mov:∀{k:Nat}{w:Wd}{o:Nat->Nat}{D:Im}{n a:Nat}{wh:Int}{R:RT}{K:Value->Wd->Prop},P k w o D->k<1099511627776->Wf D->n<18446744073709551616->a<18446744073709551616 ->
  (∀ w' o', P (k + 1) w' o' (movF D n wh a).1 -> EvA w o w' o' -> K (.int .i64 (movF D n wh a).2) w') -> CallM P0 p "Move" #[.int .u64 (n : Nat), .int .i64 wh, .int .u64 (a : Nat)] w R K
 del:∀{k:Nat}{w:Wd}{o:Nat->Nat}{D:Im}{n:Nat}{R:RT}{K:Value->Wd->Prop},P k w o D->k<1099511627776->Wf D->n<18446744073709551616 ->
  (∀ w' o', P (k + 1) w' o' (delF D n).1 -> EvA w o w' o' -> K (.int .i64 (delF D n).2) w') -> CallM P0 p "Delete" #[.int .u64 (n : Nat)] w R K
 name:∀{k:Nat}{w:Wd}{o:Nat->Nat}{D:Im}{n:Nat}{s:ByteArray}{R:RT}{K:Value->Wd->Prop},P k w o D->k<1099511627776->Wf D->Tabs (wc o w)->n<18446744073709551616 ->
  (∀ w' o', P (k + 1) w' o' (setNameF D n s).1 -> EvA w o w' o' -> K (.int .i64 (setNameF D n s).2) w') -> CallM P0 p "SetName" #[.int .u64 (n : Nat), .string s] w R K
 text:∀{k:Nat}{w:Wd}{o:Nat->Nat}{D:Im}{n:Nat}{s:ByteArray}{R:RT}{K:Value->Wd->Prop},P k w o D->k<1099511627776->Wf D->Tabs (wc o w)->n<18446744073709551616 ->
  (∀ w' o', P (k + 1) w' o' (setTextF D n s).1 -> EvA w o w' o' -> K (.int .i64 (setTextF D n s).2) w') -> CallM P0 p "SetText" #[.int .u64 (n : Nat), .string s] w R K
 attr:∀{k:Nat}{w:Wd}{o:Nat->Nat}{D:Im}{n:Nat}{s t:ByteArray}{R:RT}{K:Value->Wd->Prop},P k w o D->k<1099511627776->Wf D->Tabs (wc o w)->n<18446744073709551616 ->
  (∀ w' o', P (k + 1) w' o' (setAttrF D n s t).1 -> EvA w o w' o' -> K (.int .i64 (setAttrF D n s t).2) w') -> CallM P0 p "SetAttr" #[.int .u64 (n : Nat), .string s, .string t] w R K
 drop:∀{k:Nat}{w:Wd}{o:Nat->Nat}{D:Im}{n:Nat}{s:ByteArray}{R:RT}{K:Value->Wd->Prop},P k w o D->k<1099511627776->Wf D->n<18446744073709551616 ->
  (∀ w' o', P (k + 1) w' o' (dropAttrF D n s).1 -> EvA w o w' o' -> K (.int .i64 (dropAttrF D n s).2) w') -> CallM P0 p "DropAttr" #[.int .u64 (n : Nat), .string s] w R K
theorem RM.fm2 {ok ok2:Nat->Bool}{w w1:Wd}{g:Nat}{D:Im}{vs vr:Sv}{M:Nat->Prop} (h:RM ok w g D vs vr) (hf:Fm M w w1) (hm:∀b,b<w.heap.size->M b->ok b=false/\b≠g) (hk:∀b,b<w.heap.size->ok b=true->ok2 b=true):RM ok2 w1 g D vs vr:=
 ⟨hf.blk h.blk fun e=>(hm g h.blk.lt e).2 rfl,h.im.sub (sub_only (fun b hb h=>by rw [vw_iff] at h |-;exact⟨hk b hb h.1,h.2⟩) fun b hb hh=>hf.block b hb fun e=>by
  have:=(hm b hb e).1
  rw [vw_iff,this] at hh;cases hh.1),h.few⟩
section
variable {p:Value}{P:Nat->Wd->(Nat->Nat)->Im->Prop}{k:Nat}{w:Wd}{o:Nat->Nat}{g:Nat}{D:Im}{vs vr:Sv}{R:RT}
theorem does_calls (E:Edr p P) (hP:P k w o D) (hk:k<1099511627776) (hw:Wf D) (hR:RM (okc o) w g D vs vr) (hg:o g=0) (hT:Tabs (vw (okc o) g w)) {a:Ac}{e:E5} (ha:AcOk a) (hx:RTr (vw (okc o) g w) a.x e)
  (hK:∀w' o' vs' vr',P (k+1) w' o' (doF D a)->RM (okc o') w' g (doF D a) vs' vr'->Fm (fun b=>o b≠0\/b=g) w w'->(∀b,b<w.heap.size->o b=0->o' b=0)->R (.returned (.bool true)) w') :
  CL 54 #[p,.pointer (some ⟨g,0,none⟩),acV a e] w R:=by
 refine ok54 p (some ⟨g,0,none⟩) a.kind a.wh a.how (a.n:Nat) (a.at_:Nat) a.nm a.val e.kind e.nm e.ats.1 e.ats.2.1 e.ats.2.2 e.text e.kids.1 e.kids.2.1 e.kids.2.2 ?_
 unfold F54
 obtain⟨es,hr⟩:=hR.re
 have hgl:=hR.blk.lt
 refine al fun ga w1 hb1 b1 hge1=>?_
 simp only [b1.cell,lds]
 refine meant_calls (hr.keep hb1) hw e ha fun w2 hb2=>?_
 have B2:=btr hb1 hb1.size hb2
 have hmo:=meant_ok hr hw ha
 obtain⟨mx,mk,-,-,-⟩:=meant_x (D:=D) a
 unfold doF at hK
 rw [<-mx] at hx
 generalize meantF D a=m at *
 refine⟨_,_,_,_,_,_,_,_,_,_,_,_,_,_,_,_,rfl,?_⟩
 refine st_blk (b1.keep hb2) sm fun u1 q1 f1=>st_blk q1 sm fun u2 q2 f2=>st_blk q2 sm fun u3 q3 f3=>st_blk q3 sm fun u4 q4 f4=>st_blk q4 sm fun u5 q5 f5=>st_blk q5 sm fun u6 q6 f6=>st_blk q6 sm fun u7 q7 f7=>st_blk q7 sm fun u8 q8 f8=>st_blk q8 sm fun u9 q9 f9=>st_blk q9 sm fun u10 q10 f10=>st_blk q10 sm fun u11 q11 f11=>st_blk q11 sm fun w3 b3 f12=>?_
 simp only [sls] at b3
 have F12:Fm (·=ga) w2 w3:=((((((((((f1.trans f2).trans f3).trans f4).trans f5).trans f6).trans f7).trans f8).trans f9).trans f10).trans f11).trans f12
 clear q1 q2 q3 q4 q5 q6 q7 q8 q9 q10 q11 f1 f2 f3 f4 f5 f6 f7 f8 f9 f10 f11 f12
 have hs2:=B2.size
 have B3:Below w.heap.size w w3:=B2.trans (F12.toBelow hs2 fun b hb e=>by have e:b=ga:=e;omega)
 have hs3:=B3.size
 have P3:P k w3 o D:=E.keep (M:=fun _=>False) hP (.below B3) fun _ _ h=>h.elim
 have R3:RM (okc o) w3 g D vs vr:=hR.keep B3
 have hlt:=E.lt hP
 have oz:∀b,w.heap.size<=b->o b=0:=fun b hb=>byc fun h=>by have:=hlt b h;omega
 have T3:Tabs (vw (okc o) g w3):=hT.sub (vw_sub (.below B3))
 have X3:RTr (vw (okc o) g w3) m.x e:=RTr.sub (vw_sub (.below B3)) _ _ hx
 have hsub:∀{u:Wd},Sub (vw (okc o) g u) (wc o u):=sub_only (fun b _ h=>(vw_iff.1 h).1) fun _ _ _=>rfl
 have hga:ga<w3.heap.size:=b3.lt
 have oga:o ga=0:=oz ga hge1
 have hgne:ga≠g:=by omega
 have fin:∀(w4:Wd) (o4:Nat->Nat),EvA w3.drew o w4 o4->RM (okc o4) w4 g D vs vr/\(∀b,w4.heap.size<=b->P (k+1) w4 o4 (actF D m)->okc o4 b=true):=fun w4 o4 ev=>by
  refine⟨(R3.keep (w1:=w3.drew) ((Below.refl _ _).drew)).fm2 ev.fm (fun b hb hm=>⟨?_,fun e=>by subst e;exact hm hg⟩) fun b hb h=>okc_iff.2 (ev.old b hb (okc_iff.1 h)),fun b hb hp=>okc_iff.2 (byc fun h=>by have:=E.lt hp b h;omega)⟩
  cases h9:okc o b with
  | false=>rfl
  | true=>exact absurd (okc_iff.1 h9) hm
 have fin2:∀(w4 w5:Wd) (o4:Nat->Nat) (vs5 vr5:Sv),EvA w3.drew o w4 o4->P (k+1) w4 o4 (actF D m)->RM (okc o4) w5 g (actF D m) vs5 vr5->Fm (·=g) w4 w5->R (.returned (.bool true)) w5:=fun w4 w5 o4 vs5 vr5 ev hp hr hf=>by
  refine hK w5 o4 vs5 vr5 (E.keep hp hf fun b hb e=>?_) hr ?_ fun b hb h=>ev.old b (by show b<w3.heap.size;omega) h
  ·have e:b=g:=e
   subst e;exact ev.old b (by show b<w3.heap.size;omega) hg
  ·exact (Fm.below (B3.drew)).trans ((ev.fm.mono fun b _ h=>.inl h).trans (hf.mono fun b _ e=>.inr e))
 have hact:actF D m=if m.kind=0 then (insF D m.wh m.at_ m.x).1 else if m.kind=1 then (movF D m.n m.wh m.at_).1 else if m.kind=2 then (delF D m.n).1 else if m.kind=3 then (setNameF D m.n m.nm).1 else
   if m.kind=4 then (setTextF D m.n m.val).1 else if m.kind=5 then (setAttrF D m.n m.nm m.val).1 else if m.kind=6 then (dropAttrF D m.n m.nm).1 else D:=rfl
 have hdr:Below w3.heap.size w3 w3.drew:=(Below.refl _ _).drew
 have P3d:P k w3.drew o D:=E.keep (M:=fun _=>False) P3 (.below hdr) fun _ _ h=>h.elim
 have T3d:Tabs (wc o w3.drew):=(T3.sub (vw_sub (.below hdr))).sub hsub
 have bS:∀(w4:Wd) (o4:Nat->Nat),EvA w3.drew o w4 o4->Blk w4 ga _ 116:=fun w4 o4 ev=>ev.fm.blk (b3.keep hdr) (fun h=>h oga)
 simp only [Nat.reduceAdd,b3.cell,lds]
 refine bre (fun h0=>?_) (fun h0=>?_)
 ·-- Insert
  rw [if_pos h0] at hact
  have X3':RTr w3 m.x e:=RTr.sub sub_of_only _ _ X3
  refine copied_calls m.x (e:=e) X3' fun w4 e4 hb4 ot4=>⟨_,_,_,_,_,_,_,_,_,rfl,?_⟩
  have hs4:=hb4.size
  refine al fun g7 w5 hb5 b5 hge5=>?_
  refine st_blk b5 sm fun u1 q1 f1=>st_blk q1 sm fun u2 q2 f2=>st_blk q2 sm fun u3 q3 f3=>st_blk q3 sm fun u4 q4 f4=>st_blk q4 sm fun w6 b6 f5=>?_
  simp only [sls] at b6
  have F6:Fm (·=g7) w5 w6:=(((f1.trans f2).trans f3).trans f4).trans f5
  have D6:Below w4.heap.size w4 w6:=hb5.trans (F6.toBelow hb5.size fun b hb e=>by have e:b=g7:=e;omega)
  have D36:Below w3.heap.size w3 w6:=btr hb4 hs4 D6
  have b36:=b3.keep D36
  have hs6:=D6.size
  simp only [Nat.reduceAdd,b36.cell,b6.cell,lds]
  have P6:P k w6 o D:=E.keep (M:=fun _=>False) P3 (.below D36) fun _ _ h=>h.elim
  have ot6:=OTr.fm (M:=fun _=>False) (.below D6) _ _ _ _ (fun _ _ _ h=>h) ot4
  refine E.ins (e:=e4) P6 hk hw ((T3.sub (vw_sub (.below D36))).sub hsub) (OTr.rtr _ _ _ _ (fun b h1 h2=>okc_iff.2 (oz b om)) ot6) hmo.at_ fun w7 o7 P7 ev7=>⟨_,_,rfl,?_⟩
  have hs7:=ev7.fm.size
  have b37:=ev7.fm.blk b36 (fun h=>h oga)
  have b67:=ev7.fm.blk b6 (fun h=>h (oz g7 om))
  simp only [Nat.reduceAdd,b37.cell,lds]
  have og7:o7 g=0:=ev7.old g om hg
  have F37:Fm (fun b=>o b≠0) w3 w7:=(Fm.below D36).trans ev7.fm
  have hm37:∀b,b<w3.heap.size->o b≠0->okc o b=false/\b≠g:=fun b hb h=>⟨by
   cases h9:okc o b with
   | false=>rfl
   | true=>exact absurd (okc_iff.1 h9) h,fun e=>by subst e;exact h hg⟩
  have hk37:∀b,b<w3.heap.size->okc o b=true->(okc o7 b && !(decide (w3.heap.size<=b/\b<w4.heap.size)))=true:=fun b hb h=>by
   rw [bae]
   exact⟨okc_iff.2 (ev7.old b om (okc_iff.1 h)),by rw [def0 om];rfl⟩
  have R7:RM (fun b=>okc o7 b && !(decide (w3.heap.size<=b/\b<w4.heap.size))) w7 g D vs vr:=R3.fm2 F37 hm37 hk37
  have X7:RTr (vw (fun b=>okc o7 b && !(decide (w3.heap.size<=b/\b<w4.heap.size))) g w7) m.x e:=RTr.sub (sub_only (fun b hb h=>(vw_iff (ok:=fun b=>okc o7 b && !(decide (w3.heap.size<=b/\b<w4.heap.size)))).2 ⟨hk37 b hb (vw_iff.1 h).1,(vw_iff.1 h).2⟩) fun b hb h=>F37.block b hb fun h9=>h9 (okc_iff.1 (vw_iff.1 h).1)) _ _ X3
  refine insertR_calls (e:=e) R7 (fun b hb=>?_) hw X7 hmo.at_ fun w8 vs8 vr8 R8 f8=>⟨_,_,rfl,?_⟩
  ·rw [bae]
   exact⟨okc_iff.2 (byc fun h=>by have:=E.lt P7 b h;omega),by rw [def0 om];rfl⟩
  have hs8:=f8.size
  have b68:=f8.blk b67 (fun e=>by have e:g7=g:=e;omega)
  simp only [Nat.reduceAdd,b68.cell,lds]
  have ot8:=OTr.fm f8 _ _ _ _ (fun b h1 h2 e=>by have e:b=g:=e;omega) (OTr.fm ev7.fm _ _ _ _ (fun b h1 h2 h=>h (oz b om)) ot6)
  refine spoil_calls m.x (e:=e4) ot8 om fun w9 f9=>⟨rfl,?_⟩
  rw [hact] at hK
  have P9:P (k+1) w9 o7 (insF D m.wh m.at_ m.x).1:=E.keep (E.keep P7 f8 fun b hb e=>by have e:b=g:=e;rw [e];exact og7) f9 fun b hb h=>ev7.old b om (oz b om)
  have R9:RM (okc o7) w9 g (insF D m.wh m.at_ m.x).1 vs8 vr8:=R8.fm2 f9 (fun b hb h=>⟨by rw [det (show w3.heap.size<=b/\b<w4.heap.size from h)];simp,om⟩) fun b hb h=>by rw [bae] at h;exact h.1
  have F9:Fm (fun b=>o b≠0\/b=g) w w9:=(((Fm.below B3).trans (F37.mono fun b _ h=>.inl h)).trans (f8.mono fun b _ h=>.inr h)).trans' f9 fun b hb h=>by omega
  have:=hK w9 o7 vs8 vr8 P9 R9 F9 fun b hb h=>ev7.old b om h
  refine bre (fun _=>?_) (fun h=>absurd rfl h)
  rw [show ((insF D m.wh m.at_ m.x).2.2 == (insF D m.wh m.at_ m.x).2.2)=true from beq_self_eq_true _]
  exact this
 rw [if_neg h0] at hact
 refine bre (fun h1=>?_) (fun h1=>?_)
 ·rw [if_pos h1] at hact
  refine⟨fun w'=>Blk w' ga _ 116,b3.keep hdr,?_⟩
  refine⟨_,fun w' hb=>by rw [Blk.cell hb];rfl,?_⟩
  refine⟨_,fun w' hb=>by rw [Blk.cell hb];rfl,?_⟩
  refine⟨_,fun w' hb=>by rw [Blk.cell hb];rfl,?_⟩
  refine⟨_,fun w' hb=>by rw [Blk.cell hb];rfl,?_⟩
  refine⟨_,fun w' hb=>by rw [Blk.cell hb];rfl,?_⟩
  refine⟨_,fun w' hb=>by rw [Blk.cell hb];rfl,?_⟩
  refine E.mov P3d hk hw hmo.n hmo.at_ fun w4 o4 P4 ev=>⟨_,rfl,bS w4 o4 ev,?_⟩
  rw [<-hact] at P4
  obtain⟨R4,n4⟩:=fin w4 o4 ev
  refine moveR_calls R4 (fun b hb=>n4 b hb P4) hw hmo.n hmo.at_ fun w5 vs5 vr5 R5 f5=>⟨_,rfl,?_⟩
  rw [<-hact] at R5
  have:=fin2 w4 w5 o4 vs5 vr5 ev P4 R5 f5
  rw [beq_self_eq_true];exact this
 rw [if_neg h1] at hact
 refine bre (fun h2=>?_) (fun h2=>?_)
 ·rw [if_pos h2] at hact
  refine⟨fun w'=>Blk w' ga _ 116,b3.keep hdr,?_⟩
  refine⟨_,fun w' hb=>by rw [Blk.cell hb];rfl,?_⟩
  refine⟨_,fun w' hb=>by rw [Blk.cell hb];rfl,?_⟩
  refine E.del P3d hk hw hmo.n fun w4 o4 P4 ev=>⟨_,rfl,bS w4 o4 ev,?_⟩
  rw [<-hact] at P4
  obtain⟨R4,n4⟩:=fin w4 o4 ev
  refine deleteR_calls R4 (fun b hb=>n4 b hb P4) hw hmo.n fun w5 vs5 vr5 R5 f5=>⟨_,rfl,?_⟩
  rw [<-hact] at R5
  have:=fin2 w4 w5 o4 vs5 vr5 ev P4 R5 f5
  rw [beq_self_eq_true];exact this
 rw [if_neg h2] at hact
 refine bre (fun h3=>?_) (fun h3=>?_)
 ·rw [if_pos h3] at hact
  refine⟨fun w'=>Blk w' ga _ 116,b3.keep hdr,?_⟩
  refine⟨_,fun w' hb=>by rw [Blk.cell hb];rfl,?_⟩
  refine⟨_,fun w' hb=>by rw [Blk.cell hb];rfl,?_⟩
  refine⟨_,fun w' hb=>by rw [Blk.cell hb];rfl,?_⟩
  refine⟨_,fun w' hb=>by rw [Blk.cell hb];rfl,?_⟩
  refine E.name P3d hk hw T3d hmo.n fun w4 o4 P4 ev=>⟨_,rfl,bS w4 o4 ev,?_⟩
  rw [<-hact] at P4
  obtain⟨R4,n4⟩:=fin w4 o4 ev
  refine setNameR_calls R4 (fun b hb=>n4 b hb P4) hmo.n fun w5 vs5 vr5 R5 f5=>⟨_,rfl,?_⟩
  rw [<-hact] at R5
  have:=fin2 w4 w5 o4 vs5 vr5 ev P4 R5 f5
  rw [beq_self_eq_true];exact this
 rw [if_neg h3] at hact
 refine bre (fun h4=>?_) (fun h4=>?_)
 ·rw [if_pos h4] at hact
  refine⟨fun w'=>Blk w' ga _ 116,b3.keep hdr,?_⟩
  refine⟨_,fun w' hb=>by rw [Blk.cell hb];rfl,?_⟩
  refine⟨_,fun w' hb=>by rw [Blk.cell hb];rfl,?_⟩
  refine⟨_,fun w' hb=>by rw [Blk.cell hb];rfl,?_⟩
  refine⟨_,fun w' hb=>by rw [Blk.cell hb];rfl,?_⟩
  refine E.text P3d hk hw T3d hmo.n fun w4 o4 P4 ev=>⟨_,rfl,bS w4 o4 ev,?_⟩
  rw [<-hact] at P4
  obtain⟨R4,n4⟩:=fin w4 o4 ev
  refine setTextR_calls R4 (fun b hb=>n4 b hb P4) hmo.n fun w5 vs5 vr5 R5 f5=>⟨_,rfl,?_⟩
  rw [<-hact] at R5
  have:=fin2 w4 w5 o4 vs5 vr5 ev P4 R5 f5
  rw [beq_self_eq_true];exact this
 rw [if_neg h4] at hact
 refine bre (fun h5=>?_) (fun h5=>?_)
 ·rw [if_pos h5] at hact
  refine⟨fun w'=>Blk w' ga _ 116,b3.keep hdr,?_⟩
  refine⟨_,fun w' hb=>by rw [Blk.cell hb];rfl,?_⟩
  refine⟨_,fun w' hb=>by rw [Blk.cell hb];rfl,?_⟩
  refine⟨_,fun w' hb=>by rw [Blk.cell hb];rfl,?_⟩
  refine⟨_,fun w' hb=>by rw [Blk.cell hb];rfl,?_⟩
  refine⟨_,fun w' hb=>by rw [Blk.cell hb];rfl,?_⟩
  refine⟨_,fun w' hb=>by rw [Blk.cell hb];rfl,?_⟩
  refine E.attr P3d hk hw T3d hmo.n fun w4 o4 P4 ev=>⟨_,rfl,bS w4 o4 ev,?_⟩
  rw [<-hact] at P4
  obtain⟨R4,n4⟩:=fin w4 o4 ev
  refine setAttrR_calls R4 (fun b hb=>n4 b hb P4) hw hmo.n fun w5 vs5 vr5 R5 f5=>⟨_,rfl,?_⟩
  rw [<-hact] at R5
  have:=fin2 w4 w5 o4 vs5 vr5 ev P4 R5 f5
  rw [beq_self_eq_true];exact this
 rw [if_neg h5] at hact
 refine bre (fun h6=>?_) (fun h6=>?_)
 ·rw [if_pos h6] at hact
  refine⟨fun w'=>Blk w' ga _ 116,b3.keep hdr,?_⟩
  refine⟨_,fun w' hb=>by rw [Blk.cell hb];rfl,?_⟩
  refine⟨_,fun w' hb=>by rw [Blk.cell hb];rfl,?_⟩
  refine⟨_,fun w' hb=>by rw [Blk.cell hb];rfl,?_⟩
  refine⟨_,fun w' hb=>by rw [Blk.cell hb];rfl,?_⟩
  refine E.drop P3d hk hw hmo.n fun w4 o4 P4 ev=>⟨_,rfl,bS w4 o4 ev,?_⟩
  rw [<-hact] at P4
  obtain⟨R4,n4⟩:=fin w4 o4 ev
  refine dropAttrR_calls R4 (fun b hb=>n4 b hb P4) hw hmo.n fun w5 vs5 vr5 R5 f5=>⟨_,rfl,?_⟩
  rw [<-hact] at R5
  have:=fin2 w4 w5 o4 vs5 vr5 ev P4 R5 f5
  rw [beq_self_eq_true];exact this
 rw [if_neg h6] at hact
 have:=hK w3 o vs vr (by rw [hact];exact E.up P3) (by rw [hact];exact R3) (.below B3) fun _ _ h=>h
 exact this
end
structure E12 where
 a:Ac
 e:E5
def E12.cells (x:E12):List Value:=[.int .i64 x.a.kind,.int .i64 x.a.wh,.bool x.a.how,.int .u64 (x.a.n:Nat),.int .u64 (x.a.at_:Nat),.string x.a.nm,.string x.a.val,.int .i64 x.e.kind,.string x.e.nm,.slice x.e.ats.1 x.e.ats.2.1 x.e.ats.2.2,.string x.e.text,.slice x.e.kids.1 x.e.kids.2.1 x.e.kids.2.2]
def LAc:Lay E12:=⟨12,E12.cells,fun _=>rfl,fun _=>by simp [E12.cells,Value.oneCell'],dc⟩
def RAc (w:Wd) (x:E12):Prop:=AcOk x.a/\RTr w x.a.x x.e
theorem RAc.sub {w w1:Wd}{x:E12} (h:RAc w x) (hs:Sub w w1):RAc w1 x:=⟨h.1,RTr.sub hs _ _ h.2⟩
structure Both (p:Value) (P:Nat->Wd->(Nat->Nat)->Im->Prop) (w0:Wd) (g k:Nat) (w:Wd) (o:Nat->Nat) (D:Im) (vs vr:Sv):Prop where
 p:P k w o D
 wf:Wf D
 r:RM (okc o) w g D vs vr
 og:o g=0
 old:Below w0.heap.size w0 w
 col:∀b,b<w0.heap.size->o b=0
 gne:w0.heap.size<=g
section
variable {p:Value}{P:Nat->Wd->(Nat->Nat)->Im->Prop}{k:Nat}{w w0 w1:Wd}{o:Nat->Nat}{g:Nat}{D:Im}{vs vr:Sv}{R:RT}
theorem Both.sub (h:Both p P w0 g k w o D vs vr):Sub w0 (vw (okc o) g w):=fun b c t fr hb=>by
 have hlt:=(agi.1 hb).1
 refine cells_only (vw_iff.2 ⟨okc_iff.2 (h.col b hlt),by have:=h.gne;omega⟩) ?_
 rw [h.old.block b hlt];exact hb
theorem both_does (E:Edr p P) (h:Both p P w0 g k w o D vs vr) (hk:k<1099511627776) (hT:Tabs w0) {x:E12} (hx:RAc w0 x)
  (hK:∀w' o' vs' vr',Both p P w0 g (k+1) w' o' (doF D x.a) vs' vr'->R (.returned (.bool true)) w'):CL 54 #[p,.pointer (some ⟨g,0,none⟩),acV x.a x.e] w R:=by
 have hs:=h.sub
 refine does_calls E h.p hk h.wf h.r h.og (hT.sub hs) hx.1 (RTr.sub hs _ _ hx.2) fun w' o' vs' vr' hp hr hf ho=>hK w' o' vs' vr' ⟨hp,do_wf h.wf _,hr,?_,?_,fun b hb=>ho b (nll hb h.old.size) (h.col b hb),h.gne⟩
 ·exact ho g h.r.blk.lt h.og
 ·refine h.old.trans (hf.toBelow h.old.size fun b hb e=>?_)
  rcases e with e | e
  ·exact e (h.col b hb)
  ·have:=h.gne;omega
end
end Go.Proofs.YtnbgiacnbheonaaGreatDoor
namespace Go.Proofs.YtnbgiacnbheonaaGreatDoor
open Go.RowKit Go.Deep Go.WideShapes Go.ChangeShapes Go.Vc
set_option linter.unusedSimpArgs false
set_option linter.unusedVariables false
set_option maxRecDepth 100000
theorem upto_one {H:Type} (d:DataW H):1<=Rows.uptoBulk d:=by
 cases d with
 | lit l=>cases l <;> simp only [Rows.uptoBulk] <;> omega
 | _=>simp only [Rows.uptoBulk];omega
theorem upto_len {H:Type}:∀(l:List (DataW H)),l.length<=Rows.uptoBulkAll l
 | []=>by simp
 | d :: l=>by
  have:=upto_len l
  have:=upto_one d
  simp only [Rows.uptoBulkAll,lcn];omega
theorem upto_part {H:Type}{d:DataW H}:∀{l:List (DataW H)},d∈l->Rows.uptoBulk d<=Rows.uptoBulkAll l
 | e :: l,h=>by
  simp only [Rows.uptoBulkAll]
  rcases mcn.1 h with rfl | h
  ·omega
  ·have:=upto_part h;omega
theorem upto_small {H:Type}{d:DataW H}{l:List (DataW H)} (hk:Rows.uptoSmall H l=true) (h:d∈l):Rows.uptoBulk d<=1048576:=
 nlt (upto_part h) (of_decide_eq_true hk)
section
variable {H:Type}{enc:TypeId × Value->H}{P:Program}{W:Wd}{α:Type}
theorem trod_parts {t:TypeId}{fs:Array Field}{fuel:Nat}{cs:List Value}{x:DataW H × List MemPlace} (ht:P.underlying t=some (.struct fs)) (h:DataW.trod enc P W 0 (fun _=>true) true fuel t cs=some x) :
  cs.length=P.cellsOf t/\∀(i:Nat) (f:Field),fs[i]?=some f->∃n y,DataW.trod enc P W 0 (fun _=>true) true n f.type ((cs.drop f.offset).take (P.cellsOf f.type))=some y/\Rows.uptoBulk y.1<Rows.uptoBulk x.1:=by
 obtain⟨xs,n,_,rfl,hl,hlen,hf⟩:=DataW.trod_struct ht h
 refine⟨hl,fun i f hi=>?_⟩
 have hlt:i<xs.length:=by rw [hlen];exact (agi.1 hi).1
 refine⟨n,xs[i],?_,?_⟩
 ·rw [hf i f hi,gge hlt]
 ·have:=upto_part (List.mem_map.2 ⟨xs[i],gem hlt,rfl⟩:xs[i].1∈xs.map (·.1))
  simp only [Rows.uptoBulk];omega
theorem open_bk [Inhabited α] (L:Lay α) (Q:α->Prop) {t e:TypeId}{fuel:Nat}{cs:List Value}{x:DataW H × List MemPlace} (h:DataW.trod enc P W 0 (fun _=>true) true fuel t cs=some x) (ht:P.underlying t=some (.slice e)) (hC:P.cellsOf e=L.n)
  (hel:∀(n:Nat) (cs:List Value) (y:DataW H × List MemPlace),DataW.trod enc P W 0 (fun _=>true) true n e cs=some y->Rows.uptoBulk y.1<Rows.uptoBulk x.1->∃z:α,cs=L.cells z/\Q z) :
  ∃A c xs,cs=[.slice A xs.length c]/\Rd L W A c xs/\(∀y∈xs,Q y)/\xs.length<=Rows.uptoBulk x.1:=by
 rcases open_slice ht h with ⟨hcs,_⟩ | ⟨a,len,cap,m,n,D,Pl,hcs,_,hl,hm,hmm,hx,hi⟩
 ·exact⟨none,0,[],hcs,Rd.nil _ _,sm,sm⟩
 ·have hlm:len<=m:=by rw [hmm];simp;exact hl
  have hx1:=(Prod.mk.inj hx).1
  rw [hx1] at hel |-
  have hbulk:∀i,i<len->Rows.uptoBulk (D i)<Rows.uptoBulk (.slice ((List.range len).map D) ((List.range (m-len)).map fun j=>D (len+j))):=fun i hi=>by
   have:=upto_part (List.mem_map.2 ⟨i,List.mem_range.2 hi,rfl⟩:D i∈(List.range len).map D)
   simp only [Rows.uptoBulk];omega
  obtain⟨f,hfx⟩:=choose_lt (α:=α) (n:=len) (p:=fun i y=>(∀j u,(L.cells y)[j]?=some u->W.cell? ((a.add (i*L.n)).add j)=some u)/\Q y) (fun i hil=>by
   obtain⟨cs',h1,h2⟩:=hi i om
   obtain⟨y,rfl,hq⟩:=hel _ _ _ h2 (hbulk i hil)
   obtain⟨_,hlen,hat⟩:=World.cells?_some h1
   refine⟨y,fun j u hj=>?_,hq⟩
   rw [hC] at hat hlen
   rw [hat j (by rw [<-L.len y];exact (gsi.1 hj).1)]
   exact hj)
  refine⟨some a,cap,(List.range len).map f,by simpa using hcs,⟨by simpa using hl,hm,(fun h=>by cases h),fun h0=>?_⟩,fun y hy=>?_,?_⟩
  ·simp at h0
   have hspot:a.spot=Option.none:=by
    have hy:=(hfx 0 h0).1
    have hn:0<(L.cells (f 0)).length:=by rw [L.len];exact L.pos
    have:=hy 0 _ (gge hn)
    simp only [Nat.zero_mul,Addr.add,if_true] at this
    unfold World.cell? at this
    cases hs:a.spot with
    | none=>rfl
    | some q=>
     split at this
     ·rw [hs] at this;simp at this
     ·cases this
   obtain⟨b,o,s⟩:=a
   simp only at hspot
   subst hspot
   refine⟨b,o,rfl,cells_of_rows _ (fun i hi j u hj=>?_)⟩
   simp at hi hj
   have:=(hfx i hi).1 j u hj
   rw [Addr.add_lit,Addr.add_lit] at this
   exact this
  ·obtain⟨i,hi,rfl⟩:=List.mem_map.1 hy
   exact (hfx i (List.mem_range.1 hi)).2
  ·have:=upto_len ((List.range len).map D)
   simp only [Rows.uptoBulk,lmp,List.length_range] at this |-
   omega
theorem list2 {α:Type}{l:List α} (h:l.length=2):∃a b,l=[a,b]:=by
 match l,h with
 | [a,b],_=>exact⟨a,b,rfl⟩
theorem list5 {α:Type}{l:List α} (h:l.length=5):∃a b c d e,l=[a,b,c,d,e]:=by
 match l,h with
 | [a,b,c,d,e],_=>exact⟨a,b,c,d,e,rfl⟩
theorem list12 {α:Type}{l:List α} (h:l.length=12):∃a b c d e f g i j k m n,l=[a,b,c,d,e,f,g,i,j,k,m,n]:=by
 match l,h with
 | [a,b,c,d,e,f,g,i,j,k,m,n],_=>exact⟨a,b,c,d,e,f,g,i,j,k,m,n,rfl⟩
end
instance:Inhabited E5:=⟨⟨0,noB,(none,0,0),noB,(none,0,0)⟩⟩
instance:Inhabited At:=⟨⟨noB,noB⟩⟩
instance:Inhabited Ac:=⟨⟨0,0,false,0,0,noB,noB,.mk 0 noB [] noB []⟩⟩
instance:Inhabited E12:=⟨⟨default,default⟩⟩
theorem rtl_of {w:Wd}:∀(es:List E5),(∀e∈es,∃t,RTr w t e)->∃ts,RTl w ts es
 | [],_=>⟨[],by simp only [RTl]⟩
 | e :: es,h=>by
  obtain⟨t,ht⟩:=h e sm
  obtain⟨ts,hts⟩:=rtl_of es fun x hx=>h x (by simp [hx])
  exact⟨t :: ts,by simp only [RTl];exact⟨e,es,rfl,ht,hts⟩⟩
section
variable {H:Type}{enc:TypeId × Value->H}{W:Wd}
theorem kStr:(P0).cellsOf 9=1:=by kernel_rfl
theorem kInt:(P0).cellsOf 3=1:=by kernel_rfl
theorem kBool:(P0).cellsOf 4=1:=by kernel_rfl
theorem kHn:(P0).cellsOf 42=1:=by kernel_rfl
theorem kAts:(P0).cellsOf 45=1:=by kernel_rfl
theorem kTrs:(P0).cellsOf 46=1:=by kernel_rfl
theorem kTr:(P0).cellsOf 48=5:=by kernel_rfl
theorem kAt:(P0).cellsOf 145=2:=by kernel_rfl
theorem at_cells (n:Nat) (cs:List Value) (x:DataW H × List MemPlace) (h:DataW.trod enc P0 W 0 (fun _=>true) true n 145 cs=some x):∃y:At,cs=LAt.cells y:=by
 obtain⟨hl,hp⟩:=trod_parts Tryz.underlying145 h
 obtain⟨a,b,rfl⟩:=list2 (hl.trans kAt)
 obtain⟨_,_,h0,-⟩:=hp 0 _ rfl
 obtain⟨_,_,h1,-⟩:=hp 1 _ rfl
 simp only [List.getElem_toArray,List.getElem_cons_zero,List.getElem_cons_succ,kStr,List.drop_zero,List.drop_succ_cons,List.take_succ_cons,List.take_zero] at h0 h1
 obtain⟨s,e0,-,-⟩:=DataW.trod_string Tryz.underlying9 h0
 obtain⟨t,e1,-,-⟩:=DataW.trod_string Tryz.underlying9 h1
 simp only [List.cons.injEq,and_true] at e0 e1
 subst e0 e1
 exact⟨⟨s,t⟩,rfl⟩
theorem ats_cells {n:Nat}{cs:List Value}{x:DataW H × List MemPlace} (h:DataW.trod enc P0 W 0 (fun _=>true) true n 45 cs=some x) (hx:Rows.uptoBulk x.1<=1048576):∃(v:Sv) (l:List At),cs=[.slice v.1 v.2.1 v.2.2]/\RR LAt W l v:=by
 obtain⟨A,c,l,e,hr,-,hlen⟩:=open_bk LAt (fun _=>True) h Tryz.underlying45 kAt fun n cs y hy _=>by
  obtain⟨z,hz⟩:=at_cells n cs y hy
  exact⟨z,hz,trivial⟩
 exact⟨(A,l.length,c),l,e,nlt hlen hx,rfl,hr⟩
theorem tr_cells:∀(B:Nat),B<=1048576->∀(n:Nat) (cs:List Value) (x:DataW H × List MemPlace),DataW.trod enc P0 W 0 (fun _=>true) true n 48 cs=some x->Rows.uptoBulk x.1<=B ->
  ∃(e:E5),cs=e.cells/\∃t,RTr W t e:=by
 intro B
 induction B using Nat.strongRecOn with
 | _ B ih=>
  intro hB n cs x h hx
  obtain⟨hl,hp⟩:=trod_parts Tryz.underlying48 h
  obtain⟨a,b,c,d,e,rfl⟩:=list5 (hl.trans kTr)
  obtain⟨_,_,h0,b0⟩:=hp 0 _ rfl
  obtain⟨_,_,h1,b1⟩:=hp 1 _ rfl
  obtain⟨_,_,h2,b2⟩:=hp 2 _ rfl
  obtain⟨_,_,h3,b3⟩:=hp 3 _ rfl
  obtain⟨_,y4,h4,b4⟩:=hp 4 _ rfl
  simp only [List.getElem_toArray,List.getElem_cons_zero,List.getElem_cons_succ,kInt,kStr,kAts,kTrs,List.drop_zero,List.drop_succ_cons,List.take_succ_cons,List.take_zero] at h0 h1 h2 h3 h4
  obtain⟨kd,e0,-,-⟩:=DataW.trod_int Tryz.underlying3 h0
  obtain⟨nm,e1,-,-⟩:=DataW.trod_string Tryz.underlying9 h1
  obtain⟨va,la,e2,ha⟩:=ats_cells h2 om
  obtain⟨tx,e3,-,-⟩:=DataW.trod_string Tryz.underlying9 h3
  obtain⟨A,c',es,e4,hr,hq,hlen⟩:=open_bk LE5 (fun e=>∃t,RTr W t e) h4 Tryz.underlying46 kTr fun n cs y hy hby=>ih (Rows.uptoBulk y.1) om om n cs y hy (nlr _)
  simp only [List.cons.injEq,and_true] at e0 e1 e2 e3 e4
  subst e0 e1 e2 e3 e4
  obtain⟨ts,hts⟩:=rtl_of es hq
  refine⟨⟨kd,nm,va,tx,(A,es.length,c')⟩,rfl,.mk kd nm la tx ts,?_⟩
  simp only [RTr]
  exact⟨by trivial,by trivial,by trivial,ha,by rw [<-hts.len];omega,es,rfl,hr,hts⟩
theorem hn_cells {n:Nat}{cs:List Value}{x:DataW H × List MemPlace} (h:DataW.trod enc P0 W 0 (fun _=>true) true n 42 cs=some x):∃k:Nat,k<18446744073709551616/\cs=[.int .u64 (k:Nat)]:=by
 obtain⟨k,rfl,-,hw⟩:=DataW.trod_int Tryz.underlying42 h
 have hx:0<=k/\k<=18446744073709551615:=by simpa [Lit.wf,IntKind.min,IntKind.max,IntKind.signed,IntKind.bits] using hw
 exact⟨k.toNat,om,by rw [Int.toNat_of_nonneg hx.1]⟩
theorem ac_cells {n:Nat}{cs:List Value}{x:DataW H × List MemPlace} (h:DataW.trod enc P0 W 0 (fun _=>true) true n 116 cs=some x) (hx:Rows.uptoBulk x.1<=1048576):∃y:E12,cs=LAc.cells y/\RAc W y:=by
 obtain⟨hl,hp⟩:=trod_parts Tryz.underlying116 h
 have kAc:(P0).cellsOf 116=12:=by kernel_rfl
 obtain⟨a,b,c,d,e,f,g,i,j,k,m,o,rfl⟩:=list12 (hl.trans kAc)
 obtain⟨_,_,h0,b0⟩:=hp 0 _ rfl
 obtain⟨_,_,h1,b1⟩:=hp 1 _ rfl
 obtain⟨_,_,h2,b2⟩:=hp 2 _ rfl
 obtain⟨_,_,h3,b3⟩:=hp 3 _ rfl
 obtain⟨_,_,h4,b4⟩:=hp 4 _ rfl
 obtain⟨_,_,h5,b5⟩:=hp 5 _ rfl
 obtain⟨_,_,h6,b6⟩:=hp 6 _ rfl
 obtain⟨_,_,h7,b7⟩:=hp 7 _ rfl
 simp only [List.getElem_toArray,List.getElem_cons_zero,List.getElem_cons_succ,kInt,kStr,kBool,kHn,kTr,List.drop_zero,List.drop_succ_cons,List.take_succ_cons,List.take_zero] at h0 h1 h2 h3 h4 h5 h6 h7
 obtain⟨q0,e0,-,-⟩:=DataW.trod_int Tryz.underlying3 h0
 obtain⟨q1,e1,-,-⟩:=DataW.trod_int Tryz.underlying3 h1
 obtain⟨q2,e2,-⟩:=DataW.trod_bool Tryz.underlying4 h2
 obtain⟨q3,l3,e3⟩:=hn_cells h3
 obtain⟨q4,l4,e4⟩:=hn_cells h4
 obtain⟨q5,e5,-,-⟩:=DataW.trod_string Tryz.underlying9 h5
 obtain⟨q6,e6,-,-⟩:=DataW.trod_string Tryz.underlying9 h6
 obtain⟨q7,e7,t,ht⟩:=tr_cells 1048576 (nlr _) _ _ _ h7 om
 simp only [E5.cells,List.cons.injEq,and_true] at e0 e1 e2 e3 e4 e5 e6 e7
 obtain⟨e7,e8,e9,e10,e11⟩:=e7
 subst e0 e1 e2 e3 e4 e5 e6 e7 e8 e9 e10 e11
 exact⟨⟨⟨q0,q1,q2,q3,q4,q5,q6,t⟩,q7⟩,rfl,⟨l3,l4⟩,ht⟩
theorem acs_open {n:Nat}{cs:List Value}{x:DataW H × List MemPlace} (h:DataW.trod enc P0 W 0 (fun _=>true) true n 57 cs=some x) (hx:Rows.uptoBulk x.1<=1048576) :
  ∃(A:OA) (c:Nat) (xs:List E12),cs=[.slice A xs.length c]/\Rd LAc W A c xs/\(∀y∈xs,RAc W y)/\xs.length<=1048576:=by
 obtain⟨A,c,l,e,hr,hq,hlen⟩:=open_bk LAc (RAc W) h Tryz.underlying57 kr fun n cs y hy hb=>ac_cells hy om
 exact⟨A,c,l,e,hr,hq,nlt hlen hx⟩
end
def ROp (w:Wd) (x:E11):Prop:=(x.o.node<18446744073709551616/\x.o.at_<18446744073709551616)/\RTr w x.o.t x.e
theorem ROp.sub {w w1:Wd}{x:E11} (h:ROp w x) (hs:Sub w w1):ROp w1 x:=⟨h.1,RTr.sub hs _ _ h.2⟩
theorem list11 {α:Type}:∀{l:List α},l.length=11->∃a b c d e f g i j k m,l=[a,b,c,d,e,f,g,i,j,k,m]
 | [a,b,c,d,e,f,g,i,j,k,m],_=>⟨a,b,c,d,e,f,g,i,j,k,m,rfl⟩
instance:Inhabited O1:=⟨⟨0,0,0,0,noB,noB,.mk 0 noB [] noB []⟩⟩
instance:Inhabited E11:=⟨⟨default,default⟩⟩
section
variable {H:Type}{enc:TypeId × Value->H}{W:Wd}
theorem op_cells {n:Nat}{cs:List Value}{x:DataW H × List MemPlace} (h:DataW.trod enc P0 W 0 (fun _=>true) true n 50 cs=some x) (hx:Rows.uptoBulk x.1<=1048576):∃y:E11,cs=LOp.cells y/\ROp W y:=by
 obtain⟨hl,hp⟩:=trod_parts Tryz.underlying50 h
 have kOp:(P0).cellsOf 50=11:=by kernel_rfl
 obtain⟨a,b,c,d,e,f,g,i,j,k,m,rfl⟩:=list11 (hl.trans kOp)
 obtain⟨_,_,h0,b0⟩:=hp 0 _ rfl
 obtain⟨_,_,h1,b1⟩:=hp 1 _ rfl
 obtain⟨_,_,h2,b2⟩:=hp 2 _ rfl
 obtain⟨_,_,h3,b3⟩:=hp 3 _ rfl
 obtain⟨_,_,h4,b4⟩:=hp 4 _ rfl
 obtain⟨_,_,h5,b5⟩:=hp 5 _ rfl
 obtain⟨_,_,h6,b6⟩:=hp 6 _ rfl
 simp only [List.getElem_toArray,List.getElem_cons_zero,List.getElem_cons_succ,kInt,kStr,kBool,kHn,kTr,List.drop_zero,List.drop_succ_cons,List.take_succ_cons,List.take_zero] at h0 h1 h2 h3 h4 h5 h6
 obtain⟨q0,e0,-,-⟩:=DataW.trod_int Tryz.underlying3 h0
 obtain⟨q1,l1,e1⟩:=hn_cells h1
 obtain⟨q2,l2,e2⟩:=hn_cells h2
 obtain⟨q3,e3,-,-⟩:=DataW.trod_int Tryz.underlying3 h3
 obtain⟨q4,e4,-,-⟩:=DataW.trod_string Tryz.underlying9 h4
 obtain⟨q5,e5,-,-⟩:=DataW.trod_string Tryz.underlying9 h5
 obtain⟨q6,e6,t,ht⟩:=tr_cells 1048576 (nlr _) _ _ _ h6 om
 simp only [E5.cells,List.cons.injEq,and_true] at e0 e1 e2 e3 e4 e5 e6
 obtain⟨e6,e7,e8,e9,e10⟩:=e6
 subst e0 e1 e2 e3 e4 e5 e6 e7 e8 e9 e10
 exact⟨⟨⟨q0,q1,q2,q3,q4,q5,t⟩,q6⟩,rfl,⟨l1,l2⟩,ht⟩
theorem ops_open {n:Nat}{cs:List Value}{x:DataW H × List MemPlace} (h:DataW.trod enc P0 W 0 (fun _=>true) true n 26 cs=some x) (hx:Rows.uptoBulk x.1<=1048576) :
  ∃(A:OA) (c:Nat) (xs:List E11),cs=[.slice A xs.length c]/\Rd LOp W A c xs/\(∀y∈xs,ROp W y)/\xs.length<=1048576:=by
 obtain⟨A,c,l,e,hr,hq,hlen⟩:=open_bk LOp (ROp W) h Tryz.underlying26 kr fun n cs y hy hb=>op_cells hy om
 exact⟨A,c,l,e,hr,hq,nlt hlen hx⟩
end
end Go.Proofs.YtnbgiacnbheonaaGreatDoor
namespace Go.Proofs.YtnbgiacnbheonaaGreatDoor
open Go.RowKit Go.Vc
set_option linter.unusedVariables false
set_option linter.unusedSimpArgs false
set_option maxRecDepth 100000
section
variable {w:Wd}{R:RT}
theorem chk_at {L:List O1} (hl:L.length<=4096) {k:Nat} (hk:k<L.length) (h:chkF (L.take k) (L.drop k)=checkF L):(badO (L.take k) L[k]=0->chkF (L.take (k+1)) (L.drop (k+1))=checkF L)/\(badO (L.take k) L[k]≠0->checkF L=(k,badO (L.take k) L[k])):=by
 rw [chk_step hk] at h
 constructor
 ·intro e;rw [if_neg (by rw [e];simp)] at h;exact h
 ·intro e;rw [if_pos e] at h;exact h.symm
theorem checkR_calls (xs:List E11) {A:OA}{c:Nat} (hr:Rd LOp w A c xs) (hx:∀x∈xs,ROp w x) (hl:xs.length<=1048576) (hK:∀w',Below w.heap.size w w'->R (.returned (.tuple #[.int .i64 ((checkF (xs.map (·.o))).1:Nat),.int .i64 (checkF (xs.map (·.o))).2])) w') :
  CL 61 #[.slice A xs.length c] w R:=by
 refine ok61 A xs.length c ?_
 unfold F61
 generalize hL:xs.map (·.o)=L at *
 have hlen:L.length=xs.length:=by rw [<-hL,lmp]
 refine brd (fun hgt=>?_) (fun hle=>?_)
 ·have H:=hK w (.refl _ _)
  unfold checkF at H
  rw [if_pos om] at H
  exact H
 have hle:L.length<=4096:=by omega
 refine⟨fun i w'=>∃k:Nat,i=k/\k<=xs.length/\Below w.heap.size w w'/\chkF (L.take k) (L.drop k)=checkF L,fun i _=>xs.length-i.toNat,⟨0,rfl,om,.refl _ _,by unfold checkF;rw [if_neg om];rfl⟩,?_⟩
 rintro _ w1 ⟨k,rfl,hk,hb1,hF⟩
 unfold F61_l4
 refine brd (fun hlt=>?_) (fun hge=>?_)
 ·have hk2:k<xs.length:=by omega
  obtain⟨f1,f2⟩:=chk_at hle om hF
  have hLk:L[k]'om=xs[k].o:=by subst hL;rw [gmp]
  rw [hLk] at f1 f2
  have bad:∀{v:Int}{w':Wd},badO (L.take k) xs[k].o=v->v≠0->Below w.heap.size w w'->R (.returned (.tuple #[.int .i64 (k:Nat),.int .i64 v])) w':=fun {v w'} e1 e2 hb=>by
   have H:=hK w' hb
   rw [f2 (by rw [e1];exact e2),e1] at H
   exact H
  have hrt:=(hx _ (gem hk2)).2
  have hr1:=hr.keep hb1
  refine hr1.idx rfl om om rfl fun b oo cc=>?_
  simp only [tnc] at cc
  have k0:=cc 0 _ rfl
  have k1:=cc 1 _ rfl
  have k2:=cc 2 _ rfl
  have k3:=cc 3 _ rfl
  have k4:=cc 4 _ rfl
  have k5:=cc 5 _ rfl
  have k6:=cc 6 _ rfl
  have k7:=cc 7 _ rfl
  have k8:=cc 8 _ rfl
  have k9:=cc 9 _ rfl
  have k10:=cc 10 _ rfl
  simp only [Nat.add_zero] at k0
  simp only [k0,k1,k2,k3,k4,k5,k6,k7,k8,k9,k10,lds]
  refine al11 fun go w2 hb2 bo hgo=>?_
  have B2:=btr hb1 hb1.size hb2
  simp only [bo.cell,lds]
  refine⟨fun w'=>w2=w'/\1<=xs[k].o.kind/\xs[k].o.kind<=8,?_,?_⟩
  rotate_left
  ·refine brd (fun h=>bad (by unfold badO;rw [if_pos (.inl h)]) dc B2) fun h1=>?_
   exact brd (fun h=>bad (by unfold badO;rw [if_pos (.inr h)]) dc B2) fun h2=>⟨rfl,om,om⟩
  rintro _ ⟨rfl,h1,h8⟩
  have hb0:∀x,(if xs[k].o.kind<1\/8<xs[k].o.kind then (170:Int) else x)=x:=fun x=>if_neg om
  unfold F61_j9
  refine⟨fun w'=>Below w2.heap.size w2 w'/\¬((xs[k].o.kind=1\/xs[k].o.kind=8)/\(lookF xs[k].o.t 1 0).2≠0),?_,?_⟩
  rotate_left
  ·have tree:(xs[k].o.kind=1\/xs[k].o.kind=8)->CL 68 #[.agg #[.int .i64 xs[k].e.kind,.string xs[k].e.nm,slV xs[k].e.ats,.string xs[k].e.text,slV xs[k].e.kids]] w2 (post R fun v w1_13=>∃(x40:Int),v=(.int .i64 x40)/\Br (x40 != (0:Int)) (R (.returned (.tuple #[(.int .i64 (k:Nat)),.int .i64 x40])) w1_13) (Below w2.heap.size w2 w1_13/\¬((xs[k].o.kind=1\/xs[k].o.kind=8)/\(lookF xs[k].o.t 1 0).2≠0))):=fun hk18=>
    Check_calls xs[k].o.t (RTr.sub (sub_below B2) _ _ hrt) fun w3 hb3=>⟨_,rfl,brn (fun hne=>bad (by unfold badO;rw [hb0,if_pos ⟨hk18,hne⟩]) hne (btr B2 B2.size hb3)) fun he=>⟨hb3,fun q=>q.2 he⟩⟩
   simp only [bo.cell,lds]
   refine bre (fun h=>tree (.inl h)) fun hn1=>?_
   refine bre (fun h=>tree (.inr h)) fun hn8=>⟨.refl _ _,fun q=>?_⟩
   rcases q.1 with e | e
   ·exact hn1 e
   ·exact hn8 e
  rintro w3 ⟨hb3,htr⟩
  have B3:=btr B2 B2.size hb3
  unfold F61_j13
  have hbd:badO (L.take k) xs[k].o=if ((L.take k).any fun a=>cfB a xs[k].o)=true then 171 else 0:=by unfold badO;rw [hb0,if_neg htr]
  refine⟨fun q w'=>∃p:Nat,q=p/\p<=k/\Below w3.heap.size w3 w'/\((L.take p).any fun a=>cfB a xs[k].o)=false,fun q _=>k-q.toNat,⟨0,rfl,om,.refl _ _,rfl⟩,?_⟩
  rintro _ w4 ⟨p,rfl,hp,hb4,hno⟩
  have B4:=btr B3 B3.size hb4
  unfold F61_l14
  refine brd (fun hpk=>?_) (fun hpk=>?_)
  ·have hp2:p<k:=by omega
   have hdr:Below w4.heap.size w4 w4.drew:=(Below.refl _ _).drew
   have B5:=btr B4 B4.size hdr
   have bo5:=bo.keep (btr hb3 hb3.size (btr hb4 hb4.size hdr))
   have hLp:L[p]'om=xs[p].o:=by subst hL;rw [gmp]
   have htk:(L.take (p+1)).any (fun a=>cfB a xs[k].o)=cfB xs[p].o xs[k].o:=by
    rw [tsa om,List.any_append,hno,hLp];simp
   refine⟨fun w'=>Below w4.drew.heap.size w4.drew w',.refl _ _,?_⟩
   refine (hr.keep B5).held (fun _ h=>h) rfl om om rfl fun b oo cc=>?_
   simp only [tnc,Nat.add_zero] at cc
   have k0:=cc 0 _ rfl
   refine⟨_,k0,_,cc 1 _ rfl,_,cc 2 _ rfl,_,cc 3 _ rfl,_,cc 4 _ rfl,_,cc 5 _ rfl,_,cc 6 _ rfl,_,cc 7 _ rfl,_,_,_,cc 8 _ rfl,_,cc 9 _ rfl,_,_,_,cc 10 _ rfl,?_⟩
   simp only [Addr.add_mk,nza]
   have ho:∀(i:Nat) (u:Value),(opC xs[k])[i]?=some u->Held (fun w'=>Below w4.drew.heap.size w4.drew w') ⟨go,i,none⟩ u:=fun i u hu w' hw=>by rw [(bo5.keep hw).cell];exact hu
   refine⟨_,ho 0 _ rfl,_,ho 1 _ rfl,_,ho 2 _ rfl,_,ho 3 _ rfl,_,ho 4 _ rfl,_,ho 5 _ rfl,_,ho 6 _ rfl,_,ho 7 _ rfl,_,_,_,ho 8 _ rfl,_,ho 9 _ rfl,_,_,_,ho 10 _ rfl,?_⟩
   refine cfR_calls xs[p] xs[k] fun w6 hb6=>⟨_,rfl,?_⟩
   have B6:=btr B5 B5.size hb6
   refine br (fun hc=>?_) (fun hc=>?_)
   ·refine bad (v:=171) ?_ dc B6
    rw [hbd,if_pos]
    rw [List.any_eq_true]
    exact⟨xs[p].o,by rw [<-hLp,List.mem_iff_getElem];exact⟨p,by rw [ltk];omega,by rw [List.getElem_take]⟩,hc⟩
   ·exact⟨inR_i64 om om,⟨p+1,sm,om,btr hb4 hb4.size (btr hdr hdr.size hb6),by rw [htk];exact hc⟩,odz⟩
  ·have hpe:p=k:=by omega
   subst hpe
   rw [hno,if_neg dc] at hbd
   exact⟨inR_i64 om om,⟨p+1,sm,om,B4,f1 hbd⟩,odz⟩
 ·have hk2:k=xs.length:=by omega
  have H:=hK w1 hb1
  rw [<-hF,List.drop_of_length_le om,chkF] at H
  exact H
end
structure MpE (q:IntKind) (es:Array MapEntry) (clock:Nat) (f:Int->Option Value):Prop where
 key:∀x∈es.toList,∃k,x.key=.int q k/\f k=some x.val
 has:∀k v,f k=some v->∃x∈es.toList,x.key=.int q k
 one:(es.toList.map (·.key)).Nodup
 born:∀x∈es.toList,x.born<clock
 age:(es.toList.map (·.born)).Nodup
def Mp (q:IntKind) (w:Wd) (b:Nat) (f:Int->Option Value):Prop:=∃es clock,w.heap[b]?=some (.map es clock)/\MpE q es clock f
theorem findNow_int {q:IntKind}{k:Int}:∀(l:List MapEntry) (i:Nat),(∀x∈l,∃a,x.key=.int q a) ->
  (Instr.findNow (.int q) (.int q k) l i=some none/\∀x∈l,x.key≠.int q k)\/∃j x,l[j]?=some x/\x.key=.int q k/\Instr.findNow (.int q) (.int q k) l i=some (some (i+j,x.val))
 | [],i,_=>.inl ⟨rfl,fun x h=>by simp at h⟩
 | x :: l,i,h=>by
  obtain⟨a,ha⟩:=h x sm
  by_cases hk:k=a
  ·subst hk
   refine .inr ⟨0,x,rfl,ha,?_⟩
   simp [Instr.findNow,ha,Instr.sameNow]
  ·have e:Instr.findNow (.int q) (.int q k) (x :: l) i=Instr.findNow (.int q) (.int q k) l (i+1):=by
    have hb:(k == a)=false:=by simpa using hk
    simp [Instr.findNow,ha,Instr.sameNow,hb]
   rcases findNow_int l (i+1) fun y hy=>h y (by simp [hy]) with ⟨h1,h2⟩ | ⟨j,y,h1,h2,h3⟩
   ·refine .inl ⟨by rw [e,h1],fun y hy=>?_⟩
    rcases mcn.1 hy with rfl | hy
    ·rw [ha];intro h;injection h with _ h;exact hk h.symm
    ·exact h2 y hy
   ·exact .inr ⟨j+1,y,by simpa using h1,h2,by rw [e,h3];congr 2;simp;omega⟩
section
variable {P:Program}{q:IntKind}{w:Wd}{b:Nat}{f:Int->Option Value}{t kt et:TypeId}
theorem Mp.find (h:Mp q w b f) (k:Int):∃es clock,w.heap[b]?=some (.map es clock)/\MpE q es clock f /\
  ((f k=none/\Instr.findNow (.int q) (.int q k) es.toList 0=some none)\/∃j x,es.toList[j]?=some x/\x.key=.int q k/\f k=some x.val/\Instr.findNow (.int q) (.int q k) es.toList 0=some (some (j,x.val))):=by
 obtain⟨es,clock,hb,he⟩:=h
 refine⟨es,clock,hb,he,?_⟩
 rcases findNow_int (k:=k) es.toList 0 fun x hx=>(he.key x hx).imp fun _ h=>h.1 with ⟨h1,h2⟩ | ⟨j,x,h1,h2,h3⟩
 ·refine .inl ⟨?_,h1⟩
  cases hf:f k with
  | none=>rfl
  | some v=>
   obtain⟨x,hx,hk⟩:=he.has k v hf
   exact absurd hk (h2 x hx)
 ·refine .inr ⟨j,x,h1,h2,?_,by simpa using h3⟩
  obtain⟨a,ha,hv⟩:=he.key x (mog h1)
  rw [h2] at ha;injection ha with _ ha;subst ha;exact hv
theorem Mp.look (h:Mp q w b f) (ht:P.underlying t=some (.map kt et)) (hk:P.underlying kt=some (.int q)) {z:Value} (hz:(zeroValue et).run P w=.ok z w) (k:Int) (c:Bool) {K:Value->Wd->Prop}
  (hK:K (if c then .tuple #[(f k).getD z,.bool (f k).isSome] else (f k).getD z) w):Raw P (Instr.lookup t (.map (some b)) (.int q k) c) w K:=by
 obtain⟨es,clock,hb,he,h2⟩:=h.find k
 have hc:(Instr.checkKey es.isEmpty 10000 kt (.int q k)).run P w=.ok () w:=MapKept.run_checkKey (k:=.int q k) hk (by simp [MapKept.IsKey]) _ 9999
 rcases h2 with ⟨h1,h2⟩ | ⟨j,x,h3,h4,h1,h2⟩
 ·rw [h1] at hK
  refine⟨_,w,?_,hK⟩
  simp [Instr.lookup,run_underlying ht,MapKept.run_getObj_map hb,hc,MapKept.run_findKey hk h2,hz,Result.andThen]
 ·rw [h1] at hK
  refine⟨_,w,?_,hK⟩
  simp [Instr.lookup,run_underlying ht,MapKept.run_getObj_map hb,hc,MapKept.run_findKey hk h2,Result.andThen]
def upd (f:Int->Option Value) (k:Int) (v:Option Value):Int->Option Value:=fun j=>if j=k then v else f j
theorem Mp.lt (h:Mp q w b f):b<w.heap.size:=by
 obtain⟨es,clock,hb,_⟩:=h;exact (agi.1 hb).1
theorem MpE.push {es:Array MapEntry}{clock:Nat} (he:MpE q es clock f) {k:Int} (hk:f k=none) (v:Value):MpE q (es.push ⟨.int q k,v,clock⟩) (clock+1) (upd f k (some v)):=by
 have hne:∀x∈es.toList,∀a,x.key=.int q a->a≠k:=fun x hx a ha e=>by
  obtain⟨a',h1,h2⟩:=he.key x hx
  rw [ha] at h1;injection h1 with _ h1;subst h1;subst e;rw [hk] at h2;cases h2
 refine⟨fun x hx=>?_,fun j u hu=>?_,?_,fun x hx=>?_,?_⟩
 ·rw [Array.toList_push] at hx
  rcases List.mem_append.1 hx with hx | hx
  ·obtain⟨a,h1,h2⟩:=he.key x hx
   exact⟨a,h1,by unfold upd;rw [if_neg (hne x hx a h1)];exact h2⟩
  ·rw [msg] at hx;subst hx
   exact⟨k,rfl,by unfold upd;rw [if_pos rfl]⟩
 ·unfold upd at hu
  by_cases e:j=k
  ·subst e;exact⟨⟨.int q j,v,clock⟩,sm,rfl⟩
  ·rw [if_neg e] at hu
   obtain⟨x,hx,h1⟩:=he.has j u hu
   exact⟨x,by simp [Array.mem_toList_iff.1 hx],h1⟩
 ·rw [Array.toList_push,List.map_append,List.nodup_append]
  refine⟨he.one,sm,fun x hx y hy e=>?_⟩
  rw [List.map_singleton,msg] at hy
  obtain⟨z,hz,rfl⟩:=List.mem_map.1 hx
  obtain⟨a,h1,-⟩:=he.key z hz
  rw [h1,hy] at e;injection e with _ e
  exact hne z hz a h1 e
 ·rw [Array.toList_push] at hx
  rcases List.mem_append.1 hx with hx | hx
  ·have:=he.born x hx;omega
  ·rw [msg] at hx;subst hx;exact Nat.lt_succ_self _
 ·rw [Array.toList_push,List.map_append,List.nodup_append]
  refine⟨he.age,sm,fun x hx y hy e=>?_⟩
  rw [List.map_singleton,msg] at hy
  obtain⟨z,hz,rfl⟩:=List.mem_map.1 hx
  have:=he.born z hz
  simp only at hy e
  omega
theorem modify_list (es:Array MapEntry) (j:Nat) (g:MapEntry->MapEntry):(es.modify j g).toList=es.toList.modify j g:=Array.toList_modify
theorem map_modify_same {α β:Type} (p:α->β) (g:α->α):∀(l:List α) (j:Nat),(∀x,l[j]?=some x->p (g x)=p x)->(l.modify j g).map p=l.map p
 | [],j,_=>by cases j <;> rfl
 | x :: l,0,h=>by simp [List.modify,h x rfl]
 | x :: l,j+1,h=>by simpa using map_modify_same p g l j fun y hy=>h y (by simpa using hy)
theorem mem_modify {α:Type} (g:α->α):∀(l:List α) (j:Nat) (y:α),l[j]?=some y->∀x,x∈l.modify j g->x=g y\/∃i,i≠j/\l[i]?=some x
 | [],j,y,h,x,hx=>by simp at h
 | a :: l,0,y,h,x,hx=>by
  simp at h;subst h
  rw [List.modify_zero_cons] at hx
  rcases mcn.1 hx with rfl | hx
  ·exact .inl rfl
  ·obtain⟨i,hi⟩:=List.mem_iff_getElem?.1 hx
   exact .inr ⟨i+1,om,by simpa using hi⟩
 | a :: l,j+1,y,h,x,hx=>by
  rw [List.modify_succ_cons] at hx
  rcases mcn.1 hx with rfl | hx
  ·exact .inr ⟨0,om,rfl⟩
  ·rcases mem_modify g l j y (by simpa using h) x hx with h1 | ⟨i,h1,h2⟩
   ·exact .inl h1
   ·exact .inr ⟨i+1,om,by simpa using h2⟩
theorem MpE.put {es:Array MapEntry}{clock:Nat} (he:MpE q es clock f) {k:Int}{j:Nat}{y:MapEntry} (hj:es.toList[j]?=some y) (hy:y.key=.int q k) (v:Value) :
  MpE q (es.modify j fun e=>{ e with key:=.int q k,val:=v }) clock (upd f k (some v)):=by
 have hym:=mog hj
 have hkeys:(es.modify j fun e=>{ e with key:=.int q k,val:=v }).toList.map (·.key)=es.toList.map (·.key):=by
  rw [modify_list];exact map_modify_same _ _ _ _ fun x hx=>by rw [hj] at hx;cases hx;exact hy.symm
 have hborn:(es.modify j fun e=>{ e with key:=.int q k,val:=v }).toList.map (·.born)=es.toList.map (·.born):=by
  rw [modify_list];exact map_modify_same _ _ _ _ fun x hx=>rfl
 refine⟨fun x hx=>?_,fun i u hu=>?_,by rw [hkeys];exact he.one,fun x hx=>?_,by rw [hborn];exact he.age⟩
 ·rw [modify_list] at hx
  rcases mem_modify _ _ _ y hj x hx with rfl | ⟨i,hi,hx2⟩
  ·exact⟨k,rfl,by unfold upd;rw [if_pos rfl]⟩
  ·obtain⟨a,h1,h2⟩:=he.key x (mog hx2)
   refine⟨a,h1,?_⟩
   have hne:a≠k:=fun e=>by
    subst e
    obtain⟨l1,l2⟩:=gsi.1 hx2
    obtain⟨m1,m2⟩:=gsi.1 hj
    have hpw:=pwi.1 he.one
    rcases Nat.lt_or_gt_of_ne hi with h3 | h3
    ·have:=hpw i j (by simpa using l1) (by simpa using m1) h3
     simp only [gmp,l2,m2] at this
     exact this (by rw [h1,hy])
    ·have:=hpw j i (by simpa using m1) (by simpa using l1) h3
     simp only [gmp,l2,m2] at this
     exact this (by rw [h1,hy])
   unfold upd;rw [if_neg hne];exact h2
 ·have hex:∃x∈es.toList,x.key=.int q i:=by
   unfold upd at hu
   by_cases e:i=k
   ·subst e;exact⟨y,hym,hy⟩
   ·rw [if_neg e] at hu;exact he.has i u hu
  obtain⟨x,hx,h1⟩:=hex
  have:Value.int q i∈(es.modify j fun e=>{ e with key:=.int q k,val:=v }).toList.map (·.key):=by
   rw [hkeys];exact List.mem_map.2 ⟨x,hx,h1⟩
  obtain⟨x',hx',h2⟩:=List.mem_map.1 this
  exact⟨x',hx',h2⟩
 ·have:x.born∈es.toList.map (·.born):=by rw [<-hborn];exact List.mem_map.2 ⟨x,hx,rfl⟩
  obtain⟨z,hz,h1⟩:=List.mem_map.1 this
  rw [<-h1];exact he.born z hz
theorem set_fm (w:Wd) (b:Nat) (o:Obj):Fm (·=b) w { w with heap:=w.heap.setIfInBounds b o }:=
 ⟨rfl,rfl,rfl,sm,fun i hi hne=>by
  show (w.heap.setIfInBounds b o)[i]?=_
  rw [Array.getElem?_setIfInBounds_ne (fun e=>hne e.symm)]⟩
theorem Mp.update (h:Mp q w b f) (ht:P.underlying t=some (.map kt et)) (hk:P.underlying kt=some (.int q)) (k:Int) (v:Value) {K:Wd->Prop}
  (hK:∀w',Mp q w' b (upd f k (some v))->Fm (·=b) w w'->K w'):Raw P (Instr.mapUpdate t (.map (some b)) (.int q k) v) w fun _ w'=>K w':=by
 obtain⟨es,clock,hb,he,h2⟩:=h.find k
 have hlt:=(agi.1 hb).1
 have hc:(Instr.checkKey false 10000 kt (.int q k)).run P w=.ok () w:=MapKept.run_checkKey (k:=.int q k) hk (by simp [MapKept.IsKey]) _ 9999
 rcases h2 with ⟨h1,h2⟩ | ⟨j,x,h3,h4,h1,h2⟩
 ·refine⟨(),{ w with heap:=w.heap.setIfInBounds b (.map (es.push ⟨.int q k,v,clock⟩) (clock+1)) },?_,hK _ ⟨_,_,?_,he.push h1 v⟩ (set_fm _ _ _)⟩
  ·simp [Instr.mapUpdate,run_underlying ht,MapKept.run_getObj_map hb,hc,MapKept.run_findKey hk h2,MapKept.run_setObj_map _ hb,Result.andThen]
  ·simp [hlt]
 ·refine⟨(),{ w with heap:=w.heap.setIfInBounds b (.map (es.modify j fun e=>{ e with key:=.int q k,val:=v }) clock) },?_,hK _ ⟨_,_,?_,he.put h3 h4 v⟩ (set_fm _ _ _)⟩
  ·have hj:(es[j]?).map (·.key)=some (.int q k):=by
    rw [<-Array.getElem?_toList,h3,oms,h4]
   have hst:(Instr.keyThatStays (.int q k) (.int q k)).run P w=.ok (.int q k) w:=MapKept.run_keyThatStays (d:=.int q) (by simp [MapKept.IsKey])
   simp only [Instr.mapUpdate,Sem.run_bind,run_underlying ht,MapKept.run_getObj_map hb,hc,MapKept.run_findKey hk h2,MapKept.run_setObj_map _ hb,Result.andThen,hj,hst,Option.getD_some]
  ·simp [hlt]
theorem Mp.made (w:Wd) (q:IntKind):Mp q (w.alloc (.map #[] 0)) w.heap.size fun _=>none:=
 ⟨#[],0,heap_alloc_new _ _,⟨fun x hx=>by simp at hx,fun k v h=>by simp at h,sm,fun x hx=>by simp at hx,sm⟩⟩
theorem Mp.fm {M:Nat->Prop}{w1:Wd} (h:Mp q w b f) (hf:Fm M w w1) (hm:¬M b):Mp q w1 b f:=by
 obtain⟨es,clock,hb,he⟩:=h
 exact⟨es,clock,by rw [hf.block b (agi.1 hb).1 hm];exact hb,he⟩
end
theorem opMap:Tryz.prog.underlying 223=some (.map 42 26):=by kernel_rfl
theorem opKey:Tryz.prog.underlying 42=some (.int .u64):=by kernel_rfl
theorem opZero (w:Wd):(zeroValue 26).run P0 w=.ok (.slice none 0 0) w:=by kernel_rfl
theorem Apart.sym {v u:Value} (h:Apart v u):Apart u v:=by
 rcases h with h | h
 ·cases hu:rowOf u with
  | none=>exact .inl hu
  | some k=>exact .inr (by rw [h,hu];simp)
 ·exact .inr fun e=>h e.symm
theorem Apart.nilR {v:Value}{n c:Nat}:Apart v (.slice none n c):=by
 cases h:rowOf v with
 | none=>exact .inl h
 | some k=>exact .inr (by rw [h];intro hc;cases c <;> cases hc)
theorem mp_new (q:IntKind) {w:Wd}{r:Nat} (h:w.heap[r]?=some (.map #[] 0)):Mp q w r fun _=>none:=⟨#[],0,h,⟨fun x hx=>by simp at hx,fun k v h=>by simp at h,sm,fun x hx=>by simp at hx,sm⟩⟩
theorem almM {w:Wd}{K:Nat->Wd->Prop} (h:∀r w1,Below w.heap.size w w1->w.heap.size<=r->r<w1.heap.size->w1.heap[r]?=some (.map #[] 0)->K r w1):AlM w K:=
 h _ _ ((Below.refl _ _).alloc (nlr _) _) (nlr _) sm (heap_alloc_new _ _)
def mpAh (pre:List E11) (av:Nat->Sv) (k:Int):Option Value:=if 0<=k/\ahE pre k.toNat≠[] then some (slV (av k.toNat)) else none
structure Ah (w0 w:Wd) (m:Nat) (pre:List E11) (av:Nat->Sv):Prop where
 fr:Below w0.heap.size w0 w
 ml:w0.heap.size<=m
 mp:Mp .u64 w m (mpAh pre av)
 ho:∀n,Own LOp w w0.heap.size 50 (slV (av n)) (ahE pre n)
 hm:∀n,rowOf (slV (av n))≠some m
 ha:∀n k,n≠k->Apart (slV (av n)) (slV (av k))
section
variable {w0 w w1:Wd}{m:Nat}{pre:List E11}{av:Nat->Sv}{x:E11}
theorem Ah.keep (h:Ah w0 w m pre av) (hb:Below w.heap.size w w1):Ah w0 w1 m pre av:=
 ⟨btr h.fr h.fr.size hb,h.ml,h.mp.fm (M:=fun _=>False) (.below hb) (fun h=>h),fun n=>(h.ho n).keep hb,h.hm,h.ha⟩
theorem Ah.start (hm:w.heap[m]?=some (.map #[] 0)) (hb:Below w0.heap.size w0 w) (hl:w0.heap.size<=m):Ah w0 w m [] fun _=>(none,0,0):=by
 refine⟨hb,hl,?_,fun n=>Own.nil _ _ _ _,fun n e=>(by cases e),fun n k _=>.inl rfl⟩
 have:mpAh [] (fun _=>((none,0,0):Sv))=fun _=>none:=by
  funext k
  unfold mpAh
  rw [if_neg (fun q=>q.2 rfl)]
 rw [this];exact mp_new .u64 hm
theorem Ah.look (h:Ah w0 w m pre av) (n:Nat) {K:Value->Wd->Prop} (hK:∀v,Own LOp w w0.heap.size 50 (slV v) (ahE pre n)->rowOf (slV v)≠some m->(∀x,rowOf (slV v)=some x->rowOf (slV (av n))=some x)->(∀k,k≠n->Apart (slV (av k)) (slV v))->K (slV v) w) :
  Raw P0 (Instr.lookup 223 (.map (some m)) (.int .u64 (n:Nat)) false) w K:=by
 refine h.mp.look opMap opKey (opZero w) (n:Nat) false ?_
 rw [if_neg dc]
 unfold mpAh
 by_cases e:ahE pre n=[]
 ·rw [if_neg (fun q=>q.2 (by rw [tnc];exact e))]
  exact hK (none,0,0) (by rw [e];exact Own.nil _ _ _ _) (fun q=>(by cases q)) (fun x q=>by cases q) fun k _=>Apart.nilR
 ·rw [if_pos ⟨om,by rw [tnc];exact e⟩,tnc]
  exact hK (av n) (h.ho n) (h.hm n) (fun x q=>q) fun k hk=>h.ha k n hk
theorem Ah.put (h:Ah w0 w m pre av) (hx:(sgB x.o.kind || atK x.o.kind)=true) {v v1:Sv} (hv:Own LOp w w0.heap.size 50 (slV v) (ahE pre x.o.node)) (hvm:rowOf (slV v)≠some m) (hva:∀k,k≠x.o.node->Apart (slV (av k)) (slV v))
  {w2:Wd} (g:Grew w0.heap.size w w2 (slV v) (slV v1)) (h1:Own LOp w2 w0.heap.size 50 (slV v1) (ahE pre x.o.node++[x])) {K:Wd->Prop}
  (hK:∀w' av',Ah w0 w' m (pre++[x]) av'->w.heap.size<=w'.heap.size->K w') :
  Raw P0 (Instr.mapUpdate 223 (.map (some m)) (.int .u64 (x.o.node:Nat)) (slV v1)) w2 fun _ w'=>K w':=by
 have FG:Fm (fun b=>rowOf (slV v)=some b) w w2:=Fm.grown g.grown fun b hb=>hb
 have hml:=h.mp.lt
 refine (h.mp.fm FG hvm).update opMap opKey (x.o.node:Nat) (slV v1) fun w' hm hf=>?_
 have FF:Fm (fun b=>b=m\/rowOf (slV v)=some b) w w':=(FG.mono fun b _ e=>.inr e).trans (hf.mono fun b _ e=>.inl e)
 have hmem:∀y,rowOf (slV v1)=some y->rowOf (slV v)=some y\/w.heap.size<=y:=fun y hy=>by
  rcases g.row with e | e | ⟨q,e,e2⟩
  ·rw [e] at hy;exact .inl hy
  ·rw [e] at hy;cases hy
  ·rw [e] at hy;cases hy;exact .inr e2
 have hm1:rowOf (slV v1)≠some m:=fun e=>by
  rcases hmem m e with q | q
  ·exact hvm q
  ·omega
 have hap:∀n,ahE (pre++[x]) n=if n=x.o.node then ahE pre n++[x] else ahE pre n:=fun n=>by
  rw [ahE_app,hx,Bool.and_true]
  by_cases e:x.o.node=n
  ·rw [if_pos (by simpa using e),if_pos e.symm]
  ·rw [if_neg (by simpa using e),if_neg (fun q=>e q.symm),List.append_nil]
 have hsub:Below w0.heap.size w w':=g.below.trans (hf.toBelow (nlt h.fr.size g.lt) fun b hb e=>by have e:b=m:=e;have:=h.ml;omega)
 refine hK w' (fun n=>if n=x.o.node then v1 else av n) ⟨h.fr.trans hsub,h.ml,?_,fun n=>?_,fun n=>?_,fun n k hnk=>?_⟩ FF.size
 ·have:mpAh (pre++[x]) (fun n=>if n=x.o.node then v1 else av n)=upd (mpAh pre av) (x.o.node:Nat) (some (slV v1)):=by
   funext k
   unfold mpAh upd
   dsimp only
   by_cases e:k=(x.o.node:Int)
   ·subst e
    rw [if_pos rfl,tnc,hap,if_pos rfl,if_pos ⟨om,sm⟩,if_pos rfl]
   ·rw [if_neg e]
    by_cases h0:0<=k
    ·have e2:k.toNat≠x.o.node:=by omega
     rw [hap,if_neg e2,if_neg e2]
    ·rw [if_neg (fun q=>h0 q.1),if_neg (fun q=>h0 q.1)]
  rw [this];exact hm
 ·rw [hap]
  by_cases e:n=x.o.node
  ·subst e
   simp only [if_pos rfl]
   exact own_fm h1 hf fun b hb e=>hm1 (by rw [<-show b=m from e];simpa using hb)
  ·simp only [if_neg e]
   refine own_fm (h.ho n) FF fun y hy q=>?_
   rcases q with q | q
   ·subst q;exact h.hm n hy
   ·rcases hva n e with q2 | q2
    ·rw [q2] at hy;cases hy
    ·exact q2 (hy.trans q.symm)
 ·by_cases e:n=x.o.node
  ·simp only [if_pos e];exact hm1
  ·simp only [if_neg e];exact h.hm n
 ·have key:∀c,c≠x.o.node->Apart (slV (av c)) (slV v1):=fun c hc=>by
   rcases g.row with q | q | ⟨z,q,q2⟩
   ·rcases hva c hc with p | p
    ·exact .inl p
    ·exact .inr (by rw [q];exact p)
   ·cases hr:rowOf (slV (av c)) with
    | none=>exact .inl hr
    | some y=>exact .inr (by rw [hr,q];simp)
   ·cases hr:rowOf (slV (av c)) with
    | none=>exact .inl hr
    | some y=>
     refine .inr ?_
     rw [hr,q]
     intro p
     have p:y=z:=by simpa using p
     have:=((h.ho c).lt y hr).2
     omega
  by_cases ea:n=x.o.node
  ·have eb:k≠x.o.node:=fun e=>hnk (ea.trans e.symm)
   simp only [if_pos ea,if_neg eb]
   exact (key k eb).sym
  ·by_cases eb:k=x.o.node
   ·simp only [if_neg ea,if_pos eb];exact key n ea
   ·simp only [if_neg ea,if_neg eb];exact h.ha n k hnk
theorem Ah.skip (h:Ah w0 w m pre av) (hx:(sgB x.o.kind || atK x.o.kind)=false):Ah w0 w m (pre++[x]) av:=by
 have hap:∀n,ahE (pre++[x]) n=ahE pre n:=fun n=>by
  rw [ahE_app,hx,Bool.and_false,if_neg dc,List.append_nil]
 refine⟨h.fr,h.ml,?_,fun n=>by rw [hap];exact h.ho n,h.hm,h.ha⟩
 have:mpAh (pre++[x]) av=mpAh pre av:=by
  funext k
  unfold mpAh
  rw [hap]
 rw [this];exact h.mp
end
section
variable {w:Wd}{R:RT}
theorem badO_cf {pre:List O1}{o:O1} (h1:1<=o.kind) (h8:o.kind<=8) (ht:¬((o.kind=1\/o.kind=8)/\(lookF o.t 1 0).2≠0)):badO pre o=if (pre.any fun a=>cfB a o)=true then 171 else 0:=by
 unfold badO
 rw [if_neg om,if_neg ht]
theorem put_op {w0 w2 w5 : Wd} {m go : Nat} {pre : List E11} {av : Nat -> Sv} {x : E11} (h : Ah w0 w2 m pre av) (h5 : Below w2.heap.size w2 w5) (bo : Blk w5 go (opC x) 50) (hgo : w2.heap.size <= go) (hpl : pre.length <= 4096) (hx : (sgB x.o.kind || atK x.o.kind) = true) {J : Wd -> Prop}
    (hJ : ∀ w' av', Ah w0 w' m (pre ++ [x]) av' -> J w') :
    ∃ S : Wd -> Prop, S w5.drew /\ ∃ (x69 : Int), Held S ⟨go, 1, none⟩ (.int .u64 x69) /\ ∃ (x72 : Int), Held S ⟨go, 1, none⟩ (.int .u64 x72) /\ ∃ (x74_0 : Int), Held S ⟨go, 0, none⟩ (.int .i64 x74_0) /\ ∃ (x74_1 : Int), Held S ⟨go, 1, none⟩ (.int .u64 x74_1) /\ ∃ (x74_2 : Int), Held S ⟨go, 2, none⟩ (.int .u64 x74_2) /\ ∃ (x74_3 : Int), Held S ⟨go, 3, none⟩ (.int .i64 x74_3) /\ ∃ (x74_4 : ByteArray), Held S ⟨go, 4, none⟩ (.string x74_4) /\ ∃ (x74_5 : ByteArray), Held S ⟨go, 5, none⟩ (.string x74_5) /\ ∃ (x74_6 : Int), Held S ⟨go, 6, none⟩ (.int .i64 x74_6) /\ ∃ (x74_7 : ByteArray), Held S ⟨go, 7, none⟩ (.string x74_7) /\ ∃ (x74_8 : OA) (x74_8N : Nat) (x74_8C : Nat), Held S ⟨go, 8, none⟩ (.slice x74_8 x74_8N x74_8C) /\ ∃ (x74_9 : ByteArray), Held S ⟨go, 9, none⟩ (.string x74_9) /\ ∃ (x74_10 : OA) (x74_10N : Nat) (x74_10C : Nat), Held S ⟨go, 10, none⟩ (.slice x74_10 x74_10N x74_10C) /\ (Raw P0 (Instr.lookup 223 (.map (some m)) (.int .u64 x72) false) w5.drew fun v3 w1_17=>
 ∃ (x73 : OA) (x73N : Nat) (x73C : Nat), v3 = (.slice x73 x73N x73C) /\
 S w1_17 /\ Al w1_17 #[.int .i64 x74_0, (.int .u64 x74_1), (.int .u64 x74_2), (.int .i64 x74_3), (.string x74_4), (.string x74_5), (.int .i64 x74_6), (.string x74_7), (.slice x74_8 x74_8N x74_8C), (.string x74_9), (.slice x74_10 x74_10N x74_10C)] 50 fun g75 w1_18=>
 S w1_18 /\ Raw P0 (Builtin.append_ #[26, 26] 26 #[.slice x73 x73N x73C, (.slice (some g75) 1 1)]) w1_18 fun v4 w1_19=>
 ∃ (x76 : OA) (x76N : Nat) (x76C : Nat), v4 = (.slice x76 x76N x76C) /\
 S w1_19 /\ Raw P0 (Instr.mapUpdate 223 (.map (some m)) (.int .u64 x69) (.slice x76 x76N x76C)) w1_19 fun _ w1_20=>
 J w1_20)
 /\ (Al w5.drew #[.int .i64 x74_0, (.int .u64 x74_1), (.int .u64 x74_2), (.int .i64 x74_3), (.string x74_4), (.string x74_5), (.int .i64 x74_6), (.string x74_7), (.slice x74_8 x74_8N x74_8C), (.string x74_9), (.slice x74_10 x74_10N x74_10C)] 50 fun g75 w1_17=>
 S w1_17 /\ Raw P0 (Instr.lookup 223 (.map (some m)) (.int .u64 x72) false) w1_17 fun v3 w1_18=>
 ∃ (x73 : OA) (x73N : Nat) (x73C : Nat), v3 = (.slice x73 x73N x73C) /\
 S w1_18 /\ Raw P0 (Builtin.append_ #[26, 26] 26 #[.slice x73 x73N x73C, (.slice (some g75) 1 1)]) w1_18 fun v4 w1_19=>
 ∃ (x76 : OA) (x76N : Nat) (x76C : Nat), v4 = (.slice x76 x76N x76C) /\
 S w1_19 /\ Raw P0 (Instr.mapUpdate 223 (.map (some m)) (.int .u64 x69) (.slice x76 x76N x76C)) w1_19 fun _ w1_20=>
 J w1_20) := by
  have hdr : Below w5.heap.size w5 w5.drew := (Below.refl _ _).drew
  have hs5 := h5.size
  have hs0 := h.fr.size
  have D5 := btr h5 hs5 hdr
  have hE : (ahE pre x.o.node).length <= 4096 := nlt (ahE_len _ _) hpl
  refine ⟨fun w' => Blk w' go (opC x) 50, bo.keep hdr, ?_⟩
  have ho : ∀ (i : Nat) (u : Value), (opC x)[i]? = some u -> Held (fun w' => Blk w' go (opC x) 50) ⟨go, i, none⟩ u := fun i u hu w' hw => by rw [hw.cell]; exact hu
  refine ⟨_, ho 1 _ rfl, _, ho 1 _ rfl, _, ho 0 _ rfl, _, ho 1 _ rfl, _, ho 2 _ rfl, _, ho 3 _ rfl, _, ho 4 _ rfl, _, ho 5 _ rfl, _, ho 6 _ rfl, _, ho 7 _ rfl, _, _, _, ho 8 _ rfl, _, ho 9 _ rfl, _, _, _, ho 10 _ rfl, ?_, ?_⟩
  · have hA := h.keep D5
    refine hA.look x.o.node fun v hv hvm hvr hva => ⟨_, _, _, rfl, bo.keep hdr, ?_⟩
    have hgv : rowOf (slV v) ≠ some go := fun e => by have := ((h.ho x.o.node).lt go (hvr go e)).2; omega
    refine ap1S (L := LOp) (x := x) (S := fun w' => Blk w' go (opC x) 50) (base := w0.heap.size) (.agg #[.int .i64 0, .int .u64 0, .int .u64 0, .int .i64 0, eS, eS, .int .i64 0, eS, .slice none 0 0, eS, .slice none 0 0]) 152 rfl kr kr kr hv (nlt hs0 D5.size) om (by unfold maxLen; omega)
      (fun w1 hb => (bo.keep hdr).keep hb) fun A' c' w6 o6 g6 => ⟨A', _, c', rfl, ?_, ?_⟩
    · exact (Fm.grown g6.grown fun b hb => hb : Fm (fun b => rowOf (slV v) = some b) _ _).blk (bo.keep hdr) hgv
    · exact hA.put (v1 := (A', _, c')) hx hv hvm hva g6 o6 fun w7 av7 h7 _ => hJ w7 av7 h7
  · refine al fun ga w6 hb6 b6 hga => ⟨(bo.keep hdr).keep hb6, ?_⟩
    have D6 := btr D5 D5.size hb6
    have hA := h.keep D6
    refine hA.look x.o.node fun v hv hvm hvr hva => ⟨_, _, _, rfl, (bo.keep hdr).keep hb6, ?_⟩
    have hgv : rowOf (slV v) ≠ some go := fun e => by have := ((h.ho x.o.node).lt go (hvr go e)).2; omega
    have hrl : Rd LOp w6 (some ⟨ga, 0, none⟩) 1 [x] := rd_row (xs := [x]) b6 rfl (by simp [maxLen])
    refine ap (L := LOp) (ys := [x]) (base := w0.heap.size) (.agg #[.int .i64 0, .int .u64 0, .int .u64 0, .int .i64 0, eS, eS, .int .i64 0, eS, .slice none 0 0, eS, .slice none 0 0]) 152 rfl kr kr kr hv hrl (nlt hs0 D6.size) (by simp only [List.length_singleton]; omega) (by simp only [List.length_singleton]; unfold maxLen; omega) fun A' c' w7 o7 g7 => ⟨A', _, c', rfl, ?_, ?_⟩
    · exact (Fm.grown g7.grown fun b hb => hb : Fm (fun b => rowOf (slV v) = some b) _ _).blk ((bo.keep hdr).keep hb6) hgv
    · exact hA.put (v1 := (A', _, c')) hx hv hvm hva g7 o7 fun w8 av8 h8 _ => hJ w8 av8 h8
theorem checkP_calls (xs:List E11) {A:OA}{c:Nat} (hr:Rd LOp w A c xs) (hx:∀x∈xs,ROp w x) (hT:Tabs w) (hl:xs.length<=1048576) (hK:∀w',Below w.heap.size w w'->R (.returned (.tuple #[.int .i64 ((checkF (xs.map (·.o))).1:Nat),.int .i64 (checkF (xs.map (·.o))).2])) w') :
  CL 74 #[.slice A xs.length c] w R:=by
 refine ok74 A xs.length c ?_
 unfold F74
 generalize hL:xs.map (·.o)=L at *
 have hlen:L.length=xs.length:=by rw [<-hL,lmp]
 refine brd (fun hgt=>?_) (fun hle=>?_)
 ·have H:=hK w (.refl _ _)
  unfold checkF at H
  rw [if_pos om] at H
  exact H
 have hle:L.length<=4096:=by omega
 refine almM fun m w1 hb1 hge1 hlt1 hm1=>?_
 refine⟨fun i w'=>∃(k:Nat) (av:Nat->Sv),i=k/\k<=xs.length/\Ah w w' m (xs.take k) av/\chkF (L.take k) (L.drop k)=checkF L,fun i _=>xs.length-i.toNat,⟨0,_,rfl,om,Ah.start hm1 hb1 hge1,by unfold checkF;rw [if_neg om];rfl⟩,?_⟩
 rintro _ w1 ⟨k,av,rfl,hk,hA1,hF⟩
 have hb1:=hA1.fr
 unfold F74_l5
 refine brd (fun hlt=>?_) (fun hge=>?_)
 ·have hk2:k<xs.length:=by omega
  obtain⟨f1,f2⟩:=chk_at hle om hF
  have hLk:L[k]'om=xs[k].o:=by subst hL;rw [gmp]
  have hLt:L.take k=(xs.take k).map (·.o):=by subst hL;rw [List.map_take]
  rw [hLk] at f1 f2
  have bad:∀{v:Int}{w':Wd},badO (L.take k) xs[k].o=v->v≠0->Below w.heap.size w w'->R (.returned (.tuple #[.int .i64 (k:Nat),.int .i64 v])) w':=fun {v w'} e1 e2 hb=>by
   have H:=hK w' hb
   rw [f2 (by rw [e1];exact e2),e1] at H
   exact H
  have hrt:=(hx _ (gem hk2)).2
  have hr1:=hr.keep hb1
  have htk:xs.take (k+1)=xs.take k++[xs[k]]:=tsa hk2
  refine⟨fun w'=>badO (L.take k) xs[k].o=0/\∃av',Ah w w' m (xs.take (k+1)) av',?_,?_⟩
  ·rintro w' ⟨e,av',h'⟩
   exact⟨inR_i64 om om,⟨k+1,av',sm,om,h',f1 e⟩,odz⟩
  refine hr1.idx rfl om om rfl fun b oo cc=>?_
  simp only [tnc] at cc
  have k0:=cc 0 _ rfl
  have k1:=cc 1 _ rfl
  have k2:=cc 2 _ rfl
  have k3:=cc 3 _ rfl
  have k4:=cc 4 _ rfl
  have k5:=cc 5 _ rfl
  have k6:=cc 6 _ rfl
  have k7:=cc 7 _ rfl
  have k8:=cc 8 _ rfl
  have k9:=cc 9 _ rfl
  have k10:=cc 10 _ rfl
  simp only [Nat.add_zero] at k0
  simp only [k0,k1,k2,k3,k4,k5,k6,k7,k8,k9,k10,lds]
  refine al11 fun go w2 hb2 bo hgo=>?_
  have B2:=btr hb1 hb1.size hb2
  simp only [bo.cell,lds]
  refine⟨fun w'=>w2=w'/\1<=xs[k].o.kind/\xs[k].o.kind<=8,?_,?_⟩
  rotate_left
  ·refine brd (fun h=>bad (by unfold badO;rw [if_pos (.inl h)]) dc B2) fun h1=>?_
   exact brd (fun h=>bad (by unfold badO;rw [if_pos (.inr h)]) dc B2) fun h2=>⟨rfl,om,om⟩
  rintro _ ⟨rfl,h1,h8⟩
  have hb0:∀x,(if xs[k].o.kind<1\/8<xs[k].o.kind then (170:Int) else x)=x:=fun x=>if_neg om
  unfold F74_j9
  refine⟨fun w'=>Below w2.heap.size w2 w'/\¬((xs[k].o.kind=1\/xs[k].o.kind=8)/\(lookF xs[k].o.t 1 0).2≠0),?_,?_⟩
  rotate_left
  ·have tree:(xs[k].o.kind=1\/xs[k].o.kind=8)->CL 129 #[.agg #[.int .i64 xs[k].e.kind,.string xs[k].e.nm,slV xs[k].e.ats,.string xs[k].e.text,slV xs[k].e.kids]] w2 (post R fun v w1_13=>∃(x40:Int),v=(.int .i64 x40)/\Br (x40 != (0:Int)) (R (.returned (.tuple #[(.int .i64 (k:Nat)),.int .i64 x40])) w1_13) (Below w2.heap.size w2 w1_13/\¬((xs[k].o.kind=1\/xs[k].o.kind=8)/\(lookF xs[k].o.t 1 0).2≠0))):=fun hk18=>
    checkT_calls (x:=xs[k].o.t) (RTr.sub (sub_below B2) _ _ hrt) (hT.sub (sub_below B2)) fun w3 hb3=>⟨_,rfl,brn (fun hne=>bad (by unfold badO;rw [hb0,if_pos ⟨hk18,hne⟩]) hne (btr B2 B2.size hb3)) fun he=>⟨hb3,fun q=>q.2 he⟩⟩
   simp only [bo.cell,lds]
   refine bre (fun h=>tree (.inl h)) fun hn1=>?_
   refine bre (fun h=>tree (.inr h)) fun hn8=>⟨.refl _ _,fun q=>?_⟩
   rcases q.1 with e | e
   ·exact hn1 e
   ·exact hn8 e
  rintro w3 ⟨hb3,htr⟩
  have B3:=btr B2 B2.size hb3
  have C3:=btr hb2 hb2.size hb3
  have bo3:=bo.keep hb3
  have hA3:=hA1.keep C3
  have hbd:=badO_cf (pre:=L.take k) h1 h8 htr
  rw [hLt,any_ah] at hbd
  unfold F74_j13
  simp only [bo3.cell,lds]
  refine hA3.look xs[k].o.node fun v hv hvm hvr hva=>⟨_,_,_,rfl,?_⟩
  obtain⟨z1,z2⟩:=hv.rd
  have hEl:=ahE_len (xs.take k) xs[k].o.node
  rw [ltk] at hEl
  refine⟨fun q w'=>∃p:Nat,q=p/\p<=(ahE (xs.take k) xs[k].o.node).length/\Below w3.heap.size w3 w'/\(((ahE (xs.take k) xs[k].o.node).take p).any fun a=>cfB a.o xs[k].o)=false,fun q _=>(ahE (xs.take k) xs[k].o.node).length-q.toNat,⟨0,rfl,om,.refl _ _,rfl⟩,?_⟩
  rintro _ w4 ⟨p,rfl,hp,hb4,hno⟩
  have B4:=btr B3 B3.size hb4
  have C4:=btr C3 C3.size hb4
  have bo4:=bo3.keep hb4
  unfold F74_l14
  refine brd (fun hpk=>?_) (fun hpk=>?_)
  ·have hp2:p<(ahE (xs.take k) xs[k].o.node).length:=by omega
   have hst:((ahE (xs.take k) xs[k].o.node).take (p+1)).any (fun a=>cfB a.o xs[k].o)=cfB (ahE (xs.take k) xs[k].o.node)[p].o xs[k].o:=by
    rw [tsa hp2,List.any_append,hno];simp
   refine (z2.keep hb4).idx z1 om om rfl fun b5 oo5 cc5=>?_
   simp only [tnc] at cc5
   generalize hy:(ahE (xs.take k) xs[k].o.node)[p]=y at *
   have l0:=cc5 0 _ rfl
   have l1:=cc5 1 _ rfl
   have l2:=cc5 2 _ rfl
   have l3:=cc5 3 _ rfl
   have l4:=cc5 4 _ rfl
   have l5:=cc5 5 _ rfl
   have l6:=cc5 6 _ rfl
   have l7:=cc5 7 _ rfl
   have l8:=cc5 8 _ rfl
   have l9:=cc5 9 _ rfl
   have l10:=cc5 10 _ rfl
   simp only [Nat.add_zero] at l0
   simp only [l0,l1,l2,l3,l4,l5,l6,l7,l8,l9,l10,lds]
   refine al11 fun g5 w5 hb5 b5 hg5=>?_
   have bo5:=bo4.keep hb5
   simp only [b5.cell,bo5.cell,lds]
   refine cfP_calls y xs[k] fun w6 hb6=>⟨_,rfl,?_⟩
   have C6:=btr hb4 hb4.size (btr hb5 hb5.size hb6)
   refine br (fun hc=>?_) (fun hc=>?_)
   ·refine bad (v:=171) ?_ dc (btr B3 B3.size C6)
    rw [hLt,hbd,if_pos]
    rw [List.any_eq_true]
    exact⟨y,by rw [<-hy];exact gem hp2,hc⟩
   ·exact⟨inR_i64 om om,⟨p+1,sm,om,C6,by rw [hst];exact hc⟩,odz⟩
  ·have hpe:p=(ahE (xs.take k) xs[k].o.node).length:=by omega
   subst hpe
   rw [tkl] at hno
   rw [hno,if_neg dc,<-hLt] at hbd
   have hpl:(xs.take k).length<=4096:=by rw [ltk];omega
   simp only [bo4.cell,lds]
   refine sg_calls _ ⟨_,rfl,?_⟩
   refine br (fun hs=>?_) (fun hs=>?_)
   ·exact put_op (x:=xs[k]) hA1 C4 bo4 hgo hpl (by rw [hs];rfl) fun w' av' h'=>⟨hbd,av',by rw [htk];exact h'⟩
   ·simp only [bo4.cell,lds]
    refine atk_calls _ ⟨_,rfl,?_⟩
    refine br (fun ha=>?_) (fun ha=>?_)
    ·exact put_op (x:=xs[k]) hA1 C4 bo4 hgo hpl (by rw [ha,Bool.or_true]) fun w' av' h'=>⟨hbd,av',by rw [htk];exact h'⟩
    ·exact⟨hbd,av,by rw [htk];exact (hA1.keep C4).skip (by rw [hs,ha];rfl)⟩
 ·have hk2:k=xs.length:=by omega
  have H:=hK w1 hb1
  rw [<-hF,List.drop_of_length_le om,chkF] at H
  exact H
end
end Go.Proofs.YtnbgiacnbheonaaGreatDoor
set_option linter.unusedVariables false
set_option maxRecDepth 100000
namespace Go.Proofs.YtnbgiacnbheonaaGreatDoor
open Go.Vc
def F14_l3 (l:OA)(lN:Nat)(L3:OA->Nat->Nat->Int->Wd->Prop)(r:OA)(rN rC:Nat)(i:Int)(hc:Wd)(R:RT):Prop:=Br (decide (i<(lN:Int))) (IdxA l lN i 11 fun ic=>LdI .i64 (hc.cell? ic) fun ia=>LdI .u64 (hc.cell? (ic.add 1)) fun ra=>LdI .u64 (hc.cell? (ic.add 2)) fun rb=>LdI .i64 (hc.cell? (ic.add 3)) fun gb=>LdStr (hc.cell? (ic.add 4)) fun mb=>LdStr (hc.cell? (ic.add 5)) fun fa=>LdI .i64 (hc.cell? (ic.add 6)) fun ib=>LdStr (hc.cell? (ic.add 7)) fun na=>LdSl (hc.cell? (ic.add 8)) fun ba n f=>LdStr (hc.cell? (ic.add 9)) fun qb=>LdSl (hc.cell? (ic.add 10)) fun e a c=>Al hc #[.int .i64 0,.int .u64 0,.int .u64 0,.int .i64 0,eS,eS,.int .i64 0,eS,.slice none 0 0,eS,.slice none 0 0] 50 fun op fc=>St fc op (.int .i64 ia) fun gc=>St gc (op.add 1) (.int .u64 ra) fun bc=>St bc (op.add 2) (.int .u64 rb) fun zb=>St zb (op.add 3) (.int .i64 gb) fun dc=>St dc (op.add 4) (.string mb) fun vb=>St vb (op.add 5) (.string fa) fun ac=>St ac (op.add 6) (.int .i64 ib) fun ec=>St ec (op.add 7) (.string na) fun sb=>St sb (op.add 8) (.slice ba n f) fun nb=>St nb (op.add 9) (.string qb) fun ya=>St ya (op.add 10) (.slice e a c) fun qa=>LdI .i64 (qa.cell? (op.add 6)) fun ub=>LdStr (qa.cell? ((op.add 6).add 1)) fun va=>LdSl (qa.cell? ((op.add 6).add 2)) fun da s t=>LdStr (qa.cell? ((op.add 6).add 3)) fun bb=>LdSl (qa.cell? ((op.add 6).add 4)) fun ca m q=>CL 51 #[.agg #[.int .i64 ub,.string va,.slice da s t,.string bb,.slice ca m q]] qa (post R fun v cb=>∃db ma tb p k aa pa h y,v=(.agg #[.int .i64 db,.string ma,.slice tb p k,.string aa,.slice pa h y])/\St cb (op.add 6) (.int .i64 db) fun z=>St z ((op.add 6).add 1) (.string ma) fun kb=>St kb ((op.add 6).add 2) (.slice tb p k) fun jb=>St jb ((op.add 6).add 3) (.string aa) fun ab=>St ab ((op.add 6).add 4) (.slice pa h y) fun ua=>LdI .i64 (ua.cell? op) fun ga=>LdI .u64 (ua.cell? (op.add 1)) fun ta=>LdI .u64 (ua.cell? (op.add 2)) fun ja=>LdI .i64 (ua.cell? (op.add 3)) fun ha=>LdStr (ua.cell? (op.add 4)) fun hb=>LdStr (ua.cell? (op.add 5)) fun za=>LdI .i64 (ua.cell? (op.add 6)) fun ka=>LdStr (ua.cell? (op.add 7)) fun eb=>LdSl (ua.cell? (op.add 8)) fun pb u j=>LdStr (ua.cell? (op.add 9)) fun ea=>LdSl (ua.cell? (op.add 10)) fun g b d=>Al ua #[.int .i64 ga,.int .u64 ta,.int .u64 ja,.int .i64 ha,.string hb,.string za,.int .i64 ka,.string eb,.slice pb u j,.string ea,.slice g b d] 50 fun g23 sa=>Raw P0 (Builtin.append_ #[26,26] 26 #[.slice r rN rC,(.slice (some g23) 1 1)]) sa fun v2 fb=>∃jc cc yb,v2=(.slice jc cc yb)/\InR .i64 (i+(1:Int))/\L3 jc cc yb (i+(1:Int)) fb)) (R (.returned (.slice r rN rC)) hc)
def F14 (l:OA)(lN lC:Nat)(b:Wd)(R:RT):Prop:=Al b #[] 50 fun g6 w1=>∃(I:OA->Nat->Nat->Int->Wd->Prop)(m:OA->Nat->Nat->Int->Wd->Nat),I (some g6) 0 0 (0:Int) w1/\∀r rN rC i a,I r rN rC i a->F14_l3 l lN (fun r' rN' rC' i' w2=>I r' rN' rC' i' w2/\m r' rN' rC' i' w2<m r rN rC i a) r rN rC i a R
theorem ok14 (l:OA)(a b:Nat){w:Wd}{R:RT} (h:F14 l a b w R):CL 14 #[.slice l a b] w R:=
 vk ⟨26,⟨[]⟩,[],[(3,⟨[(3,(.s .slice)),(4,(.s (.int .i64)))],[(3,25)]⟩)]⟩ Tryz.func14 h
def F19_j13 (L4:OA->Nat->Nat->Int->Wd->Prop)(r:OA)(rN rC:Nat)(i:Int)(op:Addr)(z:Wd)(R:RT):Prop:=LdI .i64 (z.cell? op) fun j=>LdI .u64 (z.cell? (op.add 1)) fun q=>LdI .u64 (z.cell? (op.add 2)) fun k=>LdI .i64 (z.cell? (op.add 3)) fun p=>LdStr (z.cell? (op.add 4)) fun m=>LdStr (z.cell? (op.add 5)) fun s=>LdI .i64 (z.cell? (op.add 6)) fun g=>LdStr (z.cell? (op.add 7)) fun h=>LdSl (z.cell? (op.add 8)) fun u d e=>LdStr (z.cell? (op.add 9)) fun n=>LdSl (z.cell? (op.add 10)) fun c a b=>Al z #[.int .i64 j,.int .u64 q,.int .u64 k,.int .i64 p,.string m,.string s,.int .i64 g,.string h,.slice u d e,.string n,.slice c a b] 50 fun g64 f=>Raw P0 (Builtin.append_ #[26,26] 26 #[.slice r rN rC,(.slice (some g64) 1 1)]) f fun v2 t=>∃aa v y,v2=(.slice aa v y)/\InR .i64 (i+(1:Int))/\L4 aa v y (i+(1:Int)) t
def F19_l4 (l:OA)(lN:Nat)(ab:Bool)(h:OA)(d:Nat)(L4:OA->Nat->Nat->Int->Wd->Prop)(r:OA)(rN rC:Nat)(i:Int)(na:Wd)(R:RT):Prop:=Br (decide (i<(lN:Int))) (IdxA l lN i 11 fun sa=>LdI .i64 (na.cell? sa) fun y=>LdI .u64 (na.cell? (sa.add 1)) fun n=>LdI .u64 (na.cell? (sa.add 2)) fun j=>LdI .i64 (na.cell? (sa.add 3)) fun aa=>LdStr (na.cell? (sa.add 4)) fun k=>LdStr (na.cell? (sa.add 5)) fun q=>LdI .i64 (na.cell? (sa.add 6)) fun m=>LdStr (na.cell? (sa.add 7)) fun v=>LdSl (na.cell? (sa.add 8)) fun t e c=>LdStr (na.cell? (sa.add 9)) fun z=>LdSl (na.cell? (sa.add 10)) fun f b a=>Al na #[.int .i64 0,.int .u64 0,.int .u64 0,.int .i64 0,eS,eS,.int .i64 0,eS,.slice none 0 0,eS,.slice none 0 0] 50 fun op ka=>St ka op (.int .i64 y) fun ha=>St ha (op.add 1) (.int .u64 n) fun fa=>St fa (op.add 2) (.int .u64 j) fun ia=>St ia (op.add 3) (.int .i64 aa) fun ea=>St ea (op.add 4) (.string k) fun ga=>St ga (op.add 5) (.string q) fun ja=>St ja (op.add 6) (.int .i64 m) fun da=>St da (op.add 7) (.string v) fun ca=>St ca (op.add 8) (.slice t e c) fun s=>St s (op.add 9) (.string z) fun p=>St p (op.add 10) (.slice f b a) fun u=>∃J13:Wd->Prop,(∀g,J13 g->F19_j13 L4 r rN rC i op g R)/\(InR .u64 ((d:Int))/\Br ab (Br (decide (((d:Int)) > (0:Int))) (LdI .u64 (u.cell? (op.add 1)) fun pa=>((d:Int))≠0/\IdxA h d (pa.tmod ((d:Int))) 1 fun ua=>LdI .u64 (u.cell? ua) fun qa=>St u (op.add 1) (.int .u64 qa) fun g=>LdI .u64 (g.cell? (op.add 2)) fun ma=>InR .u64 (((d:Int))+(1:Int))/\(((d:Int))+(1:Int))≠0/\Br ((ma.tmod (((d:Int))+(1:Int)))==((d:Int))) (St g (op.add 2) (.int .u64 0) fun ba=>J13 ba) (LdI .u64 (g.cell? (op.add 2)) fun ta=>InR .u64 (((d:Int))+(1:Int))/\(((d:Int))+(1:Int))≠0/\IdxA h d (ta.tmod (((d:Int))+(1:Int))) 1 fun ra=>LdI .u64 (g.cell? ra) fun va=>St g (op.add 2) (.int .u64 va) fun ba=>J13 ba)) (J13 u)) (J13 u))) (R (.returned (.slice r rN rC)) na)
def F19 (d l:OA)(lN lC:Nat)(j:Bool)(h:Wd)(R:RT):Prop:=CL 55 #[.pointer d,.int .u64 0] h (post R fun v w1=>∃c a b e,v=(.tuple #[.slice c a b,.int .i64 e])/\Al w1 #[] 50 fun g18 g=>∃(I:OA->Nat->Nat->Int->Wd->Prop)(m:OA->Nat->Nat->Int->Wd->Nat),I (some g18) 0 0 (0:Int) g/\∀r rN rC i f,I r rN rC i f->F19_l4 l lN j c a (fun r' rN' rC' i' w2=>I r' rN' rC' i' w2/\m r' rN' rC' i' w2<m r rN rC i f) r rN rC i f R)
theorem ok19 (d l:OA)(a b:Nat)(c:Bool){w:Wd}{R:RT} (h:F19 d l a b c w R):CL 19 #[.pointer d,.slice l a b,.bool c] w R:=
 vk ⟨67,⟨[]⟩,[(13,⟨[],[(12,62)]⟩)],[(4,⟨[(9,(.s .slice)),(10,(.s (.int .i64)))],[(9,66)]⟩)]⟩ Tryz.func19 h
def F5_j36 (a d:OA)(g:Wd)(R:RT):Prop:=CL 21 #[.pointer a,.pointer d] g (post R fun v10 c=>∃f,v10=(.bool f)/\Br f (CL 28 #[] c (post R fun v11 b=>∃e,v11=(.bool e)/\R (.returned (.bool e)) b)) (R (.returned (.bool false)) c))
def F5_j29 (k:Int)(jb ac:OA)(tb kb:Nat)(pa:OA)(ad:Wd->Prop)(a:OA)(aN aC:Nat)(b:OA)(bN bC:Nat)(zb:Wd)(R:RT):Prop:=CL 32 #[.slice a aN aC] zb (post R fun v10 hb=>∃t h j y,v10=(.tuple #[.slice t h j,.int .i64 y])/\CL 32 #[.slice b bN bC] hb (post R fun v11 gb=>∃v c g fa,v11=(.tuple #[.slice v c g,.int .i64 fa])/\CL 34 #[.slice v c g,.int .i64 0] gb (post R fun v12 ua=>∃pb,v12=(.int .i64 pb)/\InR .i64 ((1:Int)-pb)/\CL 34 #[.slice v c g,.int .i64 1] ua (post R fun v13 ka=>∃ub,v13=(.int .i64 ub)/\InR .i64 ((1:Int)-ub)/\Al ka #[(.int .i64 ((1:Int)-pb)),(.int .i64 ((1:Int)-ub))] 3 fun g205 ab=>CL 33 #[.slice t h j,(.slice (some g205) 2 2)] ab (post R fun v14 ga=>∃rb,v14=(.bool rb)/\Br rb (∃S:Wd->Prop,S ga.drew/\SlB 0 (k) (kb:Int) (InR .i64 ((k)+(2:Int))/\SlB ((k)+(2:Int)) (tb:Int) (kb:Int) (Al ga.drew #[] 50 fun g207 fb=>Raw P0 (Builtin.append_ #[26,26] 26 #[(.slice (some g207) 0 0),(.slice ac ((k)).toNat kb)]) fb fun v15 za=>∃yb va ja,v15=(.slice yb va ja)/\Raw P0 (Builtin.append_ #[26,26] 26 #[.slice yb va ja,.slice b bN bC]) za fun v16 qa=>∃vb ya ta,v16=(.slice vb ya ta)/\Raw P0 (Builtin.append_ #[26,26] 26 #[.slice vb ya ta,(.slice (SlA ac kb (((k)+(2:Int))).toNat 11) (((tb:Int)).toNat-(((k)+(2:Int))).toNat) (kb-(((k)+(2:Int))).toNat))]) qa fun v17 ma=>∃sb ha ib,v17=(.slice sb ha ib)/\CL 14 #[.slice sb ha ib] ma (post R fun v18 db=>∃mb ia cb,v18=(.slice mb ia cb)/\CL 22 #[.pointer jb,.slice mb ia cb] db (post R fun v19 ra=>∃aa q n z ca,v19=(.tuple #[.slice aa q n,.int .i64 z,.int .i64 ca])/\Br (ca != (0:Int)) (R (.returned (.bool false)) ra) (CL 30 #[.pointer jb] ra (post R fun v20 sa=>∃qb,v20=(.pointer qb)/\CL 31 #[.pointer qb] sa (post R fun v21 na=>∃ea s d u m f,v21=(.agg #[.slice ea s d,.slice u m f])/\CL 16 #[.pointer pa] na (post R fun v22 bb=>∃da e i ba p r,v22=(.agg #[.slice da e i,.slice ba p r])/\CL 15 #[.agg #[.slice ea s d,.slice u m f],.agg #[.slice da e i,.slice ba p r]] bb (post R fun v23 eb=>∃nb,v23=(.bool nb)/\Br (!nb) (R (.returned (.bool false)) eb) (ad eb))))))))))) (ad ga))))))
def F5_j26 (k:Int)(vb cc kc:OA)(hc dc:Nat)(yb:OA)(jc:Wd)(R:RT):Prop:=∃J36:Wd->Prop,(∀bc,J36 bc->F5_j36 vb yb bc R)/\(InR .i64 (k)/\InR .i64 ((k)+(1:Int))/\Br (decide (((k)+(1:Int))<(hc:Int))) (∃J29:OA->Nat->Nat->OA->Nat->Nat->Wd->Prop,(∀a aN aC b bN bC bc,J29 a aN aC b bN bC bc->F5_j29 k cc kc hc dc yb J36 a aN aC b bN bC bc R)/\(∃S:Wd->Prop,S jc.drew/\IdxA kc hc (k) 11 fun fc=>∃db,Held S fc (.int .i64 db)/\∃ib,Held S (fc.add 1) (.int .u64 ib)/\∃ga,Held S (fc.add 2) (.int .u64 ga)/\∃rb,Held S (fc.add 3) (.int .i64 rb)/\∃ha,Held S (fc.add 4) (.string ha)/\∃ka,Held S (fc.add 5) (.string ka)/\∃ca,Held S (fc.add 6) (.int .i64 ca)/\∃da,Held S (fc.add 7) (.string da)/\∃ya n u,Held S (fc.add 8) (.slice ya n u)/\∃ja,Held S (fc.add 9) (.string ja)/\∃aa c j,Held S (fc.add 10) (.slice aa c j)/\InR .i64 ((k)+(1:Int))/\IdxA kc hc ((k)+(1:Int)) 11 fun ic=>∃mb,Held S ic (.int .i64 mb)/\∃pb,Held S (ic.add 1) (.int .u64 pb)/\∃ra,Held S (ic.add 2) (.int .u64 ra)/\∃za,Held S (ic.add 3) (.int .i64 za)/\∃gb,Held S (ic.add 4) (.string gb)/\∃hb,Held S (ic.add 5) (.string hb)/\∃ub,Held S (ic.add 6) (.int .i64 ub)/\∃kb,Held S (ic.add 7) (.string kb)/\∃sa z y,Held S (ic.add 8) (.slice sa z y)/\∃fa,Held S (ic.add 9) (.string fa)/\∃t d i,Held S (ic.add 10) (.slice t d i)/\InR .i64 ((k)+(1:Int))/\IdxA kc hc ((k)+(1:Int)) 11 fun gc=>∃jb,Held S gc (.int .i64 jb)/\∃va,Held S (gc.add 1) (.int .u64 va)/\∃tb,Held S (gc.add 2) (.int .u64 tb)/\∃ua,Held S (gc.add 3) (.int .i64 ua)/\∃qb,Held S (gc.add 4) (.string qb)/\∃ia,Held S (gc.add 5) (.string ia)/\∃na,Held S (gc.add 6) (.int .i64 na)/\∃ea,Held S (gc.add 7) (.string ea)/\∃eb p r,Held S (gc.add 8) (.slice eb p r)/\∃fb,Held S (gc.add 9) (.string fb)/\∃q f e,Held S (gc.add 10) (.slice q f e)/\IdxA kc hc (k) 11 fun ec=>∃pa,Held S ec (.int .i64 pa)/\∃ba,Held S (ec.add 1) (.int .u64 ba)/\∃ma,Held S (ec.add 2) (.int .u64 ma)/\∃sb,Held S (ec.add 3) (.int .i64 sb)/\∃cb,Held S (ec.add 4) (.string cb)/\∃ta,Held S (ec.add 5) (.string ta)/\∃bb,Held S (ec.add 6) (.int .i64 bb)/\∃qa,Held S (ec.add 7) (.string qa)/\∃nb m v,Held S (ec.add 8) (.slice nb m v)/\∃ab,Held S (ec.add 9) (.string ab)/\∃s h g,Held S (ec.add 10) (.slice s h g)/\(Al jc.drew #[.int .i64 db,.int .u64 ib,.int .u64 ga,.int .i64 rb,.string ha,.string ka,.int .i64 ca,.string da,.slice ya n u,.string ja,.slice aa c j,.int .i64 mb,.int .u64 pb,.int .u64 ra,.int .i64 za,.string gb,.string hb,.int .i64 ub,.string kb,.slice sa z y,.string fa,.slice t d i] 50 fun g177 ac=>S ac/\Al ac #[.int .i64 jb,.int .u64 va,.int .u64 tb,.int .i64 ua,.string qb,.string ia,.int .i64 na,.string ea,.slice eb p r,.string fb,.slice q f e,.int .i64 pa,.int .u64 ba,.int .u64 ma,.int .i64 sb,.string cb,.string ta,.int .i64 bb,.string qa,.slice nb m v,.string ab,.slice s h g] 50 fun g187 zb=>S zb/\J29 (some g177) 2 2 (some g187) 2 2 zb)/\(Al jc.drew #[.int .i64 jb,.int .u64 va,.int .u64 tb,.int .i64 ua,.string qb,.string ia,.int .i64 na,.string ea,.slice eb p r,.string fb,.slice q f e,.int .i64 pa,.int .u64 ba,.int .u64 ma,.int .i64 sb,.string cb,.string ta,.int .i64 bb,.string qa,.slice nb m v,.string ab,.slice s h g] 50 fun g187 ac=>S ac/\Al ac #[.int .i64 db,.int .u64 ib,.int .u64 ga,.int .i64 rb,.string ha,.string ka,.int .i64 ca,.string da,.slice ya n u,.string ja,.slice aa c j,.int .i64 mb,.int .u64 pb,.int .u64 ra,.int .i64 za,.string gb,.string hb,.int .i64 ub,.string kb,.slice sa z y,.string fa,.slice t d i] 50 fun g177 zb=>S zb/\J29 (some g177) 2 2 (some g187) 2 2 zb))) (J36 jc))
def F5_j24 (k:Int)(p q y da:OA)(ba z:Nat)(s:OA)(ab:Bool)(ea:Wd)(R:RT):Prop:=∃J26:Wd->Prop,(∀v,J26 v->F5_j26 k p y da ba z s v R)/\(Br (!ab) (CL 30 #[.pointer q] ea (post R fun v10 v=>∃aa,v10=(.pointer aa)/\CL 31 #[.pointer aa] v (post R fun v11 u=>∃i a b n g d,v11=(.agg #[.slice i a b,.slice n g d])/\CL 16 #[.pointer s] u (post R fun v12 t=>∃j h f m c e,v12=(.agg #[.slice j h f,.slice m c e])/\CL 15 #[.agg #[.slice i a b,.slice n g d],.agg #[.slice j h f,.slice m c e]] t (post R fun v13 r=>∃ca,v13=(.bool ca)/\Br (!ca) (R (.returned (.bool false)) r) (J26 r)))))) (J26 ea))
def F5_j19 (b:Bool->Int->Wd->Prop)(i:Int)(c:Bool)(a:Wd)(R:RT):Prop:=InR .i64 (i+(1:Int))/\b c (i+(1:Int)) a
def F5_j20 (j z:OA)(q:Nat)(g:OA)(c:Nat)(aa:Bool->Int->Wd->Prop)(i:Int)(y:Wd)(R:RT):Prop:=∃J19:Bool->Wd->Prop,(∀gone2 p,J19 gone2 p->F5_j19 aa i gone2 p R)/\(∃S:Wd->Prop,S y.drew/\IdxA g c i 1 fun s=>∃t,Held S s (.int .i64 t)/\IdxA g c i 1 fun v=>∃r,Held S v (.int .i64 r)/\InR .i64 (r+(1:Int))/\SlB t (r+(1:Int)) (q:Int) (CL 14 #[(.slice (SlA z q (t).toNat 11) (((r+(1:Int))).toNat-(t).toNat) (q-(t).toNat))] y.drew (post R fun v10 n=>∃u h k,v10=(.slice u h k)/\CL 22 #[.pointer j,.slice u h k] n (post R fun v11 m=>∃e b a d f,v11=(.tuple #[.slice e b a,.int .i64 d,.int .i64 f])/\Br (f != (0:Int)) (Br (!(f==(8:Int))) (R (.returned (.bool false)) m) (J19 (f==(8:Int)) m)) (J19 (f==(8:Int)) m)))))
def F5_l18 (c g:OA)(e:Nat)(b:OA)(a:Nat)(h:Bool->Wd->Prop)(j:Bool->Int->Wd->Prop)(k:Bool)(i:Int)(f:Wd)(R:RT):Prop:=∃J20:Wd->Prop,(∀d,J20 d->F5_j20 c g e b a j i d R)/\(Br (decide (i<(a:Int))) (Br (!k) (J20 f) (h k f)) (h k f))
def F5_j16 (k:Int)(c g f n:OA)(j h:Nat)(e b:OA)(a:Nat)(p:Wd)(R:RT):Prop:=∃J24:Bool->Wd->Prop,(∀gone d,J24 gone d->F5_j24 k c g f n j h e gone d R)/\(∃(I:Bool->Int->Wd->Prop)(m:Bool->Int->Wd->Nat),I false (0:Int) p/\∀gone i d,I gone i d->F5_l18 g n h b a J24 (fun gone' i' w2=>I gone' i' w2/\m gone' i' w2<m gone i d) gone i d R)
def F5_j6 (l:OA)(lN lC:Nat)(k:Int)(j n p z:OA)(ra:Wd)(R:RT):Prop:=CL 19 #[.pointer n,.slice l lN lC,.bool true] ra (post R fun v4 ha=>∃sa ia ba,v4=(.slice sa ia ba)/\CL 24 #[.pointer n,.slice sa ia ba] ha (post R fun v5 da=>∃s v e d i t,v5=(.tuple #[.pointer s,.slice v e d,.int .i64 i,.int .i64 t])/\CL 14 #[.slice sa ia ba] da (post R fun v6 ja=>∃qa fa ma,v6=(.slice qa fa ma)/\CL 22 #[.pointer j,.slice qa fa ma] ja (post R fun v7 ca=>∃q f c u aa,v7=(.tuple #[.slice q f c,.int .i64 u,.int .i64 aa])/\Br (aa != t) (R (.returned (.bool false)) ca) (Br (t != (0:Int)) (CL 21 #[.pointer j,.pointer n] ca (post R fun v8 ea=>∃na,v8=(.bool na)/\Br na (CL 28 #[] ea (post R fun v9 ka=>∃pa,v9=(.bool pa)/\R (.returned (.bool pa)) ka)) (R (.returned (.bool false)) ea))) (CL 14 #[.slice sa ia ba] ca (post R fun v8 ea=>∃ga m r,v8=(.slice ga m r)/\CL 29 #[.slice ga m r] ea (post R fun v9 ka=>∃h b a g,v9=(.tuple #[.slice h b a,.int .i64 g])/\∃J16:Wd->Prop,(∀y,J16 y->F5_j16 k j p z sa ia ba s h b y R)/\(Br (g != (0:Int)) (R (.returned (.bool false)) ka) (Br ((b:Int) != (ia:Int)) (R (.returned (.bool false)) ka) (J16 ka)))))))))))
def F5 (q:OA)(r s:Nat)(l:OA)(lN lC:Nat)(k:Int)(p:Wd)(R:RT):Prop:=CL 18 #[.slice q r s] p (post R fun v w1=>∃b f a,v=(.tuple #[.pointer b,.pointer f,.bool a])/\CL 18 #[.slice q r s] w1 (post R fun v2 n=>∃i d c,v2=(.tuple #[.pointer i,.pointer d,.bool c])/\CL 18 #[.slice q r s] n (post R fun v3 j=>∃g e h,v3=(.tuple #[.pointer g,.pointer e,.bool h])/\∃J6:Wd->Prop,(∀m,J6 m->F5_j6 l lN lC k b f i g m R)/\(Br (!a) (R (.returned (.bool false)) j) (Br (i).isNone (R (.returned (.bool false)) j) (Br (g).isNone (R (.returned (.bool false)) j) (J6 j)))))))
theorem ok5 (a:OA)(b c:Nat)(l:OA)(d e:Nat)(k:Int){w:Wd}{R:RT} (h:F5 a b c l d e k w R):CL 5 #[.slice a b c,.slice l d e,.int .u8 k] w R:=
 vk ⟨244,⟨[]⟩,[(19,⟨[(25,(.s .bool))],[(6,7),(25,26),(27,150)]⟩),(20,⟨[],[(114,122)]⟩),(29,⟨[(31,(.s .slice)),(32,(.s .slice))],[(31,188)]⟩),(36,⟨[],[(6,7),(30,238)]⟩),(26,⟨[],[(6,7),(150,161)]⟩),(24,⟨[(25,(.s .bool))],[(6,7),(25,150)]⟩),(16,⟨[],[(6,7),(105,114)]⟩),(6,⟨[],[(6,7),(59,69)]⟩)],[(18,⟨[(25,(.s .bool)),(26,(.s (.int .i64)))],[(6,7),(25,150)]⟩)]⟩ Tryz.func5 h
def F34 (l:OA)(lN lC:Nat)(i:Int)(c:Wd)(R:RT):Prop:=Br (decide (i<(lN:Int))) (IdxA l lN i 1 fun a=>LdI .i64 (c.cell? a) fun b=>R (.returned (.int .i64 b)) c) (R (.returned (.int .i64 (-1))) c)
theorem ok34 (l:OA)(a b:Nat)(i:Int){w:Wd}{R:RT} (h:F34 l a b i w R):CL 34 #[.slice l a b,.int .i64 i] w R:=
 vk ⟨13,⟨[]⟩,[],[]⟩ Tryz.func34 h
def F21 (p d:OA)(j:Wd)(R:RT):Prop:=CL 30 #[.pointer p] j (post R fun v w1=>∃k,v=(.pointer k)/\Br (!(k).isNone) (CL 57 #[.pointer k,.pointer d] w1 (post R fun v2 f=>∃h,v2=(.bool h)/\Br h (CL 58 #[.pointer p] f (post R fun v3 b=>∃g e a,v3=(.slice g e a)/\CL 41 #[.pointer d] b (post R fun v4 c=>∃i,v4=(.int .i64 i)/\R (.returned (.bool ((e:Int)==i))) c))) (R (.returned (.bool false)) f))) (R (.returned (.bool false)) w1))
theorem ok21 (p d:OA){w:Wd}{R:RT} (h:F21 p d w R):CL 21 #[.pointer p,.pointer d] w R:=
 vk ⟨23,⟨[]⟩,[],[]⟩ Tryz.func21 h
def F28  (j:Wd) (R:RT):Prop:=
 Al j #[.slice none 0 0,.slice none 0 0,.int .i64 0,.int .i64 0,.int .i64 0,.map none,.pointer none,.int .u64 0,.int .u64 0,.map none] 113 fun g6 w1=>
 Al w1 #[.int .i64 1,.int .u64 0,.int .u64 0,.int .i64 2,eS,eS,.int .i64 1,(.string (ByteArray.mk #[97])),.slice none 0 0,eS,.slice none 0 0] 50 fun g11 g=>
 CL 22 #[(.pointer (some g6)),(.slice (some g11) 1 1)] g (post R fun v f=>
 ∃(d:OA) (a:Nat) (b:Nat) (c:Int) (e:Int),v=(.tuple #[.slice d a b,.int .i64 c,.int .i64 e]) /\
 Br (e == (0:Int))
 (Br ((a:Int) == (1:Int))
 (IdxA d a (0:Int) 1 fun h=>
 LdI .u64 (f.cell? h) fun i=>
 R (.returned (.bool (i == (4294967297:Int)))) f)
 (R (.returned (.bool false)) f))
 (R (.returned (.bool false)) f))
theorem ok28  {w:Wd}{R:RT} (h:F28  w R):CL 28 #[] w R:=
 vk ⟨29,⟨[]⟩,[],[]⟩ Tryz.func28 h
def F18_l3 (aa:OA)(actsN:Nat)(g9 ab:Addr)(L3:Int->Wd->Prop)(i:Int)(u:Wd)(R:RT):Prop:=Br (decide (i<(actsN:Int))) (IdxA aa actsN i 12 fun y=>LdI .i64 (u.cell? y) fun k=>LdI .i64 (u.cell? (y.add 1)) fun q=>LdB (u.cell? (y.add 2)) fun s=>LdI .u64 (u.cell? (y.add 3)) fun h=>LdI .u64 (u.cell? (y.add 4)) fun g=>LdStr (u.cell? (y.add 5)) fun r=>LdStr (u.cell? (y.add 6)) fun n=>LdI .i64 (u.cell? (y.add 7)) fun j=>LdStr (u.cell? (y.add 8)) fun p=>LdSl (u.cell? (y.add 9)) fun m e f=>LdStr (u.cell? (y.add 10)) fun d=>LdSl (u.cell? (y.add 11)) fun c b a=>CL 54 #[(.iface 58 (.pointer (some g9))),(.pointer (some ab)),.agg #[.int .i64 k,.int .i64 q,.bool s,.int .u64 h,.int .u64 g,.string r,.string n,.int .i64 j,.string p,.slice m e f,.string d,.slice c b a]] u (post R fun v t=>∃z,v=(.bool z)/\Br (!z) (R (.returned (.tuple #[.pointer none,.pointer none,.bool false])) t) (InR .i64 (i+(1:Int))/\L3 (i+(1:Int)) t))) (R (.returned (.tuple #[(.pointer (some g9)),(.pointer (some ab)),.bool true])) u)
def F18 (d:OA)(e f:Nat)(c:Wd)(R:RT):Prop:=Al c #[.slice none 0 0,.slice none 0 0,.int .i64 0,.int .i64 0,.int .i64 0,.map none,.pointer none,.int .u64 0,.int .u64 0,.map none] 113 fun g9 w1=>Al w1 #[.slice none 0 0,.slice none 0 0] 85 fun g11 b=>∃(I:Int->Wd->Prop)(m:Int->Wd->Nat),I (0:Int) b/\∀i a,I i a->F18_l3 d e g9 g11 (fun i' w2=>I i' w2/\m i' w2<m i a) i a R
theorem ok18 (a:OA)(b c:Nat){w:Wd}{R:RT} (h:F18 a b c w R):CL 18 #[.slice a b c] w R:=
 vk ⟨29,⟨[]⟩,[],[(3,⟨[(7,(.s (.int .i64)))],[(2,5),(7,27)]⟩)]⟩ Tryz.func18 h
def F33_l4 (a:OA)(aN:Nat)(b:OA)(bN:Nat)(L4:Int->Wd->Prop)(i:Int)(g:Wd)(R:RT):Prop:=Br (decide (i<(aN:Int))) (Dr g fun w1=>IdxA a aN i 1 fun d=>LdI .i64 (w1.cell? d) fun f=>IdxA b bN i 1 fun c=>LdI .i64 (w1.cell? c) fun e=>Br (f != e) (R (.returned (.bool false)) w1) (InR .i64 (i+(1:Int))/\L4 (i+(1:Int)) w1)) (R (.returned (.bool true)) g)
def F33 (a:OA)(aN aC:Nat)(b:OA)(bN bC:Nat)(c:Wd)(R:RT):Prop:=Br ((aN:Int) != (bN:Int)) (R (.returned (.bool false)) c) (∃(I:Int->Wd->Prop)(m:Int->Wd->Nat),I (0:Int) c/\∀i w1,I i w1->F33_l4 a aN b bN (fun i' w2=>I i' w2/\m i' w2<m i w1) i w1 R)
theorem ok33 (a:OA)(c d:Nat)(b:OA)(e f:Nat){w:Wd}{R:RT} (h:F33 a c d b e f w R):CL 33 #[.slice a c d,.slice b e f] w R:=
 vk ⟨26,⟨[]⟩,[],[(4,⟨[(5,(.s (.int .i64)))],[(4,26)]⟩)]⟩ Tryz.func33 h
end Go.Proofs.YtnbgiacnbheonaaGreatDoor
namespace Go.Proofs.YtnbgiacnbheonaaGreatDoor
open Go.RowKit Go.Vc
set_option linter.unusedSimpArgs false
section
variable {w:Wd}{R:RT}
def PlanK (R:RT) (w0:Wd) (L:List O1) (w:Wd):Prop:=
 if (checkF L).2≠0 then R (.returned (.tuple #[.slice none 0 0,.int .i64 (checkF L).2])) w else ∀v:Sv,Own LI w w0.heap.size 3 (slV v) (planF L 5)->R (.returned (.tuple #[slV v,.int .i64 0])) w
theorem check_few {L:List O1} (h:(checkF L).2=0):L.length<=4096:=by
 unfold checkF at h
 by_cases e:4096<L.length
 ·rw [if_pos e] at h;cases h
 ·omega
theorem planR_calls (xs:List E11) {A:OA}{c:Nat} (hr:Rd LOp w A c xs) (hx:∀x∈xs,ROp w x) (hl:xs.length<=1048576) (hK:∀w',Below w.heap.size w w'->PlanK R w (xs.map (·.o)) w') :
  CL 32 #[.slice A xs.length c] w R:=by
 refine ok32 A xs.length c ?_
 unfold F32
 refine checkR_calls xs hr hx hl fun w1 hb1=>⟨_,_,rfl,?_⟩
 refine brn (fun hne=>?_) (fun he=>?_)
 ·have H:=hK w1 hb1
  unfold PlanK at H
  rw [if_pos hne] at H
  exact H
 have hfew:=check_few he
 rw [lmp] at hfew
 refine al fun g17 w2 hb2 b2 hge2=>?_
 have B2:=btr hb1 hb1.size hb2
 have hs1:=hb1.size
 have o0:Own LI w2 w.heap.size 3 (.slice (some ⟨g17,0,none⟩) 0 0) []:=Own.bare _ _ _ _ _
 generalize hL:xs.map (·.o)=L at *
 have hlen:L.length=xs.length:=by rw [<-hL,lmp]
 refine⟨fun A' n' c' p w'=>∃q:Nat,p=q/\q<=5/\Below w.heap.size w w'/\Own LI w' w.heap.size 3 (.slice A' n' c') (planF L q),fun _ _ _ p _=>5-p.toNat,⟨0,rfl,om,B2,o0⟩,?_⟩
 rintro A1 n1 c1 _ w3 ⟨q,rfl,hq,hb3,o3⟩
 unfold F32_l6
 have hpl:(planF L q).length<=20480:=nlt (plan_len L q) (Nat.mul_le_mul hq (by omega:L.length<=4096))
 refine brd (fun hlt=>?_) (fun hge=>?_)
 ·refine⟨fun A' n' c' i w'=>∃k:Nat,i=k/\k<=xs.length/\Below w.heap.size w w'/\Own LI w' w.heap.size 3 (.slice A' n' c') (planF L q++phsF L (q:Nat) k),fun _ _ _ i _=>xs.length-i.toNat,⟨0,rfl,om,hb3,by rw [phs_zero,List.append_nil];exact o3⟩,?_⟩
  rintro A2 n2 c2 _ w4 ⟨k,rfl,hk,hb4,o4⟩
  unfold F32_l9
  refine brd (fun hlt2=>?_) (fun hge2=>?_)
  ·have hk2:k<xs.length:=by omega
   have hst:=phs_step (p:=(q:Int)) (show k<L.length by omega)
   have hLk:L[k]'om=xs[k].o:=by subst hL;rw [gmp]
   rw [hLk] at hst
   refine⟨fun A' n' c' w'=>Below w.heap.size w w'/\Own LI w' w.heap.size 3 (.slice A' n' c') (planF L q++phsF L (q:Nat) (k+1)),?_,?_⟩
   ·rintro A' n' c' w' ⟨q1,q2⟩
    exact⟨inR_i64 om om,⟨k+1,sm,om,q1,q2⟩,odz⟩
   refine (hr.keep hb4).idx rfl om om rfl fun b oo cc=>?_
   simp only [tnc] at cc
   have k0:=cc 0 _ rfl
   simp only [Nat.add_zero] at k0
   simp only [k0,lds]
   refine phR_calls _ ⟨_,rfl,?_⟩
   have hphl:=phs_len L (q:Int) k
   refine bre (fun he2=>?_) (fun hne2=>?_)
   ·rw [if_pos he2] at hst
    refine ap1 (L:=LI) (x:=(k:Int)) (base:=w.heap.size) (.int .i64 0) 8 rfl kr kr kr o4 hb4.size (by rw [lap];omega) (by rw [lap];unfold maxLen;omega) fun A' c' w6 o6 g6=>⟨A',_,c',rfl,hb4.trans g6.below,?_⟩
    rw [hst,<-laa];exact o6
   ·rw [if_neg hne2,List.append_nil] at hst
    exact⟨hb4,by rw [hst];exact o4⟩
  ·have hk2:k=xs.length:=by omega
   refine⟨inR_i64 om om,⟨q+1,sm,om,hb4,?_⟩,odz⟩
   rw [plan_step,hlen,<-hk2];exact o4
 ·have hq5:q=5:=by omega
  subst hq5
  have H:=hK w3 hb3
  unfold PlanK at H
  rw [if_neg (by rw [he];simp)] at H
  exact H (A1,n1,c1) o3
theorem planP_calls (xs:List E11) {A:OA}{c:Nat} (hr:Rd LOp w A c xs) (hx:∀x∈xs,ROp w x) (hT:Tabs w) (hl:xs.length<=1048576) (hK:∀w',Below w.heap.size w w'->PlanK R w (xs.map (·.o)) w') :
  CL 29 #[.slice A xs.length c] w R:=by
 refine ok29 A xs.length c ?_
 unfold F29
 refine checkP_calls xs hr hx hT hl fun w1 hb1=>⟨_,_,rfl,?_⟩
 refine brn (fun hne=>?_) (fun he=>?_)
 ·have H:=hK w1 hb1
  unfold PlanK at H
  rw [if_pos hne] at H
  exact H
 have hfew:=check_few he
 rw [lmp] at hfew
 refine⟨om,om,om,?_⟩
 refine al fun g17 w2 hb2 b2 hge2=>?_
 have B2:=btr hb1 hb1.size hb2
 have hs1:=hb1.size
 have e0:((xs.length:Nat):Int).toNat=xs.length:=tnc _
 rw [e0] at *
 have o0:Own LI w2 w.heap.size 3 (.slice (some ⟨g17,0,none⟩) 0 xs.length) []:=Own.made b2 om (by simp [zrow,LI]) (by simp [maxLen];omega)
 generalize hL:xs.map (·.o)=L at *
 have hlen:L.length=xs.length:=by rw [<-hL,lmp]
 refine⟨fun A' n' c' p w'=>∃q:Nat,p=q/\q<=5/\Below w.heap.size w w'/\Own LI w' w.heap.size 3 (.slice A' n' c') (planF L q),fun _ _ _ p _=>5-p.toNat,⟨0,rfl,om,B2,o0⟩,?_⟩
 rintro A1 n1 c1 _ w3 ⟨q,rfl,hq,hb3,o3⟩
 unfold F29_l6
 have hpl:(planF L q).length<=20480:=nlt (plan_len L q) (Nat.mul_le_mul hq (by omega:L.length<=4096))
 refine brd (fun hlt=>?_) (fun hge=>?_)
 ·refine⟨fun A' n' c' i w'=>∃k:Nat,i=k/\k<=xs.length/\Below w.heap.size w w'/\Own LI w' w.heap.size 3 (.slice A' n' c') (planF L q++phsF L (q:Nat) k),fun _ _ _ i _=>xs.length-i.toNat,⟨0,rfl,om,hb3,by rw [phs_zero,List.append_nil];exact o3⟩,?_⟩
  rintro A2 n2 c2 _ w4 ⟨k,rfl,hk,hb4,o4⟩
  unfold F29_l9
  refine brd (fun hlt2=>?_) (fun hge2=>?_)
  ·have hk2:k<xs.length:=by omega
   have hst:=phs_step (p:=(q:Int)) (show k<L.length by omega)
   have hLk:L[k]'om=xs[k].o:=by subst hL;rw [gmp]
   rw [hLk] at hst
   refine⟨fun A' n' c' w'=>Below w.heap.size w w'/\Own LI w' w.heap.size 3 (.slice A' n' c') (planF L q++phsF L (q:Nat) (k+1)),?_,?_⟩
   ·rintro A' n' c' w' ⟨q1,q2⟩
    exact⟨inR_i64 om om,⟨k+1,sm,om,q1,q2⟩,odz⟩
   have hr4:=hr.keep hb4
   refine hr4.idx rfl om om rfl fun b oo cc=>?_
   simp only [tnc] at cc
   have k0:=cc 0 _ rfl
   have k1:=cc 1 _ rfl
   have k2:=cc 2 _ rfl
   have k3:=cc 3 _ rfl
   have k4:=cc 4 _ rfl
   have k5:=cc 5 _ rfl
   have k6:=cc 6 _ rfl
   have k7:=cc 7 _ rfl
   have k8:=cc 8 _ rfl
   have k9:=cc 9 _ rfl
   have k10:=cc 10 _ rfl
   simp only [Nat.add_zero] at k0
   simp only [k0,k1,k2,k3,k4,k5,k6,k7,k8,k9,k10,lds]
   refine al11 fun go w5 hb5 bo hgo=>?_
   simp only [bo.cell,lds]
   have B5:=btr hb4 hb4.size hb5
   have o5:=o4.keep hb5
   refine phP_calls _ ⟨_,rfl,?_⟩
   have hphl:=phs_len L (q:Int) k
   refine bre (fun he2=>?_) (fun hne2=>?_)
   ·rw [if_pos he2] at hst
    refine ap1 (L:=LI) (x:=(k:Int)) (base:=w.heap.size) (.int .i64 0) 8 rfl kr kr kr o5 B5.size (by rw [lap];omega) (by rw [lap];unfold maxLen;omega) fun A' c' w6 o6 g6=>⟨A',_,c',rfl,B5.trans g6.below,?_⟩
    rw [hst,<-laa];exact o6
   ·rw [if_neg hne2,List.append_nil] at hst
    exact⟨B5,by rw [hst];exact o5⟩
  ·have hk2:k=xs.length:=by omega
   refine⟨inR_i64 om om,⟨q+1,sm,om,hb4,?_⟩,odz⟩
   rw [plan_step,hlen,<-hk2];exact o4
 ·have hq5:q=5:=by omega
  subst hq5
  have H:=hK w3 hb3
  unfold PlanK at H
  rw [if_neg (by rw [he];simp)] at H
  exact H (A1,n1,c1) o3
end
section
variable {w:Wd}{R:RT}
theorem copiedO2_calls (xs:List E11) {A:OA}{c:Nat} (hr:Rd LOp w A c xs) (hx:∀x∈xs,ROp w x) (hl:xs.length<=1048576)
  (hK:∀w' v ys lo,Below w.heap.size w w'->Own LOp w' w.heap.size 50 (slV v) ys->ys.map (·.o)=xs.map (·.o)->(∀y∈ys,(y.o.node<18446744073709551616/\y.o.at_<18446744073709551616))->w.heap.size<=lo->OTl w' (ys.map (·.o.t)) (ys.map (·.e)) lo w'.heap.size (rowOf (slV v))->R (.returned (slV v)) w') :
  CL 14 #[.slice A xs.length c] w R:=by
 refine ok14 A xs.length c ?_
 unfold F14
 refine al fun g6 w1 hb1 b1 hge1=>?_
 have hs1:=hb1.size
 refine⟨fun l lN lC i w'=>∃(k:Nat) (ys:List E11),i=k/\k<=xs.length/\Below w.heap.size w w'/\w1.heap.size<=w'.heap.size/\ys.map (·.o)=(xs.take k).map (·.o)/\Own LOp w' w1.heap.size 50 (.slice l lN lC) ys /\
   OTl w' ((xs.take k).map (·.o.t)) (ys.map (·.e)) w1.heap.size w'.heap.size (rowOf (.slice l lN lC)),fun _ _ _ i _=>xs.length-i.toNat,⟨0,[],rfl,om,hb1,nlr _,rfl,Own.bare _ _ _ _ _,by simp [OTl]⟩,?_⟩
 rintro l lN lC _ w2 ⟨k,ys,rfl,hk,B2,hs2,hmo,ol,hot⟩
 unfold F14_l3
 have hlr:∀b,rowOf (.slice l lN lC)=some b->w1.heap.size<=b/\b<w2.heap.size:=fun b hb=>ol.lt b hb
 have hyl:ys.length=k:=by
  have:=congrArg List.length hmo
  rw [lmp,lmp,ltk] at this;omega
 refine brd (fun hlt=>?_) (fun hge=>?_)
 ·have hk2:k<xs.length:=by omega
  have hrt:=(hx _ (gem hk2)).2
  have hr1:=hr.keep B2
  refine hr1.idx rfl om om rfl fun b oo cc=>?_
  simp only [tnc] at cc
  have k0:=cc 0 _ rfl
  have k1:=cc 1 _ rfl
  have k2:=cc 2 _ rfl
  have k3:=cc 3 _ rfl
  have k4:=cc 4 _ rfl
  have k5:=cc 5 _ rfl
  have k6:=cc 6 _ rfl
  have k7:=cc 7 _ rfl
  have k8:=cc 8 _ rfl
  have k9:=cc 9 _ rfl
  have k10:=cc 10 _ rfl
  simp only [Nat.add_zero] at k0
  simp only [k0,k1,k2,k3,k4,k5,k6,k7,k8,k9,k10,lds]
  refine al11 fun go w3 hb3 bo hgo=>?_
  have hs3:=hb3.size
  have B3:=btr B2 B2.size hb3
  simp only [bo.cell,lds]
  refine copied_calls xs[k].o.t (e:=xs[k].e) (RTr.sub (sub_below B3) _ _ hrt) fun w4 e4 hb4 hot4=>⟨_,_,_,_,_,_,_,_,_,rfl,?_⟩
  have hs4:=hb4.size
  have bo4:=bo.keep hb4
  have hgol:=bo.lt
  refine st_blk bo4 sm fun u1 q1 f1=>st_blk q1 sm fun u2 q2 f2=>st_blk q2 sm fun u3 q3 f3=>st_blk q3 sm fun u4 q4 f4=>st_blk q4 sm fun w5 bo5 f5=>?_
  simp only [sls] at bo5
  have F5:Fm (·=go) w4 w5:=(((f1.trans f2).trans f3).trans f4).trans f5
  have hs5:=F5.size
  simp only [bo5.cell,lds]
  have D4:Below w2.heap.size w2 w4:=btr hb3 hb3.size hb4
  have D5:Below w2.heap.size w2 w5:=D4.trans (F5.toBelow om fun b hb e=>by have e:b=go:=e;omega)
  have hot5:OTr w5 xs[k].o.t e4 w3.heap.size w4.heap.size:=OTr.fm F5 _ _ _ _ (fun b h1 h2 e=>by have e:b=go:=e;omega) hot4
  refine al fun g6 w6 hb6 b6 hge6=>?_
  have hs6:=hb6.size
  have D6:=btr D5 D5.size hb6
  have r6:Rd LOp w6 (some ⟨g6,0,none⟩) 1 [(⟨xs[k].o,e4⟩:E11)]:=rd_row (xs:=[(⟨xs[k].o,e4⟩:E11)]) b6 rfl (by simp [maxLen])
  refine ap (L:=LOp) (ys:=[(⟨xs[k].o,e4⟩:E11)]) (base:=w1.heap.size) (v:=.slice l lN lC) (.agg #[.int .i64 0,.int .u64 0,.int .u64 0,.int .i64 0,eS,eS,.int .i64 0,eS,.slice none 0 0,eS,.slice none 0 0]) 152 rfl kr kr kr (ol.keep D6) r6 om (by simp only [List.length_singleton];omega) (by simp only [List.length_singleton];unfold maxLen;omega) fun A' c' w7 o7 g7=>⟨A',_,c',rfl,?_⟩
  have F7:Fm (fun b=>rowOf (.slice l lN lC)=some b) w6 w7:=Fm.grown g7.grown fun x hx=>hx
  have hs7:=F7.size
  have hrow:∀b,rowOf (.slice A' (ys.length+[(⟨xs[k].o,e4⟩:E11)].length) c')=some b->rowOf (.slice l lN lC)=some b\/w6.heap.size<=b:=fun b hb=>by
   rcases g7.row with e | e | ⟨g,e,hge⟩
   ·left;rw [<-e];exact hb
   ·rw [e] at hb;cases hb
   ·right;rw [e] at hb;cases hb;exact hge
  refine⟨inR_i64 om om,⟨k+1,ys++[⟨xs[k].o,e4⟩],sm,om,(B2.trans (D6.mono B2.size)).trans (F7.toBelow om fun b hb e=>by have:=(hlr b e).1;omega),om,?_,o7,?_⟩,odz⟩
  ·rw [tsa hk2,List.map_append,List.map_append,hmo];rfl
  rw [tsa hk2,List.map_append,List.map_append]
  refine OTl.snoc (a:=w3.heap.size) (b:=w4.heap.size) ?_ om om (fun r hr h9=>?_) (hi:=w2.heap.size) ?_ om om
  ·exact OTr.fm ((Fm.below (M:=fun b=>rowOf (.slice l lN lC)=some b) hb6).trans F7) _ _ _ _ (fun b h1 h2 e=>by have:=(hlr b e).2;omega) hot5
  ·rcases hrow r hr with e | e
   ·have:=(hlr r e).2;omega
   ·omega
  ·refine OTl.other (OTl.fm ((Fm.below (M:=fun b=>rowOf (.slice l lN lC)=some b) D6).trans F7) _ _ _ _ _ (fun b _ _ h1 h2=>h1 h2) hot) fun r hr=>?_
   rcases hrow r hr with e | e
   ·exact .inl e
   ·right;omega
 ·have hk2:k=xs.length:=by omega
  subst hk2
  rw [tkl] at hmo hot
  have hmt:ys.map (·.o.t)=xs.map (·.o.t):=by
   have:=congrArg (List.map (·.t)) hmo
   rw [List.map_map,List.map_map] at this
   exact this
  refine hK w2 (l,lN,lC) ys w1.heap.size B2 (ol.rebase fun b hb=>by have:=(ol.lt b hb).1;omega) hmo (fun y hy=>?_) hs1 (by rw [hmt];exact hot)
  obtain⟨j,hj,rfl⟩:=List.mem_iff_getElem.1 hy
  have hjx:j<xs.length:=by omega
  have ho:ys[j].o=xs[j].o:=by
   have h1:(ys.map (·.o))[j]?=(xs.map (·.o))[j]?:=by rw [hmo]
   rw [List.getElem?_map,List.getElem?_map,gge hj,gge hjx] at h1
   simpa using h1
  rw [ho];exact (hx _ (gem hjx)).1
theorem ops_ot {ok:Nat->Bool}{ys:List E11}{lo hi:Nat}{r:Option Nat} (hok:∀b,lo<=b->b<hi->ok b=true) (hb:∀y∈ys,(y.o.node<18446744073709551616/\y.o.at_<18446744073709551616)) (h:OTl w (ys.map (·.o.t)) (ys.map (·.e)) lo hi r):∀y∈ys,ROp (wOnly ok w) y:=fun y hy=>by
 obtain⟨j,hj,rfl⟩:=List.mem_iff_getElem.1 hy
 refine⟨hb _ hy,?_⟩
 have h2:=(OTl.rtl (ok:=ok) _ _ _ _ _ hok h).get j (by rw [lmp];exact hj) (by rw [lmp];exact hj)
 rw [gmp,gmp] at h2
 exact h2
end
def oneF (D:Im) (o:O1):Im × Nat × Int:=
 if o.kind=1 then insF D o.wh o.at_ o.t else
 if o.kind=2 then ((movF D o.node o.wh o.at_).1,0,(movF D o.node o.wh o.at_).2) else
 if o.kind=3 then ((delF D o.node).1,0,(delF D o.node).2) else
 if o.kind=4 then ((setNameF D o.node o.nm).1,0,(setNameF D o.node o.nm).2) else
 if o.kind=5 then ((setTextF D o.node o.val).1,0,(setTextF D o.node o.val).2) else
 if o.kind=6 then ((setAttrF D o.node o.nm o.val).1,0,(setAttrF D o.node o.nm o.val).2) else
 if o.kind=7 then ((dropAttrF D o.node o.nm).1,0,(dropAttrF D o.node o.nm).2) else
 if (insF D 3 o.node o.t).2.2≠0 then (D,0,(insF D 3 o.node o.t).2.2) else
 ((delF (insF D 3 o.node o.t).1 o.node).1,(insF D 3 o.node o.t).2.1,(delF (insF D 3 o.node o.t).1 o.node).2)
def takenF (D:Im) (o:O1):List Nat:=if o.kind=3\/o.kind=8 then allI D o.node else []
def skipB (gone:List Nat) (o:O1):Bool:=decide (o.kind≠1) && decide (o.node∈gone)
def runF (l:List O1):List Int->Im->List Nat->(Int->Nat)->Option (Im × (Int->Nat)) × Int × Int
 | [],D,_,put=>(some (D,put),0,0)
 | i :: r,D,gone,put=>match l[i.toNat]? with
  | none=>(none,0,0)
  | some o=>if skipB gone o=true then runF l r D gone put else if (oneF D o).2.2≠0 then (none,i,(oneF D o).2.2) else
   runF l r (oneF D o).1 (gone++takenF D o) fun j=>if j=i then (oneF D o).2.1 else put j
def givenF (put:Int->Nat) (n:Nat):List Nat:=((List.range n).map fun i:Nat=>put (i:Int)).filter fun h=>decide (h≠0)
def applyF (D:Im) (l:List O1):Option (Im × List Nat) × Int × Int:=
 if (checkF l).2≠0 then (none,(checkF l).1,(checkF l).2) else match runF l (planF l 5) D [] (fun _=>0) with
 | (some (D',put),_,_)=>(some (D',givenF put l.length),0,0)
 | (none,i,e)=>(none,i,e)
theorem one_wf' {D:Im} (hw:Wf D) (o:O1):Wf (oneF D o).1:=by
 unfold oneF
 split
 ·exact ins_wf hw _ _ _
 split
 ·exact mov_wf hw _ _ _
 split
 ·exact del_wf hw _
 split
 ·exact setName_wf hw _ _
 split
 ·exact setText_wf hw _ _
 split
 ·exact setAttr_wf hw _ _ _
 split
 ·exact dropAttr_wf hw _ _
 split
 ·exact hw
 ·exact del_wf (ins_wf hw _ _ _) _
theorem ins_ne0 {D:Im}{wh:Int}{a:Nat}{x:Tr} (h:(insF D wh a x).2.2=0):(insF D wh a x).2.1≠0:=by
 unfold insF at h |-
 split at h
 ·cases h
 rename_i h1
 rw [if_neg h1]
 split at h
 ·rename_i h2;exact absurd h h2
 rename_i h2
 rw [if_neg h2]
 split at h
 ·rename_i h3;exact absurd h h3
 rename_i h3
 rw [if_neg h3]
 split at h
 ·cases h
 rename_i h4
 rw [if_neg h4]
 split at h
 ·cases h
 rename_i h5
 rw [if_neg h5]
 show freshH D.sl≠0
 unfold freshH hnd
 omega
theorem one_h {D:Im}{o:O1} (h:(oneF D o).2.2=0):(o.kind=1->(oneF D o).2.1≠0)/\(o.kind=2\/o.kind=3\/o.kind=4\/o.kind=5\/o.kind=6\/o.kind=7->(oneF D o).2.1=0):=by
 refine⟨fun e=>?_,fun e=>?_⟩
 ·unfold oneF at h |-
  rw [if_pos e] at h |-
  exact ins_ne0 h
 ·unfold oneF
  rw [if_neg om]
  repeat' split
  all_goals first | rfl | omega
theorem run_put {l:List O1}:∀(is:List Int) {D:Im}{gone:List Nat}{put:Int->Nat}{D':Im}{put':Int->Nat}{a b:Int},runF l is D gone put=(some (D',put'),a,b)->∀(i:Int) (o:O1),l[i.toNat]?=some o ->
  (o.kind=1->i∈is\/put i≠0->put' i≠0)/\(o.kind=2\/o.kind=3\/o.kind=4\/o.kind=5\/o.kind=6\/o.kind=7->put i=0->put' i=0)
 | [],D,gone,put,D',put',a,b,h,i,o,ho=>by
  simp only [runF,Prod.mk.injEq,Option.some.injEq] at h
  obtain⟨⟨rfl,rfl⟩,_,_⟩:=h
  exact⟨fun _ h=>h.resolve_left sm,fun _ h=>h⟩
 | j :: is,D,gone,put,D',put',a,b,h,i,o,ho=>by
  unfold runF at h
  cases hj:l[j.toNat]? with
  | none=>rw [hj] at h;simp at h
  | some p=>
   rw [hj] at h
   simp only at h
   by_cases hs:skipB gone p=true
   ·rw [if_pos hs] at h
    obtain⟨q1,q2⟩:=run_put is h i o ho
    refine⟨fun e hi=>q1 e ?_,q2⟩
    rcases hi with hi | hi
    ·rcases mcn.1 hi with rfl | hi
     ·rw [hj] at ho
      obtain rfl:=osi ho
      unfold skipB at hs
      simp [e] at hs
     ·exact .inl hi
    ·exact .inr hi
   rw [if_neg hs] at h
   by_cases he:(oneF D p).2.2≠0
   ·rw [if_pos he] at h;simp at h
   rw [if_neg he] at h
   obtain⟨q1,q2⟩:=run_put is h i o ho
   obtain⟨p1,p2⟩:=one_h (by simpa using he:(oneF D p).2.2=0)
   refine⟨fun e hi=>q1 e ?_,fun e hi=>q2 e ?_⟩
   ·by_cases hij:i=j
    ·subst hij
     rw [hj] at ho
     obtain rfl:=osi ho
     right
     rw [if_pos rfl]
     exact p1 e
    ·rw [if_neg hij]
     rcases hi with hi | hi
     ·rcases mcn.1 hi with hi | hi
      ·exact absurd hi hij
      ·exact .inl hi
     ·exact .inr hi
   ·by_cases hij:i=j
    ·subst hij
     rw [hj] at ho
     obtain rfl:=osi ho
     rw [if_pos rfl]
     exact p2 e
    ·rw [if_neg hij];exact hi
theorem run_step {l:List O1}{i:Int}{r:List Int}{D:Im}{gone:List Nat}{put:Int->Nat}{o:O1} (ho:l[i.toNat]?=some o) :
  runF l (i :: r) D gone put=if skipB gone o=true then runF l r D gone put else if (oneF D o).2.2≠0 then (none,i,(oneF D o).2.2) else
   runF l r (oneF D o).1 (gone++takenF D o) fun j=>if j=i then (oneF D o).2.1 else put j:=by
 conv=>lhs;unfold runF
 rw [ho]
theorem phF_cases (k:Int):phF k=0\/phF k=1\/phF k=2\/phF k=3\/phF k=4:=by
 unfold phF
 repeat' split
 all_goals simp
theorem mem_phs {l:List O1}{p:Int}{k:Nat}{z:Int}:z∈phsF l p k↔∃(i:Nat) (o:O1),z=i/\i<k/\l[i]?=some o/\phF o.kind=p:=by
 unfold phsF
 rw [List.mem_map]
 constructor
 ·rintro ⟨i,hi,rfl⟩
  rw [List.mem_filter,List.mem_range] at hi
  obtain⟨h1,h2⟩:=hi
  have h2:=of_decide_eq_true h2
  cases ho:l[i]? with
  | none=>rw [ho] at h2;cases h2
  | some o=>
   rw [ho] at h2
   exact⟨i,o,rfl,h1,ho,by simpa using h2⟩
 ·rintro ⟨i,o,rfl,h1,h2,h3⟩
  refine⟨i,?_,rfl⟩
  rw [List.mem_filter,List.mem_range]
  exact⟨h1,by rw [h2];simpa using h3⟩
theorem mem_plan {l:List O1}{z:Int}:z∈planF l 5↔∃i:Nat,z=i/\i<l.length:=by
 unfold planF
 rw [mfm]
 constructor
 ·rintro ⟨q,_,hz⟩
  obtain⟨i,o,h1,h2,_⟩:=mem_phs.1 hz
  exact⟨i,h1,h2⟩
 ·rintro ⟨i,rfl,hi⟩
  have hc:=phF_cases l[i].kind
  have key:∀q:Nat,q<5->phF l[i].kind=(q:Nat)->∃a,a∈List.range 5/\(i:Int)∈phsF l (a:Nat) l.length:=fun q hq e=>
   ⟨q,List.mem_range.2 hq,mem_phs.2 ⟨i,l[i],rfl,hi,gge hi,e⟩⟩
  rcases hc with e | e | e | e | e
  ·exact key 0 om e
  ·exact key 1 om e
  ·exact key 2 om e
  ·exact key 3 om e
  ·exact key 4 om e
def toldF (l:List O1) (put:Int->Nat) (k:Nat):List Nat:=(List.range k).flatMap fun i=>match l[i]? with
 | some o=>if o.kind=1\/(o.kind=8/\put (i:Nat)≠0) then [put (i:Nat)] else []
 | none=>[]
theorem told_step {l:List O1}{put:Int->Nat}{k:Nat} (hk:k<l.length):toldF l put (k+1)=toldF l put k++if l[k].kind=1\/(l[k].kind=8/\put (k:Nat)≠0) then [put (k:Nat)] else []:=by
 unfold toldF
 rw [List.range_succ,fma]
 simp only [fmc,List.flatMap_nil,List.append_nil,gge hk]
theorem given_step (put:Int->Nat) (k:Nat):givenF put (k+1)=givenF put k++if put (k:Nat)≠0 then [put (k:Nat)] else []:=by
 unfold givenF
 rw [List.range_succ,List.map_append,List.filter_append]
 congr 1
 simp only [List.map_cons,List.map_nil,List.filter_cons,List.filter_nil]
 by_cases e:put (k:Nat)≠0
 ·rw [if_pos (by simpa using e),if_pos e]
 ·rw [if_neg (by simpa using e),if_neg e]
theorem given_len (put:Int->Nat) (n:Nat):(givenF put n).length<=n:=by
 unfold givenF
 exact nlt (List.length_filter_le _ _) sm
theorem check_kind:∀(l pre:List O1),(chkF pre l).2=0->∀o∈l,1<=o.kind/\o.kind<=8/\((o.kind=1\/o.kind=8)->(lookF o.t 1 0).2=0)
 | [],_,_,o,ho=>by simp at ho
 | x :: l,pre,h,o,ho=>by
  unfold chkF at h
  by_cases hb:badO pre x≠0
  ·rw [if_pos hb] at h;exact absurd h hb
  rw [if_neg hb] at h
  rcases mcn.1 ho with rfl | ho
  ·unfold badO at hb
   split at hb
   ·exact absurd dc hb
   rename_i h1
   split at hb
   ·rename_i h2;exact absurd h2.2 hb
   rename_i h2
   exact⟨om,om,fun e=>byc fun hne=>h2 ⟨e,hne⟩⟩
  ·exact check_kind l _ h o ho
theorem check_ok {l:List O1} (h:(checkF l).2=0):l.length<=4096/\(chkF [] l).2=0:=by
 unfold checkF at h
 split at h
 ·cases h
 ·exact⟨om,h⟩
theorem told_given {l:List O1}{D D':Im}{put:Int->Nat}{a b:Int} (hc:(checkF l).2=0) (h:runF l (planF l 5) D [] (fun _=>0)=(some (D',put),a,b)):∀k,k<=l.length->toldF l put k=givenF put k
 | 0,_=>rfl
 | k+1,hk=>by
  have ih:=told_given hc h k om
  have hk2:k<l.length:=by omega
  rw [told_step hk2,given_step,ih]
  congr 1
  obtain⟨k1,k2,_⟩:=check_kind l [] (check_ok hc).2 l[k] (gem hk2)
  obtain⟨q1,q2⟩:=run_put _ h (k:Nat) l[k] (by rw [tnc];exact gge hk2)
  by_cases e1:l[k].kind=1
  ·have:=q1 e1 (.inl (mem_plan.2 ⟨k,rfl,hk2⟩))
   rw [if_pos (.inl e1),if_pos this]
  by_cases e8:l[k].kind=8
  ·by_cases e:put (k:Nat)≠0
   ·rw [if_pos (.inr ⟨e8,e⟩),if_pos e]
   ·rw [if_neg (by rintro (h | h);exact e1 h;exact e h.2),if_neg e]
  ·have:=q2 om rfl
   rw [if_neg (by rintro (h | h);exact e1 h;exact e8 h.1),if_neg (by rw [this];simp)]
theorem all_same {A A':Nat->Option Sl}{a:Nat}{roots loose:List Nat} (hA:WfA A roots loose) (h:∀z,Wi A a z->A' z=A z):∀(r x:Nat),Wi A a x->allA A' r x=allA A r x
 | 0,x,_=>rfl
 | r+1,x,hx=>by
  unfold allA
  rw [h x hx]
  congr 1
  cases hs:A x with
  | none=>rfl
  | some s=>
   show s.kids.flatMap (allA A' r)=s.kids.flatMap (allA A r)
   have key:∀ks:List Nat,(∀k∈ks,k∈s.kids)->ks.flatMap (allA A' r)=ks.flatMap (allA A r):=fun ks=>by
    induction ks with
    | nil=>intro _;rfl
    | cons k ks ih=>
     intro hm
     rw [fmc,fmc,ih fun k' hk'=>hm k' (by simp [hk'])]
     obtain⟨_,t,ht,htp⟩:=(hA.kid x s hs).2 k (hm k sm)
     rw [all_same hA h r k (.up ht (by rw [htp];exact hx))]
   exact key _ fun _ h=>h
theorem ins_all {D:Im} (hw:Wf D) {a:Nat}{x:Tr} (h:(insF D 3 a x).2.2=0):∃s,slA D.sl a=some s/\slA (insF D 3 a x).1.sl a=some s/\allI (insF D 3 a x).1 a=allI D a:=by
 unfold insF at h |-
 split at h
 ·cases h
 rename_i h1
 rw [if_neg h1]
 split at h
 ·rename_i h2;exact absurd h h2
 rename_i h2
 rw [if_neg h2]
 split at h
 ·rename_i h3;exact absurd h h3
 rename_i h3
 rw [if_neg h3]
 split at h
 ·cases h
 rename_i h4
 rw [if_neg h4]
 split at h
 ·cases h
 rename_i h5
 rw [if_neg h5]
 have h3:(placeF D 3 a).2=0:=by simpa using h3
 obtain⟨p1,_,_,p4,_,p6⟩:=place_ok hw h3
 obtain⟨s,hs,hsp⟩:=p4 om
 have h2:(lookF x 1 0).2=0:=by simpa using h2
 obtain⟨k1,k2,k3,k4⟩:=look_ok x 1 0 h2
 obtain⟨c1,c2⟩:=hw.cnt (par_ex (roots:=D.roots) (loose:=[]) p1)
 have M:=make_wf (roots:=D.roots) x k1 hw.s hw.a p1 c2 om om
 have ha0:a≠0:=fun e=>by rw [e,slA_zero] at hs;cases hs
 have hpp:(placeF D 3 a).1=s.parent:=hsp.symm
 rw [hpp] at M |-
 have hin:s.parent=0\/∃t,slA (makeF x s.parent D.sl) s.parent=some t:=by
  rcases hw.a.par a s hs with e | ⟨t,ht,_⟩
  ·exact .inl e
  ·exact .inr ⟨t,M.ext _ _ ht⟩
 have hset:slA (putI { D with sl:=makeF x s.parent D.sl } (freshH D.sl) s.parent 3 a).sl=setA (slA (makeF x s.parent D.sl)) s.parent (insAt (lstI { D with sl:=makeF x s.parent D.sl } s.parent) (posF 3 a (lstI { D with sl:=makeF x s.parent D.sl } s.parent)) (freshH D.sl)):=by
  unfold putI
  exact (setI_A (D:={ D with sl:=makeF x s.parent D.sl }) hin).1
 have keep:∀z,Wi (slA D.sl) a z->slA (putI { D with sl:=makeF x s.parent D.sl } (freshH D.sl) s.parent 3 a).sl z=slA D.sl z:=fun z hz=>by
  have hz1:∃t,slA D.sl z=some t:=by
   cases hz with
   | self=>exact⟨s,hs⟩
   | up h _=>exact⟨_,h⟩
  obtain⟨t,ht⟩:=hz1
  have hzp:z≠s.parent:=fun e=>wi_par hw.a hs (e ▸ hz)
  rw [hset,ht]
  unfold setA
  rw [if_neg (by rintro ⟨e,_⟩;exact hzp e),M.ext _ _ ht]
 refine⟨s,hs,by rw [keep a .self,hs],?_⟩
 unfold allI
 rw [if_neg ha0,if_neg ha0]
 exact all_same hw.a keep 65 a .self
theorem Rd.op {w:Wd}{A:OA}{c:Nat}{xs:List E11} (h:Rd LOp w A c xs) {n:Nat} (hn:n=xs.length) {i:Int}{k:Nat} (hi:i=k) (hk:k<xs.length) {K:Addr->Prop}
  (hK:∀b o,w.cell? ⟨b,o,none⟩=some (.int .i64 xs[k].o.kind)->w.cell? ⟨b,o+1,none⟩=some (.int .u64 (xs[k].o.node:Nat))->w.cell? ⟨b,o+2,none⟩=some (.int .u64 (xs[k].o.at_:Nat))->w.cell? ⟨b,o+3,none⟩=some (.int .i64 xs[k].o.wh)->w.cell? ⟨b,o+4,none⟩=some (.string xs[k].o.nm)->w.cell? ⟨b,o+5,none⟩=some (.string xs[k].o.val) ->
   w.cell? ⟨b,o+6,none⟩=some (.int .i64 xs[k].e.kind)->w.cell? ⟨b,o+7,none⟩=some (.string xs[k].e.nm)->w.cell? ⟨b,o+8,none⟩=some (.slice xs[k].e.ats.1 xs[k].e.ats.2.1 xs[k].e.ats.2.2)->w.cell? ⟨b,o+9,none⟩=some (.string xs[k].e.text)->w.cell? ⟨b,o+10,none⟩=some (.slice xs[k].e.kids.1 xs[k].e.kids.2.1 xs[k].e.kids.2.2)->K ⟨b,o,none⟩):IdxA A n i 11 K:=by
 subst hi
 refine h.idx hn om om rfl fun b o hc=>?_
 simp only [tnc] at hc
 exact hK b o (hc 0 _ rfl) (hc 1 _ rfl) (hc 2 _ rfl) (hc 3 _ rfl) (hc 4 _ rfl) (hc 5 _ rfl) (hc 6 _ rfl) (hc 7 _ rfl) (hc 8 _ rfl) (hc 9 _ rfl) (hc 10 _ rfl)
theorem Rd.i64 {w:Wd}{A:OA}{c:Nat}{xs:List Int} (h:Rd LI w A c xs) {n:Nat} (hn:n=xs.length) {i:Int}{k:Nat} (hi:i=k) (hk:k<xs.length) {K:Addr->Prop}
  (hK:∀b o,w.cell? ⟨b,o,none⟩=some (.int .i64 xs[k])->K ⟨b,o,none⟩):IdxA A n i 1 K:=by
 subst hi
 refine h.idx hn om om rfl fun b o hc=>?_
 simp only [tnc] at hc
 exact hK b o (hc 0 _ rfl)
section
variable {w w1:Wd}{R:RT}{ok:Nat->Bool}{g:Nat}{D:Im}{vs vr:Sv}
theorem ins_errD {D:Im}{wh:Int}{a:Nat}{x:Tr} (h:(insF D wh a x).2.2≠0):(insF D wh a x).1=D:=by
 unfold insF at h |-
 repeat' split
 all_goals first | rfl | (exfalso;simp_all)
theorem oneR_calls (h:RM ok w g D vs vr) (hok:∀b,w.heap.size<=b->ok b=true) (hw:Wf D) {x:E11} (hx:ROp (vw ok g w) x) (hk1:1<=x.o.kind) (hk8:x.o.kind<=8)
  (hK:∀w' vs' vr',RM ok w' g (oneF D x.o).1 vs' vr'->Fm (·=g) w w'->R (.returned (.tuple #[.int .u64 ((oneF D x.o).2.1:Nat),.int .i64 (oneF D x.o).2.2])) w') :
  CL 63 #[.pointer (some ⟨g,0,none⟩),opV x] w R:=by
 obtain⟨⟨hn,ha⟩,ht⟩:=hx
 refine ok63 (some ⟨g,0,none⟩) x.o.kind (x.o.node:Nat) (x.o.at_:Nat) x.o.wh x.o.nm x.o.val x.e.kind x.e.nm x.e.ats.1 x.e.ats.2.1 x.e.ats.2.2 x.e.text x.e.kids.1 x.e.kids.2.1 x.e.kids.2.2 ?_
 unfold F63
 refine al fun go w1 hb1 bo hgo=>?_
 have hs1:=hb1.size
 have hgl:=h.blk.lt
 have h1:=h.keep hb1
 have hok1:∀b,w1.heap.size<=b->ok b=true:=fun b hb=>hok b om
 have hsub:Sub (vw ok g w) (vw ok g w1):=vw_sub (.below hb1)
 have ht1:=RTr.sub hsub _ _ ht
 have fin:∀{w':Wd},Fm (·=g) w1 w'->Fm (·=g) w w':=fun hf=>(Fm.below hb1).trans hf
 simp only [bo.cell,lds]
 unfold oneF at hK
 refine bre (fun e=>?_) fun e1=>?_
 ·rw [if_pos e] at hK
  exact insertR_calls h1 hok1 hw ht1 ha fun w2 vs' vr' h2 f2=>⟨_,_,rfl,hK w2 vs' vr' h2 (fin f2)⟩
 rw [if_neg e1] at hK
 refine bre (fun e=>?_) fun e2=>?_
 ·rw [if_pos e] at hK
  exact moveR_calls h1 hok1 hw hn ha fun w2 vs' vr' h2 f2=>⟨_,rfl,hK w2 vs' vr' h2 (fin f2)⟩
 rw [if_neg e2] at hK
 refine bre (fun e=>?_) fun e3=>?_
 ·rw [if_pos e] at hK
  exact deleteR_calls h1 hok1 hw hn fun w2 vs' vr' h2 f2=>⟨_,rfl,hK w2 vs' vr' h2 (fin f2)⟩
 rw [if_neg e3] at hK
 refine bre (fun e=>?_) fun e4=>?_
 ·rw [if_pos e] at hK
  exact setNameR_calls h1 hok1 hn fun w2 vs' vr' h2 f2=>⟨_,rfl,hK w2 vs' vr' h2 (fin f2)⟩
 rw [if_neg e4] at hK
 refine bre (fun e=>?_) fun e5=>?_
 ·rw [if_pos e] at hK
  exact setTextR_calls h1 hok1 hn fun w2 vs' vr' h2 f2=>⟨_,rfl,hK w2 vs' vr' h2 (fin f2)⟩
 rw [if_neg e5] at hK
 refine bre (fun e=>?_) fun e6=>?_
 ·rw [if_pos e] at hK
  exact setAttrR_calls h1 hok1 hw hn fun w2 vs' vr' h2 f2=>⟨_,rfl,hK w2 vs' vr' h2 (fin f2)⟩
 rw [if_neg e6] at hK
 refine bre (fun e=>?_) fun e7=>?_
 ·rw [if_pos e] at hK
  exact dropAttrR_calls h1 hok1 hw hn fun w2 vs' vr' h2 f2=>⟨_,rfl,hK w2 vs' vr' h2 (fin f2)⟩
 rw [if_neg e7] at hK
 refine insertR_calls (wh:=3) h1 hok1 hw ht1 hn fun w2 vs' vr' h2 f2=>⟨_,_,rfl,?_⟩
 refine brn (fun hne=>?_) fun heq=>?_
 ·rw [if_pos hne] at hK
  rw [ins_errD hne] at h2
  exact hK w2 vs' vr' h2 (fin f2)
 ·rw [if_neg (by rw [heq];simp)] at hK
  have bo2:Blk w2 go (opC x) 50:=f2.blk bo fun e=>by have e:go=g:=e;omega
  simp only [bo2.cell,lds]
  have hs2:=f2.size
  exact deleteR_calls h2 (fun b hb=>hok b om) (ins_wf hw _ _ _) hn fun w3 vs3 vr3 h3 f3=>⟨_,rfl,hK w3 vs3 vr3 h3 (fin (f2.trans f3))⟩
theorem inR_calls {l:List Nat}{v:Sv}{x:Nat} (z1:v.2.1=l.length) (z2:Rd LHn w v.1 v.2.2 l) (hl:l.length<=1099511627776) (hK:R (.returned (.bool (decide (x∈l)))) w):CL 62 #[.slice v.1 v.2.1 v.2.2,.int .u64 (x:Nat)] w R:=by
 refine ok62 v.1 v.2.1 v.2.2 x ?_
 unfold F62
 refine⟨fun i w'=>∃k:Nat,i=k/\k<=l.length/\w'=w/\x∉l.take k,fun i _=>l.length-i.toNat,⟨0,rfl,om,by first | exact rfl | trivial,sm⟩,?_⟩
 rintro _ w1 ⟨k,rfl,hk,rfl,hno⟩
 unfold F62_l2
 refine brd (fun hlt=>?_) (fun hge=>?_)
 ·have hk2:k<l.length:=by omega
  refine z2.hn z1 rfl hk2 fun b o c0=>?_
  simp only [c0,lds]
  refine bre (fun e=>?_) fun e=>?_
  ·have:l[k]=x:=by omega
   rw [det (this ▸ gem hk2)] at hK
   exact hK
  ·refine⟨inR_i64 om om,⟨k+1,sm,om,by first | exact rfl | trivial,?_⟩,odz⟩
   rw [tsa hk2,List.mem_append,not_or]
   refine⟨hno,fun hm=>?_⟩
   have:x=l[k]:=by simpa using hm
   omega
 ·have hk2:k=l.length:=by omega
  subst hk2
  rw [tkl] at hno
  rw [def0 hno] at hK
  exact hK
theorem copyRM_calls (h:RM ok w g D vs vr) (hok:∀b,w.heap.size<=b->ok b=true)
  (hK:∀g' vs' vr' w',Below w.heap.size w w'->w.heap.size<=g'->RM ok w' g' D vs' vr'->R (.returned (.pointer (some ⟨g',0,none⟩))) w') :
  CL 12 #[.pointer (some ⟨g,0,none⟩)] w R:=by
 have hD:=h.rdr
 obtain⟨es,hn,hr,hes⟩:=h.im.row
 have hel:=hes.len
 have hxl:=hD.im.len
 have hrw:Rd LS8 w vs.1 vs.2.2 es:=sub_of_only.rd hr
 have hrs:RR LS8 w es vs:=⟨om,hn,hrw⟩
 refine ok12 (some ⟨g,0,none⟩) ?_
 unfold F12
 have hd:Below w.heap.size w w.drew:=(Below.refl _ _).drew
 refine⟨fun w'=>Below w.heap.size w w',hd,?_⟩
 simp only [nds]
 refine⟨_,_,_,fun w2 h2=>(hD.keep h2).c0,_,_,_,fun w2 h2=>(hD.keep h2).c1,?_⟩
 have fin:∀(u:Wd) (a k:Sv),Below w.heap.size w u->RR LS8 (above w.heap.size u) es a->RR LHn (above w.heap.size u) D.roots k->Al u #[.slice a.1 a.2.1 a.2.2,.slice k.1 k.2.1 k.2.2] 85 fun g16 w'=>R (.returned (.pointer (some g16))) w':=by
  intro u a k hu ha hk
  refine al fun g16 w' hb' b16 hge=>?_
  have hs:=hu.size
  have B:=btr hu hs hb'
  have hs1:Sub (above w.heap.size u) (vw ok g16 w'):=sub_only (fun b hb hh=>vw_iff.2 ⟨hok b (nbl hh),om⟩) fun b hb _=>hb'.block b hb
  have hs2:Sub (vw ok g w) (vw ok g16 w'):=sub_only (fun b hb hh=>vw_iff.2 ⟨(vw_iff.1 hh).1,om⟩) fun b hb _=>B.block b hb
  have ha':=ha.sub hs1
  refine hK g16 a k w' B om ⟨b16,⟨hxl,⟨es,ha'.2.1,ha'.2.2,hes.mono fun _ _ h=>h.sub hs2⟩,hk.sub hs1,hD.im.ok,hD.im.rok⟩,h.few⟩
 have up:∀{u u':Wd},w.heap.size<=u.heap.size->Sub (above u.heap.size u') (above w.heap.size u'):=fun hu=>sub_only (fun b hb hh=>Nat.ble_eq_true_of_le (by have:=nbl hh;omega)) fun b _ _=>rfl
 have nx:∀{u u':Wd},Below u.heap.size u u'->Sub (above w.heap.size u) (above w.heap.size u'):=fun hb=>sub_only (fun b _ hh=>hh) fun b hb2 _=>hb.block b hb2
 have cpS:∀{u:Wd}{g:Addr}{K:Value->Wd->Prop},Below w.heap.size w u->(∀v' u',Below u.heap.size u u'->RR LS8 (above w.heap.size u') es v'->K (.slice v'.1 v'.2.1 v'.2.2) u') ->
   Raw P0 (Builtin.append_ #[22,22] 22 #[.slice (some g) 0 0,.slice vs.1 vs.2.1 vs.2.2]) u K:=fun hb hK=>
  apC (L:=LS8) (.agg #[.int .u32 0,.bool false,.int .i64 0,.string ⟨#[]⟩,.slice none 0 0,.string ⟨#[]⟩,.int .u64 0,.slice none 0 0]) 104 rfl rfl rfl dc (hrs.keep hb) (nlr _) fun v' u' h1 h2=>hK v' u' h1 (h2.sub (up hb.size))
 have cpK:∀{u:Wd}{g:Addr}{K:Value->Wd->Prop},Below w.heap.size w u->(∀v' u',Below u.heap.size u u'->RR LHn (above w.heap.size u') D.roots v'->K (.slice v'.1 v'.2.1 v'.2.2) u') ->
   Raw P0 (Builtin.append_ #[23,23] 23 #[.slice (some g) 0 0,.slice vr.1 vr.2.1 vr.2.2]) u K:=fun hb hK=>
  apC (L:=LHn) (.int .u64 0) 8 rfl rfl rfl dc (hD.im.roots.keep hb) (nlr _) fun v' u' h1 h2=>hK v' u' h1 (h2.sub (up hb.size))
 refine⟨al fun g3 u1 e1 _ _=>?_,al fun g9 u1 e1 _ _=>?_⟩
 ·have U1:=btr hd hd.size e1
  refine⟨U1,cpS U1 fun a u2 e2 ra=>⟨_,_,_,rfl,?_⟩,al fun g9 u2 e2 _ _=>?_⟩
  ·have U2:=btr U1 U1.size e2
   refine⟨U2,al fun g9 u3 e3 _ _=>?_⟩
   have U3:=btr U2 U2.size e3
   exact⟨U3,cpK U3 fun k u4 e4 rk=>⟨_,_,_,rfl,fin u4 a k (btr U3 U3.size e4) (ra.sub (nx (btr e3 e3.size e4))) rk⟩⟩
  ·have U2:=btr U1 U1.size e2
   refine⟨U2,cpS U2 fun a u3 e3 ra=>⟨_,_,_,rfl,?_⟩⟩
   have U3:=btr U2 U2.size e3
   exact⟨U3,cpK U3 fun k u4 e4 rk=>⟨_,_,_,rfl,fin u4 a k (btr U3 U3.size e4) (ra.sub (nx e4)) rk⟩⟩
 ·have U1:=btr hd hd.size e1
  refine⟨U1,al fun g3 u2 e2 _ _=>?_⟩
  have U2:=btr U1 U1.size e2
  refine⟨U2,cpS U2 fun a u3 e3 ra=>⟨_,_,_,rfl,?_⟩⟩
  have U3:=btr U2 U2.size e3
  exact⟨U3,cpK U3 fun k u4 e4 rk=>⟨_,_,_,rfl,fin u4 a k (btr U3 U3.size e4) (ra.sub (nx e4)) rk⟩⟩
end
section
variable {w w1 w2 w0:Wd}{o o1 o2:Nat->Nat}{θ:Th}{S:PS}{M:Nat->Prop}{bs:List Nat}{R:RT}{loose:List Nat}
theorem slvF {v:Sv}{A:OA}{n c:Nat} (h:slV v=.slice A n c):v=(A,n,c):=by
 obtain⟨a1,a2,a3⟩:=v
 unfold slV at h
 simp only [Value.slice.injEq] at h
 obtain⟨rfl,rfl,rfl⟩:=h
 rfl
theorem handles_calls (h:PM w o θ S) {l:List Nat}{v:Sv} (hv:v.2.1=l.length) (hr:Rd LPt w v.1 v.2.2 (l.map (pb S.bs))) (hl:l.length<=1048576) (hll:∀x∈l,∃t,slA S.D.sl x=some t)
  (hK:∀v' w',Below w.heap.size w w'->Own LHn w' w.heap.size 42 (slV v') l->R (.returned (slV v')) w'):CL 80 #[.slice v.1 v.2.1 v.2.2] w R:=by
 refine ok80 v.1 v.2.1 v.2.2 ?_
 unfold F80
 rw [hv]
 refine⟨om,om,om,?_⟩
 refine al fun g8 w1 hb1 b1 hge1=>?_
 have o1:Own LHn w1 w.heap.size 42 (.slice (some ⟨g8,0,none⟩) 0 l.length) []:=Own.made b1 hge1 (by simp [zrow,LHn]) (by simp [maxLen];omega)
 refine⟨fun A n c j w'=>∃k:Nat,j=k/\k<=l.length/\Below w.heap.size w w'/\Own LHn w' w.heap.size 42 (.slice A n c) (l.take k),fun _ _ _ j _=>l.length-j.toNat,⟨0,rfl,om,hb1,by simpa using o1⟩,?_⟩
 rintro A n c j w2 ⟨k,rfl,hk,hb2,ho⟩
 unfold F80_l3
 refine brd (fun hlt=>?_) (fun hge=>?_)
 ·have hk2:k<l.length:=by omega
  refine (hr.keep hb2).pt (by rw [lmp]) rfl (k:=k) (by rw [lmp];exact hk2) fun bb oo cc=>?_
  rw [gmp] at cc
  simp only [cc,lds]
  obtain⟨t,ht⟩:=hll l[k] (gem hk2)
  refine hnd_calls (h.below hb2) ht fun w3 hb3=>⟨_,rfl,?_⟩
  have B3:=btr hb2 hb2.size hb3
  refine ap1 (L:=LHn) (x:=l[k]) (xs:=l.take k) (.int .u64 0) 8 rfl kr kr kr (ho.keep hb3) B3.size (by rw [ltk];omega) (by rw [ltk];simp [maxLen];omega) fun A' c' w4 o4 g4=>⟨A',_,c',rfl,inR_i64 om om,⟨k+1,sm,om,B3.trans g4.below,?_⟩,odz⟩
  rw [tsa hk2];exact o4
 ·have hk2:k=l.length:=by omega
  subst hk2
  rw [tkl] at ho
  exact hK (A,n,c) w2 hb2 ho
theorem Kids_calls (h:PM w o θ S) (hA:WfA (slA S.D.sl) S.D.roots loose) (hf:S.D.sl.length<=4096) {x:Nat}{s:Sl} (hx:slA S.D.sl x=some s)
  (hK:∀v' w',Below w.heap.size w w'->Own LHn w' w.heap.size 42 (slV v') s.kids->R (.returned (.tuple #[slV v',.int .i64 0])) w'):CL 120 #[.pointer (some ⟨θ.g,0,none⟩),.int .u64 (x:Nat)] w R:=by
 refine ok120 (some ⟨θ.g,0,none⟩) x ?_
 unfold F120
 obtain⟨i,i1,i2,i3,i4⟩:=h.of hx
 have hgen:=(h.rng s (mog i3)).gen
 have hxl:x<18446744073709551616:=by
  obtain⟨k,k1,k2,k3,k4⟩:=slA_iff.1 hx
  have:=(gsi.1 k2).1
  unfold hnd at k4;omega
 refine atL_calls h hxl fun w1 hb1=>⟨_,rfl,?_⟩
 have e:ptrL S x=some ⟨pb S.bs x,0,none⟩:=by unfold ptrL;rw [hx];rfl
 rw [e]
 simp only [nds,oin,Br_f]
 have h1:=h.below hb1
 obtain⟨v,cv,ov,rv⟩:=h1.cKids i2 i3
 obtain⟨A,c,hvf,hrd⟩:=ov.form
 have e1:=slvF hvf
 have cv':w1.cell? ⟨pb S.bs x,8,none⟩=some (.slice v.1 v.2.1 v.2.2):=cv
 simp only [cv',lds]
 refine handles_calls h1 (v:=v) (l:=s.kids) (by rw [e1];simp) (by rw [e1];exact hrd) (nlt (live_few (fun y hy=>by obtain⟨_,t,ht,_⟩:=(hA.kid x s hx).2 y hy;exact⟨t,ht⟩) (hA.kid x s hx).1) om) (fun y hy=>by obtain⟨_,t,ht,_⟩:=(hA.kid x s hx).2 y hy;exact⟨t,ht⟩) fun v' w2 hb2 ho=>⟨_,_,_,rfl,?_⟩
 exact hK v' w2 (btr hb1 hb1.size hb2) (ho.rebase fun k hk=>nlt hb1.size (ho.lt k hk).1)
theorem Roots_calls (h:PM w o θ S) (hA:WfA (slA S.D.sl) S.D.roots loose)
  (hK:∀v' w',Below w.heap.size w w'->Own LHn w' w.heap.size 42 (slV v') S.D.roots->R (.returned (slV v')) w'):CL 77 #[.pointer (some ⟨θ.g,0,none⟩)] w R:=by
 refine ok77 (some ⟨θ.g,0,none⟩) ?_
 unfold F77
 obtain⟨nv,rv,hd⟩:=h.doc
 obtain⟨A,c,hvf,hrd⟩:=hd.r1.form
 have e1:=slvF hvf
 have cv':w.cell? ⟨θ.g,1,none⟩=some (.slice rv.1 rv.2.1 rv.2.2):=by rw [hd.blk.cell];rfl
 simp only [NonNil_some,cv',lds]
 exact handles_calls h (v:=rv) (l:=S.D.roots) (by rw [e1];simp) (by rw [e1];exact hrd) h.rts.2 (fun y hy=>by obtain⟨_,t,ht,_⟩:=hA.root.2 y hy;exact⟨t,ht⟩) fun v' w2 hb2 ho=>⟨_,_,_,rfl,hK v' w2 hb2 ho⟩
theorem hx_lt (h:PM w o θ S) {x:Nat}{s:Sl} (hx:slA S.D.sl x=some s):x<18446744073709551616:=by
 obtain⟨i,i1,i2,i3,i4⟩:=h.of hx
 have hgen:=(h.rng s (mog i3)).gen
 have hf:=h.few
 obtain⟨k,k1,k2,k3,k4⟩:=slA_iff.1 hx
 have:=(gsi.1 k2).1
 unfold hnd at k4;omega
theorem Level_calls (h:PM w o θ S) {x c:Nat}{s:Sl} (hx:slA S.D.sl x=some s) (hc:Ch (slA S.D.sl) x c) (hc2:c<=64)
  (hK:∀w',Below w.heap.size w w'->R (.returned (.tuple #[.int .i64 ((c:Nat)-1:Int),.int .i64 0])) w'):CL 166 #[.pointer (some ⟨θ.g,0,none⟩),.int .u64 (x:Nat)] w R:=by
 refine ok166 (some ⟨θ.g,0,none⟩) x ?_
 unfold F166
 refine atL_calls h (hx_lt h hx) fun w1 hb1=>⟨_,rfl,?_⟩
 have e:ptrL S x=some ⟨pb S.bs x,0,none⟩:=by unfold ptrL;rw [hx];rfl
 have x0:x≠0:=fun e=>by subst e;rw [slA_zero] at hx;cases hx
 have e2:ptrH S.bs x=some ⟨pb S.bs x,0,none⟩:=by unfold ptrH;rw [if_neg x0]
 rw [e]
 simp only [oin,Br_f]
 rw [<-e2]
 exact level_calls (h.below hb1) (slA_zero _) hc hc2 ⟨_,rfl,hK w1 hb1⟩
theorem Parent_calls (h:PM w o θ S) (hA:WfA (slA S.D.sl) S.D.roots loose) {x:Nat}{s:Sl} (hx:slA S.D.sl x=some s)
  (hK:∀w',Below w.heap.size w w'->R (.returned (.tuple #[.int .u64 (s.parent:Nat),.int .i64 0])) w'):CL 121 #[.pointer (some ⟨θ.g,0,none⟩),.int .u64 (x:Nat)] w R:=by
 refine ok121 (some ⟨θ.g,0,none⟩) x ?_
 unfold F121
 obtain⟨i,i1,i2,i3,i4⟩:=h.of hx
 refine atL_calls h (hx_lt h hx) fun w1 hb1=>⟨_,rfl,?_⟩
 have e:ptrL S x=some ⟨pb S.bs x,0,none⟩:=by unfold ptrL;rw [hx];rfl
 rw [e]
 have h1:=h.below hb1
 simp only [oin,Br_f,NonNil_some,Addr.add_mk,nza,h1.cPar i2 i3,lds]
 rcases hA.par x s hx with hp | ⟨t,ht,_⟩
 ·have e2:ptrH S.bs s.parent=none:=by unfold ptrH;rw [if_pos hp]
  rw [e2]
  refine hndN_calls ⟨_,rfl,?_⟩
  have:=hK w1 hb1
  rw [hp] at this;exact this
 ·have p0:s.parent≠0:=fun e=>by rw [e,slA_zero] at ht;cases ht
  have e2:ptrH S.bs s.parent=some ⟨pb S.bs s.parent,0,none⟩:=by unfold ptrH;rw [if_neg p0]
  rw [e2]
  exact hnd_calls h1 ht fun w2 hb2=>⟨_,rfl,hK w2 (btr hb1 hb1.size hb2)⟩
theorem all_fewP {D:Im} (hS:WfS D.sl) (hA:WfA (slA D.sl) D.roots []) {r x:Nat} (hx:∃s,slA D.sl x=some s):(allA (slA D.sl) r x).length<=4096:=
 nlt (live_few (fun y hy=>all_live hA hx (fun z hz=>by simp at hz) hy) (all_nodup hA r x hx fun z hz=>by simp at hz)) hS.few
theorem allP_calls (h:PM w0 o θ S) (hA:WfA (slA S.D.sl) S.D.roots loose):∀(r:Nat) {l:List Nat}{v:Sv}{cc:Nat}{w:Wd}{A:OA}{n c:Nat}{xs:List Nat}{R:RT},v.2.1=l.length->Rd LPt w0 v.1 v.2.2 (l.map (pb S.bs))->l.length<=1048576->(∀x∈l,∃t,slA S.D.sl x=some t/\Ch (slA S.D.sl) x cc)->65<=cc+r ->
  Below w0.heap.size w0 w->Own LHn w w0.heap.size 42 (.slice A n c) xs->xs.length+(l.flatMap (allA (slA S.D.sl) r)).length<=4398046511104 ->
  (∀A' n' c' w',Below w0.heap.size w0 w'->Own LHn w' w0.heap.size 42 (.slice A' n' c') (xs++l.flatMap (allA (slA S.D.sl) r))->R (.returned (.slice A' n' c')) w') ->
  CL 142 #[.slice v.1 v.2.1 v.2.2,.slice A n c] w R:=by
 intro r
 induction r with
 | zero=>
  intro l v cc w A n c xs R hv hr hl hll hcr hb ho hlen hK
  have hl0:l=[]:=by
   cases l with
   | nil=>rfl
   | cons x l=>
    obtain⟨t,t1,t2⟩:=hll x sm
    obtain⟨c',h1,h2⟩:=hA.chain x t t1
    have:=t2.fn h2;omega
  subst hl0
  refine ok142 v.1 v.2.1 v.2.2 A n c ?_
  unfold F142
  refine⟨fun A' n' c' j w'=>j=0/\A'=A/\n'=n/\c'=c/\w'=w,fun _ _ _ _ _=>0,⟨rfl,rfl,rfl,rfl,rfl⟩,?_⟩
  rintro _ _ _ _ _ ⟨rfl,rfl,rfl,rfl,rfl⟩
  unfold F142_l2
  refine brd (fun hlt=>absurd hlt (by rw [hv];simp)) (fun _=>hK _ _ _ _ hb (by simpa using ho))
 | succ r ih=>
  intro l v cc w A n c xs R hv hr hl hll hcr hb ho hlen hK
  refine ok142 v.1 v.2.1 v.2.2 A n c ?_
  unfold F142
  refine⟨fun A' n' c' j w'=>∃k:Nat,j=k/\k<=l.length/\Below w0.heap.size w0 w'/\Own LHn w' w0.heap.size 42 (.slice A' n' c') (xs++(l.take k).flatMap (allA (slA S.D.sl) (r+1))),fun _ _ _ j _=>l.length-j.toNat,⟨0,rfl,om,hb,by simpa using ho⟩,?_⟩
  rintro A1 n1 c1 j w1 ⟨k,rfl,hk,hb1,ho1⟩
  unfold F142_l2
  refine brd (fun hlt=>?_) (fun hge=>?_)
  ·have hk2:k<l.length:=by omega
   refine (hr.keep hb1).pt (by rw [lmp];exact hv) rfl (k:=k) (by rw [lmp];exact hk2) fun bb oo cx=>?_
   rw [gmp] at cx
   simp only [cx,lds]
   obtain⟨t,t1,t2⟩:=hll l[k] (gem hk2)
   obtain⟨i,i1,i2,i3,i4⟩:=h.of t1
   have hdr:Below w1.heap.size w1 w1.drew:=(Below.refl _ _).drew
   have B1d:=btr hb1 hb1.size hdr
   obtain⟨kv,ck,ok,rk⟩:=h.cKids i2 i3
   obtain⟨Ak,ckk,hkf,hkr⟩:=ok.form
   have ek:=slvF hkf
   have hkids:∀y∈t.kids,∃u,slA S.D.sl y=some u/\u.parent=l[k]:=fun y hy=>((hA.kid _ t t1).2 y hy).2
   have hst:(l.take (k+1)).flatMap (allA (slA S.D.sl) (r+1))=(l.take k).flatMap (allA (slA S.D.sl) (r+1))++(l[k] :: t.kids.flatMap (allA (slA S.D.sl) r)):=by
    rw [tsa hk2,fma,<-allA_some t1];simp
   have hle:((l.take (k+1)).flatMap (allA (slA S.D.sl) (r+1))).length<=(l.flatMap (allA (slA S.D.sl) (r+1))).length:=by
    have e:l.flatMap (allA (slA S.D.sl) (r+1))=(l.take (k+1)).flatMap (allA (slA S.D.sl) (r+1))++(l.drop (k+1)).flatMap (allA (slA S.D.sl) (r+1)):=by rw [<-fma,tad]
    rw [e,lap];omega
   rw [hst,lap,lcn] at hle
   refine⟨fun w'=>Below w0.heap.size w0 w',B1d,?_⟩
   simp only [nds]
   refine⟨kv.1,kv.2.1,kv.2.2,fun w' hw=>(sub_below hw).cell ck,?_⟩
   refine hnd_calls (h.below B1d) t1 fun w2 hb2=>⟨_,rfl,?_⟩
   have B2:=btr B1d B1d.size hb2
   refine⟨B2,?_⟩
   refine ap1S (L:=LHn) (x:=l[k]) (S:=fun w'=>Below w0.heap.size w0 w') (.int .u64 0) 8 rfl kr kr kr ((ho1.keep hdr).keep hb2) B2.size (by simp only [lap];omega) (by simp only [maxLen,lap];omega) (fun w' hb'=>btr B2 B2.size hb') fun A3 c3 w3 o3 g3=>⟨A3,_,c3,rfl,?_⟩
   have B3:=B2.trans g3.below
   refine⟨B3,?_⟩
   refine ih (l:=t.kids) (v:=kv) (cc:=cc+1) (by rw [ek];simp) (by rw [ek];exact hkr) (nlt (live_few (fun y hy=>by obtain⟨u,hu,_⟩:=hkids y hy;exact⟨u,hu⟩) (hA.kid _ t t1).1) (by have:=h.few;omega)) (fun y hy=>by
    obtain⟨u,u1,u2⟩:=hkids y hy
    exact⟨u,u1,.succ (hA.ne0 u1) u1 (by rw [u2];exact t2)⟩) om B3 o3 (by simp only [lap,List.length_singleton];omega) fun A4 n4 c4 w4 hb4 o4=>⟨A4,n4,c4,rfl,inR_i64 om om,⟨k+1,sm,om,hb4,?_⟩,odz⟩
   rw [hst,<-laa]
   rw [laa _ [l[k]],List.singleton_append] at o4
   exact o4
  ·have hk2:k=l.length:=by omega
   subst hk2
   rw [tkl] at ho1
   exact hK _ _ _ _ hb1 ho1
theorem AllT_calls (h:PM w o θ S) (hS:WfS S.D.sl) (hA:WfA (slA S.D.sl) S.D.roots []) {x:Nat} (hxl:x<18446744073709551616) (h0:x≠0)
  (hK:∀v' w',Below w.heap.size w w'->(∀s,slA S.D.sl x=some s->Own LHn w' w.heap.size 42 (slV v') (allA (slA S.D.sl) 65 x))->R (.returned (.tuple #[slV v',.int .i64 (if (slA S.D.sl x).isSome=true then 0 else 8)])) w'):CL 90 #[.pointer (some ⟨θ.g,0,none⟩),.int .u64 (x:Nat)] w R:=by
 refine ok90 (some ⟨θ.g,0,none⟩) x ?_
 unfold F90
 refine bre (fun e=>absurd om h0) (fun _=>?_)
 refine atL_calls h hxl fun w1 hb1=>⟨_,rfl,?_⟩
 have h1:=h.below hb1
 cases hx:slA S.D.sl x with
 | none=>
  have e:ptrL S x=none:=by unfold ptrL;rw [hx];rfl
  rw [e]
  simp only [Option.isNone_none,Br_t]
  have:=hK (none,0,0) w1 hb1 (fun s hs=>by rw [hx] at hs;cases hs)
  rw [hx] at this
  exact this
 | some s=>
  have e:ptrL S x=some ⟨pb S.bs x,0,none⟩:=by unfold ptrL;rw [hx];rfl
  rw [e]
  simp only [oin,Br_f]
  refine al fun g20 w2 hb2 b2 hge2=>?_
  have B2:=btr hb1 hb1.size hb2
  obtain⟨c,c1,c2⟩:=hA.chain x s hx
  have hlen:=all_fewP hS hA (r:=65) ⟨s,hx⟩
  have hone:([x]:List Nat).flatMap (allA (slA S.D.sl) 65)=allA (slA S.D.sl) 65 x:=by simp
  refine allP_calls (h.below B2) hA 65 (l:=[x]) (v:=(some ⟨g20,0,none⟩,1,1)) (cc:=c) (xs:=[]) rfl ?_ sm (fun y hy=>by rw [msg] at hy;subst hy;exact⟨s,hx,c2⟩) om (Below.refl _ _) (.inl ⟨rfl,rfl⟩) (by rw [hone];simp only [List.length_nil];omega) fun A' n' c' w' hb' ho'=>⟨A',n',c',rfl,?_⟩
  ·refine⟨sm,by simp [maxLen],fun h0=>(by cases h0),fun _=>⟨g20,0,rfl,fun j u hj=>?_⟩⟩
   rw [List.map_singleton,LPt.all_one] at hj
   rw [b2.cell];simpa [LPt] using hj
  ·rw [hone,lna] at ho'
   have:=hK (A',n',c') w' (btr B2 B2.size hb') (fun s' _=>ho'.rebase fun k hk=>nlt B2.size (ho'.lt k hk).1)
   rw [hx] at this
   exact this
end
section
variable {P:Program}{q:IntKind}{w:Wd}{b:Nat}{f:Int->Option Value}{t kt et:TypeId}
theorem erase_list (es:Array MapEntry) (j:Nat):(es.eraseIdxIfInBounds j).toList=es.toList.eraseIdx j:=by
 unfold Array.eraseIdxIfInBounds
 split
 ·simp
 ·rename_i h
  rw [List.eraseIdx_of_length_le (by simpa using h)]
theorem MpE.drop {es:Array MapEntry}{clock:Nat} (he:MpE q es clock f) {k:Int}{j:Nat}{y:MapEntry} (hj:es.toList[j]?=some y) (hy:y.key=.int q k):MpE q (es.eraseIdxIfInBounds j) clock (upd f k none):=by
 have hl:=erase_list es j
 have hsub:(es.toList.eraseIdx j).Sublist es.toList:=List.eraseIdx_sublist _ _
 have hmem:∀x∈es.toList.eraseIdx j,x∈es.toList/\x.key≠.int q k:=fun x hx=>by
  refine⟨hsub.subset hx,fun e=>?_⟩
  obtain⟨i,hi⟩:=List.mem_iff_getElem?.1 hx
  rw [List.getElem?_eraseIdx] at hi
  have hn:=he.one
  have key:∀i',i'≠j->es.toList[i']?=some x->False:=fun i' hne hi'=>by
   obtain⟨h1,h2⟩:=gsi.1 hi'
   obtain⟨h3,h4⟩:=gsi.1 hj
   have hp:=pwi.1 hn
   rcases Nat.lt_or_ge i' j with h | h
   ·have:=hp i' j (by simpa using h1) (by simpa using h3) h
    rw [gmp,gmp,h2,h4,e,hy] at this
    exact this rfl
   ·have:=hp j i' (by simpa using h3) (by simpa using h1) om
    rw [gmp,gmp,h2,h4,e,hy] at this
    exact this rfl
  split at hi
  ·exact key i om hi
  ·exact key (i+1) om hi
 refine⟨fun x hx=>?_,fun a u hu=>?_,?_,fun x hx=>?_,?_⟩
 ·rw [hl] at hx
  obtain⟨h1,h2⟩:=hmem x hx
  obtain⟨a,h3,h4⟩:=he.key x h1
  refine⟨a,h3,?_⟩
  unfold upd
  rw [if_neg (fun e=>h2 (by rw [h3,e]))];exact h4
 ·unfold upd at hu
  by_cases e:a=k
  ·rw [if_pos e] at hu;cases hu
  ·rw [if_neg e] at hu
   obtain⟨x,hx,h1⟩:=he.has a u hu
   refine⟨x,?_,h1⟩
   rw [hl]
   obtain⟨i,hi⟩:=List.mem_iff_getElem?.1 hx
   have hne:i≠j:=fun e2=>by
    subst e2;rw [hj] at hi;cases hi
    rw [hy] at h1;injection h1 with _ h1;exact e h1.symm
   rw [List.mem_iff_getElem?]
   rcases Nat.lt_or_ge i j with h | h
   ·exact⟨i,by rw [List.getElem?_eraseIdx,if_pos h];exact hi⟩
   ·exact⟨i-1,by rw [List.getElem?_eraseIdx,if_neg om,show i-1+1=i by omega];exact hi⟩
 ·rw [hl];exact he.one.sublist (hsub.map _)
 ·rw [hl] at hx;exact he.born x (hsub.subset hx)
 ·rw [hl];exact he.age.sublist (hsub.map _)
theorem Mp.del (h:Mp q w b f) (ht:P.underlying t=some (.map kt et)) (hk:P.underlying kt=some (.int q)) (k:Int) {ty:TypeId}{K:Value->Wd->Prop}
  (hK:∀w1,Mp q w1 b (upd f k none)->Fm (·=b) w w1->K (.tuple #[]) w1):Raw P (Builtin.delete_ #[t,kt] ty #[.map (some b),.int q k]) w K:=by
 obtain⟨es,clock,hb,he,h2⟩:=h.find k
 have hc:(Instr.checkKey es.isEmpty 10000 kt (.int q k)).run P w=.ok () w:=MapKept.run_checkKey (k:=.int q k) hk (by simp [MapKept.IsKey]) _ 9999
 rcases h2 with ⟨h1,h2⟩ | ⟨j,x,h3,h4,h1,h2⟩
 ·refine⟨_,_,?_,hK { w with heap:=w.heap.setIfInBounds b (.map es clock) } ⟨es,clock,(MapKept.heap_set hb).1,?_⟩ (set_fm w b _)⟩
  ·simp [Builtin.delete_,run_underlying ht,MapKept.run_getObj_map hb,hc,MapKept.run_findKey hk h2,MapKept.run_setObj_map _ hb,Result.andThen]
  ·have e:upd f k none=f:=funext fun a=>by
    unfold upd
    by_cases e:a=k
    ·rw [if_pos e,e,h1]
    ·rw [if_neg e]
   rw [e];exact he
 ·refine⟨_,_,?_,hK { w with heap:=w.heap.setIfInBounds b (.map (es.eraseIdxIfInBounds j) clock) } ⟨_,clock,(MapKept.heap_set hb).1,he.drop h3 h4⟩ (set_fm w b _)⟩
  simp [Builtin.delete_,run_underlying ht,MapKept.run_getObj_map hb,hc,MapKept.run_findKey hk h2,MapKept.run_setObj_map _ hb,Result.andThen]
theorem Mp.len (h:Mp q w b f) (ht:P.underlying t=some (.map kt et)) {l:List Int} (hn:l.Nodup) (hl:∀k,k∈l↔∃v,f k=some v) {ty:TypeId}{K:Value->Wd->Prop} (hK:K (.int .i64 (l.length:Nat)) w) :
  Raw P (Builtin.len_ #[t] ty #[.map (some b)]) w K:=by
 obtain⟨es,clock,hb,he⟩:=h
 have hsz:es.size=l.length:=by
  letI:DecidableEq Value:=fun a b=>Classical.propDecidable (a=b)
  have h1:(es.toList.map (·.key)).length<=(l.map (fun k=>Value.int q k)).length:=by
   refine nodup_sub he.one fun x hx=>?_
   obtain⟨e,he',rfl⟩:=List.mem_map.1 hx
   obtain⟨k,k1,k2⟩:=he.key e he'
   rw [k1]
   exact List.mem_map.2 ⟨k,(hl k).2 ⟨_,k2⟩,rfl⟩
  have h2:(l.map (fun k=>Value.int q k)).length<=(es.toList.map (·.key)).length:=by
   refine nodup_sub ?_ fun x hx=>?_
   ·refine List.pairwise_map.2 (hn.imp fun {a c} hac e=>hac ?_)
    injection e
   ·obtain⟨k,hk,rfl⟩:=List.mem_map.1 hx
    obtain⟨v,hv⟩:=(hl k).1 hk
    obtain⟨x,h3,h4⟩:=he.has k v hv
    exact List.mem_map.2 ⟨x,h3,h4⟩
  simp at h1 h2;omega
 refine⟨_,w,?_,hK⟩
 simp [Builtin.len_,run_underlying ht,MapKept.run_getObj_map hb,hsz,goInt]
end
end Go.Proofs.YtnbgiacnbheonaaGreatDoor
namespace Go.Proofs.YtnbgiacnbheonaaGreatDoor
open Go.Vc
def F146_j4 (d:OA)(n:Int)(c:OA)(a b:Nat)(h:Wd)(R:RT):Prop:=CL 191 #[.pointer d,.slice c a b] h (post R fun v2 f=>v2=(.tuple #[])/\NonNil d fun p25=>CL 192 #[(.pointer (some p25)),.int .u64 n] f (post R fun v3 e=>∃g,v3=(.int .i64 g)/\R (.returned (.int .i64 g)) e))
def F146 (d:OA)(n:Int)(g:Wd)(R:RT):Prop:=NonNil d fun p9=>CL 90 #[(.pointer (some p9)),.int .u64 n] g (post R fun v w1=>∃e a b c,v=(.tuple #[.slice e a b,.int .i64 c])/\∃J4:Wd->Prop,(∀f,J4 f->F146_j4 d n e a b f R)/\(Br (c != (0:Int)) (R (.returned (.int .i64 8)) w1) (Br (n==(0:Int)) (R (.returned (.int .i64 8)) w1) (J4 w1))))
theorem ok146 (d:OA)(n:Int){w:Wd}{R:RT} (h:F146 d n w R):CL 146 #[.pointer d,.int .u64 n] w R:=
 vk ⟨29,⟨[]⟩,[(4,⟨[],[(4,5),(15,21)]⟩)],[]⟩ Tryz.func146 h
def F150 (d:OA)(n:Int)(c:ByteArray)(b:Wd)(R:RT):Prop:=NonNil d fun p8=>CL 159 #[(.pointer (some p8)),.int .u64 n,.string c] b (post R fun v w1=>∃a,v=(.int .i64 a)/\R (.returned (.int .i64 a)) w1)
theorem ok150 (d:OA)(n:Int)(a:ByteArray){w:Wd}{R:RT} (h:F150 d n a w R):CL 150 #[.pointer d,.int .u64 n,.string a] w R:=
 vk ⟨13,⟨[]⟩,[],[]⟩ Tryz.func150 h
def F26_j4 (a b:Int)(c:Wd)(R:RT):Prop:=R (.returned (.tuple #[.int .u64 a,.int .i64 b])) c
def F26 (d:OA)(u y z:Int)(aa:ByteArray)(ab:OA)(ac ad:Nat)(ae:ByteArray)(af:OA)(ag ah:Nat)(t:Wd)(R:RT):Prop:=Al t #[.int .i64 z,.string aa,.slice ab ac ad,.string ae,.slice af ag ah] 48 fun g7 w1=>∃S:Wd->Prop,S w1.drew/\NonNil d fun p14=>∃j,Held S g7 (.int .i64 j)/\∃i,Held S (g7.add 1) (.string i)/\∃g c e,Held S (g7.add 2) (.slice g c e)/\∃h,Held S (g7.add 3) (.string h)/\∃f b a,Held S (g7.add 4) (.slice f b a)/\CL 64 #[(.pointer (some p14)),.int .i64 u,.int .u64 y,.agg #[.int .i64 j,.string i,.slice g c e,.string h,.slice f b a]] w1.drew (post R fun v n=>∃k m,v=(.tuple #[.int .u64 k,.int .i64 m])/\∃J4:Wd->Prop,(∀p,J4 p->F26_j4 k m p R)/\(Br (m==(0:Int)) (CL 66 #[.pointer d,.int .u64 k] n (post R fun v2 p=>∃r,v2=(.int .u64 r)/\CL 65 #[.pointer d,.int .u64 k,.int .u64 r] p (post R fun v3 q=>∃s,v3=(.int .u64 s)/\J4 q))) (J4 n)))
theorem ok26 (d:OA)(a b c:Int)(e:ByteArray)(f:OA)(g i:Nat)(j:ByteArray)(k:OA)(m n:Nat){w:Wd}{R:RT} (h:F26 d a b c e f g i j k m n w R):CL 26 #[.pointer d,.int .i64 a,.int .u64 b,.agg #[.int .i64 c,.string e,.slice f g i,.string j,.slice k m n]] w R:=
 vk ⟨32,⟨[]⟩,[(4,⟨[],[(22,30)]⟩)],[]⟩ Tryz.func26 h
def F145_j6 (a:Int)(b:Wd)(R:RT):Prop:=R (.returned (.int .i64 a)) b
def F145 (d:OA)(n q r:Int)(p:Wd)(R:RT):Prop:=NonNil d fun p13=>CL 160 #[(.pointer (some p13)),.int .u64 n,.int .i64 q,.int .u64 r] p (post R fun v w1=>∃j,v=(.int .i64 j)/\∃J6:Wd->Prop,(∀h,J6 h->F145_j6 j h R)/\(Br (j==(0:Int)) (NonNil d fun p23=>CL 90 #[(.pointer (some p23)),.int .u64 n] w1 (post R fun v2 h=>∃e a b c,v2=(.tuple #[.slice e a b,.int .i64 c])/\CL 191 #[.pointer d,.slice e a b] h (post R fun v3 f=>v3=(.tuple #[])/\CL 66 #[.pointer d,.int .u64 n] f (post R fun v4 g=>∃m,v4=(.int .u64 m)/\CL 65 #[.pointer d,.int .u64 n,.int .u64 m] g (post R fun v5 i=>∃k,v5=(.int .u64 k)/\J6 i))))) (J6 w1)))
theorem ok145 (d:OA)(n a b:Int){w:Wd}{R:RT} (h:F145 d n a b w R):CL 145 #[.pointer d,.int .u64 n,.int .i64 a,.int .u64 b] w R:=
 vk ⟨39,⟨[]⟩,[(6,⟨[],[(10,38)]⟩)],[]⟩ Tryz.func145 h
def F149 (d:OA)(n:Int)(c e:ByteArray)(b:Wd)(R:RT):Prop:=NonNil d fun p10=>CL 158 #[(.pointer (some p10)),.int .u64 n,.string c,.string e] b (post R fun v w1=>∃a,v=(.int .i64 a)/\R (.returned (.int .i64 a)) w1)
theorem ok149 (d:OA)(n:Int)(a b:ByteArray){w:Wd}{R:RT} (h:F149 d n a b w R):CL 149 #[.pointer d,.int .u64 n,.string a,.string b] w R:=
 vk ⟨16,⟨[]⟩,[],[]⟩ Tryz.func149 h
def F147 (d:OA)(n:Int)(c:ByteArray)(b:Wd)(R:RT):Prop:=NonNil d fun p8=>CL 156 #[(.pointer (some p8)),.int .u64 n,.string c] b (post R fun v w1=>∃a,v=(.int .i64 a)/\R (.returned (.int .i64 a)) w1)
theorem ok147 (d:OA)(n:Int)(a:ByteArray){w:Wd}{R:RT} (h:F147 d n a w R):CL 147 #[.pointer d,.int .u64 n,.string a] w R:=
 vk ⟨13,⟨[]⟩,[],[]⟩ Tryz.func147 h
def F148 (d:OA)(n:Int)(c:ByteArray)(b:Wd)(R:RT):Prop:=NonNil d fun p8=>CL 157 #[(.pointer (some p8)),.int .u64 n,.string c] b (post R fun v w1=>∃a,v=(.int .i64 a)/\R (.returned (.int .i64 a)) w1)
theorem ok148 (d:OA)(n:Int)(a:ByteArray){w:Wd}{R:RT} (h:F148 d n a w R):CL 148 #[.pointer d,.int .u64 n,.string a] w R:=
 vk ⟨13,⟨[]⟩,[],[]⟩ Tryz.func148 h
def F110 (d:OA)(n:Int)(w_:Wd)(R:RT):Prop:=Al w_ #[.int .u64 0,.int .u64 0,.int .i64 0] 195 fun g4 w1=>NonNil d fun p11=>LdM (w1.cell? (p11.add 9)) fun ja=>Raw P0 (Instr.lookup 111 (.map ja) (.int .u64 n) true) w1 fun v ha=>∃b a aa,v=(.tuple #[.agg #[.int .u64 b,.int .u64 a],.bool aa])/\Al ha #[.int .u64 0,.int .u64 0] 213 fun g6 ia=>St ia g6 (.int .u64 b) fun ea=>St ea (g6.add 1) (.int .u64 a) fun ca=>Br (!aa) (St ca g4 (.int .u64 0) fun fa=>St fa (g4.add 1) (.int .u64 0) fun ba=>St ba (g4.add 2) (.int .i64 0) fun da=>LdI .u64 (da.cell? g4) fun res0_0=>LdI .u64 (da.cell? (g4.add 1)) fun res0_1=>LdI .i64 (da.cell? (g4.add 2)) fun res0_2=>R (.returned (.tuple #[.agg #[.int .u64 res0_0,.int .u64 res0_1,.int .i64 res0_2],.int .i64 8])) da) (Al ca #[.int .u64 0,.int .u64 0,.int .i64 0] 195 fun s fa=>∃S:Wd->Prop,S fa.drew/\NonNil d fun p23=>∃ka,Held S g6 (.int .u64 ka)/\CL 165 #[(.pointer (some (p23.add 5))),.int .u64 ka] fa.drew (post R fun v2 da=>∃h e,v2=(.tuple #[.int .u64 h,.int .i64 e])/\St da s (.int .u64 h) fun ga=>∃S2:Wd->Prop,S2 ga.drew/\NonNil d fun p33=>∃ma,Held S2 (g6.add 1) (.int .u64 ma)/\CL 165 #[(.pointer (some (p33.add 5))),.int .u64 ma] ga.drew (post R fun v3 y=>∃m z,v3=(.tuple #[.int .u64 m,.int .i64 z])/\St y (s.add 1) (.int .u64 m) fun i=>NonNil d fun p43=>CL 166 #[(.pointer (some p43)),.int .u64 n] i (post R fun v4 g=>∃q p,v4=(.tuple #[.int .i64 q,.int .i64 p])/\St g (s.add 2) (.int .i64 q) fun k=>LdI .u64 (k.cell? s) fun u=>LdI .u64 (k.cell? (s.add 1)) fun f=>LdI .i64 (k.cell? (s.add 2)) fun j=>St k g4 (.int .u64 u) fun c=>St c (g4.add 1) (.int .u64 f) fun t=>St t (g4.add 2) (.int .i64 j) fun r=>LdI .u64 (r.cell? g4) fun res0_0=>LdI .u64 (r.cell? (g4.add 1)) fun res0_1=>LdI .i64 (r.cell? (g4.add 2)) fun res0_2=>R (.returned (.tuple #[.agg #[.int .u64 res0_0,.int .u64 res0_1,.int .i64 res0_2],.int .i64 0])) r))))
theorem ok110 (d:OA)(n:Int){w:Wd}{R:RT} (h:F110 d n w R):CL 110 #[.pointer d,.int .u64 n] w R:=
 vk ⟨51,⟨[]⟩,[],[]⟩ Tryz.func110 h
def F58_l4 (d j:OA)(e:Nat)(L4:OA->Nat->Nat->Int->Wd->Prop)(ab:OA)(ac ad:Nat)(ca:Int)(aa:Wd)(R:RT):Prop:=Br (decide (ca<(e:Int))) (IdxA j e ca 1 fun z=>LdI .u64 (aa.cell? z) fun ba=>CL 110 #[.pointer d,.int .u64 ba] aa (post R fun v2 t=>∃b a c g,v2=(.tuple #[.agg #[.int .u64 b,.int .u64 a,.int .i64 c],.int .i64 g])/\Al t #[.int .u64 0,.int .u64 0,.int .i64 0] 195 fun s p=>St p s (.int .u64 b) fun m=>St m (s.add 1) (.int .u64 a) fun q=>St q (s.add 2) (.int .i64 c) fun k=>LdI .u64 (k.cell? s) fun i=>LdI .u64 (k.cell? (s.add 1)) fun h=>LdI .i64 (k.cell? (s.add 2)) fun f=>Al k #[.int .u64 ba,.int .u64 i,.int .u64 h,.int .i64 f] 199 fun g36 n=>Raw P0 (Builtin.append_ #[120,120] 120 #[.slice ab ac ad,(.slice (some g36) 1 1)]) n fun v3 r=>∃y u v,v3=(.slice y u v)/\InR .i64 (ca+(1:Int))/\L4 y u v (ca+(1:Int)) r)) (R (.returned (.slice ab ac ad)) aa)
def F58 (d:OA)(i:Wd)(R:RT):Prop:=NonNil d fun p12=>CL 90 #[(.pointer (some p12)),.int .u64 0] i (post R fun v w1=>∃e a b c,v=(.tuple #[.slice e a b,.int .i64 c])/\0<=(0:Int)/\(0:Int)<=(a:Int)/\((32:Nat):Int)*(a:Int)<=281474976710656/\Al w1 (zrow #[.int .u64 0,.int .u64 0,.int .u64 0,.int .i64 0] (((a:Int)).toNat*4)) 199 fun g19 g=>∃(I:OA->Nat->Nat->Int->Wd->Prop)(m:OA->Nat->Nat->Int->Wd->Nat),I (some g19) ((0:Int)).toNat ((a:Int)).toNat (0:Int) g/\∀out outN outC h f,I out outN outC h f->F58_l4 d e a (fun out' outN' outC' h' w2=>I out' outN' outC' h' w2/\m out' outN' outC' h' w2<m out outN outC h f) out outN outC h f R)
theorem ok58 (d:OA){w:Wd}{R:RT} (h:F58 d w R):CL 58 #[.pointer d] w R:=
 vk ⟨40,⟨[]⟩,[],[(4,⟨[(5,(.s .slice)),(22,(.s (.int .i64)))],[(5,10),(22,39)]⟩)]⟩ Tryz.func58 h
def F30 (d:OA)(b:Wd)(R:RT):Prop:=NonNil d fun p4=>CL 76 #[(.pointer (some p4))] b (post R fun v w1=>∃a,v=(.pointer a)/\R (.returned (.pointer a)) w1)
theorem ok30 (d:OA){w:Wd}{R:RT} (h:F30 d w R):CL 30 #[.pointer d] w R:=
 vk ⟨7,⟨[]⟩,[],[]⟩ Tryz.func30 h
def F66_j12 (t:Int)(a:Wd)(R:RT):Prop:=R (.returned (.int .u64 t)) a
def F66_l7 (d:OA)(n:Int)(l:OA)(lN:Nat)(j:Int->Wd->Prop)(L7:Int->Int->Wd->Prop)(t e:Int)(i:Wd)(R:RT):Prop:=Br (decide (e<(lN:Int))) (IdxA l lN e 1 fun f=>LdI .u64 (i.cell? f) fun g=>Br (g==n) (j t i) (NonNil d fun p50=>LdM (i.cell? (p50.add 9)) fun h=>Raw P0 (Instr.lookup 111 (.map h) (.int .u64 g) false) i fun v4 c=>∃b a,v4=(.agg #[.int .u64 b,.int .u64 a])/\InR .i64 (e+(1:Int))/\L7 a (e+(1:Int)) c)) (j t i)
def F66_j5 (d:OA)(n c:Int)(l:OA)(lN lC:Nat)(h:Wd)(R:RT):Prop:=NonNil d fun p34=>LdM (h.cell? (p34.add 9)) fun i=>Raw P0 (Instr.lookup 111 (.map i) (.int .u64 c) false) h fun v3 e=>∃b a,v3=(.agg #[.int .u64 b,.int .u64 a])/\∃J12:Int->Wd->Prop,(∀t f,J12 t f->F66_j12 t f R)/\(∃(I:Int->Int->Wd->Prop)(m:Int->Int->Wd->Nat),I b (0:Int) e/\∀t g f,I t g f->F66_l7 d n l lN J12 (fun t' g' w2=>I t' g' w2/\m t' g' w2<m t g f) t g f R)
def F66 (d:OA)(n:Int)(p:Wd)(R:RT):Prop:=NonNil d fun p13=>CL 121 #[(.pointer (some p13)),.int .u64 n] p (post R fun v w1=>∃g f,v=(.tuple #[.int .u64 g,.int .i64 f])/\NonNil d fun p20=>CL 77 #[(.pointer (some p20))] w1 (post R fun v2 k=>∃m h i,v2=(.slice m h i)/\∃J5:OA->Nat->Nat->Wd->Prop,(∀l lN lC j,J5 l lN lC j->F66_j5 d n g l lN lC j R)/\(Br (g != (0:Int)) (NonNil d fun p27=>CL 120 #[(.pointer (some p27)),.int .u64 g] k (post R fun v3 j=>∃e a b c,v3=(.tuple #[.slice e a b,.int .i64 c])/\J5 e a b j)) (J5 m h i k))))
theorem ok66 (d:OA)(n:Int){w:Wd}{R:RT} (h:F66 d n w R):CL 66 #[.pointer d,.int .u64 n] w R:=
 vk ⟨58,⟨[]⟩,[(12,⟨[(8,(.s (.int .u64)))],[(8,57)]⟩),(5,⟨[(7,(.s .slice))],[(7,33)]⟩)],[(7,⟨[(8,(.s (.int .u64))),(42,(.s (.int .i64)))],[(8,11),(42,57)]⟩)]⟩ Tryz.func66 h
def F65_j13 (d:OA)(n:Int)(g7:Addr)(g:Wd)(R:RT):Prop:=∃S:Wd->Prop,S g.drew/\NonNil d fun p62=>∃e,Held S (p62.add 9) (.map e)/\∃b,Held S g7 (.int .u64 b)/\∃a,Held S (g7.add 1) (.int .u64 a)/\Raw P0 (Instr.mapUpdate 111 (.map e) (.int .u64 n) (.agg #[.int .u64 b,.int .u64 a])) g.drew fun _ c=>LdI .u64 (c.cell? (g7.add 1)) fun f=>R (.returned (.int .u64 f)) c
def F65_l6 (d:OA)(n:Int)(g7:Addr)(c:OA)(a:Nat)(L6:Int->Int->Wd->Prop)(s k:Int)(r:Wd)(R:RT):Prop:=Br (decide (k<(a:Int))) (IdxA c a k 1 fun j=>LdI .u64 (r.cell? j) fun q=>CL 65 #[.pointer d,.int .u64 q,.int .u64 s] r (post R fun v3 i=>∃p,v3=(.int .u64 p)/\InR .i64 (k+(1:Int))/\L6 p (k+(1:Int)) i)) (NonNil d fun p45=>CL 119 #[(.pointer (some (p45.add 5))),.int .u64 s] r (post R fun v3 i=>∃b e,v3=(.tuple #[.int .u64 b,.int .i64 e])/\St i (g7.add 1) (.int .u64 b) fun h=>∃J13:Wd->Prop,(∀f,J13 f->F65_j13 d n g7 f R)/\(NonNil d fun p53=>LdM (h.cell? (p53.add 9)) fun m=>Br (m).isNone (AlM h fun r58 f=>NonNil d fun p59=>St f (p59.add 9) (.map (some r58)) fun g=>J13 g) (J13 h))))
def F65 (d:OA)(n s:Int)(r:Wd)(R:RT):Prop:=Al r #[.int .u64 0,.int .u64 0] 213 fun g7 w1=>NonNil d fun p15=>CL 119 #[(.pointer (some (p15.add 5))),.int .u64 s] w1 (post R fun v j=>∃g f,v=(.tuple #[.int .u64 g,.int .i64 f])/\St j g7 (.int .u64 g) fun h=>LdI .u64 (h.cell? g7) fun q=>NonNil d fun p26=>CL 120 #[(.pointer (some p26)),.int .u64 n] h (post R fun v2 i=>∃c a b e,v2=(.tuple #[.slice c a b,.int .i64 e])/\∃(I:Int->Int->Wd->Prop)(m:Int->Int->Wd->Nat),I q (0:Int) i/\∀last p k,I last p k->F65_l6 d n g7 c a (fun last' p' w2=>I last' p' w2/\m last' p' w2<m last p k) last p k R))
theorem ok65 (d:OA)(n a:Int){w:Wd}{R:RT} (h:F65 d n a w R):CL 65 #[.pointer d,.int .u64 n,.int .u64 a] w R:=
 vk ⟨69,⟨[]⟩,[(13,⟨[],[(52,61)]⟩)],[(6,⟨[(8,(.s (.int .u64))),(34,(.s (.int .i64)))],[(8,13),(34,43)]⟩)]⟩ Tryz.func65 h
def F191_l1 (d y:OA)(allN:Nat)(L1:Int->Wd->Prop)(u:Int)(q:Wd)(R:RT):Prop:=Br (decide (u<(allN:Int))) (IdxA y allN u 1 fun n=>LdI .u64 (q.cell? n) fun s=>∃S:Wd->Prop,S q.drew/\NonNil d fun p13=>NonNil d fun p16=>∃m,Held S (p16.add 9) (.map m)/\Raw P0 (Instr.lookup 111 (.map m) (.int .u64 s) false) q.drew fun v i=>∃c e,v=(.agg #[.int .u64 c,.int .u64 e])/\CL 220 #[(.pointer (some (p13.add 5))),.int .u64 c] i (post R fun v2 f=>∃r,v2=(.int .i64 r)/\∃S2:Wd->Prop,S2 f.drew/\NonNil d fun p24=>NonNil d fun p27=>∃k,Held S2 (p27.add 9) (.map k)/\Raw P0 (Instr.lookup 111 (.map k) (.int .u64 s) false) f.drew fun v3 j=>∃a b,v3=(.agg #[.int .u64 a,.int .u64 b])/\CL 220 #[(.pointer (some (p24.add 5))),.int .u64 b] j (post R fun v4 g=>∃t,v4=(.int .i64 t)/\NonNil d fun p35=>LdM (g.cell? (p35.add 9)) fun p=>Raw P0 (Builtin.delete_ #[111,42] 0 #[.map p,.int .u64 s]) g fun v5 h=>InR .i64 (u+(1:Int))/\L1 (u+(1:Int)) h))) (R (.returned (.tuple #[])) q)
def F191 (d c:OA)(e f:Nat)(b:Wd)(R:RT):Prop:=∃(I:Int->Wd->Prop)(m:Int->Wd->Nat),I (0:Int) b/\∀a w1,I a w1->F191_l1 d c e (fun a' w2=>I a' w2/\m a' w2<m a w1) a w1 R
theorem ok191 (d a:OA)(b c:Nat){w:Wd}{R:RT} (h:F191 d a b c w R):CL 191 #[.pointer d,.slice a b c] w R:=
 vk ⟨40,⟨[]⟩,[],[(1,⟨[(8,(.s (.int .i64)))],[(5,6),(8,40)]⟩)]⟩ Tryz.func191 h
def F119_j17 (c:Addr)(a:Wd)(R:RT):Prop:=LdI .u64 (a.cell? c) fun b=>R (.returned (.tuple #[.int .u64 b,.int .i64 0])) a
def F119_j13 (l a:OA)(i:Addr)(h:Wd)(R:RT):Prop:=NonNil a fun p75=>St h (p75.add 3) (.pointer (some i)) fun c=>∃S2:Wd->Prop,S2 c.drew/\NonNil l fun p78=>∃f,Held S2 p78 (.map f)/\∃g,Held S2 i (.int .u64 g)/\Raw P0 (Instr.mapUpdate 107 (.map f) (.int .u64 g) (.pointer (some i))) c.drew fun _ b=>∃J17:Wd->Prop,(∀d,J17 d->F119_j17 i d R)/\(LdI .u64 (b.cell? (i.add 1)) fun e=>Br (e==(0:Int)) (CL 176 #[.pointer l] b (post R fun v3 d=>v3=(.tuple #[])/\J17 d)) (J17 b))
def F119_j11 (l a:OA)(f:Addr)(e:Wd)(R:RT):Prop:=∃J13:Wd->Prop,(∀b,J13 b->F119_j13 l a f b R)/\(NonNil a fun p62=>LdP (e.cell? (p62.add 3)) fun c=>Br (!(c).isNone) (NonNil a fun p67=>LdP (e.cell? (p67.add 3)) fun d=>NonNil d fun p71=>St e (p71.add 2) (.pointer (some f)) fun b=>J13 b) (J13 e))
def F119 (l:OA)(t:Int)(r:Wd)(R:RT):Prop:=CL 172 #[.pointer l,.int .u64 t] r (post R fun v w1=>∃b a,v=(.tuple #[.pointer b,.int .i64 a])/\Br (a != (0:Int)) (R (.returned (.tuple #[.int .u64 0,.int .i64 a])) w1) (CL 173 #[.pointer l] w1 (post R fun v2 g=>∃q,v2=(.int .i64 q)/\Br (decide (q≥(8192:Int))) (R (.returned (.tuple #[.int .u64 0,.int .i64 11])) g) (NonNil l fun p25=>LdI .u64 (g.cell? (p25.add 2)) fun m=>InR .u64 (m+(1:Int))/\NonNil l fun p29=>St g (p29.add 2) (.int .u64 (m+(1:Int))) fun d=>∃S:Wd->Prop,S d.drew/\NonNil l fun p32=>∃n,Held S (p32.add 2) (.int .u64 n)/\NonNil b fun p37=>∃j,Held S (p37.add 3) (.pointer j)/\Al d.drew #[.int .u64 n,.int .u64 0,.pointer b,.pointer j] 257 fun g41 h=>∃J11:Wd->Prop,(∀e,J11 e->F119_j11 l b g41 e R)/\(∃S2:Wd->Prop,S2 h.drew/\NonNil b fun p45=>∃k,Held S2 (p45.add 1) (.int .u64 k)/\CL 174 #[.pointer b] h.drew (post R fun v3 f=>∃p,v3=(.int .u64 p)/\S2 f/\InR .u64 (p-k)/\Br (decide ((p-k)≥(2:Int))) (NonNil b fun p54=>LdI .u64 (f.cell? (p54.add 1)) fun i=>InR .u64 ((p-k).tdiv (2:Int))/\InR .u64 (i+((p-k).tdiv (2:Int)))/\CL 175 #[.pointer l,(.pointer (some g41)),(.int .u64 (i+((p-k).tdiv (2:Int))))] f (post R fun v4 c=>v4=(.tuple #[])/\J11 c)) (J11 f)))))))
theorem ok119 (l:OA)(t:Int){w:Wd}{R:RT} (h:F119 l t w R):CL 119 #[.pointer l,.int .u64 t] w R:=
 vk ⟨97,⟨[]⟩,[(17,⟨[],[(86,93)]⟩),(13,⟨[],[(61,73)]⟩),(11,⟨[],[(9,61)]⟩)],[]⟩ Tryz.func119 h
def F220_j7 (l:OA)(t:Int)(b:Wd)(R:RT):Prop:=NonNil l fun p45=>LdM (b.cell? p45) fun c=>Raw P0 (Builtin.delete_ #[107,128] 0 #[.map c,.int .u64 t]) b fun v2 a=>R (.returned (.int .i64 0)) a
def F220_j4 (l:OA)(t:Int)(a:OA)(i:Wd)(R:RT):Prop:=∃S:Wd->Prop,S i.drew/\NonNil a fun p20=>∃j,Held S (p20.add 2) (.pointer j)/\NonNil a fun p24=>∃f,Held S (p24.add 3) (.pointer f)/\NonNil j fun p27=>St i.drew (p27.add 3) (.pointer f) fun b=>∃J7:Wd->Prop,(∀c,J7 c->F220_j7 l t c R)/\(NonNil a fun p30=>LdP (b.cell? (p30.add 3)) fun e=>Br (!(e).isNone) (∃S2:Wd->Prop,S2 b.drew/\NonNil a fun p35=>∃h,Held S2 (p35.add 3) (.pointer h)/\NonNil a fun p39=>∃g,Held S2 (p39.add 2) (.pointer g)/\NonNil h fun p42=>St b.drew (p42.add 2) (.pointer g) fun d=>J7 d) (J7 b))
def F220 (l:OA)(t:Int)(d:Wd)(R:RT):Prop:=CL 172 #[.pointer l,.int .u64 t] d (post R fun v w1=>∃a b,v=(.tuple #[.pointer a,.int .i64 b])/\∃J4:Wd->Prop,(∀c,J4 c->F220_j4 l t a c R)/\(Br (b != (0:Int)) (R (.returned (.int .i64 10)) w1) (Br (t==(0:Int)) (R (.returned (.int .i64 10)) w1) (J4 w1))))
theorem ok220 (l:OA)(t:Int){w:Wd}{R:RT} (h:F220 l t w R):CL 220 #[.pointer l,.int .u64 t] w R:=
 vk ⟨49,⟨[]⟩,[(7,⟨[],[(29,44)]⟩),(4,⟨[],[(4,5),(13,19)]⟩)],[]⟩ Tryz.func220 h
def F165 (l:OA)(t:Int)(d:Wd)(R:RT):Prop:=CL 172 #[.pointer l,.int .u64 t] d (post R fun v w1=>∃a b,v=(.tuple #[.pointer a,.int .i64 b])/\Br (b != (0:Int)) (R (.returned (.tuple #[.int .u64 0,.int .i64 b])) w1) (NonNil a fun p18=>LdI .u64 (w1.cell? (p18.add 1)) fun c=>R (.returned (.tuple #[.int .u64 c,.int .i64 0])) w1))
theorem ok165 (l:OA)(t:Int){w:Wd}{R:RT} (h:F165 l t w R):CL 165 #[.pointer l,.int .u64 t] w R:=
 vk ⟨21,⟨[]⟩,[],[]⟩ Tryz.func165 h
def F173 (l:OA)(c:Wd)(R:RT):Prop:=CL 207 #[.pointer l] c (post R fun v w1=>v=(.tuple #[])/\NonNil l fun p6=>LdM (w1.cell? p6) fun b=>Raw P0 (Builtin.len_ #[107] 3 #[.map b]) w1 fun v2 a=>∃d,v2=(.int .i64 d)/\InR .i64 (d-(1:Int))/\R (.returned (.int .i64 (d-(1:Int)))) a)
theorem ok173 (l:OA){w:Wd}{R:RT} (h:F173 l w R):CL 173 #[.pointer l] w R:=
 vk ⟨11,⟨[]⟩,[],[]⟩ Tryz.func173 h
def F207 (l:OA)(f:Wd)(R:RT):Prop:=NonNil l fun p3=>LdP (f.cell? (p3.add 1)) fun g=>Br (g).isNone (Al f #[.int .u64 0,.int .u64 0,.pointer none,.pointer none] 257 fun g9 w1=>NonNil l fun p10=>St w1 (p10.add 1) (.pointer (some g9)) fun c=>AlM c fun r13 a=>NonNil l fun p15=>LdP (a.cell? (p15.add 1)) fun e=>Raw P0 (Instr.mapUpdate 107 (.map (some r13)) (.int .u64 0) (.pointer e)) a fun _ b=>NonNil l fun p19=>St b p19 (.map (some r13)) fun d=>R (.returned (.tuple #[])) d) (R (.returned (.tuple #[])) f)
theorem ok207 (l:OA){w:Wd}{R:RT} (h:F207 l w R):CL 207 #[.pointer l] w R:=
 vk ⟨21,⟨[]⟩,[],[]⟩ Tryz.func207 h
def F172 (l:OA)(t:Int)(e:Wd)(R:RT):Prop:=CL 207 #[.pointer l] e (post R fun v w1=>v=(.tuple #[])/\NonNil l fun p12=>LdM (w1.cell? p12) fun d=>Raw P0 (Instr.lookup 107 (.map d) (.int .u64 t) true) w1 fun v2 c=>∃b a,v2=(.tuple #[.pointer b,.bool a])/\Br (!a) (R (.returned (.tuple #[.pointer none,.int .i64 10])) c) (R (.returned (.tuple #[.pointer b,.int .i64 0])) c))
theorem ok172 (l:OA)(t:Int){w:Wd}{R:RT} (h:F172 l t w R):CL 172 #[.pointer l,.int .u64 t] w R:=
 vk ⟨22,⟨[]⟩,[],[]⟩ Tryz.func172 h
def F176_l3 (l:OA)(d:Int)(L3:Int->OA->Wd->Prop)(e:Int)(x:OA)(c:Wd)(R:RT):Prop:=Br (!(x).isNone) (InR .u64 (e+((4611686018427387904:Int).tdiv ((d+(1:Int)))))/\CL 175 #[.pointer l,.pointer x,(.int .u64 (e+((4611686018427387904:Int).tdiv ((d+(1:Int))))))] c (post R fun v2 a=>v2=(.tuple #[])/\NonNil x fun p23=>LdP (a.cell? (p23.add 3)) fun b=>L3 (e+((4611686018427387904:Int).tdiv ((d+(1:Int))))) b a)) (R (.returned (.tuple #[])) c)
def F176 (l:OA)(e:Wd)(R:RT):Prop:=NonNil l fun p6=>LdM (e.cell? p6) fun d=>Raw P0 (Builtin.len_ #[107] 3 #[.map d]) e fun v w1=>∃f,v=(.int .i64 f)/\InR .i64 (f+(1:Int))/\InR .u64 ((f+(1:Int)))/\((f+(1:Int)))≠0/\InR .u64 ((4611686018427387904:Int).tdiv ((f+(1:Int))))/\NonNil l fun p14=>LdP (w1.cell? (p14.add 1)) fun c=>NonNil c fun p17=>LdP (w1.cell? (p17.add 3)) fun b=>∃(I:Int->OA->Wd->Prop)(m:Int->OA->Wd->Nat),I (0:Int) b w1/\∀label x a,I label x a->F176_l3 l f (fun label' x' w2=>I label' x' w2/\m label' x' w2<m label x a) label x a R
theorem ok176 (l:OA){w:Wd}{R:RT} (h:F176 l w R):CL 176 #[.pointer l] w R:=
 vk ⟨33,⟨[]⟩,[],[(3,⟨[(3,(.s (.int .u64))),(4,(.s .ptr))],[(3,33)]⟩)]⟩ Tryz.func176 h
def F175 (l x:OA)(e:Int)(c:Wd)(R:RT):Prop:=NonNil x fun p7=>LdI .u64 (c.cell? (p7.add 1)) fun d=>Br (d != e) (NonNil x fun p14=>St c (p14.add 1) (.int .u64 e) fun w1=>NonNil l fun p17=>LdI .u64 (w1.cell? (p17.add 3)) fun b=>NonNil l fun p21=>St w1 (p21.add 3) (.int .u64 (IntKind.wrap .u64 (b+(1:Int)))) fun a=>R (.returned (.tuple #[])) a) (R (.returned (.tuple #[])) c)
theorem ok175 (l x:OA)(a:Int){w:Wd}{R:RT} (h:F175 l x a w R):CL 175 #[.pointer l,.pointer x,.int .u64 a] w R:=
 vk ⟨23,⟨[(2,4)]⟩,[],[]⟩ Tryz.func175 h
def F174 (x:OA)(d:Wd)(R:RT):Prop:=NonNil x fun p4=>LdP (d.cell? (p4.add 3)) fun c=>Br (c).isNone (R (.returned (.int .u64 4611686018427387904)) d) (NonNil x fun p9=>LdP (d.cell? (p9.add 3)) fun b=>NonNil b fun p12=>LdI .u64 (d.cell? (p12.add 1)) fun a=>R (.returned (.int .u64 a)) d)
theorem ok174 (x:OA){w:Wd}{R:RT} (h:F174 x w R):CL 174 #[.pointer x] w R:=
 vk ⟨15,⟨[]⟩,[],[]⟩ Tryz.func174 h
end Go.Proofs.YtnbgiacnbheonaaGreatDoor
namespace Go.Proofs.YtnbgiacnbheonaaGreatDoor
open Go.RowKit Go.Vc
set_option linter.unusedSimpArgs false
theorem insAt_get {α:Type}{l:List α}{m:Nat}{h:α} (hm:m<=l.length) (j:Nat):(l.take m++h :: l.drop m)[j]?=if j<m then l[j]? else if j=m then some h else l[j-1]?:=by
 have hl:(l.take m).length=m:=by rw [ltk];omega
 by_cases h1:j<m
 ·rw [if_pos h1,gal om,List.getElem?_take,if_pos h1]
 ·rw [if_neg h1,gar om,hl]
  by_cases h2:j=m
  ·rw [if_pos h2,h2,Nat.sub_self];rfl
  ·rw [if_neg h2,show j-m=(j-m-1)+1 by omega,List.getElem?_cons_succ,List.getElem?_drop]
   congr 1;omega
theorem idx_iff {l:List Nat} (hn:l.Nodup) {k j:Nat}:l[j]?=some k↔k∈l/\l.idxOf k=j:=by
 constructor
 ·intro h
  obtain⟨hj,he⟩:=gsi.1 h
  have hm:k∈l:=mog h
  refine⟨hm,?_⟩
  have hlt:=ioi.2 hm
  have h2:=List.getElem_idxOf hlt
  have hp:=pwi.1 hn
  rcases Nat.lt_trichotomy (l.idxOf k) j with h3 | h3 | h3
  ·exact absurd (h2.trans he.symm) (hp _ _ hlt hj h3)
  ·exact h3
  ·exact absurd (he.trans h2.symm) (hp _ _ hj hlt h3)
 ·rintro ⟨hm,rfl⟩
  have hlt:=ioi.2 hm
  rw [gge hlt,List.getElem_idxOf hlt]
def pB (b:Option Nat):Value:=.pointer (b.map fun b=>⟨b,0,none⟩)
def pvB (bs:List Nat) (i:Nat):Option Nat:=if i=0 then none else bs[i-1]?
def nxB (bs:List Nat) (i:Nat):Option Nat:=bs[i+1]?
def tgC (bs nms lbs:List Nat) (i:Nat):Array Value:=#[.int .u64 (nms.getD i 0:Nat),.int .u64 (lbs.getD i 0:Nat),pB (pvB bs i),pB (nxB bs i)]
def mpT (bs nms:List Nat) (k:Int):Option Value:=if 0<=k/\k.toNat∈nms then some (pB (some (bs.getD (nms.idxOf k.toNat) 0))) else none
structure TgR (w:Wd) (o:Nat->Nat) (bs nms lbs:List Nat) (mb:Nat):Prop where
 blk:∀(i b:Nat),bs[i]?=some b->Blk w b (tgC bs nms lbs i) 257
 col:∀b∈bs,o b=4
 nd:bs.Nodup
 mp:Mp .u64 w mb (mpT bs nms)
 mcol:o mb=5
structure TgI (nms lbs:List Nat) (gv:Nat):Prop where
 len:lbs.length=nms.length
 h0:nms[0]?=some 0
 l0:lbs[0]?=some 0
 nd:nms.Nodup
 le:∀x∈nms,x<=gv
 up:lbs.Pairwise (· < ·)
 mx:∀x∈lbs,x<4611686018427387904
 few:nms.length<=8193
structure Fr where
 a:Value
 b:Value
 c:Value
 d:Value
 e:Value
 m:Value
 t:TypeId
def dkC (f:Fr) (mb:Option Nat) (hd:Option Nat) (gv:Nat) (wr:Int):Array Value:=#[f.a,f.b,f.c,f.d,f.e,.map mb,pB hd,.int .u64 (gv:Nat),.int .u64 wr,f.m]
structure TgD (w:Wd) (o:Nat->Nat) (g:Nat) (f:Fr) (bs nms lbs:List Nat) (mb gv:Nat) (wr:Int):Prop where
 blk:Blk w g (dkC f (some mb) bs[0]? gv wr) f.t
 gcol:o g=1
 r:TgR w o bs nms lbs mb
 len:bs.length=nms.length
 len2:lbs.length=nms.length
 pos:0<nms.length
 nn:nms.Nodup
 lt:∀b,o b≠0->b<w.heap.size
structure EvT (w:Wd) (o:Nat->Nat) (w1:Wd) (o1:Nat->Nat):Prop where
 fm:Fm (fun b=>o b=1\/o b=4\/o b=5) w w1
 same:∀b,o b≠0->o1 b=o b
 old:∀b,b<w.heap.size->o b=0->o1 b=0
 new:∀b,o1 b≠0->o b≠0\/o1 b=4\/o1 b=5
section
variable {w w1 w2:Wd}{o o1 o2:Nat->Nat}{g:Nat}{f:Fr}{bs nms lbs:List Nat}{mb gv:Nat}{wr:Int}{M:Nat->Prop}{R:RT}
theorem EvT.refl:EvT w o w o:=⟨.refl _ _,fun _ _=>rfl,fun _ _ h=>h,fun _ h=>.inl h⟩
theorem EvT.trans (h:EvT w o w1 o1) (hlt:∀b,o b≠0->b<w.heap.size) (k:EvT w1 o1 w2 o2):EvT w o w2 o2:=by
 refine⟨⟨k.fm.os.trans h.fm.os,k.fm.tape.trans h.fm.tape,k.fm.output.trans h.fm.output,nlt h.fm.size k.fm.size,fun b hb hm=>?_⟩,fun b hb=>?_,fun b hb h1=>k.old b (nll hb h.fm.size) (h.old b hb h1),fun b hb=>?_⟩
 ·rw [k.fm.block b (nll hb h.fm.size) fun e=>?_]
  ·exact h.fm.block b hb hm
  ·by_cases h1:o b=0
   ·have:=h.old b hb h1;omega
   ·rw [h.same b h1] at e;exact hm e
 ·rw [k.same b (by rw [h.same b hb];exact hb)];exact h.same b hb
 ·rcases k.new b hb with e | e
  ·rcases h.new b e with e2 | e2
   ·exact .inl e2
   ·rw [k.same b e];exact .inr e2
  ·exact .inr e
theorem TgR.fm (h:TgR w o bs nms lbs mb) (hf:Fm M w w1) (hm:∀b,(o b=4\/o b=5)->¬M b):TgR w1 o bs nms lbs mb:=
 ⟨fun i b hb=>hf.blk (h.blk i b hb) (hm b (.inl (h.col b (mog hb)))),h.col,h.nd,h.mp.fm hf (hm mb (.inr h.mcol)),h.mcol⟩
theorem TgD.keep (h:TgD w o g f bs nms lbs mb gv wr) (hb:Below w.heap.size w w1):TgD w1 o g f bs nms lbs mb gv wr:=
 ⟨h.blk.keep hb,h.gcol,h.r.fm (M:=fun _=>False) (.below hb) (fun _ _ h=>h),h.len,h.len2,h.pos,h.nn,fun b h1=>nll (h.lt b h1) hb.size⟩
theorem TgD.bpos (h:TgD w o g f bs nms lbs mb gv wr):∃b,bs[0]?=some b:=by
 exact⟨_,gge (by rw [h.len];exact h.pos)⟩
theorem mpT_some {i x b:Nat} (hn:nms.Nodup) (hx:nms[i]?=some x) (hb:bs[i]?=some b):mpT bs nms (x:Nat)=some (pB (some b)):=by
 obtain⟨h1,h2⟩:=(idx_iff hn).1 hx
 unfold mpT
 rw [if_pos ⟨om,by rw [tnc];exact h1⟩,tnc,h2,gdd,hb];rfl
theorem mpT_none {x:Nat} (h:x∉nms):mpT bs nms (x:Nat)=none:=by
 unfold mpT
 rw [if_neg (fun e=>h (by rw [tnc] at e;exact e.2))]
theorem mapType:Tryz.prog.underlying 107=some (.map 128 108):=by kernel_rfl
theorem keyType:Tryz.prog.underlying 128=some (.int .u64):=by kernel_rfl
theorem zeroTag (w:Wd):(zeroValue 108).run P0 w=.ok (.pointer none) w:=by kernel_rfl
theorem begin_calls (h:TgD w o g f bs nms lbs mb gv wr) (hK:R (.returned (.tuple #[])) w):CL 207 #[.pointer (some ⟨g,5,none⟩)] w R:=by
 refine ok207 (some ⟨g,5,none⟩) ?_
 unfold F207
 obtain⟨b,hb⟩:=h.bpos
 have hB:=h.blk
 unfold dkC at hB
 rw [hb] at hB
 simp only [NonNil_some,Addr.add_mk,Nat.reduceAdd,hB.cell,List.getElem?_toArray,List.getElem?_cons_zero,List.getElem?_cons_succ,pB,oms,lds]
 simp only [oin,Br_f]
 exact hK
theorem find_some (h:TgD w o g f bs nms lbs mb gv wr) {i x b:Nat} (hx:nms[i]?=some x) (hb:bs[i]?=some b) (hK:R (.returned (.tuple #[pB (some b),.int .i64 0])) w):CL 172 #[.pointer (some ⟨g,5,none⟩),.int .u64 (x:Nat)] w R:=by
 refine ok172 (some ⟨g,5,none⟩) x ?_
 unfold F172
 refine begin_calls h ⟨rfl,?_⟩
 have hB:=h.blk
 unfold dkC at hB
 simp only [NonNil_some,Nat.reduceAdd,hB.cell,lds]
 refine h.r.mp.look mapType keyType (zeroTag w) x true ?_
 rw [mpT_some h.nn hx hb]
 exact⟨some ⟨b,0,none⟩,true,rfl,hK⟩
theorem lenM (h:TgD w o g f bs nms lbs mb gv wr) {t:TypeId}{K:Value->Wd->Prop} (hK:K (.int .i64 (nms.length:Nat)) w):Raw P0 (Builtin.len_ #[107] t #[.map (some mb)]) w K:=by
 refine h.r.mp.len mapType (l:=nms.map fun (x:Nat)=>(x:Int)) ?_ (fun k=>?_) (by rw [lmp];exact hK)
 ·exact List.pairwise_map.2 (h.nn.imp fun {a c} hac e=>hac om)
 ·constructor
  ·intro hk
   obtain⟨x,hx,rfl⟩:=List.mem_map.1 hk
   obtain⟨i,hi⟩:=List.mem_iff_getElem?.1 hx
   obtain⟨b,hb⟩:∃b,bs[i]?=some b:=⟨_,gge (by rw [h.len];exact (gsi.1 hi).1)⟩
   exact⟨_,mpT_some h.nn hi hb⟩
  ·rintro ⟨v,hv⟩
   unfold mpT at hv
   by_cases hc:0<=k/\k.toNat∈nms
   ·exact List.mem_map.2 ⟨k.toNat,hc.2,om⟩
   ·rw [if_neg hc] at hv;cases hv
theorem Len_calls (h:TgD w o g f bs nms lbs mb gv wr) (hf:nms.length<=8193) (hK:R (.returned (.int .i64 ((nms.length:Nat)-1:Int))) w):CL 173 #[.pointer (some ⟨g,5,none⟩)] w R:=by
 refine ok173 (some ⟨g,5,none⟩) ?_
 unfold F173
 refine begin_calls h ⟨rfl,?_⟩
 have hB:=h.blk
 unfold dkC at hB
 simp only [NonNil_some,Nat.reduceAdd,hB.cell,lds]
 exact lenM h ⟨_,rfl,inR_i64 om om,hK⟩
theorem TgD.tag (h:TgD w o g f bs nms lbs mb gv wr) {i b:Nat} (hb:bs[i]?=some b):∃x l,nms[i]?=some x/\lbs[i]?=some l/\Blk w b #[.int .u64 (x:Nat),.int .u64 (l:Nat),pB (pvB bs i),pB (nxB bs i)] 257:=by
 have h1:=(gsi.1 hb).1
 have h2:nms[i]?=some (nms[i]'(by rw [<-h.len];exact h1)):=gge _
 have h3:lbs[i]?=some (lbs[i]'(by rw [h.len2,<-h.len];exact h1)):=gge _
 refine⟨_,_,h2,h3,?_⟩
 have:=h.r.blk i b hb
 unfold tgC at this
 rw [gdd,gdd,h2,h3] at this
 exact this
theorem Label_calls (h:TgD w o g f bs nms lbs mb gv wr) {i x l:Nat} (hx:nms[i]?=some x) (hl:lbs[i]?=some l) (hK:R (.returned (.tuple #[.int .u64 (l:Nat),.int .i64 0])) w):CL 165 #[.pointer (some ⟨g,5,none⟩),.int .u64 (x:Nat)] w R:=by
 refine ok165 (some ⟨g,5,none⟩) x ?_
 unfold F165
 obtain⟨b,hb⟩:∃b,bs[i]?=some b:=⟨_,gge (by rw [h.len];exact (gsi.1 hx).1)⟩
 refine find_some h hx hb ⟨_,_,rfl,brn (fun e=>absurd rfl e) fun _=>?_⟩
 obtain⟨x',l',h1,h2,hB⟩:=h.tag hb
 rw [hl] at h2;cases h2
 simp only [oms,NonNil_some,Nat.reduceAdd,hB.cell,lds]
 exact hK
theorem past_calls (h:TgD w o g f bs nms lbs mb gv wr) {i b:Nat} (hb:bs[i]?=some b) (hK:R (.returned (.int .u64 ((lbs[i+1]?).getD 4611686018427387904:Nat))) w):CL 174 #[pB (some b)] w R:=by
 refine ok174 (some ⟨b,0,none⟩) ?_
 unfold F174
 obtain⟨x',l',h1,h2,hB⟩:=h.tag hb
 unfold nxB pB at hB
 simp only [NonNil_some,Nat.reduceAdd,hB.cell,lds]
 cases hn:bs[i+1]? with
 | none=>
  have:lbs[i+1]?=none:=by
   rw [List.getElem?_eq_none_iff] at hn |-
   rw [h.len2,<-h.len];exact hn
  rw [this] at hK
  simp only [Option.map_none,Option.isNone_none,Br_t]
  exact hK
 | some b2=>
  obtain⟨x2,l2,h3,h4,hB2⟩:=h.tag hn
  rw [h4] at hK
  simp only [oms,oin,Br_f,NonNil_some,Nat.reduceAdd,hB2.cell,lds]
  exact hK
theorem TgD.gne (h:TgD w o g f bs nms lbs mb gv wr) {b:Nat} (hb:b∈bs):b≠g/\b≠mb:=⟨fun e=>by have:=h.r.col b hb;rw [e,h.gcol] at this;omega,fun e=>by have:=h.r.col b hb;rw [e,h.r.mcol] at this;omega⟩
theorem nd_get {l:List Nat} (hn:l.Nodup) {i j b:Nat} (hi:l[i]?=some b) (hj:l[j]?=some b):i=j:=by
 have h1:=((idx_iff hn).1 hi).2
 have h2:=((idx_iff hn).1 hj).2
 omega
theorem write_calls (h:TgD w o g f bs nms lbs mb gv wr) {i b:Nat} (hb:bs[i]?=some b) (v:Nat) (hK:∀w' wr',TgD w' o g f bs nms (lbs.set i v) mb gv wr'->Fm (fun x=>x=g\/x=b) w w'->R (.returned (.tuple #[])) w') :
  CL 175 #[.pointer (some ⟨g,5,none⟩),pB (some b),.int .u64 (v:Nat)] w R:=by
 refine ok175 (some ⟨g,5,none⟩) (some ⟨b,0,none⟩) v ?_
 unfold F175
 obtain⟨x',l',h1,h2,hB⟩:=h.tag hb
 have hbm:=mog hb
 obtain⟨hne,-⟩:=h.gne hbm
 have hil:=(gsi.1 h2).1
 simp only [NonNil_some,Nat.reduceAdd,hB.cell,lds]
 refine brn (fun hv=>?_) (fun hv=>?_)
 ·refine st_blk hB sm fun w1 b1 f1=>?_
  simp only [sls] at b1
  have hD:=f1.blk h.blk (fun e=>hne e.symm)
  unfold dkC at hD
  simp only [NonNil_some,Nat.reduceAdd,hD.cell,lds]
  refine st_blk hD sm fun w2 b2 f2=>?_
  simp only [sls] at b2
  have FF:Fm (fun x=>x=g\/x=b) w w2:=(f1.mono fun x _ e=>.inr e).trans (f2.mono fun x _ e=>.inl e)
  refine hK w2 _ ⟨b2,h.gcol,⟨fun j c hc=>?_,h.r.col,h.r.nd,h.r.mp.fm FF fun e=>?_,h.r.mcol⟩,h.len,by rw [List.length_set];exact h.len2,h.pos,h.nn,fun c hc=>nll (h.lt c hc) FF.size⟩ FF
  ·unfold tgC
   by_cases e:j=i
   ·subst e
    rw [hb] at hc;cases hc
    have:=f2.blk b1 (fun e=>hne e)
    rw [gdd,gdd,h1,List.getElem?_set_self hil]
    exact this
   ·rw [gdd (l:=lbs.set i v),gsn (Ne.symm e),<-gdd]
    have hcm:=mog hc
    exact FF.blk (h.r.blk j c hc) (fun e2=>by
     rcases e2 with e2 | e2
     ·exact (h.gne hcm).1 e2
     ·subst e2;exact e (nd_get h.r.nd hc hb))
  ·rcases e with e | e
   ·have:=h.gcol;rw [<-e,h.r.mcol] at this;omega
   ·exact (h.gne hbm).2 e.symm
 ·have e:lbs.set i v=lbs:=by
   have:l'=v:=by omega
   subst this
   obtain⟨h3,h4⟩:=gsi.1 h2
   rw [<-h4,List.set_getElem_self]
  exact hK w wr (by rw [e];exact h) (.refl _ _)
end
theorem insAt_at {l:List Nat}{m h:Nat} (hm:m<=l.length) (j:Nat):(insAt l m h)[j]?=if j<m then l[j]? else if j=m then some h else l[j-1]?:=insAt_get hm j
theorem insAt_len {l:List Nat}{m h:Nat} (hm:m<=l.length):(insAt l m h).length=l.length+1:=by unfold insAt;simp;omega
section
variable {w w1 w2:Wd}{o o1 o2:Nat->Nat}{g:Nat}{f:Fr}{bs nms lbs:List Nat}{mb gv:Nat}{wr:Int}{M:Nat->Prop}{R:RT}
theorem spread_calls (h:TgD w o g f bs nms lbs mb gv wr) (hf:nms.length<=8193) (h0:lbs[0]?=some 0)
  (hK:∀w' lbs' wr',TgD w' o g f bs nms lbs' mb gv wr'->Fm (fun x=>x=g\/x∈bs) w w'->lbs'[0]?=some 0->lbs'.Pairwise (· < ·)->(∀x∈lbs',x<4611686018427387904)->R (.returned (.tuple #[])) w'):CL 176 #[.pointer (some ⟨g,5,none⟩)] w R:=by
 refine ok176 (some ⟨g,5,none⟩) ?_
 unfold F176
 obtain⟨b0,hb0⟩:=h.bpos
 have hB:=h.blk
 unfold dkC at hB
 rw [hb0] at hB
 have hpos:=h.pos
 simp only [NonNil_some,Nat.reduceAdd,hB.cell,lds]
 obtain⟨st,hst⟩:∃st:Nat,st=4611686018427387904 / (nms.length+1):=⟨_,rfl⟩
 have hdiv:(4611686018427387904:Int).tdiv (((nms.length:Nat):Int)+1)=(st:Int):=by
  rw [hst,show ((nms.length:Nat):Int)+1=((nms.length+1:Nat):Int) by omega,Int.tdiv_eq_ediv_of_nonneg om];rfl
 have hst1:st*(nms.length+1)<=4611686018427387904:=by rw [hst];exact Nat.div_mul_le_self _ _
 have hst2:1<=st:=by rw [hst];exact (Nat.le_div_iff_mul_le om).2 om
 have hst3:st<=4611686018427387904:=by rw [hst];exact Nat.div_le_self _ _
 refine lenM h ⟨_,rfl,inR_i64 om om,inR_u64 om om,om,?_⟩
 rw [hdiv]
 refine⟨inR_u64 om om,?_⟩
 simp only [pB,oms,NonNil_some,Nat.reduceAdd,hB.cell,lds]
 obtain⟨x0,l0,t1,t2,tB⟩:=h.tag hb0
 unfold nxB pB at tB
 simp only [NonNil_some,Nat.reduceAdd,tB.cell,lds]
 have hmul:∀j,j<=nms.length->st*j<=4611686018427387904:=fun j hj=>nlt (Nat.mul_le_mul_left st (show j<=nms.length+1 by omega)) hst1
 refine⟨fun lab x w'=>∃(j:Nat) (ls:List Nat) (wr':Int),1<=j/\j<=nms.length/\lab=((st*(j-1):Nat):Int)/\x=bs[j]?.map (fun b=>(⟨b,0,none⟩:Addr))/\TgD w' o g f bs nms ls mb gv wr'/\Fm (fun x=>x=g\/x∈bs) w w'/\∀i,i<j->ls[i]?=some (st*i),fun lab x w'=>nms.length-(lab / (st:Int)).toNat,
  ⟨1,lbs,wr,nlr _,om,sm,rfl,h,.refl _ _,fun i hi=>by rw [show i=0 by omega];exact h0⟩,?_⟩
 rintro lab x w2 ⟨j,ls,wr2,hj1,hj2,rfl,rfl,h2,f2,hl⟩
 unfold F176_l3
 cases hbj:bs[j]? with
 | none=>
  have hjn:j=nms.length:=by
   rw [List.getElem?_eq_none_iff,h.len] at hbj;omega
  simp only [Option.map_none,Option.isNone_none,Bool.not_true,Br_f]
  have hlen:=h2.len2
  have hget:∀i,∀hi:i<ls.length,ls[i]=st*i:=fun i hi=>by
   have:=hl i om
   rw [gge hi] at this;exact osi this
  refine hK w2 ls wr2 h2 f2 (by rw [hl 0 om];rfl) (pwi.2 fun a c ha hc hac=>?_) fun y hy=>?_
  ·rw [hget a ha,hget c hc]
   exact Nat.mul_lt_mul_of_pos_left hac om
  ·obtain⟨a,ha,rfl⟩:=List.mem_iff_getElem.1 hy
   rw [hget a ha]
   have h3:st*(a+1)<=4611686018427387904:=hmul (a+1) om
   rw [Nat.mul_succ] at h3
   omega
 | some b=>
  simp only [oms,oin,Bool.not_false,Br_t]
  have hjl:=(gsi.1 hbj).1
  rw [h.len] at hjl
  have e1:((st*(j-1):Nat):Int)+(st:Int)=((st*j:Nat):Int):=by
   have:st*j=st*(j-1)+st:=by rw [<-Nat.mul_succ];congr 1;omega
   rw [this];omega
  rw [hdiv,e1]
  have hmj:=hmul j hj2
  refine⟨inR_u64 om om,?_⟩
  refine write_calls h2 hbj (st*j) fun w3 wr3 h3 f3=>⟨rfl,?_⟩
  obtain⟨x3,l3,t3,t4,tB3⟩:=h3.tag hbj
  unfold nxB pB at tB3
  simp only [NonNil_some,Nat.reduceAdd,tB3.cell,lds]
  have hjls:j<ls.length:=by rw [h2.len2];exact hjl
  refine⟨⟨j+1,ls.set j (st*j),wr3,om,om,sm,rfl,h3,f2.trans (f3.mono fun x _ e=>?_),fun i hi=>?_⟩,?_⟩
  ·rcases e with e | e
   ·exact .inl e
   ·subst e;exact .inr (mog hbj)
  ·by_cases e:i=j
   ·subst e;rw [List.getElem?_set_self hjls]
   ·rw [gsn (Ne.symm e)];exact hl i om
  ·show nms.length-(((st*j:Nat):Int) / (st:Int)).toNat<nms.length-(((st*(j-1):Nat):Int) / (st:Int)).toNat
   have d1:∀a:Nat,(((st*a:Nat):Int) / (st:Int)).toNat=a:=fun a=>by
    rw [show (((st*a:Nat):Int) / (st:Int))=((st*a / st:Nat):Int) from rfl,tnc,Nat.mul_div_cancel_left a om]
   rw [d1,d1];omega
theorem writeN_calls (h:TgD w o g f bs nms lbs mb gv wr) {b:Nat}{nm l:Nat}{p q:Value} (hb:o b=0) (hB:Blk w b #[.int .u64 (nm:Nat),.int .u64 (l:Nat),p,q] 257) (v:Nat)
  (hK:∀w' wr',TgD w' o g f bs nms lbs mb gv wr'->Blk w' b #[.int .u64 (nm:Nat),.int .u64 (v:Nat),p,q] 257->Fm (fun x=>x=g\/x=b) w w'->R (.returned (.tuple #[])) w') :
  CL 175 #[.pointer (some ⟨g,5,none⟩),.pointer (some ⟨b,0,none⟩),.int .u64 (v:Nat)] w R:=by
 refine ok175 (some ⟨g,5,none⟩) (some ⟨b,0,none⟩) v ?_
 unfold F175
 have hne:b≠g:=fun e=>by have:=h.gcol;rw [<-e] at this;omega
 simp only [NonNil_some,Nat.reduceAdd,hB.cell,lds]
 refine brn (fun hv=>?_) (fun hv=>?_)
 ·refine st_blk hB sm fun w1 b1 f1=>?_
  simp only [sls] at b1
  have hD:=f1.blk h.blk (fun e=>hne e.symm)
  unfold dkC at hD
  simp only [NonNil_some,Nat.reduceAdd,hD.cell,lds]
  refine st_blk hD sm fun w2 b2 f2=>?_
  simp only [sls] at b2
  have FF:Fm (fun x=>x=g\/x=b) w w2:=(f1.mono fun x _ e=>.inr e).trans (f2.mono fun x _ e=>.inl e)
  refine hK w2 _ ⟨b2,h.gcol,h.r.fm FF fun c hc e=>?_,h.len,h.len2,h.pos,h.nn,fun c hc=>nll (h.lt c hc) FF.size⟩ (f2.blk b1 (fun e=>hne e)) FF
  rcases e with e | e
  ·have:=h.gcol;rw [<-e] at this;omega
  ·rw [e] at hc;omega
 ·have:l=v:=by omega
  subst this
  exact hK w wr h hB (.refl _ _)
end
theorem mpT_ins {bs nms:List Nat}{i nb x:Nat} (hn:nms.Nodup) (hx:x∉nms) (hl:bs.length=nms.length) (hi:i+1<=nms.length):mpT (insAt bs (i+1) nb) (insAt nms (i+1) x)=upd (mpT bs nms) x (some (pB (some nb))):=by
 have hn':(insAt nms (i+1) x).Nodup:=nodup_insAt hn hx
 funext k
 unfold upd
 by_cases hk:k=(x:Int)
 ·rw [if_pos hk,hk]
  exact mpT_some (i:=i+1) hn' (by rw [insAt_at hi,if_neg om,if_pos rfl]) (by rw [insAt_at om,if_neg om,if_pos rfl])
 ·rw [if_neg hk]
  by_cases hm:0<=k/\k.toNat∈nms
  ·obtain⟨hk0,hkm⟩:=hm
   obtain⟨a,rfl⟩:∃a:Nat,k=a:=⟨k.toNat,om⟩
   rw [tnc] at hkm
   obtain⟨j,hj⟩:=List.mem_iff_getElem?.1 hkm
   have hjl:=(gsi.1 hj).1
   obtain⟨b,hb⟩:∃b,bs[j]?=some b:=⟨_,gge om⟩
   rw [mpT_some hn hj hb]
   by_cases hji:j<i+1
   ·exact mpT_some hn' (by rw [insAt_at hi,if_pos hji];exact hj) (by rw [insAt_at om,if_pos hji];exact hb)
   ·refine mpT_some (i:=j+1) hn' ?_ ?_
    ·rw [insAt_at hi,if_neg om,if_neg om];exact hj
    ·rw [insAt_at om,if_neg om,if_neg om];exact hb
  ·unfold mpT
   rw [if_neg hm,if_neg]
   rintro ⟨h0,h1⟩
   rcases mem_insAt.1 h1 with h1 | h1
   ·exact hk om
   ·exact hm ⟨h0,h1⟩
theorem TgI.ins {nms lbs:List Nat}{gv i l L:Nat} (h:TgI nms lbs gv) (hi:i+1<=nms.length) (hl:lbs[i]?=some l) (h1:l<L) (h2:∀m,lbs[i+1]?=some m->L<m) (h3:L<4611686018427387904) (hf:nms.length<=8192):TgI (insAt nms (i+1) (gv+1)) (insAt lbs (i+1) L) (gv+1):=by
 have hlen:=h.len
 have hx:gv+1∉nms:=fun hx=>by have:=h.le _ hx;omega
 refine⟨by rw [insAt_len hi,insAt_len om,hlen],by rw [insAt_at hi,if_pos om];exact h.h0,by rw [insAt_at om,if_pos om];exact h.l0,nodup_insAt h.nd hx,fun x hx=>?_,?_,fun x hx=>?_,by rw [insAt_len hi];omega⟩
 ·rcases mem_insAt.1 hx with rfl | hx
  ·omega
  ·have:=h.le x hx;omega
 ·unfold insAt
  have hp:=h.up
  rw [<-tad (i+1) lbs,List.pairwise_append] at hp
  obtain⟨q1,q2,q3⟩:=hp
  have hg:=pwi.1 h.up
  obtain⟨hil,hie⟩:=gsi.1 hl
  have htake:∀x∈lbs.take (i+1),x<L:=fun x hx=>by
   obtain⟨a,ha,rfl⟩:=List.mem_iff_getElem.1 hx
   rw [ltk] at ha
   rw [List.getElem_take]
   rcases Nat.lt_or_ge a i with h4 | h4
   ·have:=hg a i om hil h4;omega
   ·have:a=i:=by omega
    subst this;omega
  have hdrop:∀x∈lbs.drop (i+1),L<x:=fun x hx=>by
   obtain⟨a,ha,rfl⟩:=List.mem_iff_getElem.1 hx
   rw [ldp] at ha
   rw [List.getElem_drop]
   have h5:=h2 _ (gge (show i+1<lbs.length by omega))
   by_cases h4:a=0
   ·subst h4;exact h5
   ·have:=hg (i+1) (i+1+a) om om om;omega
  rw [List.pairwise_append,List.pairwise_cons]
  refine⟨q1,⟨hdrop,q2⟩,fun x hx y hy=>?_⟩
  rcases mcn.1 hy with rfl | hy
  ·exact htake x hx
  ·exact q3 x hx y hy
 ·rcases mem_insAt.1 hx with rfl | hx
  ·exact h3
  ·exact h.mx x hx
theorem TgI.renum {nms lbs lbs':List Nat}{gv i L:Nat} (h:TgI nms lbs gv) (hi:i+1<=nms.length) (hf:nms.length<=8192) (hl:lbs'.length=(insAt nms (i+1) (gv+1)).length) (h0:lbs'[0]?=some 0) (hp:lbs'.Pairwise (· < ·)) (hm:∀x∈lbs',x<4611686018427387904):TgI (insAt nms (i+1) (gv+1)) lbs' (gv+1):=by
 have hx:gv+1∉nms:=fun hx=>by have:=h.le _ hx;omega
 refine⟨hl,by rw [insAt_at hi,if_pos om];exact h.h0,h0,nodup_insAt h.nd hx,fun x hx=>?_,hp,hm,by rw [insAt_len hi];omega⟩
 rcases mem_insAt.1 hx with rfl | hx
 ·omega
 ·have:=h.le x hx;omega
theorem TgR.ins {w w1:Wd}{o:Nat->Nat}{bs nms lbs:List Nat}{mb i b nb x L:Nat} (h:TgR w o bs nms lbs mb) (hlen:bs.length=nms.length) (hlen2:lbs.length=nms.length) (hb:bs[i]?=some b) (hnb:∀c,o c≠0->c≠nb)
  (h1:Blk w1 b #[.int .u64 (nms.getD i 0:Nat),.int .u64 (lbs.getD i 0:Nat),pB (pvB bs i),pB (some nb)] 257) (h2:Blk w1 nb #[.int .u64 (x:Nat),.int .u64 (L:Nat),pB (some b),pB (nxB bs i)] 257)
  (h3:∀c,bs[i+1]?=some c->Blk w1 c #[.int .u64 (nms.getD (i+1) 0:Nat),.int .u64 (lbs.getD (i+1) 0:Nat),pB (some nb),pB (nxB bs (i+1))] 257)
  (h4:∀j c,bs[j]?=some c->j≠i->j≠i+1->Blk w1 c (tgC bs nms lbs j) 257) (hm:Mp .u64 w1 mb (mpT (insAt bs (i+1) nb) (insAt nms (i+1) x))) :
  TgR w1 (fun c=>if c=nb then 4 else o c) (insAt bs (i+1) nb) (insAt nms (i+1) x) (insAt lbs (i+1) L) mb:=by
 have hil:=(gsi.1 hb).1
 have hi:i+1<=bs.length:=hil
 have hi2:i+1<=nms.length:=by omega
 have hi3:i+1<=lbs.length:=by omega
 have gd:∀(l:List Nat) (y:Nat),i+1<=l.length->∀j,(insAt l (i+1) y).getD j 0=if j<i+1 then l.getD j 0 else if j=i+1 then y else l.getD (j-1) 0:=fun l y hl j=>by
  rw [gdd,insAt_at hl]
  split
  ·rw [gdd]
  ·split
   ·rfl
   ·rw [gdd]
 refine⟨fun j c hc=>?_,fun c hc=>?_,nodup_insAt h.nd fun hx=>hnb nb (by rw [h.col nb hx];decide) rfl,hm,?_⟩
 ·rw [insAt_at hi] at hc
  unfold tgC pvB nxB
  rw [gd nms x hi2,gd lbs L hi3,insAt_at hi,insAt_at hi]
  by_cases c1:j<i+1
  ·rw [if_pos c1] at hc
   rw [if_pos c1,if_pos c1]
   by_cases c2:j=i
   ·subst c2
    rw [hb] at hc;cases hc
    have e:(if j=0 then none else if j-1<j+1 then bs[j-1]? else if j-1=j+1 then some nb else bs[j-1-1]?)=pvB bs j:=by
     unfold pvB
     split
     ·rfl
     ·rw [if_pos om]
    rw [e,if_neg om,if_pos rfl];exact h1
   ·have e:(if j=0 then none else if j-1<i+1 then bs[j-1]? else if j-1=i+1 then some nb else bs[j-1-1]?)=pvB bs j:=by
     unfold pvB
     split
     ·rfl
     ·rw [if_pos om]
    rw [e,if_pos om]
    exact h4 j c hc c2 om
  ·rw [if_neg c1] at hc
   rw [if_neg c1,if_neg c1]
   by_cases c2:j=i+1
   ·rw [if_pos c2] at hc;cases hc
    subst c2
    rw [if_pos rfl,if_pos rfl,if_neg om,if_pos om,show i+1-1=i by omega,hb,if_neg om,if_neg om]
    exact h2
   ·rw [if_neg c2] at hc
    rw [if_neg c2,if_neg c2,if_neg (show ¬j=0 by omega),if_neg (show ¬j-1<i+1 by omega),if_neg (show ¬j+1<i+1 by omega),if_neg (show ¬j+1=i+1 by omega),show j+1-1=j by omega]
    by_cases c3:j=i+2
    ·subst c3
     rw [if_pos om]
     exact h3 c hc
    ·rw [if_neg om]
     have:=h4 (j-1) c hc om om
     unfold tgC pvB nxB at this
     rw [if_neg om,show j-1+1=j by omega] at this
     exact this
 ·by_cases e:c=nb
  ·rw [if_pos e]
  ·rw [if_neg e]
   rcases mem_insAt.1 hc with rfl | hc
   ·exact absurd rfl e
   ·exact h.col c hc
 ·rw [if_neg (hnb mb (by rw [h.mcol];decide))];exact h.mcol
section
variable {w w1 w2:Wd}{o o1 o2:Nat->Nat}{g:Nat}{f:Fr}{bs nms lbs:List Nat}{mb gv:Nat}{wr:Int}{M:Nat->Prop}{R:RT}
theorem Fm.tr2 {M M':Nat->Prop}{w w1 w2:Wd} (h:Fm M w w1) (k:Fm M' w1 w2) (hm:∀b,b<w.heap.size->M' b->M b):Fm M w w2:=
 ⟨k.os.trans h.os,k.tape.trans h.tape,k.output.trans h.output,nlt h.size k.size,fun b hb hn=>by
  rw [k.block b (by have:=h.size;omega) (fun e=>hn (hm b hb e)),h.block b hb hn]⟩
theorem After_gen {w0:Wd}{o0:Nat->Nat} (hlt0:∀b,o0 b≠0->b<w0.heap.size) (hf:nms.length<=8192) (hgv:gv<9223372036854775808) {i x:Nat} (hx:nms[i]?=some x)
  (hF:∀R':RT,(∀w o bs lbs mb wr b,TgD w o g f bs nms lbs mb gv wr->TgI nms lbs gv->EvT w0 o0 w o->bs[i]?=some b->R' (.returned (.tuple #[pB (some b),.int .i64 0])) w)->CL 172 #[.pointer (some ⟨g,5,none⟩),.int .u64 (x:Nat)] w0 R')
  (hK:∀w' o' bs' lbs' mb wr',TgD w' o' g f bs' (insAt nms (i+1) (gv+1)) lbs' mb (gv+1) wr'->TgI (insAt nms (i+1) (gv+1)) lbs' (gv+1)->EvT w0 o0 w' o'->R (.returned (.tuple #[.int .u64 (gv+1:Nat),.int .i64 0])) w') :
  CL 119 #[.pointer (some ⟨g,5,none⟩),.int .u64 (x:Nat)] w0 R:=by
 refine ok119 (some ⟨g,5,none⟩) x ?_
 unfold F119
 have hxl:=(gsi.1 hx).1
 have hi2:i+1<=nms.length:=hxl
 refine hF _ fun w o bs lbs mb wr b h hI ev0 hb=>⟨_,_,rfl,brn (fun e=>absurd rfl e) fun _=>?_⟩
 have hbm:=mog hb
 have hlt:=h.lt
 refine Len_calls h om ⟨_,rfl,brd (fun e=>absurd e om) fun _=>?_⟩
 obtain⟨b0,hb0⟩:=h.bpos
 have hD:=h.blk
 unfold dkC at hD
 simp only [NonNil_some,Nat.reduceAdd,hD.cell,lds]
 have eg:(gv:Int)+1=((gv+1:Nat):Int):=by omega
 rw [eg]
 refine⟨inR_u64 om om,?_⟩
 refine st_blk hD sm fun w1 bD1 f1=>?_
 simp only [sls] at bD1
 have hgne:∀c,(o c=4\/o c=5)->¬c=g:=fun c hc e=>by have:=h.gcol;rw [<-e] at this;omega
 have h1:TgD w1 o g f bs nms lbs mb (gv+1) wr:=⟨bD1,h.gcol,h.r.fm f1 hgne,h.len,h.len2,h.pos,h.nn,fun c hc=>nll (hlt c hc) f1.size⟩
 have hdr1:Below w1.heap.size w1 w1.drew:=(Below.refl _ _).drew
 obtain⟨x1,l,t1,t2,tB⟩:=h1.tag hb
 rw [hx] at t1;cases t1
 have hs1:=f1.size
 refine⟨fun w'=>Below w1.heap.size w1 w',hdr1,?_⟩
 refine⟨_,fun w' hw=>by rw [(bD1.keep hw).cell];rfl,?_⟩
 simp only [nds,oms,Nat.reduceAdd]
 refine⟨(nxB bs i).map fun b=>(⟨b,0,none⟩:Addr),fun w' hw=>by rw [(tB.keep hw).cell];rfl,?_⟩
 refine al fun nb w2 hb2 bn2 hge2=>?_
 have D2:Below w1.heap.size w1 w2:=btr hdr1 hdr1.size hb2
 have h2:=h1.keep D2
 have onb:o nb=0:=byc fun e=>by have:=hlt nb e;have:w1.heap.size<=nb:=hge2;omega
 have hnb:∀c,o c≠0->c≠nb:=fun c hc e=>hc (by rw [e];exact onb)
 have tB2:=tB.keep D2
 have hup:=pwi.1 hI.up
 obtain⟨hil,hie⟩:=gsi.1 t2
 have hlmx:=hI.mx l (mog t2)
 have hpast:l<(lbs[i+1]?).getD 4611686018427387904/\(lbs[i+1]?).getD 4611686018427387904<=4611686018427387904:=by
  cases hn:lbs[i+1]? with
  | none=>exact⟨hlmx,nlr _⟩
  | some m=>
   obtain⟨h3,h4⟩:=gsi.1 hn
   have:=hup i (i+1) hil h3 om
   have h5:=hI.mx m (mog hn)
   show l<m/\m<=_
   omega
 refine⟨fun w'=>∃(L:Nat) (wr':Int),TgD w' o g f bs nms lbs mb (gv+1) wr'/\Blk w' nb #[.int .u64 (gv+1:Nat),.int .u64 (L:Nat),pB (some b),pB (nxB bs i)] 257/\Fm (fun c=>c=g\/c=nb) w2 w'/\(L=0\/(l<L/\(∀m,lbs[i+1]?=some m->L<m)/\L<4611686018427387904)),?_,?_⟩
 rotate_left
 ·have hdr2:Below w2.heap.size w2 w2.drew:=(Below.refl _ _).drew
  refine⟨fun w'=>Below w2.heap.size w2 w',hdr2,?_⟩
  refine⟨_,fun w' hw=>by rw [(tB2.keep hw).cell];rfl,?_⟩
  refine past_calls (h2.keep hdr2) hb ⟨_,rfl,hdr2,?_⟩
  generalize hpp:(lbs[i+1]?).getD 4611686018427387904=p at hpast |-
  have hnext:∀m,lbs[i+1]?=some m->p=m:=fun m hm=>by rw [<-hpp,hm];rfl
  have esub:(p:Int)-(l:Int)=((p-l:Nat):Int):=by omega
  rw [esub]
  refine⟨inR_u64 om om,?_⟩
  have bn2d:=bn2.keep hdr2
  have tB2d:=tB2.keep hdr2
  refine brd (fun hgap=>?_) (fun hgap=>⟨0,wr,h2.keep hdr2,bn2d,.below hdr2,.inl rfl⟩)
  simp only [NonNil_some,Nat.reduceAdd,tB2d.cell,lds]
  have ediv:((p-l:Nat):Int).tdiv 2=(((p-l) / 2:Nat):Int):=by rw [Int.tdiv_eq_ediv_of_nonneg om];rfl
  rw [ediv]
  have eadd:(l:Int)+(((p-l) / 2:Nat):Int)=((l+(p-l) / 2:Nat):Int):=by omega
  rw [eadd]
  refine⟨inR_u64 om om,inR_u64 om om,?_⟩
  refine writeN_calls (h2.keep hdr2) onb (b:=nb) (nm:=gv+1) (l:=0) (p:=pB (some b)) (q:=pB (nxB bs i)) bn2d (l+(p-l) / 2) fun w3 wr3 h3 b3 f3=>⟨rfl,?_⟩
  exact⟨_,wr3,h3,b3,(Fm.below hdr2).trans f3,.inr ⟨om,fun m hm=>by have:=hnext m hm;omega,om⟩⟩
 rintro w3 ⟨L,wr3,h3,b3,f3,hL⟩
 unfold F119_j11
 obtain⟨x3,l3,t3,t4,tB3⟩:=h3.tag hb
 rw [hx] at t3;cases t3
 rw [t2] at t4;cases t4
 have hgd1:nms.getD i 0=x:=by rw [gdd,hx];rfl
 have hgd2:lbs.getD i 0=l:=by rw [gdd,t2];rfl
 refine⟨fun w'=>Fm (fun c=>bs[i+1]?=some c) w3 w'/\∀c,bs[i+1]?=some c->Blk w' c #[.int .u64 (nms.getD (i+1) 0:Nat),.int .u64 (lbs.getD (i+1) 0:Nat),pB (some nb),pB (nxB bs (i+1))] 257,?_,?_⟩
 rotate_left
 ·simp only [pB,NonNil_some,Nat.reduceAdd,tB3.cell,lds]
  cases hn:bs[i+1]? with
  | none=>
   have e:nxB bs i=none:=hn
   rw [e]
   simp only [Option.map_none,Option.isNone_none,Bool.not_true,Br_f]
   exact⟨.refl _ _,fun c hc=>by cases hc⟩
  | some c=>
   have e:nxB bs i=some c:=hn
   rw [e]
   simp only [nds,oms,oin,Bool.not_false,Br_t,Nat.reduceAdd]
   have hc3:=h3.r.blk (i+1) c hn
   unfold tgC at hc3
   refine st_blk hc3 sm fun w4 b4 f4=>?_
   simp only [sls] at b4
   exact⟨f4.mono fun y _ e=>by rw [e],fun c' hc'=>by cases hc';exact b4⟩
 rintro w4 ⟨f4,hc4⟩
 unfold F119_j13
 have hne1:∀c,bs[i+1]?=some c->c≠b/\c≠g/\c≠nb/\c≠mb:=fun c hc=>by
  have hcm:=mog hc
  refine⟨fun e=>?_,(h.gne hcm).1,hnb c (by rw [h.r.col c hcm];decide),(h.gne hcm).2⟩
  subst e
  have:=nd_get h.r.nd hc hb;omega
 have tB4:=f4.blk tB3 (fun e=>(hne1 b e).1 rfl)
 have b4:=f4.blk b3 (fun e=>(hne1 nb e).2.2.1 rfl)
 have bD4:=f4.blk h3.blk (fun e=>(hne1 g e).2.1 rfl)
 unfold dkC at bD4
 simp only [nds,pB,Nat.reduceAdd]
 have hbnb:b≠nb:=hnb b (by rw [h.r.col b hbm];decide)
 obtain⟨hbg,hbmb⟩:=h.gne hbm
 refine st_blk tB4 sm fun w5 tB5 f5=>?_
 simp only [sls] at tB5
 have b5:=f5.blk b4 (fun e=>hbnb e.symm)
 have bD5:=f5.blk bD4 (fun e=>hbg e.symm)
 have hdr5:Below w5.heap.size w5 w5.drew:=(Below.refl _ _).drew
 refine⟨fun w'=>Below w5.heap.size w5 w',hdr5,?_⟩
 refine⟨_,fun w' hw=>by rw [(bD5.keep hw).cell];rfl,?_⟩
 refine⟨_,fun w' hw=>by rw [(b5.keep hw).cell];rfl,?_⟩
 have mcol:=h.r.mcol
 have hmb4:¬bs[i+1]?=some mb:=fun e=>(hne1 mb e).2.2.2 rfl
 have mp5:Mp .u64 w5.drew mb (mpT bs nms):=((h3.r.mp.fm f4 hmb4).fm f5 (fun e=>hbmb e.symm)).fm (M:=fun _=>False) (.below hdr5) fun h=>h
 have hgx:gv+1∉nms:=fun e=>by have:=hI.le _ e;omega
 refine mp5.update mapType keyType (gv+1:Nat) _ fun w6 mp6 f6=>?_
 have F36:Fm (fun c=>c=b\/c=mb\/bs[i+1]?=some c) w3 w6:=((f4.mono fun c _ e=>.inr (.inr e)).trans (f5.mono fun c _ e=>.inl e)).trans ((Fm.below hdr5).trans (f6.mono fun c _ e=>.inr (.inl e)))
 have F56:Fm (·=mb) w5 w6:=(Fm.below hdr5).trans f6
 have b6:=F56.blk b5 (fun e=>by have e:nb=mb:=e;rw [e] at onb;omega)
 have hR6:=h3.r.ins (w1:=w6) (L:=L) (x:=gv+1) (nb:=nb) h.len h.len2 hb hnb (by rw [hgd1,hgd2];exact F56.blk tB5 hbmb) b6 (fun c hc=>F56.blk (f5.blk (hc4 c hc) (hne1 c hc).1) (hne1 c hc).2.2.2)
  (fun j c hc hji hji1=>F36.blk (h3.r.blk j c hc) (fun e=>by
   have hcm:=mog hc
   rcases e with e | e | e
   ·subst e;exact hji (nd_get h.r.nd hc hb)
   ·exact (h.gne hcm).2 e
   ·exact hji1 (nd_get h.r.nd hc e))) (by rw [mpT_ins h.nn hgx h.len hi2];exact mp6)
 have hi3:i+1<=bs.length:=by rw [h.len];exact hi2
 have hi4:i+1<=lbs.length:=by rw [h.len2];exact hi2
 have F26:=F36.size
 have F23:=f3.size
 have hnb6:=b6.lt
 have h6:TgD w6 (fun c=>if c=nb then 4 else o c) g f (insAt bs (i+1) nb) (insAt nms (i+1) (gv+1)) (insAt lbs (i+1) L) mb (gv+1) wr3:=by
  refine⟨?_,?_,hR6,by rw [insAt_len hi3,insAt_len hi2,h.len],by rw [insAt_len hi4,insAt_len hi2,h.len2],by rw [insAt_len hi2];omega,nodup_insAt h.nn hgx,fun c hc=>?_⟩
  ·have:=F56.blk bD5 (fun e=>by have e:g=mb:=e;rw [<-e,h.gcol] at mcol;omega)
   unfold dkC
   rw [insAt_at hi3,if_pos om]
   exact this
  ·show (if g=nb then 4 else o g)=1
   rw [if_neg (hnb g (by rw [h.gcol];decide))];exact h.gcol
  ·by_cases e:c=nb
   ·rw [e];exact hnb6
   ·have hc:(if c=nb then 4 else o c)≠0:=hc
    rw [if_neg e] at hc
    exact nll (h3.lt c hc) F26
 have hcold:∀c,c<w.heap.size->c≠nb:=fun c hc e=>by have:w1.heap.size<=nb:=hge2;omega
 have F06:Fm (fun c=>o c=1\/o c=4\/o c=5) w w6:=by
  have a1:Fm (fun c=>o c=1\/o c=4\/o c=5) w w2:=(f1.mono fun c _ e=>by have e:c=g:=e;rw [e];exact .inl h.gcol).tr D2
  have a2:=a1.tr2 f3 fun c hc e=>by
   rcases e with e | e
   ·rw [e];exact .inl h.gcol
   ·exact absurd e (hcold c hc)
  refine a2.tr2 F36 fun c hc e=>?_
  rcases e with e | e | e
  ·rw [e];exact .inr (.inl (h.r.col b hbm))
  ·rw [e];exact .inr (.inr mcol)
  ·exact .inr (.inl (h.r.col c (mog e)))
 have ev6:EvT w o w6 (fun c=>if c=nb then 4 else o c):=⟨F06,fun c hc=>by show (if c=nb then 4 else o c)=o c;rw [if_neg (hnb c hc)],fun c hc h9=>by show (if c=nb then 4 else o c)=0;rw [if_neg (hcold c hc)];exact h9,fun c hc=>by
  by_cases e:c=nb
  ·right;left;show (if c=nb then 4 else o c)=4;rw [if_pos e]
  ·left
   have hc:(if c=nb then 4 else o c)≠0:=hc
   rw [if_neg e] at hc;exact hc⟩
 refine⟨fun w'=>∃lbs' wr',TgD w' (fun c=>if c=nb then 4 else o c) g f (insAt bs (i+1) nb) (insAt nms (i+1) (gv+1)) lbs' mb (gv+1) wr'/\TgI (insAt nms (i+1) (gv+1)) lbs' (gv+1)/\EvT w o w' (fun c=>if c=nb then 4 else o c),?_,?_⟩
 ·rintro w7 ⟨lbs',wr',h7,i7,ev7⟩
  unfold F119_j17
  obtain⟨x7,l7,u1,u2,u3⟩:=h7.tag (i:=i+1) (b:=nb) (by rw [insAt_at hi3,if_neg om,if_pos rfl])
  rw [insAt_at hi2,if_neg om,if_pos rfl] at u1
  cases u1
  simp only [NonNil_some,Nat.reduceAdd,u3.cell,lds]
  exact hK w7 _ _ lbs' mb wr' h7 i7 (ev0.trans hlt0 ev7)
 ·simp only [NonNil_some,Nat.reduceAdd,b6.cell,lds]
  refine bre (fun hz=>?_) (fun hnz=>?_)
  ·have hl0:(insAt lbs (i+1) L)[0]?=some 0:=by rw [insAt_at hi4,if_pos om];exact hI.l0
   refine spread_calls h6 (by rw [insAt_len hi2];omega) hl0 fun w7 lbs' wr' h7 f7 z0 z1 z2=>⟨rfl,?_⟩
   refine⟨lbs',wr',h7,hI.renum (L:=L) hi2 hf h7.len2 z0 z1 z2,ev6.trans hlt ⟨f7.mono fun c hc e=>?_,fun _ _=>rfl,fun _ _ h=>h,fun _ h=>.inl h⟩⟩
   rcases e with e | e
   ·rw [e];exact .inl h6.gcol
   ·exact .inr (.inl (h6.r.col c e))
  ·rcases hL with hL | ⟨q1,q2,q3⟩
   ·exact absurd om hnz
   ·exact⟨_,wr3,h6,hI.ins hi2 t2 q1 q2 q3 hf,ev6⟩
theorem After_calls (h:TgD w o g f bs nms lbs mb gv wr) (hI:TgI nms lbs gv) (hf:nms.length<=8192) (hgv:gv<9223372036854775808) {i x:Nat} (hx:nms[i]?=some x)
  (hK:∀w' o' bs' lbs' mb wr',TgD w' o' g f bs' (insAt nms (i+1) (gv+1)) lbs' mb (gv+1) wr'->TgI (insAt nms (i+1) (gv+1)) lbs' (gv+1)->EvT w o w' o'->R (.returned (.tuple #[.int .u64 (gv+1:Nat),.int .i64 0])) w') :
  CL 119 #[.pointer (some ⟨g,5,none⟩),.int .u64 (x:Nat)] w R:=
 After_gen h.lt hf hgv hx (fun R' k=>by
  obtain⟨b,hb⟩:∃b,bs[i]?=some b:=⟨_,gge (by rw [h.len];exact (gsi.1 hx).1)⟩
  exact find_some h hx hb (k w o bs lbs mb wr b h hI .refl hb)) hK
structure TgZ (w:Wd) (o:Nat->Nat) (g:Nat) (f:Fr):Prop where
 blk:Blk w g (dkC f none none 0 0) f.t
 gcol:o g=1
 lt:∀b,o b≠0->b<w.heap.size
theorem begin_zero (h:TgZ w o g f) (hK:∀w' o' b mb,TgD w' o' g f [b] [0] [0] mb 0 0->EvT w o w' o'->R (.returned (.tuple #[])) w'):CL 207 #[.pointer (some ⟨g,5,none⟩)] w R:=by
 refine ok207 (some ⟨g,5,none⟩) ?_
 unfold F207
 have hD:=h.blk
 unfold dkC pB at hD
 simp only [NonNil_some,Addr.add_mk,Nat.reduceAdd,nza,hD.cell,List.getElem?_toArray,List.getElem?_cons_zero,List.getElem?_cons_succ,Option.map_none,lds]
 simp only [Option.isNone_none,Br_t]
 refine al fun gb w1 hb1 b1 hge1=>?_
 have hgl:=hD.lt
 refine st_blk (hD.keep hb1) sm fun w2 bD2 f2=>?_
 simp only [sls] at bD2
 have hne1:gb≠g:=by omega
 have b2:=f2.blk b1 (fun e=>hne1 e)
 have hs1:=hb1.size
 have hs2:=f2.size
 have hb3:Below w2.heap.size w2 (w2.alloc (.map #[] 0)):=(Below.refl _ _).alloc (nlr _) _
 have mp3:Mp .u64 (w2.alloc (.map #[] 0)) w2.heap.size fun _=>none:=Mp.made w2 .u64
 unfold AlM
 have bD3:=bD2.keep hb3
 have b3:=b2.keep hb3
 generalize (w2.alloc (.map #[] 0))=w3 at *
 have hbl:=b2.lt
 have hD2l:=bD2.lt
 generalize hmb:w2.heap.size=mb at *
 simp only [NonNil_some,Nat.reduceAdd,bD3.cell,lds]
 refine mp3.update mapType keyType (0:Nat) _ fun w4 mp4 f4=>?_
 have bD4:=f4.blk bD3 (fun e=>by have e:g=mb:=e;omega)
 have b4:=f4.blk b3 (fun e=>by have e:gb=mb:=e;omega)
 refine st_blk bD4 sm fun w5 bD5 f5=>?_
 simp only [sls] at bD5
 have hs3:=hb3.size
 have hs4:=f4.size
 have hs5:=f5.size
 have ogb:o gb=0:=byc fun e=>by have:=h.lt gb e;omega
 have omb:o mb=0:=byc fun e=>by have:=h.lt mb e;omega
 have b5:=f5.blk b4 (fun e=>hne1 e)
 have mp5:=mp4.fm f5 (fun e=>by have e:mb=g:=e;omega)
 have hgb:g≠gb:=fun e=>hne1 e.symm
 have hgm:g≠mb:=by omega
 have hmg:gb≠mb:=by omega
 have mplt:=mp5.lt
 refine hK w5 (fun c=>if c=gb then 4 else if c=mb then 5 else o c) gb mb ⟨bD5,?_,⟨fun i c hc=>?_,fun c hc=>?_,sm,?_,?_⟩,rfl,rfl,sm,sm,fun c hc=>?_⟩ ⟨?_,fun c hc=>?_,fun c hcl hc=>?_,fun c hc=>?_⟩
 ·show (if g=gb then 4 else if g=mb then 5 else o g)=1
  rw [if_neg hgb,if_neg hgm];exact h.gcol
 ·cases i with
  | succ i=>cases hc
  | zero=>cases hc;exact b5
 ·rw [msg] at hc;subst hc
  show (if c=c then 4 else _)=4
  rw [if_pos rfl]
 ·have e:mpT [gb] [0]=upd (fun _=>none) ((0:Nat):Int) (some (Value.pointer (some ⟨gb,0,none⟩))):=by
   funext k
   unfold mpT upd
   by_cases hk:k=((0:Nat):Int)
   ·subst hk;rfl
   ·rw [if_neg hk,if_neg]
    rintro ⟨h1,h2⟩
    rw [msg] at h2
    exact hk om
  rw [e];exact mp5
 ·show (if mb=gb then 4 else if mb=mb then 5 else o mb)=5
  rw [if_neg (fun e=>hmg e.symm),if_pos rfl]
 ·have hc:(if c=gb then 4 else if c=mb then 5 else o c)≠0:=hc
  by_cases e1:c=gb
  ·rw [e1];exact b5.lt
  ·rw [if_neg e1] at hc
   by_cases e2:c=mb
   ·rw [e2];exact mplt
   ·rw [if_neg e2] at hc
    have:=h.lt c hc;omega
 ·have a1:Fm (fun c=>o c=1\/o c=4\/o c=5) w w2:=(Fm.below hb1).trans (f2.mono fun c _ e=>by have e:c=g:=e;rw [e];exact .inl h.gcol)
  have a2:Fm (fun c=>o c=1\/o c=4\/o c=5) w w3:=a1.tr (by rw [hmb];exact hb3)
  have a3:=a2.tr2 f4 fun c hc e=>by have e:c=mb:=e;omega
  exact a3.tr2 f5 fun c hc e=>by have e:c=g:=e;rw [e];exact .inl h.gcol
 ·show (if c=gb then 4 else if c=mb then 5 else o c)=o c
  rw [if_neg (fun e=>hc (by rw [e];exact ogb)),if_neg (fun e=>hc (by rw [e];exact omb))]
 ·show (if c=gb then 4 else if c=mb then 5 else o c)=0
  rw [if_neg om,if_neg om];exact hc
 ·by_cases e1:c=gb
  ·right;left;show (if c=gb then 4 else if c=mb then 5 else o c)=4;rw [if_pos e1]
  ·by_cases e2:c=mb
   ·right;right;show (if c=gb then 4 else if c=mb then 5 else o c)=5;rw [if_neg e1,if_pos e2]
   ·left
    have hc:(if c=gb then 4 else if c=mb then 5 else o c)≠0:=hc
    rw [if_neg e1,if_neg e2] at hc;exact hc
theorem find_zero (h:TgZ w o g f) (hK:∀w' o' b mb,TgD w' o' g f [b] [0] [0] mb 0 0->EvT w o w' o'->R (.returned (.tuple #[pB (some b),.int .i64 0])) w'):CL 172 #[.pointer (some ⟨g,5,none⟩),.int .u64 (0:Nat)] w R:=by
 refine ok172 (some ⟨g,5,none⟩) (0:Nat) ?_
 unfold F172
 refine begin_zero h fun w1 o1 b mb h1 ev=>⟨rfl,?_⟩
 have hB:=h1.blk
 unfold dkC at hB
 simp only [NonNil_some,Nat.reduceAdd,hB.cell,lds]
 refine h1.r.mp.look mapType keyType (zeroTag w1) (0:Nat) true ?_
 rw [mpT_some (i:=0) (x:=0) (b:=b) h1.nn rfl rfl]
 exact⟨some ⟨b,0,none⟩,true,rfl,hK w1 o1 b mb h1 ev⟩
theorem one_I:TgI [0] [0] 0:=⟨rfl,rfl,rfl,sm,sm,sm,sm,sm⟩
theorem After_zero (h:TgZ w o g f)
  (hK:∀w' o' bs' lbs' mb wr',TgD w' o' g f bs' (insAt [0] 1 1) lbs' mb 1 wr'->TgI (insAt [0] 1 1) lbs' 1->EvT w o w' o'->R (.returned (.tuple #[.int .u64 (1:Nat),.int .i64 0])) w') :
  CL 119 #[.pointer (some ⟨g,5,none⟩),.int .u64 (0:Nat)] w R:=
 After_gen (nms:=[0]) (gv:=0) (i:=0) (x:=0) (f:=f) h.lt sm dc rfl (fun R' k=>find_zero h fun w1 o1 b mb h1 ev=>k w1 o1 [b] [0] mb 0 b h1 one_I ev rfl) hK
end
end Go.Proofs.YtnbgiacnbheonaaGreatDoor
