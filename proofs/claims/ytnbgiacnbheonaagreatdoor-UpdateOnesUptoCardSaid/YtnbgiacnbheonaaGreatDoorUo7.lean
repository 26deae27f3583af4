/- UpdateOnes: a list of edits comes to the same when they are made one by one, and when two that stand beside one another in unlike phases change places. -/
import Derived.Test.YtnbgiacnbheonaaGreatDoorRows
import Derived.Test.YtnbgiacnbheonaaGreatDoorCards
import Derived.Test.YtnbgiacnbheonaaGreatDoorTie
import Derived.WalkKit
import Derived.Lib.SmallJoins
import Derived.RowKit3
import Derived.ProofKit
import Derived.OpenShut
import Derived.ShutString
import Derived.ChangeOld
import Derived.Below
import Derived.Carry
import Derived.SizedLaws
import Derived.LaidMore
import Derived.PinnedBridge
import Derived.Lib.LaidIn
import Derived.Lib.LaidU8T
import Derived.SevenTiedAt
import Derived.Stop.Joined
import Derived.Deep.DeepHandedRow
import Derived.JoinedCond
import Derived.Deep.CondSized
import Derived.Test.YtnbgiacnbheonaaGreatDoorUo6
namespace Go.Proofs.YtnbgiacnbheonaaGreatDoor
open Go.RowKit Go.Vc
set_option linter.unusedVariables false
set_option linter.unusedSimpArgs false
set_option maxRecDepth 100000
section
variable {w w0 w1:Wd}{R:RT}{B0 B1:Nat}{l:List Sl}{roots:List Nat}{vs vr:Sv}{es:List S8}
structure Spo (w:Wd) (B:Nat) (vs:Sv) (es:List S8) (k:Nat):Prop where
 own:∃es',Own LS8 w B 88 (slV vs) es'/\es'.length=es.length/\∀j,k<=j->es'[j]?=es[j]?
 ats:∀(j:Nat) (e:S8),k<=j->es[j]?=some e->∃la,Own LAt w B 145 (slV e.ats) la/\la.length<=1048576
 kids:∀(j:Nat) (e:S8),k<=j->es[j]?=some e->∃lk,Own LHn w B 42 (slV e.kids) lk/\lk.length<=1048576
theorem own_ne {α β:Type}{L:Lay α}{L2:Lay β}{w:Wd}{B B2 b:Nat}{e e2:TypeId}{v u:Value}{xs:List α}{ys:List β} (h:Own L w B e v xs) (k:Own L2 w B2 e2 u ys) (he:e≠e2) (hb:rowOf v=some b):rowOf u≠some b:=fun hu=>by
 rcases own_types h k he with q | q
 ·rw [q] at hb;cases hb
 ·rw [hb,hu] at q;exact q rfl
theorem Spo.fmA {k:Nat}{e:S8} (h:Spo w B1 vs es k) (hap:∀(i j:Nat) (e f:S8),i≠j->es[i]?=some e->es[j]?=some f->Apart (slV e.ats) (slV f.ats)/\Apart (slV e.kids) (slV f.kids)) (he:es[k]?=some e) {la:List At} (hf:Fm (fun b=>rowOf (slV e.ats)=some b) w w1) (hla:Own LAt w1 B1 145 (slV e.ats) la) (hl:la.length<=1048576):Spo w1 B1 vs es k:=by
 obtain⟨la0,a0,_⟩:=h.ats k e (nlr _) he
 obtain⟨es',o1,o2,o3⟩:=h.own
 refine⟨⟨es',own_fm o1 hf fun b hb hm=>own_ne o1 a0 tySA hb hm,o2,o3⟩,fun j f hj hf2=>?_,fun j f hj hf2=>?_⟩
 ·by_cases hjk:j=k
  ·subst hjk
   rw [he] at hf2
   obtain rfl:=osi hf2
   exact⟨la,hla,hl⟩
  ·obtain⟨lb,b1,b2⟩:=h.ats j f hj hf2
   refine⟨lb,own_fm b1 hf fun b hb hm=>?_,b2⟩
   rcases (hap j k f e hjk hf2 he).1 with q | q
   ·rw [q] at hb;cases hb
   ·rw [hb,hm] at q;exact q rfl
 ·obtain⟨lb,b1,b2⟩:=h.kids j f hj hf2
  exact⟨lb,own_fm b1 hf fun b hb hm=>own_ne b1 a0 tyHA hb hm,b2⟩
theorem Spo.fmK {k:Nat}{e:S8} (h:Spo w B1 vs es k) (hap:∀(i j:Nat) (e f:S8),i≠j->es[i]?=some e->es[j]?=some f->Apart (slV e.ats) (slV f.ats)/\Apart (slV e.kids) (slV f.kids)) (he:es[k]?=some e) (hf:Fm (fun b=>rowOf (slV e.kids)=some b) w w1):Spo w1 B1 vs es (k+1)/\∃es',Own LS8 w1 B1 88 (slV vs) es'/\es'.length=es.length/\∀j,k<=j->es'[j]?=es[j]?:=by
 obtain⟨lk0,k0,_⟩:=h.kids k e (nlr _) he
 obtain⟨es',o1,o2,o3⟩:=h.own
 have o4:=own_fm o1 hf fun b hb hm=>own_ne o1 k0 tySH hb hm
 refine⟨⟨⟨es',o4,o2,fun j hj=>o3 j om⟩,fun j f hj hf2=>?_,fun j f hj hf2=>?_⟩,es',o4,o2,o3⟩
 ·obtain⟨lb,b1,b2⟩:=h.ats j f om hf2
  exact⟨lb,own_fm b1 hf fun b hb hm=>own_ne b1 k0 tyAH hb hm,b2⟩
 ·obtain⟨lb,b1,b2⟩:=h.kids j f om hf2
  refine⟨lb,own_fm b1 hf fun b hb hm=>?_,b2⟩
  rcases (hap j k f e om hf2 he).2 with q | q
  ·rw [q] at hb;cases hb
  ·rw [hb,hm] at q;exact q rfl
theorem Spo.fmS {k:Nat} (h:Spo w B1 vs es k) (hf:Fm (fun b=>rowOf (slV vs)=some b) w w1) {es':List S8} (ho:Own LS8 w1 B1 88 (slV vs) es') (hl:es'.length=es.length) (hg:∀j,k<=j->es'[j]?=es[j]?):Spo w1 B1 vs es k:=by
 obtain⟨es0,o1,_⟩:=h.own
 refine⟨⟨es',ho,hl,hg⟩,fun j f hj hf2=>?_,fun j f hj hf2=>?_⟩
 ·obtain⟨lb,b1,b2⟩:=h.ats j f hj hf2
  exact⟨lb,own_fm b1 hf fun b hb hm=>own_ne b1 o1 tyAS hb hm,b2⟩
 ·obtain⟨lb,b1,b2⟩:=h.kids j f hj hf2
  exact⟨lb,own_fm b1 hf fun b hb hm=>own_ne b1 o1 tyHS hb hm,b2⟩
theorem spoilImg_calls (h:OIm w B1 l vs es) (hr:Own LHn w B0 42 (slV vr) roots) (hB:B0<=B1) (hrow:∀b,rowOf (slV vr)=some b->b<B1) (hl:l.length<=4096) (hrl:roots.length<=1048576) (hat:∀s∈l,s.attrs.length<=1048576) (hkd:∀s∈l,s.kids.length<=1048576)
  (hK:∀w',Fm (fun b=>B0<=b/\b<w.heap.size) w w'->R (.returned (.tuple #[])) w') :
  CL 106 #[.agg #[.slice vs.1 vs.2.1 vs.2.2,.slice vr.1 vr.2.1 vr.2.2]] w R:=by
 have hap:=h.ap
 have hlen:=h.len
 obtain⟨q1,_⟩:=rdO h.own
 refine ok106 vs.1 vs.2.1 vs.2.2 vr.1 vr.2.1 vr.2.2 ?_
 unfold F106
 refine al fun g1 w1 hb1 b1 hge1=>?_
 have hs1:=hb1.size
 have hg1:=b1.lt
 have rS:∀b,rowOf (slV vs)=some b->B1<=b/\b<w.heap.size:=fun b hb=>h.own.lt b hb
 have elem:∀(j:Nat) (e:S8),es[j]?=some e->∃s∈l,OSl w B1 s e:=fun j e he=>by
  have hj:=(gsi.1 he).1
  exact⟨l[j],gem om,h.el j _ e (gge om) he⟩
 have rA:∀(j:Nat) (e:S8),es[j]?=some e->∀b,rowOf (slV e.ats)=some b->B1<=b/\b<w.heap.size:=fun j e he b hb=>by
  obtain⟨s,_,q⟩:=elem j e he
  exact q.ats.lt b hb
 have rK:∀(j:Nat) (e:S8),es[j]?=some e->∀b,rowOf (slV e.kids)=some b->B1<=b/\b<w.heap.size:=fun j e he b hb=>by
  obtain⟨s,_,q⟩:=elem j e he
  exact q.kids.lt b hb
 have sp0:Spo w1 B1 vs es 0:=⟨⟨es,h.own.keep hb1,rfl,fun _ _=>rfl⟩,fun j e _ he=>by
   obtain⟨s,hs,q⟩:=elem j e he
   exact⟨_,q.ats.keep hb1,hat s hs⟩,fun j e _ he=>by
   obtain⟨s,hs,q⟩:=elem j e he
   exact⟨_,q.kids.keep hb1,hkd s hs⟩⟩
 have bx:∀{u u':Wd}{M:Nat->Prop},Blk u g1 #[.slice vs.1 vs.2.1 vs.2.2,.slice vr.1 vr.2.1 vr.2.2] 25->Fm M u u'->(∀b,M b->b<w.heap.size)->Blk u' g1 #[.slice vs.1 vs.2.1 vs.2.2,.slice vr.1 vr.2.1 vr.2.2] 25:=fun hb hf hm=>hf.blk hb fun e=>by have:=hm _ e;omega
 refine⟨fun i w'=>∃k:Nat,i=k/\k<=es.length/\Spo w' B1 vs es k/\Own LHn w' B0 42 (slV vr) roots/\Blk w' g1 #[.slice vs.1 vs.2.1 vs.2.2,.slice vr.1 vr.2.1 vr.2.2] 25/\Fm (fun b=>B0<=b/\b<w.heap.size) w w',fun i _=>es.length-i.toNat,
  ⟨0,rfl,om,sp0,hr.keep hb1,b1,.below hb1⟩,?_⟩
 rintro _ w2 ⟨k,rfl,hk,sp2,hr2,b2,F2⟩
 unfold F106_l2
 simp only [b2.cell,lds]
 refine brd (fun hlt=>?_) (fun hge=>?_)
 rotate_left
 ·refine spoilH_calls (v:=vr) hr2 hrl fun w3 f3=>⟨rfl,hK w3 (F2.trans (f3.mono fun b _ e=>?_))⟩
  have hb:=hr2.lt b e
  have:=hr.lt b e
  exact⟨this.1,this.2⟩
 have hk2:k<es.length:=by omega
 have hek:es[k]?=some es[k]:=gge hk2
 generalize hee:es[k]=e at hek
 obtain⟨la,oa,hla⟩:=sp2.ats k e (nlr _) hek
 obtain⟨qa,_⟩:=rdO oa
 refine⟨fun j w'=>∃(m:Nat) (la':List At),j=m/\m<=la.length/\la'.length=la.length/\Own LAt w' B1 145 (slV e.ats) la'/\Spo w' B1 vs es k/\Own LHn w' B0 42 (slV vr) roots/\Blk w' g1 #[.slice vs.1 vs.2.1 vs.2.2,.slice vr.1 vr.2.1 vr.2.2] 25/\Fm (fun b=>B0<=b/\b<w.heap.size) w w',fun j _=>la.length-j.toNat,
  ⟨0,la,rfl,om,rfl,oa,sp2,hr2,b2,F2⟩,?_⟩
 rintro _ w3 ⟨m,la',rfl,hm,hla',oa3,sp3,hr3,b3,F3⟩
 unfold F106_l5
 simp only [b3.cell,lds]
 obtain⟨es3,o3,o3l,o3g⟩:=sp3.own
 have hk3:k<es3.length:=by omega
 have he3:es3[k]=e:=by
  have:=o3g k (nlr _)
  rw [hek,gge hk3] at this
  exact osi this
 obtain⟨p1,p2⟩:=rdO o3
 refine p2.s8 p1 rfl hk3 fun bb oo c0 c1 c2 c3 c4 c5 c6 c7=>?_
 rw [he3] at c4 c7
 simp only [c4,lds]
 refine brd (fun hlt2=>?_) (fun hge2=>?_)
 ·have hm2:m<la'.length:=by omega
  refine p2.s8 p1 rfl hk3 fun bb oo d0 d1 d2 d3 d4 d5 d6 d7=>?_
  rw [he3] at d4
  simp only [d4,lds]
  refine oa3.elA (v:=e.ats) rfl hm2 (show 2=LAt.n from rfl) fun br hbr=>?_
  simp only [Addr.add_mk]
  refine oa3.stc (j:=0) (x':=⟨ByteArray.mk #[],la'[m].val⟩) hm2 dc rfl hbr fun w4 o4 f4=>?_
  refine o4.stc (j:=1) (x':=⟨ByteArray.mk #[],ByteArray.mk #[]⟩) (by simpa using hm2) dc (by simp [LAt]) hbr fun w5 o5 f5=>?_
  have F5:Fm (fun b=>rowOf (slV e.ats)=some b) w3 w5:=f4.trans f5
  have hrr:∀b,rowOf (slV e.ats)=some b->B1<=b/\b<w.heap.size:=rA k e hek
  refine⟨inR_i64 om om,⟨m+1,_,sm,om,by simpa using hla',o5,sp3.fmA hap hek F5 o5 (by simp;omega),own_fm hr3 F5 fun b hb hm3=>by have:=hrow b hb;have:=hrr b hm3;omega,bx b3 F5 fun b hb=>(hrr b hb).2,F3.trans (F5.mono fun b _ hb=>by have:=hrr b hb;exact⟨om,this.2⟩)⟩,odz⟩
 ·refine p2.s8 p1 rfl hk3 fun bb oo d0 d1 d2 d3 d4 d5 d6 d7=>?_
  rw [he3] at d7
  simp only [d7,lds]
  obtain⟨lk,ok_,hlk⟩:=sp3.kids k e (nlr _) hek
  refine spoilH_calls (v:=e.kids) ok_ hlk fun w4 f4=>⟨rfl,?_⟩
  have hrr:∀b,rowOf (slV e.kids)=some b->B1<=b/\b<w.heap.size:=rK k e hek
  have b4:=bx b3 f4 fun b hb=>(hrr b hb).2
  simp only [b4.cell,lds]
  obtain⟨sp4,es4,o4,o4l,o4g⟩:=sp3.fmK hap hek f4
  have hk4:k<es4.length:=by omega
  refine o4.elA (v:=vs) rfl hk4 (show 8=LS8.n from rfl) fun bw hbw=>?_
  simp only [Addr.add_mk]
  refine o4.st8 ⟨0,false,0,ByteArray.mk #[],(none,0,0),ByteArray.mk #[],0,(none,0,0)⟩ hk4 hbw fun w5 o5 f5=>?_
  refine⟨inR_i64 om om,⟨k+1,sm,om,sp4.fmS f5 o5 (by simpa using o4l) fun j hj=>?_,own_fm (own_fm hr3 f4 fun b hb hm3=>by have:=hrow b hb;have:=hrr b hm3;omega) f5 fun b hb hm3=>by have:=hrow b hb;have:=rS b hm3;omega,bx b4 f5 fun b hb=>(rS b hb).2,(F3.trans (f4.mono fun b _ hb=>by have:=hrr b hb;exact⟨om,this.2⟩)).trans (f5.mono fun b _ hb=>by have:=rS b hb;exact⟨om,this.2⟩)⟩,odz⟩
  rw [gsn om]
  exact o4g j om
end
section
variable {w:Wd}{o:Nat->Nat}{θ:Th}{S:PS}{R:RT}
theorem LenP_calls (h:PM w o θ S) (hK:R (.returned (.int .i64 (S.lv:Nat))) w):CL 105 #[.pointer (some ⟨θ.g,0,none⟩)] w R:=by
 refine ok105 (some ⟨θ.g,0,none⟩) ?_
 unfold F105
 obtain⟨nv,rv,hd⟩:=h.doc
 have c:w.cell? ⟨θ.g,2,none⟩=some (.int .i64 (S.lv:Nat)):=by rw [hd.blk.cell];rfl
 simp only [NonNil_some,c,lds]
 exact hK
theorem rr_live {D:Im} (hw:Wf D):D.roots.length<=4096:=by
 refine nlt (live_few (fun y hy=>?_) hw.a.root.1) hw.s.few
 obtain⟨_,t,t1,_⟩:=hw.a.root.2 y hy
 exact⟨t,t1⟩
theorem tells_calls (h:PM w o θ S) (hi:PI S) (hw:Wf S.D) {ok:Nat->Bool}{g:Nat}{us ur:Sv} (hR:RM ok w g S.D us ur) (hK:∀w',Below w.heap.size w w'->R (.returned (.bool true)) w') :
  CL 57 #[.pointer (some ⟨θ.g,0,none⟩),.pointer (some ⟨g,0,none⟩)] w R:=by
 have hRd:=hR.rdr
 have hrl:=rr_live hw
 have hok:=hRd.im.ok
 have hrok:=hRd.im.rok
 have hat:∀s∈S.D.sl,s.attrs.length<=1048576:=fun s hs=>(h.rng s hs).atf
 have hkd:∀s∈S.D.sl,s.kids.length<=1048576:=fun s hs=>(h.rng s hs).few
 have hfew:=h.few
 refine ok57 (some ⟨θ.g,0,none⟩) (some ⟨g,0,none⟩) ?_
 unfold F57
 refine Image_calls h hw fun vs vr es w1 B1 hb1 hB1 oi1 or1 hrow=>⟨_,_,_,_,_,_,rfl,?_⟩
 have hs1:=hb1.size
 refine al fun g5 w2 hb2 b2 hge2=>?_
 have hs2:=hb2.size
 have hg5:=b2.lt
 refine st_blk b2 sm fun u1 q1 f1=>st_blk q1 sm fun w3 b3 f3=>?_
 simp only [sls] at b3
 have F3:Fm (·=g5) w2 w3:=f1.trans f3
 have hs3:=F3.size
 have D3:Below w1.heap.size w1 w3:=hb2.trans (F3.toBelow hb2.size fun b hb e=>by have e:b=g5:=e;omega)
 have B3:Below w.heap.size w w3:=btr hb1 hs1 D3
 refine⟨fun w'=>Below w3.heap.size w3 w',fun w4 B34=>?_,?_⟩
 ·unfold F57_j4
  have b4:=b3.keep B34
  simp only [b4.cell,slV,lds]
  have D4:=btr D3 D3.size B34
  have hs4:=D4.size
  refine spoilImg_calls (oi1.keep D4) (or1.keep D4) hB1 hrow hfew om hat hkd fun w5 f5=>⟨rfl,?_⟩
  have B4:=btr B3 B3.size B34
  have B5:Below w.heap.size w w5:=B4.trans (f5.toBelow B4.size fun b hb e=>by omega)
  have h5:=h.below B5
  refine ForestP_calls h5 hw fun vf ef w6 hb6 of6 ot6=>⟨_,_,_,rfl,?_⟩
  have B6:=btr B5 B5.size hb6
  refine ForestR_calls (hR.keep B6) hw fun vg eg w7 hb7 e7 r7 t7=>⟨_,_,_,rfl,?_⟩
  have B7:=btr B6 B6.size hb7
  obtain⟨p1,p2⟩:=rdO of6
  have tf6:RTl w6 (S.D.roots.map (trF (slA S.D.sl) 65)) ef:=RTl.sub sub_of_only _ _ (OTl.rtl (ok:=fun _=>true) _ _ _ _ _ (fun _ _ _=>rfl) ot6)
  refine forests_calls (v:=vf) (u:=vg) (by rw [lmp];omega) (tf6.keep hb7) t7 p1 e7 (p2.keep hb7) r7 fun w8 hb8=>⟨_,rfl,?_⟩
  rw [show (!true)=false from rfl,Br_f]
  have C8:Below w6.heap.size w6 w8:=btr hb7 hb7.size hb8
  have hs5:=f5.size
  have hs6:=hb6.size
  have hs8:=C8.size
  have B8:=B6.trans (C8.mono B6.size)
  have hel:=ot6.len
  rw [lmp] at hel
  have hfr:∀b,rowOf (slV vf)=some b->w5.heap.size<=b/\b<w6.heap.size:=fun b hb=>of6.lt b hb
  refine⟨fun j w'=>∃(m lo':Nat),j=m/\m<=S.D.roots.length/\w5.heap.size<=lo'/\Own LE5 w' w5.heap.size 48 (slV vf) ef/\OTl w' ((S.D.roots.map (trF (slA S.D.sl) 65)).drop m) (ef.drop m) lo' w6.heap.size (rowOf (slV vf))/\Below w.heap.size w w'/\w6.heap.size<=w'.heap.size,fun j _=>S.D.roots.length-j.toNat,
   ⟨0,w5.heap.size,rfl,Nat.zero_le _,nlr _,of6.keep C8,by rw [List.drop_zero,List.drop_zero];exact OTl.fm (Fm.below (M:=fun _=>False) C8) _ _ _ _ _ (fun _ _ _ _ h=>h) ot6,B8,hs8⟩,?_⟩
  rintro _ w9 ⟨m,lo',rfl,hm,hlo,o9,ot9,B9,hs9⟩
  unfold F57_l9
  refine brd (fun hlt=>?_) (fun hge=>?_)
  ·have hm2:m<S.D.roots.length:=by omega
   have hm3:m<ef.length:=by omega
   have hm4:m<(S.D.roots.map (trF (slA S.D.sl) 65)).length:=by rw [lmp];exact hm2
   rw [dgc hm4,dgc hm3] at ot9
   simp only [OTl] at ot9
   obtain⟨e9,es9,a,b,heq,k1,k2,k3,k4,k5,k6⟩:=ot9
   obtain⟨x1,x2⟩:=List.cons.inj heq
   subst x1 x2
   obtain⟨y1,y2⟩:=rdO o9
   refine y2.e5 y1 rfl hm3 fun bb oo c0 c1 c2 c3 c4=>?_
   simp only [c0,c1,c2,c3,c4,lds]
   refine spoil_calls _ (e:=ef[m]) k5 om fun w10 f10=>⟨rfl,?_⟩
   refine⟨inR_i64 om om,⟨m+1,b,sm,om,om,own_fm o9 f10 fun r hr hm9=>k4 r hr hm9,OTl.fm f10 _ _ _ _ _ (fun r h1 h2 _ h9=>by omega) k6,B9.trans (f10.toBelow B9.size fun r hr h9=>by have:=B5.size;omega),by have:=f10.size;omega⟩,odz⟩
  ·refine Image_calls (h.below B9) hw fun vs' vr' es' w10 B1' hb10 _ oi10 or10 _=>⟨_,_,_,_,_,_,rfl,?_⟩
   have B10:=btr B9 B9.size hb10
   refine ImageR_calls (hR.keep B10) fun w11 hb11 him=>⟨_,_,_,_,_,_,rfl,?_⟩
   have B11:=btr B10 B10.size hb11
   refine imagesE_calls (vs:=vs') (vr:=vr') (us:=us) (ur:=ur) (X:=S.D) ((oi10.keep hb11).rim (roots:=S.D.roots) (rr_own (or10.keep hb11) om) om hat hkd hok hrok) him fun w12 hb12=>⟨_,rfl,?_⟩
   exact hK w12 (btr B11 B11.size hb12)
 ·have hdr:Below w3.heap.size w3 w3.drew:=(Below.refl _ _).drew
  refine⟨fun w'=>Below w3.heap.size w3 w',hdr,?_⟩
  refine⟨_,_,_,fun w' hw'=>by rw [(b3.keep hw').cell];rfl,_,_,_,fun w' hw'=>by rw [Addr.add_mk,(b3.keep hw').cell];rfl,?_⟩
  have B3d:=btr B3 B3.size hdr
  refine ImageR_calls (hR.keep B3d) fun w4 hb4 him=>⟨_,_,_,_,_,_,rfl,?_⟩
  have E4:=btr hdr hdr.size hb4
  refine⟨E4,?_⟩
  have D4:=btr D3 D3.size E4
  have B4:=btr B3 B3.size E4
  refine imagesE_calls (vs:=vs) (vr:=vr) (us:=us) (ur:=ur) (X:=S.D) ((oi1.keep D4).rim (roots:=S.D.roots) (rr_own (or1.keep D4) om) om hat hkd hok hrok) him fun w5 hb5=>⟨_,rfl,?_⟩
  have E5:=btr E4 E4.size hb5
  have B5:=btr B3 B3.size E5
  refine⟨E5,?_⟩
  rw [show (!true)=false from rfl,Br_f]
  refine LenP_calls (h.below B5) ⟨_,rfl,E5,?_⟩
  refine len_calls (hRd.keep B5) ⟨_,rfl,E5,?_⟩
  refine brn (fun hne=>absurd (by rw [hi.lv]) hne) fun _=>?_
  simp only [nds]
  refine⟨_,_,_,fun w' hw'=>(hRd.keep (btr B3 B3.size hw')).c1,?_⟩
  refine Roots_calls (h.below B5) hw.a fun vq w6 hb6 oq=>⟨_,_,_,rfl,?_⟩
  have E6:=btr E5 E5.size hb6
  have B6:=btr B3 B3.size E6
  refine⟨E6,?_⟩
  refine handlesE_calls (v:=vq) (u:=ur) (rr_own oq om) (hRd.im.roots.keep B6) fun w7 hb7=>⟨_,rfl,?_⟩
  rw [show (!true)=false from rfl,Br_f]
  exact btr E6 E6.size hb7
end
section
variable {A:Nat->Option Sl}{E:Nat->Option (Nat × Nat)}{roots loose:List Nat}
theorem wrd_mem (hA:WfA A roots loose):∀(r x y:Nat) {s:Sl},A x=some s->y∈allA A r x->(eN E y).1∈wrd A E r x/\(eN E y).2∈wrd A E r x
 | 0,x,y,s,hs,hy=>by simp [allA] at hy
 | r+1,x,y,s,hs,hy=>by
  rw [allA_some hs,mcn] at hy
  rw [wrd_some hs]
  rcases hy with rfl | hy
  ·simp
  ·obtain⟨k,hk,hy⟩:=mfm.1 hy
   obtain⟨t,t1,_⟩:=((hA.kid x s hs).2 k hk).2
   obtain⟨h1,h2⟩:=wrd_mem hA r k y t1 hy
   have g1:=mfm.2 ⟨k,hk,h1⟩
   have g2:=mfm.2 ⟨k,hk,h2⟩
   simp [g1,g2]
def Cut (A:Nat->Option Sl) (E:Nat->Option (Nat × Nat)) (L W:List Nat) (i x:Nat):Prop:=
 ∃(P Q PW QW:List Nat) (r c:Nat) (s:Sl),A x=some s/\Ch A x c/\c+r=66/\L=P++allA A r x++Q/\P.length=i/\W=PW++wrd A E r x++QW/\∀y∈Q,(eN E y).1∈QW/\(eN E y).2∈QW
theorem flat_mem (hA:WfA A roots loose) {r:Nat}{l:List Nat} (hl:∀y∈l,∃t,A y=some t):∀y∈l.flatMap (allA A r),(eN E y).1∈l.flatMap (wrd A E r)/\(eN E y).2∈l.flatMap (wrd A E r):=fun y hy=>by
 obtain⟨k,hk,hy⟩:=mfm.1 hy
 obtain⟨t,t1⟩:=hl k hk
 obtain⟨h1,h2⟩:=wrd_mem (E:=E) hA r k y t1 hy
 exact⟨mfm.2 ⟨k,hk,h1⟩,mfm.2 ⟨k,hk,h2⟩⟩
end
def lab (nms lbs:List Nat) (x:Nat):Nat:=lbs.getD (nms.idxOf x) 0
section
variable {D:Im}{E:Nat->Option (Nat × Nat)}{nms lbs:List Nat}{gv:Nat}
def bg (E:Nat->Option (Nat × Nat)) (nms lbs:List Nat) (x:Nat):Nat:=lab nms lbs (eN E x).1
def en (E:Nat->Option (Nat × Nat)) (nms lbs:List Nat) (x:Nat):Nat:=lab nms lbs (eN E x).2
abbrev allD' (D:Im):List Nat:=D.roots.flatMap (allA (slA D.sl) 65)
end
abbrev Sp3:=Int × Int × Int
def sp3 (a:Sp3):Value:=.agg #[.int .u64 a.1,.int .u64 a.2.1,.int .i64 a.2.2]
def spn (E:Nat->Option (Nat × Nat)) (nms lbs:List Nat) (x c:Nat):Sp3:=((bg E nms lbs x:Nat),(en E nms lbs x:Nat),(c:Int)-1)
section
variable {D:Im}{E:Nat->Option (Nat × Nat)}{nms lbs:List Nat}{gv:Nat}{i k x y cx cy:Nat}{sx sy:Sl}
end
structure Asks (w:Wd) (gp gd:Nat) (D:Im) (E:Nat->Option (Nat × Nat)) (nms lbs:List Nat) (gv:Nat) (vs vr:Sv) (es:List S8):Prop where
 wf:Wf D
 i:TgI nms lbs gv
 word:nms=0 :: D.roots.flatMap (wrd (slA D.sl) E 65)
 r:RW [] w gd D vs vr es
 span:∀{x c:Nat}{s:Sl}{w1:Wd}{R:RT},slA D.sl x=some s->Ch (slA D.sl) x c->c<=64->Below w.heap.size w w1 ->
  (∀w',Below w1.heap.size w1 w'->R (.returned (.tuple #[sp3 (spn E nms lbs x c),.int .i64 0])) w')->CL 110 #[.pointer (some ⟨gp,0,none⟩),.int .u64 (x:Nat)] w1 R
theorem Asks.of {k g gd:Nat}{w:Wd}{o:Nat->Nat}{D:Im}{vs vr:Sv}{es:List S8} (hL:LD k g 113 w o D) (hw:Wf D) (hr:RW [] w gd D vs vr es):∃E nms lbs gv,Asks w g gd D E nms lbs gv vs vr es:=by
 obtain⟨S,nms,gv,E,rfl,h⟩:=hL
 have hword:=h.word
 have hd2:=h.def2
 obtain⟨lbs,hI,hM⟩:∃lbs,TgI nms lbs gv/\∀y,E y≠none->∃bs mb wr em,LM w o g 113 S bs nms lbs mb gv wr em E:=by
  rcases h.x with ⟨bs,lbs,mb,wr,em,h⟩ | ⟨h,rfl,rfl,h2⟩
  ·exact⟨lbs,h.i,fun _ _=>⟨bs,mb,wr,em,h⟩⟩
  ·exact⟨_,one_I,fun y hy=>absurd (h2 y) hy⟩
 refine⟨E,nms,lbs,gv,hw,hI,hword,hr,?_⟩
 intro x c s w1 R hs hc hc2 hb hK
 have hE:=hd2 x s hs
 obtain⟨bs,mb,wr,em,hm⟩:=hM x hE
 obtain⟨⟨b,e⟩,hbe⟩:=Option.ne_none_iff_exists'.1 hE
 have heN:eN E x=(b,e):=by unfold eN;rw [hbe];rfl
 have hin:x∈S.D.roots.flatMap (allA (slA S.D.sl) 65):=(mem_all_roots hw.a).2 ⟨s,hs⟩
 obtain⟨m1,m2⟩:=flat_mem (E:=E) (r:=65) hw.a (fun y hy=>by obtain⟨_,t,t1,_⟩:=hw.a.root.2 y hy;exact⟨t,t1⟩) x hin
 rw [heN] at m1 m2
 have n1:b∈nms:=by rw [hword];exact mcm _ m1
 have n2:e∈nms:=by rw [hword];exact mcm _ m2
 have l1:=ioi.2 n1
 have l2:=ioi.2 n2
 have hl:=hI.len
 refine Span_calls (hm.below hb) hw.a hs hc hc2 hbe (i:=nms.idxOf b) (j:=nms.idxOf e) (l:=lbs.getD (nms.idxOf b) 0) (m:=lbs.getD (nms.idxOf e) 0) ((idx_iff hI.nd).2 ⟨n1,rfl⟩) ((idx_iff hI.nd).2 ⟨n2,rfl⟩)
  (by rw [gdd,gge om];rfl) (by rw [gdd,gge om];rfl) fun w' hb'=>?_
 have:=hK w' hb'
 unfold sp3 spn bg en lab at this
 rw [heN] at this
 exact this
theorem nodup_len {α:Type} [DecidableEq α]:∀{l m:List α},l.Nodup->(∀x∈l,x∈m)->l.length<=m.length
 | [],m,_,_=>Nat.zero_le _
 | a :: l,m,hn,hm=>by
  obtain⟨h1,h2⟩:=List.nodup_cons.1 hn
  have ha:=hm a sm
  have:=nodup_len (l:=l) (m:=m.erase a) h2 fun x hx=>(List.mem_erase_of_ne (fun e=>h1 (by rw [<-e];exact hx))).2 (hm x (by simp [hx]))
  rw [List.length_erase_of_mem ha] at this
  have:=lpm ha
  simp;omega
def liveH (sl:List Sl):List Nat:=(List.range sl.length).filterMap fun i=>match sl[i]? with
 | some s=>if s.live=true then some (hnd s.gen i) else none
 | none=>none
theorem liveH_len (sl:List Sl):(liveH sl).length=liveN sl:=by
 have key:∀k,k<=sl.length->((List.range k).filterMap fun i=>match sl[i]? with
   | some s=>if s.live=true then some (hnd s.gen i) else none
   | none=>none).length=liveN (sl.take k):=fun k=>by
  induction k with
  | zero=>intro _;simp [liveN]
  | succ k ih=>
   intro hk
   have hk2:k<sl.length:=by omega
   rw [List.range_succ,List.filterMap_append,lap,ih om,liveN_take sl hk2]
   congr 1
   simp only [List.filterMap_cons,List.filterMap_nil,gge hk2]
   by_cases e:sl[k].live=true
   ·simp [e]
   ·simp [e]
 have:=key sl.length (nlr _)
 rw [tkl] at this
 exact this
theorem mem_liveH {sl:List Sl} (hf:sl.length<=4096) {x:Nat}:x∈liveH sl↔∃s,slA sl x=some s:=by
 unfold liveH
 rw [List.mem_filterMap]
 constructor
 ·rintro ⟨i,hi,h⟩
  have hi:=List.mem_range.1 hi
  rw [gge hi] at h
  by_cases e:sl[i].live=true
  ·have h:some (hnd sl[i].gen i)=some x:=by simpa [e] using h
   obtain rfl:=osi h
   exact⟨sl[i],slA_hnd om (gge hi) e⟩
  ·simp [e] at h
 ·rintro ⟨s,hs⟩
  obtain⟨k,k1,k2,k3,k4⟩:=slA_iff.1 hs
  refine⟨k,List.mem_range.2 (gsi.1 k2).1,?_⟩
  rw [k2]
  simp [k3,k4]
theorem liveH_nodup {sl:List Sl} (hf:sl.length<=4096):(liveH sl).Nodup:=by
 unfold liveH List.Nodup
 rw [List.pairwise_filterMap]
 refine List.pairwise_lt_range.imp_of_mem fun {i j} hi hj hij=>?_
 intro x hx y hy e
 have hi:=List.mem_range.1 hi
 have hj:=List.mem_range.1 hj
 rw [gge hi] at hx
 rw [gge hj] at hy
 subst e
 by_cases e1:sl[i].live=true <;> by_cases e2:sl[j].live=true
 ·have hx:some (hnd sl[i].gen i)=some x:=by simpa [e1] using hx
  have hy:some (hnd sl[j].gen j)=some x:=by simpa [e2] using hy
  have:=(hnd_inj om om (osi (hx.trans hy.symm))).2
  omega
 ·simp [e2] at hy
 ·simp [e1] at hx
 ·simp [e1] at hx
theorem all_live_len {D:Im} (hw:Wf D):(allD' D).length=liveN D.sl:=by
 have hf:=hw.s.few
 have hnd:(allD' D).Nodup:=rootsAll_nodup hw.a
 rw [<-liveH_len]
 refine Nat.le_antisymm (nodup_len hnd fun x hx=>(mem_liveH hf).2 ((mem_all_roots hw.a).1 hx)) (nodup_len (liveH_nodup hf) fun x hx=>(mem_all_roots hw.a).2 ((mem_liveH hf).1 hx))
def LPl:Lay (Nat × Sp3):=⟨4,fun p=>[.int .u64 (p.1:Nat),.int .u64 p.2.1,.int .u64 p.2.2.1,.int .i64 p.2.2.2],fun _=>rfl,fun _=>by simp [Value.oneCell'],dc⟩
def plcF (D:Im) (E:Nat->Option (Nat × Nat)) (nms lbs:List Nat):List (Nat × Sp3):=(allD' D).map fun x=>(x,spn E nms lbs x (cntI D x))
section
variable {w:Wd}{o:Nat->Nat}{θ:Th}{S:PS}{R:RT}{k g gd:Nat}{D:Im}{E:Nat->Option (Nat × Nat)}{nms lbs:List Nat}{gv:Nat}{vs vr:Sv}{es:List S8}
theorem AllT1_calls (h:PM w o θ S) (hS:WfS S.D.sl) (hA:WfA (slA S.D.sl) S.D.roots [])
  (hK:∀v' w',Below w.heap.size w w'->Own LHn w' w.heap.size 42 (slV v') (allD' S.D)->R (.returned (.tuple #[slV v',.int .i64 0])) w'):CL 90 #[.pointer (some ⟨θ.g,0,none⟩),.int .u64 0] w R:=by
 refine ok90 (some ⟨θ.g,0,none⟩) 0 ?_
 unfold F90
 refine bre (fun _=>?_) (fun e=>absurd rfl e)
 obtain⟨nv,rv,hd⟩:=h.doc
 obtain⟨A,c,hvf,hrd⟩:=hd.r1.form
 have e1:=slvF hvf
 have cv':w.cell? ⟨θ.g,1,none⟩=some (.slice rv.1 rv.2.1 rv.2.2):=by rw [hd.blk.cell];rfl
 simp only [NonNil_some,cv',lds]
 have hf:=rootsAll_few hS hA
 refine allP_calls h hA 65 (l:=S.D.roots) (v:=rv) (cc:=1) (xs:=[]) (by rw [e1];simp) (by rw [e1];exact hrd) h.rts.2 (fun y hy=>by
  obtain⟨_,t,ht,tp⟩:=hA.root.2 y hy
  exact⟨t,ht,.succ (hA.ne0 ht) ht (by rw [tp];exact .zero)⟩) om (Below.refl _ _) (.inl ⟨rfl,rfl⟩) (by simp only [List.length_nil];omega) fun A' n' c' w' hb' ho'=>⟨A',n',c',rfl,?_⟩
 rw [lna] at ho'
 exact hK (A',n',c') w' hb' ho'
theorem Spans_calls (hL:LD k g 113 w o D) (hw:Wf D) (hQ:Asks w g gd D E nms lbs gv vs vr es)
  (hK:∀v w',Below w.heap.size w w'->Own LPl w' w.heap.size 199 (slV v) (plcF D E nms lbs)->R (.returned (slV v)) w') :
  CL 58 #[.pointer (some ⟨g,0,none⟩)] w R:=by
 refine ok58 (some ⟨g,0,none⟩) ?_
 unfold F58
 simp only [NonNil_some]
 obtain⟨S,nms',gv',E',hSD,hi⟩:=hL
 obtain⟨tl,_,hp⟩:=hi.x.pm
 have hwS:Wf S.D:=by rw [hSD];exact hw
 refine AllT1_calls (θ:=⟨g,113,tl⟩) hp hwS.s hwS.a fun v w1 hb1 ov=>⟨v.1,v.2.1,v.2.2,0,rfl,?_⟩
 rw [hSD] at ov
 obtain⟨y1,y2⟩:=rdO ov
 have hfew:(allD' D).length<=4096:=rootsAll_few hw.s hw.a
 have hs1:=hb1.size
 refine⟨om,om,om,?_⟩
 refine al fun g19 w2 hb2 b2 hge2=>?_
 have B2:=btr hb1 hs1 hb2
 have hs2:=hb2.size
 have hz:((v.2.1:Nat):Int).toNat=v.2.1:=by omega
 rw [hz] at b2 |-
 have hz0:((0:Int)).toNat=0:=rfl
 rw [hz0]
 have o0:Own LPl w2 w1.heap.size 199 (.slice (some ⟨g19,0,none⟩) 0 v.2.1) []:=Own.made (L:=LPl) b2 hge2 (by unfold zrow;simp [LPl]) (by unfold maxLen;omega)
 refine⟨fun oA oN oC i w'=>∃j:Nat,i=j/\j<=(allD' D).length/\Below w1.heap.size w1 w'/\Own LPl w' w1.heap.size 199 (.slice oA oN oC) ((plcF D E nms lbs).take j),fun _ _ _ i _=>(allD' D).length-i.toNat,
  ⟨0,rfl,om,hb2,by rw [List.take_zero];exact o0⟩,?_⟩
 rintro oA oN oC _ w3 ⟨j,rfl,hj,B3,o3⟩
 unfold F58_l4
 have hpl:(plcF D E nms lbs).length=(allD' D).length:=by unfold plcF;rw [lmp]
 have hs3:=B3.size
 refine brd (fun hlt=>?_) (fun hge=>?_)
 ·have hj2:j<(allD' D).length:=by omega
  refine (y2.keep B3).hn y1 rfl hj2 fun b oo cc=>?_
  simp only [cc,lds]
  obtain⟨s,hs⟩:=(mem_all_roots hw.a).1 (gem hj2)
  obtain⟨c1,c2⟩:=hw.cnt (p:=(allD' D)[j]) (.inr ⟨s,hs⟩)
  refine hQ.span hs c2 c1 (btr hb1 hs1 B3) fun w4 hb4=>⟨_,_,_,_,rfl,?_⟩
  refine al fun gs w5 hb5 b5 hge5=>?_
  refine st_blk b5 sm fun u1 q1 f1=>st_blk q1 sm fun u2 q2 f2=>st_blk q2 sm fun w6 b6 f6=>?_
  simp only [sls] at b6
  simp only [b6.cell,lds]
  have hs4:=hb4.size
  have hs5:=hb5.size
  have F6:Fm (·=gs) w5 w6:=(f1.trans f2).trans f6
  have D5:=btr hb4 hs4 hb5
  have D6:Below w3.heap.size w3 w6:=D5.trans (F6.toBelow D5.size fun b hb e=>by have e:b=gs:=e;omega)
  have hs6:=D6.size
  have htl:((plcF D E nms lbs).take j).length=j:=by rw [ltk];omega
  refine ap1 (L:=LPl) (x:=((allD' D)[j],spn E nms lbs (allD' D)[j] (cntI D (allD' D)[j]))) (base:=w1.heap.size) (.agg #[.int .u64 0,.int .u64 0,.int .u64 0,.int .i64 0]) 32 rfl kr kr kr (o3.keep D6) om om (by unfold maxLen;omega) fun A' c' w7 o7 g7=>⟨A',_,c',rfl,?_⟩
  refine⟨inR_i64 om om,⟨j+1,sm,om,(B3.trans (D6.mono hs3)).trans g7.below,?_⟩,odz⟩
  rw [tsa om]
  have:(plcF D E nms lbs)[j]'om=((allD' D)[j],spn E nms lbs (allD' D)[j] (cntI D (allD' D)[j])):=by simp [plcF]
  rw [this]
  exact o7
 ·have hj2:j=(allD' D).length:=by omega
  subst hj2
  rw [<-hpl,tkl] at o3
  exact hK (oA,oN,oC) w3 (btr hb1 hs1 B3) (o3.rebase fun b hb=>by have:=(o3.lt b hb).1;omega)
theorem isU_calls {ok:Nat->Bool} (hL:LD k g 113 w o D) (hw:Wf D) (hR:RM ok w gd D vs vr) (hK:∀w',Below w.heap.size w w'->R (.returned (.bool true)) w') :
  CL 21 #[.pointer (some ⟨g,0,none⟩),.pointer (some ⟨gd,0,none⟩)] w R:=by
 refine ok21 (some ⟨g,0,none⟩) (some ⟨gd,0,none⟩) ?_
 unfold F21
 refine TreeU_calls hL ?_
 intro gc bs o1 w1 S1 hb1 hD1 hp1 _ ho1 hi1
 refine⟨_,rfl,?_⟩
 rw [oin,show (!false)=true from rfl,Br_t]
 refine tells_calls (θ:=⟨gc,106,[]⟩) hp1 hi1 (by rw [hD1];exact hw) (by rw [hD1];exact hR.keep hb1) fun w2 hb2=>⟨_,rfl,?_⟩
 rw [Br_t]
 have B2:=btr hb1 hb1.size hb2
 have hL2:LD k g 113 w2 o D:=(label_edr (g:=g)).keep (M:=fun _=>False) hL (.below B2) fun _ _ h=>h.elim
 have hR2:=hR.keep B2
 obtain⟨es2,hRW⟩:=hR2.re
 obtain⟨E,nms,lbs,gv,hQ⟩:=Asks.of hL2 hw hRW
 refine Spans_calls hL2 hw hQ fun v w3 hb3 ov=>⟨_,_,_,rfl,?_⟩
 have B3:=btr B2 B2.size hb3
 refine len_calls (hR2.rdr.keep hb3) ⟨_,rfl,?_⟩
 obtain⟨y1,_⟩:=rdO ov
 have hpl:(plcF D E nms lbs).length=(allD' D).length:=by unfold plcF;rw [lmp]
 have:((v.2.1:Nat):Int) == ((liveN D.sl:Nat):Int):=by rw [y1,hpl,all_live_len hw];simp
 rw [this]
 exact hK w3 B3
end
def exA:Tr:=.mk 1 (ByteArray.mk #[97]) [] noB []
def exO:O1:=⟨1,0,0,2,noB,noB,exA⟩
def exE11:E11:=⟨exO,⟨1,ByteArray.mk #[97],(none,0,0),noB,(none,0,0)⟩⟩
theorem ex_chk:checkF [exO]=(0,0):=by decide +kernel
theorem ex_plan:planF [exO] 5=[0]:=by decide +kernel
theorem ex_put:(insF ⟨[],[]⟩ 2 0 exA).2=(4294967297,0):=by decide +kernel
theorem exA_rd (w:Wd):RTr w exA ⟨1,ByteArray.mk #[97],(none,0,0),noB,(none,0,0)⟩:=by
 unfold exA
 simp only [RTr]
 exact⟨by trivial,by trivial,by trivial,rr_nil,sm,[],rfl,Rd.nil _ _,by simp [RTl]⟩
theorem mapGone:Tryz.prog.underlying 122=some (.map 42 4):=by kernel_rfl
theorem mapPut:Tryz.prog.underlying 188=some (.map 3 42):=by kernel_rfl
theorem keyInt:Tryz.prog.underlying 3=some (.int .i64):=by kernel_rfl
theorem zeroHn (w:Wd):(zeroValue 42).run P0 w=.ok (.int .u64 0) w:=by kernel_rfl
theorem ld_keep {k g:Nat}{ty:TypeId}{w w1:Wd}{o:Nat->Nat}{D:Im}{M:Nat->Prop} (h:LD k g ty w o D) (hf:Fm M w w1) (hm:∀b,b<w.heap.size->M b->o b=0):LD k g ty w1 o D:=by
 obtain⟨S,nms,gv,E,rfl,h⟩:=h
 exact⟨S,nms,gv,E,rfl,h.x.fm hf hm,h.pi,h.word,h.def1,h.def2,h.gv_⟩
theorem cmInsU {g : Nat} (w : Wd) (a b c : Value) : (callMethod (.iface 58 (.pointer (some ⟨g, 0, none⟩))) "Insert" #[a, b, c]).run P0 w = .ok (.enter 26 #[.pointer (some ⟨g, 0, none⟩), a, b, c]) w := by kernel_rfl
section
variable {w:Wd}{R:RT}
theorem exR {g:Nat} (h:Blk w g (opC exE11) 50):Rd LOp w (some ⟨g,0,none⟩) 1 [exE11]:=rd_row (xs:=[exE11]) h rfl (by simp [maxLen])
theorem exOk (w:Wd):∀x∈[exE11],ROp w x:=fun x hx=>by
 rw [msg.1 hx]
 exact⟨⟨dc,dc⟩,exA_rd w⟩
theorem exPlan {g:Nat} (h:Blk w g (opC exE11) 50) (hT:Tabs w) (hK:∀v w',Below w.heap.size w w'->Own LI w' w.heap.size 3 (slV v) [0]->R (.returned (.tuple #[slV v,.int .i64 0])) w') :
  CL 29 #[.slice (some ⟨g,0,none⟩) 1 1] w R:=by
 refine planP_calls [exE11] (exR h) (exOk w) hT dc fun w' hb=>?_
 unfold PlanK
 have e:checkF ([exE11].map (·.o))=(0,0):=ex_chk
 rw [e,if_neg dc]
 intro v hv
 rw [show planF ([exE11].map (·.o)) 5=[0] from ex_plan] at hv
 exact hK v w' hb hv
theorem do_calls {gm gd r:Nat}{w0:Wd}{o:Nat->Nat}{S:PS} (hm:Blk w gm #[.pointer (some ⟨gd,0,none⟩),.map (some r)] 187) (hp:PM w o ⟨gd,106,[]⟩ S) (hi:PI S) (hD:S.D=⟨[],[]⟩) (hb0:Below w0.heap.size w0 w) (ho:∀b,o b≠0->w0.heap.size<=b) (hT:Tabs w0)
  (hK:∀w',Below w0.heap.size w0 w'->Fm (fun b=>o b≠0) w w'->R (.returned (.tuple #[.int .u64 4294967297,.int .i64 0])) w') :
  CL 104 #[.pointer (some ⟨gm,0,none⟩),opV exE11] w R:=by
 refine ok104 (some ⟨gm,0,none⟩) 1 ((0:Nat):Int) ((0:Nat):Int) 2 noB noB 1 (ByteArray.mk #[97]) none 0 0 noB none 0 0 ?_
 unfold F104
 refine al fun go w1 hb1 bo hgo=>?_
 have hdr:Below w1.heap.size w1 w1.drew:=(Below.refl _ _).drew
 have D1:=btr hb1 hb1.size hdr
 refine⟨fun w'=>w1.drew=w',?_,?_⟩
 rotate_left
 ·refine⟨fun w'=>Below w1.drew.heap.size w1.drew w',.refl _ _,_,fun w' hw=>by rw [((bo.keep hdr).keep hw).cell];rfl,?_⟩
  exact brn (fun h=>absurd rfl h) fun _=>rfl
 rintro _ rfl
 unfold F104_j3
 have bo2:=bo.keep hdr
 simp only [bo2.cell,lds]
 refine bre (fun h=>absurd h dc) fun _=>?_
 refine bre (fun h=>absurd h dc) fun _=>?_
 refine bre (fun h=>absurd h dc) fun _=>?_
 refine bre (fun h=>absurd h dc) fun _=>?_
 refine bre (fun _=>?_) fun h=>absurd rfl h
 have hdr2:Below w1.drew.heap.size w1.drew w1.drew.drew:=(Below.refl _ _).drew
 have D2:=btr D1 D1.size hdr2
 have bo3:=bo2.keep hdr2
 have hm3:=hm.keep D2
 refine⟨fun w'=>Below w1.drew.drew.heap.size w1.drew.drew w',.refl _ _,?_⟩
 simp only [nds]
 have hc:∀(i:Nat) (u:Value),(opC exE11)[i]?=some u->Held (fun w'=>Below w1.drew.drew.heap.size w1.drew.drew w') ⟨go,i,none⟩ u:=fun i u hu w' hw=>by rw [(bo3.keep hw).cell];exact hu
 refine⟨_,fun w' hw=>by rw [(hm3.keep hw).cell];rfl,_,hc 3 _ rfl,_,hc 2 _ rfl,_,hc 6 _ rfl,_,hc 7 _ rfl,_,_,_,hc 8 _ rfl,_,hc 9 _ rfl,_,_,_,hc 10 _ rfl,?_⟩
 have hp3:=hp.below D2
 have B3:=btr hb0 hb0.size D2
 have hsub:Sub w0 (wc o w1.drew.drew):=fun b c t fr hb=>by
  have hlt:=(agi.1 hb).1
  refine cells_only (ok:=fun b=>Nat.beq (o b) 0) ?_ ?_
  ·have:o b=0:=byc fun e=>by have:=ho b e;omega
   show Nat.beq (o b) 0=true
   rw [this];rfl
  ·rw [B3.block b hlt];exact hb
 refine insert_calls (x:=exA) (e:=⟨1,ByteArray.mk #[97],(none,0,0),noB,(none,0,0)⟩) (wh:=2) (a:=0) hp3 hi (by rw [hD];exact nil_wf) (hT.sub hsub) (exA_rd _) dc fun w4 o4 S4 _ _ _ ev=>⟨_,_,rfl,?_⟩
 rw [hD,ex_put]
 have F4:Fm (fun b=>o b≠0) w1.drew.drew w4:=ev.fm.mono fun b _ e e0=>by
  have e:pc (o b):=e
  rw [e0] at e;exact not_pc0 e
 exact hK w4 (B3.trans (F4.toBelow B3.size fun b hb e=>by have:=ho b e;omega)) ((Fm.below D2).trans F4)
theorem try_calls {gd g:Nat}{o:Nat->Nat}{S:PS}{w0:Wd} (hg:Blk w g (opC exE11) 50) (hp:PM w o ⟨gd,106,[]⟩ S) (hi:PI S) (hD:S.D=⟨[],[]⟩) (hb0:Below w0.heap.size w0 w) (ho:∀b,o b≠0->w0.heap.size<=b) (hT:Tabs w0) (hgl:g<w0.heap.size)
  (hK:∀v w',Below w0.heap.size w0 w'->Own LHn w' w.heap.size 42 (slV v) [4294967297]->R (.returned (.tuple #[slV v,.int .i64 0,.int .i64 0])) w') :
  CL 56 #[.pointer (some ⟨gd,0,none⟩),.slice (some ⟨g,0,none⟩) 1 1] w R:=by
 have hTw:Tabs w:=hT.sub (sub_below hb0)
 refine ok56 (some ⟨gd,0,none⟩) (some ⟨g,0,none⟩) 1 1 ?_
 unfold F56
 refine checkP_calls [exE11] (exR hg) (exOk w) hTw dc fun w1 hb1=>?_
 rw [show checkF ([exE11].map (·.o))=(0,0) from ex_chk]
 refine⟨_,_,rfl,?_⟩
 refine brn (fun h=>absurd rfl h) fun _=>?_
 have hg1:=hg.keep hb1
 refine exPlan hg1 (hTw.sub (sub_below hb1)) fun vp w2 hb2 op=>⟨_,_,_,_,rfl,?_⟩
 have B2:=btr hb1 hb1.size hb2
 refine almM fun r36 w3 hb3 hge3 hlt3 hm3=>?_
 have B3:=btr B2 B2.size hb3
 refine al fun gm w4 hb4 b4 hge4=>?_
 have B4:=btr B3 B3.size hb4
 refine almM fun r39 w5 hb5 hge5 hlt5 hm5=>?_
 have B5:=btr B4 B4.size hb5
 have hs1:=hb1.size
 have hs2:=hb2.size
 have hs3:=hb3.size
 have hs4:=hb4.size
 have hs5:=hb5.size
 have op5:=((op.keep hb3).keep hb4).keep hb5
 obtain⟨z1,z2⟩:vp.2.1=1/\Rd LI w5 vp.1 vp.2.2 [0]:=op5.rd
 have b45:=b4.keep hb5
 have hp5:=hp.below B5
 have hg5:=hg.keep B5
 have hmp:=mp_new .i64 hm5
 have hol:∀b,o b≠0->b<w.heap.size:=fun b hb=>hp.lt b hb
 refine⟨fun i w'=>(i=0/\w'=w5)\/(i=1/\Mp .i64 w' r39 (upd (fun _=>none) 0 (some (.int .u64 4294967297)))/\Below w0.heap.size w0 w'/\w.heap.size<=w'.heap.size),fun i _=>1-i.toNat,.inl ⟨rfl,rfl⟩,?_⟩
 rintro _ w6 (⟨rfl,rfl⟩ | ⟨rfl,hmp6,B6,hs6⟩)
 ·unfold F56_l8
  refine brd (fun _=>?_) fun h=>absurd (by rw [z1];decide) h
  refine⟨fun w'=>Mp .i64 w' r39 (upd (fun _=>none) 0 (some (.int .u64 4294967297)))/\Below w0.heap.size w0 w'/\w.heap.size<=w'.heap.size,?_,?_⟩
  ·rintro w' ⟨q1,q2,q3⟩
   unfold F56_j15
   exact⟨inR_i64 om om,.inr ⟨rfl,q1,q2,q3⟩,sm⟩
  refine z2.idx z1 om om rfl fun b oo cc=>?_
  have c0:=cc 0 _ rfl
  simp only [Nat.add_zero] at c0
  rw [show ([0]:List Int)[(0:Int).toNat]'dc=0 from rfl] at c0
  simp only [c0,lds]
  refine (exR hg5).idx (n:=1) (i:=0) rfl dc dc rfl fun b2 oo2 cc2=>?_
  have cc2:∀j u,(LOp.cells exE11)[j]?=some u->w6.cell? ⟨b2,oo2+j,none⟩=some u:=cc2
  have l0:=cc2 0 _ rfl
  have l1:=cc2 1 _ rfl
  have l2:=cc2 2 _ rfl
  have l3:=cc2 3 _ rfl
  have l4:=cc2 4 _ rfl
  have l5:=cc2 5 _ rfl
  have l6:=cc2 6 _ rfl
  have l7:=cc2 7 _ rfl
  have l8:=cc2 8 _ rfl
  have l9:=cc2 9 _ rfl
  have l10:=cc2 10 _ rfl
  simp only [Nat.add_zero] at l0
  simp only [l0,l1,l2,l3,l4,l5,l6,l7,l8,l9,l10,lds]
  refine do_calls b45 hp5 hi hD (hb0.trans (B5.mono hb0.size)) ho hT fun w7 hb7 F7=>⟨_,_,rfl,?_⟩
  refine brn (fun h=>absurd rfl h) fun _=>?_
  refine brn (fun _=>?_) fun h=>absurd h dc
  have hs7:=F7.size
  refine (hmp.fm F7 fun e=>by have:=hol r39 e;omega).update mapPut keyInt 0 (.int .u64 4294967297) fun w8 h8 F8=>⟨h8,hb7.trans (F8.toBelow hb7.size fun b hb e=>by have e:b=r39:=e;have:=hb0.size;omega),by have:=F8.size;omega⟩
 ·unfold F56_l8
  refine brd (fun h=>absurd h (by rw [z1];decide)) fun _=>?_
  refine⟨fun A n c i w'=>(i=0/\w'=w6/\A=none/\n=0/\c=0)\/(i=1/\Below w0.heap.size w0 w'/\Own LHn w' w.heap.size 42 (.slice A n c) [4294967297]),fun _ _ _ i _=>1-i.toNat,.inl ⟨rfl,rfl,rfl,rfl,rfl⟩,?_⟩
  rintro A n c _ w7 (⟨rfl,rfl,rfl,rfl,rfl⟩ | ⟨rfl,B7,o7⟩)
  ·unfold F56_l18
   refine brd (fun _=>?_) fun h=>absurd dc h
   refine⟨fun A n c w'=>Below w0.heap.size w0 w'/\Own LHn w' w.heap.size 42 (.slice A n c) [4294967297],?_,?_⟩
   ·rintro A n c w' ⟨q1,q2⟩
    unfold F56_j23
    exact⟨inR_i64 om om,.inr ⟨rfl,q1,q2⟩,sm⟩
   refine hmp6.look mapPut keyInt (zeroHn w7) 0 true ?_
   rw [if_pos rfl]
   refine⟨4294967297,true,rfl,?_⟩
   rw [Br_t]
   refine ap1 (L:=LHn) (x:=4294967297) (base:=w.heap.size) (.int .u64 0) 8 rfl kr kr kr (Own.nil _ _ _ _) hs6 dc dc fun A' c' w8 o8 g8=>⟨A',_,c',rfl,?_,o8⟩
   exact B6.trans (g8.below.mono hb0.size)
  ·unfold F56_l18
   refine brd (fun h=>absurd h dc) fun _=>?_
   exact hK (A,n,c) w7 B7 o7
theorem livesU_calls (hT:Tabs w) (hK:∀w',Below w.heap.size w w'->R (.returned (.bool true)) w'):CL 28 #[] w R:=by
 refine ok28 ?_
 unfold F28
 refine al fun gp w1 hb1 b1 hge1=>al fun g w2 hb2 b2 hge2=>?_
 have B2:=btr hb1 hb1.size hb2
 have b12:=b1.keep hb2
 have hs1:=hb1.size
 have hs2:=hb2.size
 have hgl:=b2.lt
 have hgpl:=b1.lt
 have hg2:Blk w2 g (opC exE11) 50:=b2
 have hL:=ld_zero b12
 generalize ho:(fun b=>if b=gp then 1 else 0)=o at hL
 have hoc:∀b,b≠gp->o b=0:=fun b hb=>by rw [<-ho];exact if_neg hb
 refine ok22 (some ⟨gp,0,none⟩) (some ⟨g,0,none⟩) 1 1 ?_
 unfold F22
 refine ok20 (some ⟨gp,0,none⟩) (some ⟨g,0,none⟩) 1 1 ?_
 unfold F20
 rw [oin,Br_f]
 have hT2:=hT.sub (sub_below B2)
 refine TreeU_calls hL ?_
 intro gc bs o3 w3 S3 hb3 hSD hp3 _ ho3 hi3
 refine⟨_,rfl,?_⟩
 refine try_calls (w0:=w2) (hg2.keep hb3) hp3 hi3 hSD hb3 ho3 hT2 hgl fun v w4 hb4 ov=>⟨_,_,_,_,_,rfl,?_⟩
 refine⟨_,_,_,_,_,rfl,?_⟩
 refine brn (fun h=>absurd rfl h) fun _=>?_
 have hg4:=hg2.keep hb4
 have hT4:=hT2.sub (sub_below hb4)
 refine exPlan hg4 hT4 fun vp w5 hb5 op=>⟨_,_,_,_,rfl,?_⟩
 refine almM fun r31 w6 hb6 hge6 hlt6 hm6=>?_
 have B5:=btr hb4 hb4.size hb5
 have B6:=btr B5 B5.size hb6
 have hs3:=hb3.size
 have hs4:=hb4.size
 have hs5:=hb5.size
 have hs6:=hb6.size
 have op6:=op.keep hb6
 obtain⟨z1,z2⟩:vp.2.1=1/\Rd LI w6 vp.1 vp.2.2 [0]:=op6.rd
 have ov6:=(ov.keep hb5).keep hb6
 have hL6:LD 0 gp 113 w6 o ⟨[],[]⟩:=ld_keep (M:=fun _=>False) hL (.below B6) fun _ _ h=>h.elim
 have hg6:=hg2.keep B6
 refine⟨fun i w'=>(i=0/\w'=w6)\/(i=1/\Below w.heap.size w w'/\Own LHn w' w3.heap.size 42 (slV v) [4294967297]),fun i _=>1-i.toNat,.inl ⟨rfl,rfl⟩,?_⟩
 rintro _ w7 (⟨rfl,rfl⟩ | ⟨rfl,B7,o7⟩)
 ·unfold F22_l7
  refine brd (fun _=>?_) fun h=>absurd (by rw [z1];decide) h
  refine z2.idx z1 om om rfl fun b oo cc=>?_
  have c0:=cc 0 _ rfl
  simp only [Nat.add_zero] at c0
  rw [show ([0]:List Int)[(0:Int).toNat]'dc=0 from rfl] at c0
  simp only [c0,lds]
  refine (exR hg6).idx (n:=1) (i:=0) rfl dc dc rfl fun b2 oo2 cc2=>?_
  have cc2:∀j u,(LOp.cells exE11)[j]?=some u->w7.cell? ⟨b2,oo2+j,none⟩=some u:=cc2
  have l0:=cc2 0 _ rfl
  have l1:=cc2 1 _ rfl
  have l2:=cc2 2 _ rfl
  have l3:=cc2 3 _ rfl
  have l4:=cc2 4 _ rfl
  have l5:=cc2 5 _ rfl
  have l6:=cc2 6 _ rfl
  have l7:=cc2 7 _ rfl
  have l8:=cc2 8 _ rfl
  have l9:=cc2 9 _ rfl
  have l10:=cc2 10 _ rfl
  simp only [Nat.add_zero] at l0
  simp only [l0,l1,l2,l3,l4,l5,l6,l7,l8,l9,l10,lds]
  refine ok59 (.iface 58 (.pointer (some ⟨gp,0,none⟩))) (.func (.func 30) #[.pointer (some ⟨gp,0,none⟩)] #[]) (some r31) 1 ((0:Nat):Int) ((0:Nat):Int) 2 noB noB 1 (ByteArray.mk #[97]) none 0 0 noB none 0 0 ?_
  unfold F59
  refine al fun go w8 hb8 bo hgo=>?_
  have D8:=btr B6 B6.size hb8
  simp only [bo.cell,lds]
  refine⟨fun w'=>w8=w',?_,brn (fun h=>absurd rfl h) fun _=>rfl⟩
  rintro _ rfl
  unfold F59_j2
  simp only [bo.cell,lds]
  refine bre (fun h=>absurd h dc) fun _=>?_
  refine bre (fun h=>absurd h dc) fun _=>?_
  refine bre (fun h=>absurd h dc) fun _=>?_
  refine bre (fun h=>absurd h dc) fun _=>?_
  refine bre (fun _=>?_) fun h=>absurd rfl h
  have hL8:LD 0 gp 113 w8 o ⟨[],[]⟩:=ld_keep (M:=fun _=>False) hL6 (.below hb8) fun _ _ h=>h.elim
  have hsub:Sub w (wc o w8):=fun b c t fr hb=>by
   have hlt:=(agi.1 hb).1
   refine cells_only (ok:=fun b=>Nat.beq (o b) 0) ?_ ?_
   ·show Nat.beq (o b) 0=true
    rw [hoc b om];rfl
   ·rw [D8.block b om,B2.block b hlt];exact hb
  refine⟨_,_,cmInsU w8 _ _ _,insertL_calls (x:=exA) (e:=⟨1,ByteArray.mk #[97],(none,0,0),noB,(none,0,0)⟩) (wh:=2) (a:=0) hL8 dc nil_wf (hT.sub hsub) (exA_rd _) dc fun w9 o9 hL9 ev=>⟨_,_,rfl,?_⟩⟩
  refine⟨rfl,inR_i64 om om,.inr ⟨rfl,?_,?_⟩,sm⟩
  ·exact (B2.trans (D8.mono B2.size)).trans (ev.fm.toBelow (by have:=D8.size;omega) fun b hb e=>e (hoc b om))
  ·refine own_fm (ov6.keep hb8) ev.fm fun b hb e=>e (hoc b ?_)
   have:=(ov.lt b hb).1
   omega
 ·unfold F22_l7
  refine brd (fun h=>absurd h (by rw [z1];decide)) fun _=>?_
  refine⟨_,_,_,_,_,rfl,?_⟩
  obtain⟨y1,y2⟩:v.2.1=1/\Rd LHn w7 v.1 v.2.2 [4294967297]:=o7.rd
  refine bre (fun _=>?_) fun h=>absurd rfl h
  refine bre (fun _=>?_) fun h=>absurd (by rw [y1];rfl) h
  refine y2.idx y1 om om rfl fun b oo cc=>?_
  have c0:=cc 0 _ rfl
  simp only [Nat.add_zero] at c0
  rw [show ([4294967297]:List Nat)[(0:Int).toNat]'dc=4294967297 from rfl] at c0
  simp only [c0,lds]
  exact hK w7 B7
end
def gnF (gone:List Nat):Int->Option Value:=fun k=>if (gone.any fun h=>decide ((h:Int)=k))=true then some (.bool true) else none
theorem gn_nil:gnF []=fun _=>none:=by funext k;simp [gnF]
theorem gn_snoc (gone:List Nat) (x:Nat):upd (gnF gone) (x:Nat) (some (.bool true))=gnF (gone++[x]):=by
 funext k
 unfold upd gnF
 rw [List.any_append]
 by_cases e:k=(x:Int)
 ·subst e;simp
 ·rw [if_neg e]
  have:(([x]:List Nat).any fun h=>decide ((h:Int)=k))=false:=by simp;exact fun h=>e h.symm
  rw [this,Bool.or_false]
theorem gn_look (gone:List Nat) (n:Nat):((gnF gone) (n:Nat)).getD (.bool false)=.bool (decide (n∈gone)):=by
 unfold gnF
 by_cases h:n∈gone
 ·have:(gone.any fun h=>decide ((h:Int)=(n:Int)))=true:=List.any_eq_true.2 ⟨n,h,sm⟩
  rw [if_pos this,det h];rfl
 ·have:¬(gone.any fun h=>decide ((h:Int)=(n:Int)))=true:=fun hh=>by
   obtain⟨x,hx,he⟩:=List.any_eq_true.1 hh
   have he:=of_decide_eq_true he
   exact h (by rw [show n=x by omega];exact hx)
  rw [if_neg this,def0 h];rfl
theorem zeroBool (w:Wd):(zeroValue 4).run P0 w=.ok (.bool false) w:=by kernel_rfl
structure EvR (r:Nat) (w:Wd) (o:Nat->Nat) (w1:Wd) (o1:Nat->Nat):Prop where
 fm:Fm (fun b=>o b≠0\/b=r) w w1
 old:∀b,b<w.heap.size->o b=0->o1 b=0
theorem EvR.trans {r:Nat}{w w1 w2:Wd}{o o1 o2:Nat->Nat} (h:EvR r w o w1 o1) (k:EvR r w1 o1 w2 o2):EvR r w o w2 o2:=
 ⟨⟨k.fm.os.trans h.fm.os,k.fm.tape.trans h.fm.tape,k.fm.output.trans h.fm.output,nlt h.fm.size k.fm.size,fun b hb hm=>(k.fm.block b (nll hb h.fm.size) fun hk=>hm (by
  rcases hk with hk | hk
  ·exact .inl fun e=>hk (h.old b hb e)
  ·exact .inr hk)).trans (h.fm.block b hb hm)⟩,fun b hb e=>k.old b (nll hb h.fm.size) (h.old b hb e)⟩
theorem EvR.below {r:Nat}{w w1:Wd}{o:Nat->Nat} (h:Below w.heap.size w w1):EvR r w o w1 o:=⟨.below h,fun _ _ e=>e⟩
theorem EvR.p {r:Nat}{w w1:Wd}{o o1:Nat->Nat} (h:EvP w o w1 o1):EvR r w o w1 o1:=⟨h.fm.mono fun b _ e=>.inl fun e0=>by
 have e:pc (o b):=e
 rw [e0] at e;exact not_pc0 e,h.old⟩
theorem EvR.a {r:Nat}{w w1:Wd}{o o1:Nat->Nat} (h:EvA w o w1 o1):EvR r w o w1 o1:=⟨h.fm.mono fun b _ e=>.inl e,h.old⟩
theorem EvR.one {r:Nat}{w w1:Wd}{o:Nat->Nat} (h:Fm (·=r) w w1):EvR r w o w1 o:=⟨h.mono fun b _ e=>.inr e,fun _ _ e=>e⟩
theorem EvR.blk {r b:Nat}{w w1:Wd}{o o1:Nat->Nat}{c:Array Value}{t:TypeId} (h:EvR r w o w1 o1) (hb:Blk w b c t) (h0:o b=0) (hr:b≠r):Blk w1 b c t:=h.fm.blk hb fun e=>by
 rcases e with e | e
 ·exact e h0
 ·exact hr e
theorem EvR.sub {r:Nat}{w w1:Wd}{o o1:Nat->Nat} (h:EvR r w o w1 o1) (hr:∃es cl,w.heap[r]?=some (.map es cl)):Sub (wc o w) (wc o1 w1):=fun b c t fr hb=>by
 obtain⟨h1,h2⟩:=only_cells hb
 have h1:o b=0:=nbe h1
 have hlt:=(agi.1 h2).1
 refine cells_only (ok:=fun b=>Nat.beq (o1 b) 0) ?_ ?_
 ·show Nat.beq (o1 b) 0=true
  rw [h.old b hlt h1];rfl
 ·rw [h.fm.block b hlt fun e=>?_]
  ·exact h2
  ·rcases e with e | e
   ·exact e h1
   ·subst e
    obtain⟨es,cl,hm⟩:=hr
    rw [hm] at h2;cases h2
theorem Mp.ob {q:IntKind}{w:Wd}{r:Nat}{f:Int->Option Value} (h:Mp q w r f):∃es cl,w.heap[r]?=some (.map es cl):=by
 obtain⟨es,cl,h1,_⟩:=h
 exact⟨es,cl,h1⟩
section
variable {w w1:Wd}{o:Nat->Nat}{θ:Th}{S:PS}{R:RT}{gone:List Nat}{gm r:Nat}
theorem mark_step {l:List Nat}{v:Sv}{i:Int}{k:Nat}{gone:List Nat} (hv:v.2.1=l.length) (hr:Rd LHn w v.1 v.2.2 l) (hi:i=k) (hk:k<l.length) (hm:Mp .u64 w r (gnF gone)) {K:Wd->Prop} (hK:∀w',Mp .u64 w' r (gnF (gone++[l[k]]))->Fm (·=r) w w'->K w') :
  IdxA v.1 v.2.1 i 1 fun q=>LdI .u64 (w.cell? q) fun x=>Raw P0 (Instr.mapUpdate 122 (.map (some r)) (.int .u64 x) (.bool true)) w fun _ w'=>K w':=by
 refine hr.hn hv hi hk fun b oo cc=>?_
 simp only [cc,lds]
 refine hm.update mapGone opKey _ _ fun w' h1 h2=>hK w' ?_ h2
 rw [gn_snoc] at h1
 exact h1
theorem delM_calls (hm:Blk w gm #[.pointer (some ⟨θ.g,0,none⟩),.map (some r)] 187) (hp:PM w o θ S) (hi:PI S) (hw:Wf S.D) (hM:Mp .u64 w r (gnF gone)) (h0:o gm=0) (h1:o r=0) (hne:gm≠r) {n:Nat} (hn:n<18446744073709551616)
  (hK:∀w' o' S',PM w' o' θ S'->PI S'->S'.D=(delF S.D n).1->EvR r w o w' o'->((delF S.D n).2=0->Mp .u64 w' r (gnF (gone++allI S.D n)))->R (.returned (.int .i64 (delF S.D n).2)) w') :
  CL 161 #[.pointer (some ⟨gm,0,none⟩),.int .u64 (n:Nat)] w R:=by
 refine ok161 (some ⟨gm,0,none⟩) (n:Nat) ?_
 unfold F161
 simp only [NonNil_some,hm.cell,lds]
 by_cases e0:n=0
 ·subst e0
  have hd:delF S.D 0=(S.D,8):=by unfold delF;rw [slA_zero]
  refine AllT0_calls hp hw.s hw.a fun v w1 hb1=>⟨_,_,_,_,rfl,fun w'=>False,fun _ h=>h.elim,?_⟩
  refine brn (fun h=>absurd rfl h) fun _=>?_
  refine bre (fun _=>?_) fun h=>absurd rfl h
  rw [hd] at hK
  exact hK w1 o S (hp.below hb1) hi rfl (.below hb1) fun h=>(by cases h)
 refine AllT_calls hp hw.s hw.a hn e0 fun v w1 hb1 ov=>⟨_,_,_,_,rfl,fun w'=>w'=w1/\∃s,slA S.D.sl n=some s,?_,?_⟩
 rotate_left
 ·cases hs:slA S.D.sl n with
  | none=>
   have hd:delF S.D n=(S.D,8):=by unfold delF;rw [hs]
   refine brn (fun _=>?_) fun h=>absurd h (by rw [show (none:Option Sl).isSome=false from rfl];decide)
   rw [hd] at hK
   exact hK w1 o S (hp.below hb1) hi rfl (.below hb1) fun h=>(by cases h)
  | some s=>
   refine brn (fun h=>absurd (by rw [show (some s).isSome=true from rfl];rfl) h) fun _=>?_
   refine bre (fun h=>absurd h om) fun _=>⟨by first | exact rfl | trivial,s,rfl⟩
 rintro w1 ⟨rfl,s,hs⟩
 have ov:=ov s hs
 obtain⟨y1,y2⟩:=rdO ov
 have hal:allI S.D n=allA (slA S.D.sl) 65 n:=by unfold allI;rw [if_neg e0]
 rw [<-hal] at ov y1 y2
 have hfew:(allI S.D n).length<=4096:=by rw [hal];exact all_few hw.s hw.a ⟨s,hs⟩
 have hrl:=hM.lt
 have hgml:=hm.lt
 unfold F161_j4
 refine⟨fun i w'=>∃k:Nat,i=k/\k<=(allI S.D n).length/\Fm (·=r) w1 w'/\Mp .u64 w' r (gnF (gone++(allI S.D n).take k)),fun i _=>(allI S.D n).length-i.toNat,
  ⟨0,rfl,om,.refl _ _,by rw [List.take_zero,List.append_nil];exact hM.fm (M:=fun _=>False) (.below hb1) (fun h=>h)⟩,?_⟩
 rintro _ w2 ⟨k,rfl,hk,f2,hM2⟩
 unfold F161_l5
 have bm2:Blk w2 gm _ 187:=f2.blk (hm.keep hb1) hne
 have ev2:EvR r w o w2 o:=(EvR.below hb1).trans (.one f2)
 have hs1:=hb1.size
 refine brd (fun hlt=>?_) (fun hge=>?_)
 ·have hk2:k<(allI S.D n).length:=by omega
  have y3:Rd LHn w2 v.1 v.2.2 (allI S.D n):=(rdO (own_fm ov f2 fun b hb e=>by have e:b=r:=e;have:=(ov.lt b hb).1;omega)).2
  simp only [NonNil_some,bm2.cell,lds]
  refine mark_step (v:=v) y1 y3 rfl hk2 hM2 fun w3 h3 f3=>?_
  refine⟨inR_i64 om om,⟨k+1,sm,om,f2.trans f3,?_⟩,odz⟩
  rw [tsa hk2,<-laa];exact h3
 ·have hk2:k=(allI S.D n).length:=by omega
  subst hk2
  rw [tkl] at hM2
  simp only [NonNil_some,bm2.cell,lds]
  have hp2:PM w2 o θ S:=(hp.below hb1).keep f2 (fun b hb e=>by have e:b=r:=e;subst e;rw [h1] at hb;exact not_pc0 hb) (fun _ _=>rfl) fun b hb=>by have:=hp.lt b hb;have:=f2.size;omega
  have hr2:=hM2.lt
  refine delete_calls hp2 hi hw hn fun w3 o3 S3 hp3 hi3 hD3 ev3=>⟨_,rfl,?_⟩
  refine hK w3 o3 S3 hp3 hi3 hD3 (ev2.trans (.p ev3)) fun _=>hM2.fm ev3.fm fun e=>?_
  have e:pc (o r):=e
  rw [h1] at e;exact not_pc0 e
theorem doP_calls (hm:Blk w gm #[.pointer (some ⟨θ.g,0,none⟩),.map (some r)] 187) (hp:PM w o θ S) (hi:PI S) (hw:Wf S.D) (hM:Mp .u64 w r (gnF gone)) (h0:o gm=0) (h1:o r=0) (hne:gm≠r) (hT:Tabs (wc o w)) {x:E11} (hx:ROp (wc o w) x) (hk1:1<=x.o.kind) (hk8:x.o.kind<=8)
  (hS:skipB gone x.o=true->∀w',Below w.heap.size w w'->R (.returned (.tuple #[.int .u64 0,.int .i64 0])) w')
  (hK:skipB gone x.o=false->∀w' o' S',PM w' o' θ S'->PI S'->S'.D=(oneF S.D x.o).1->EvR r w o w' o'->((oneF S.D x.o).2.2=0->Mp .u64 w' r (gnF (gone++takenF S.D x.o)))->R (.returned (.tuple #[.int .u64 ((oneF S.D x.o).2.1:Nat),.int .i64 (oneF S.D x.o).2.2])) w') :
  CL 104 #[.pointer (some ⟨gm,0,none⟩),opV x] w R:=by
 obtain⟨⟨hn,ha⟩,ht⟩:=hx
 refine ok104 (some ⟨gm,0,none⟩) x.o.kind (x.o.node:Nat) (x.o.at_:Nat) x.o.wh x.o.nm x.o.val x.e.kind x.e.nm x.e.ats.1 x.e.ats.2.1 x.e.ats.2.2 x.e.text x.e.kids.1 x.e.kids.2.1 x.e.kids.2.2 ?_
 unfold F104
 refine al fun go w1 hb1 bo hgo=>?_
 have hdr:Below w1.heap.size w1 w1.drew:=(Below.refl _ _).drew
 have D1:=btr hb1 hb1.size hdr
 have hs1:=hb1.size
 have hgol:=bo.lt
 have hrl:=hM.lt
 have bo1:=bo.keep hdr
 have hMd:Mp .u64 w1.drew r (gnF gone):=hM.fm (M:=fun _=>False) (.below D1) (fun h=>h)
 refine⟨fun w'=>skipB gone x.o=false/\w'=w1.drew,?_,?_⟩
 rotate_left
 ·refine⟨fun w'=>Below w1.drew.heap.size w1.drew w',.refl _ _,_,fun w' hw'=>by rw [(bo1.keep hw').cell];rfl,?_⟩
  refine brn (fun hk=>?_) fun hk=>⟨by unfold skipB;simp [hk],by first | exact rfl | trivial⟩
  simp only [nds]
  refine⟨_,fun w' hw'=>by rw [((hm.keep D1).keep hw').cell];rfl,_,fun w' hw'=>by rw [(bo1.keep hw').cell];rfl,?_⟩
  refine hMd.look mapGone opKey (zeroBool _) _ false ?_
  rw [if_neg dc,gn_look]
  refine⟨_,rfl,?_⟩
  refine brd (fun hmem=>?_) fun hmem=>⟨by unfold skipB;simp [hmem],by first | exact rfl | trivial⟩
  exact hS (by unfold skipB;simp [hk,hmem]) _ D1
 rintro _ ⟨hsk,rfl⟩
 have hK:=hK hsk
 unfold F104_j3
 simp only [bo1.cell,lds]
 have hdr2:Below w1.drew.heap.size w1.drew w1.drew.drew:=(Below.refl _ _).drew
 have D2:=btr D1 D1.size hdr2
 have bo3:=bo1.keep hdr2
 have hm3:=hm.keep D2
 have hp3:=hp.below D2
 have hM3:Mp .u64 w1.drew.drew r (gnF gone):=hM.fm (M:=fun _=>False) (.below D2) (fun h=>h)
 have hsub:Sub (wc o w) (wc o w1.drew.drew):=sub_only (fun _ _ h=>h) fun b hb _=>D2.block b hb
 have hsub1:Sub (wc o w) (wc o w1.drew):=sub_only (fun _ _ h=>h) fun b hb _=>D1.block b hb
 have ht3:=RTr.sub hsub _ _ ht
 have hT3:=hT.sub hsub
 have ev3:EvR r w o w1.drew.drew o:=.below D2
 have hgo0:o go=0:=byc fun e=>by have:=hp.lt go e;omega
 have hc:∀(i:Nat) (u:Value),(opC x)[i]?=some u->Held (fun w'=>Below w1.drew.drew.heap.size w1.drew.drew w') ⟨go,i,none⟩ u:=fun i u hu w' hw'=>by rw [(bo3.keep hw').cell];exact hu
 have hcm:Held (fun w'=>Below w1.drew.drew.heap.size w1.drew.drew w') ⟨gm,0,none⟩ (.pointer (some ⟨θ.g,0,none⟩)):=fun w' hw'=>by rw [(hm3.keep hw').cell];rfl
 have stay:takenF S.D x.o=[]->∀{w':Wd}{o':Nat->Nat},EvP w1.drew.drew o w' o'->Mp .u64 w' r (gnF (gone++takenF S.D x.o)):=fun e {w' o'} hev=>by
  rw [e,List.append_nil]
  exact hM3.fm hev.fm fun e=>by
   have e:pc (o r):=e
   rw [h1] at e;exact not_pc0 e
 have nt:¬(x.o.kind=3\/x.o.kind=8)->takenF S.D x.o=[]:=fun h=>by unfold takenF;rw [if_neg h]
 unfold oneF at hK
 refine bre (fun e=>?_) fun e4=>?_
 ·rw [if_neg om,if_neg om,if_neg om,if_pos e] at hK
  refine⟨fun w'=>Below w1.drew.drew.heap.size w1.drew.drew w',.refl _ _,?_⟩
  simp only [nds]
  refine⟨_,hcm,_,hc 1 _ rfl,_,hc 4 _ rfl,?_⟩
  exact setName_calls hp3 hi hn fun w' S' q1 q2 q3 q4=>⟨_,rfl,hK w' o S' q1 q2 q3 (ev3.trans (.p q4)) fun _=>stay (nt om) q4⟩
 refine bre (fun e=>?_) fun e5=>?_
 ·rw [if_neg om,if_neg om,if_neg om,if_neg om,if_pos e] at hK
  refine⟨fun w'=>Below w1.drew.drew.heap.size w1.drew.drew w',.refl _ _,?_⟩
  simp only [nds]
  refine⟨_,hcm,_,hc 1 _ rfl,_,hc 5 _ rfl,?_⟩
  exact setText_calls hp3 hi hT3 hn fun w' S' q1 q2 q3 q4=>⟨_,rfl,hK w' o S' q1 q2 q3 (ev3.trans (.p q4)) fun _=>stay (nt om) q4⟩
 refine bre (fun e=>?_) fun e6=>?_
 ·rw [if_neg om,if_neg om,if_neg om,if_neg om,if_neg om,if_pos e] at hK
  refine⟨fun w'=>Below w1.drew.drew.heap.size w1.drew.drew w',.refl _ _,?_⟩
  simp only [nds]
  refine⟨_,hcm,_,hc 1 _ rfl,_,hc 4 _ rfl,_,hc 5 _ rfl,?_⟩
  exact setAttr_calls hp3 hi hw hT3 hn fun w' o' S' q1 q2 q3 q4=>⟨_,rfl,hK w' o' S' q1 q2 q3 (ev3.trans (.p q4)) fun _=>stay (nt om) q4⟩
 refine bre (fun e=>?_) fun e7=>?_
 ·rw [if_neg om,if_neg om,if_neg om,if_neg om,if_neg om,if_neg om,if_pos e] at hK
  refine⟨fun w'=>Below w1.drew.drew.heap.size w1.drew.drew w',.refl _ _,?_⟩
  simp only [nds]
  refine⟨_,hcm,_,hc 1 _ rfl,_,hc 4 _ rfl,?_⟩
  exact dropAttr_calls hp3 hi hw hn fun w' o' S' q1 q2 q3 q4=>⟨_,rfl,hK w' o' S' q1 q2 q3 (ev3.trans (.p q4)) fun _=>stay (nt om) q4⟩
 refine bre (fun e=>?_) fun e1=>?_
 ·rw [if_pos e] at hK
  refine⟨fun w'=>Below w1.drew.drew.heap.size w1.drew.drew w',.refl _ _,?_⟩
  simp only [nds]
  refine⟨_,hcm,_,hc 3 _ rfl,_,hc 2 _ rfl,_,hc 6 _ rfl,_,hc 7 _ rfl,_,_,_,hc 8 _ rfl,_,hc 9 _ rfl,_,_,_,hc 10 _ rfl,?_⟩
  exact insert_calls (e:=x.e) hp3 hi hw hT3 ht3 ha fun w' o' S' q1 q2 q3 q4=>⟨_,_,rfl,hK w' o' S' q1 q2 q3 (ev3.trans (.p q4)) fun _=>stay (nt om) q4⟩
 refine bre (fun e=>?_) fun e2=>?_
 ·rw [if_neg e1,if_pos e] at hK
  refine⟨fun w'=>Below w1.drew.drew.heap.size w1.drew.drew w',.refl _ _,?_⟩
  simp only [nds]
  refine⟨_,hcm,_,hc 1 _ rfl,_,hc 3 _ rfl,_,hc 2 _ rfl,?_⟩
  exact move_calls hp3 hi hw hn ha fun w' o' S' q1 q2 q3 q4=>⟨_,rfl,hK w' o' S' q1 q2 q3 (ev3.trans (.p q4)) fun _=>stay (nt om) q4⟩
 refine bre (fun e=>?_) fun e3=>?_
 ·rw [if_neg e1,if_neg e2,if_pos e] at hK
  have ht:takenF S.D x.o=allI S.D x.o.node:=by unfold takenF;rw [if_pos (.inl e)]
  rw [ht] at hK
  exact delM_calls (hm.keep D1) (hp.below D1) hi hw hMd h0 h1 hne hn fun w' o' S' q1 q2 q3 q4 q5=>⟨_,rfl,hK w' o' S' q1 q2 q3 ((EvR.below D1).trans q4) q5⟩
 have e8:x.o.kind=8:=by omega
 rw [if_neg e1,if_neg e2,if_neg e3,if_neg e4,if_neg e5,if_neg e6,if_neg e7] at hK
 refine⟨fun w'=>Below w1.drew.drew.heap.size w1.drew.drew w',.refl _ _,?_⟩
 simp only [nds]
 refine⟨_,hcm,_,hc 1 _ rfl,_,hc 6 _ rfl,_,hc 7 _ rfl,_,_,_,hc 8 _ rfl,_,hc 9 _ rfl,_,_,_,hc 10 _ rfl,?_⟩
 refine insert_calls (e:=x.e) (wh:=3) hp3 hi hw hT3 ht3 hn fun w4 o4 S4 q1 q2 q3 q4=>⟨_,_,rfl,?_⟩
 have ev4:EvR r w o w4 o4:=ev3.trans (.p q4)
 refine brn (fun hne9=>?_) fun heq9=>?_
 ·rw [if_pos hne9] at hK
  rw [ins_errD hne9] at q3
  exact hK w4 o4 S4 q1 q2 q3 ev4 fun h=>absurd h hne9
 rw [if_neg (by rw [heq9];simp)] at hK
 obtain⟨s,_,_,hal⟩:=ins_all hw heq9
 have hM4:Mp .u64 w4 r (gnF gone):=hM3.fm q4.fm fun e=>by
   have e:pc (o r):=e
   rw [h1] at e;exact not_pc0 e
 have np:∀b,o b=0->¬pc (o b):=fun b e h=>by rw [e] at h;exact not_pc0 h
 have bo4:Blk w4 go _ 50:=q4.fm.blk bo3 (np go hgo0)
 have hm4:Blk w4 gm _ 187:=q4.fm.blk hm3 (np gm h0)
 simp only [bo4.cell,lds]
 have hs2:=D2.size
 refine delM_calls hm4 q1 q2 (by rw [q3];exact ins_wf hw _ _ _) hM4 (q4.old gm (by have:=hm.lt;omega) h0) (q4.old r om h1) hne hn fun w5 o5 S5 r1 r2 r3 r4 r5=>⟨_,rfl,?_⟩
 rw [q3] at r3 r5 |-
 refine hK w5 o5 S5 r1 r2 r3 (ev4.trans r4) fun h=>?_
 have ht:takenF S.D x.o=allI S.D x.o.node:=by unfold takenF;rw [if_pos (.inr e8)]
 rw [ht,<-hal]
 exact r5 h
end
theorem zrowH (n:Nat):(zrow #[.int .u64 0] (n*1)).toList=LHn.all (List.replicate n 0):=by
 unfold zrow
 rw [Nat.mul_one]
 have e:∀k,LHn.all (List.replicate k 0)=List.replicate k (.int .u64 0):=by
  intro k
  induction k with
  | zero=>rfl
  | succ k ih=>
   simp only [Lay.all,List.replicate_succ,fmc] at *
   rw [ih];rfl
 rw [e]
 refine List.ext_getElem sm fun i h1 h2=>?_
 simp [Nat.mod_one]
theorem one_live {D:Im} (hw:Wf D) {o:O1} (h:(oneF D o).2.2=0) (hk:o.kind=3\/o.kind=8):∃s,slA D.sl o.node=some s:=by
 unfold oneF at h
 rcases hk with hk | hk
 ·rw [if_neg om,if_neg om,if_pos hk] at h
  unfold delF at h
  cases hs:slA D.sl o.node with
  | none=>rw [hs] at h;cases h
  | some s=>exact⟨s,rfl⟩
 ·rw [if_neg om,if_neg om,if_neg om,if_neg om,if_neg om,if_neg om,if_neg om] at h
  split at h
  ·rename_i h1;exact absurd h h1
  rename_i h1
  obtain⟨s,hs,_⟩:=ins_all hw (by simpa using h1)
  exact⟨s,hs⟩
theorem taken_len {D:Im} (hw:Wf D) {o:O1} (h:(oneF D o).2.2=0):(takenF D o).length<=4096:=by
 unfold takenF
 split
 ·rename_i hk
  obtain⟨s,hs⟩:=one_live hw h hk
  unfold allI
  rw [if_neg (fun e=>by rw [e,slA_zero] at hs;cases hs)]
  exact all_few hw.s hw.a ⟨s,hs⟩
 ·simp
def ApplyRK (R:RT) (ok:Nat->Bool) (w0:Wd) (r:Option (Im × List Nat) × Int × Int) (w:Wd):Prop:=match r.1 with
 | none=>R (.returned (.tuple #[.pointer none,.slice none 0 0,.int .i64 r.2.1,.int .i64 r.2.2])) w
 | some (D',l)=>∀(g':Nat) (vs' vr' v:Sv),RM ok w g' D' vs' vr'->w0.heap.size<=g'->Own LHn w w0.heap.size 42 (slV v) l->R (.returned (.tuple #[.pointer (some ⟨g',0,none⟩),slV v,.int .i64 0,.int .i64 0])) w
def putL (put:Int->Nat) (n:Nat):List Nat:=(List.range n).map fun i:Nat=>put (i:Int)
theorem putL_set {put:Int->Nat}{n i x:Nat}:(putL put n).set i x=putL (fun j=>if j=(i:Int) then x else put j) n:=by
 unfold putL
 refine List.ext_getElem sm fun k h1 h2=>?_
 rw [List.getElem_set]
 simp only [gmp,List.getElem_range]
 by_cases e:i=k
 ·subst e;simp
 ·rw [if_neg e,if_neg om]
theorem putL_get {put:Int->Nat}{n k:Nat} (h:k<(putL put n).length):(putL put n)[k]=put (k:Nat):=by
 simp [putL]
def exB (ok:Nat->Bool) (r1 r2:Option Nat) (b:Nat):Bool:=ok b && (decide (r1≠some b) && decide (r2≠some b))
theorem exB_iff {ok:Nat->Bool}{r1 r2:Option Nat}{b:Nat}:exB ok r1 r2 b=true↔ok b=true/\r1≠some b/\r2≠some b:=by
 unfold exB
 rw [bae,bae,dete,dete]
section
variable {w w1:Wd}{R:RT}{ok:Nat->Bool}{g:Nat}{D:Im}{vs vr:Sv}
theorem toldR_loop {xs:List E11}{A:OA}{c:Nat}{w0:Wd}{gc:Nat}{gA:OA}{gC:Nat}{put:Int->Nat} (hr:Rd LOp w A c xs) (hl:xs.length<=4096) (hb0:Below w0.heap.size w0 w)
  (hg:Own LHn w w0.heap.size 42 (.slice gA xs.length gC) (putL put xs.length))
  (hK:∀w' v,Below w.heap.size w w'->Own LHn w' w.heap.size 42 (slV v) (toldF (xs.map (·.o)) put xs.length)->R (.returned (.tuple #[.pointer (some ⟨gc,0,none⟩),slV v,.int .i64 0,.int .i64 0])) w') :
  Al w #[] 42 fun g103 w1_4=>
  ∃(I:OA->Nat->Nat->Int->Wd->Prop) (m:OA->Nat->Nat->Int->Wd->Nat),I (some g103) 0 0 (0:Int) w1_4 /\
   ∀(r:OA) (rN:Nat) (rC:Nat) (i2:Int) (w1_5:Wd),I r rN rC i2 w1_5->F24_l22 A xs.length (some ⟨gc,0,none⟩) gA xs.length (fun r' rN' rC' i2' w2=>I r' rN' rC' i2' w2/\m r' rN' rC' i2' w2<m r rN rC i2 w1_5) r rN rC i2 w1_5 R:=by
 refine al fun g3 w1 hb1 b1 hge1=>?_
 have hs1:=hb1.size
 refine⟨fun rA rN rC i w'=>∃k:Nat,i=k/\k<=xs.length/\Below w.heap.size w w'/\Own LHn w' w.heap.size 42 (.slice rA rN rC) (toldF (xs.map (·.o)) put k),fun _ _ _ i _=>xs.length-i.toNat,⟨0,rfl,om,hb1,Own.bare _ _ _ _ _⟩,?_⟩
 rintro rA rN rC _ w2 ⟨k,rfl,hk,B2,o2⟩
 unfold F24_l22
 refine brd (fun hlt=>?_) (fun hge=>?_)
 rotate_left
 ·have hk2:k=xs.length:=by omega
  subst hk2
  exact hK w2 (rA,rN,rC) B2 o2
 have hk2:k<xs.length:=by omega
 have hkm:k<(xs.map (·.o)).length:=by rw [lmp];exact hk2
 have hst:=told_step (put:=put) hkm
 rw [gmp] at hst
 have hg2:=hg.keep B2
 obtain⟨y1,y2⟩:=hg2.rd
 have hpl:(putL put xs.length).length=xs.length:=by unfold putL;simp
 have hpk:k<(putL put xs.length).length:=by omega
 have hpg:(putL put xs.length)[k]=put (k:Nat):=putL_get _
 have htl:(toldF (xs.map (·.o)) put k).length<=k:=by
  have:∀j,j<=k->(toldF (xs.map (·.o)) put j).length<=j:=fun j=>by
   induction j with
   | zero=>intro _;exact Nat.zero_le _
   | succ j ih=>
    intro hj
    have hjm:j<(xs.map (·.o)).length:=by rw [lmp];omega
    rw [told_step hjm,lap]
    have:=ih om
    split <;> simp <;> omega
  exact this k (nlr _)
 refine⟨fun rA2 rN2 rC2 w'=>Below w.heap.size w w'/\Own LHn w' w.heap.size 42 (.slice rA2 rN2 rC2) (toldF (xs.map (·.o)) put (k+1)),?_,?_⟩
 ·rintro rA2 rN2 rC2 w3 ⟨B3,o3⟩
  unfold F24_j23
  exact⟨inR_i64 om om,⟨k+1,sm,om,B3,o3⟩,odz⟩
 have put1:(xs[k].o.kind=1\/(xs[k].o.kind=8/\put (k:Nat)≠0))->IdxA gA xs.length (k:Nat) 1 fun q134=>
   LdI .u64 (w2.cell? q134) fun x135=>Al w2 #[.int .u64 x135] 42 fun g136 w1_5=>
   Raw P0 (Builtin.append_ #[23,23] 23 #[.slice rA rN rC,(.slice (some g136) 1 1)]) w1_5 fun v3 w1_6=>
   ∃(x137:OA) (x137N:Nat) (x137C:Nat),v3=(.slice x137 x137N x137C)/\(Below w.heap.size w w1_6/\Own LHn w1_6 w.heap.size 42 (.slice x137 x137N x137C) (toldF (xs.map (·.o)) put (k+1))):=fun hc=>by
  refine y2.hn om rfl hpk fun b o cc=>?_
  rw [hpg] at cc
  simp only [cc,lds]
  refine ap1 (L:=LHn) (x:=put (k:Nat)) (base:=w.heap.size) (.int .u64 0) 8 rfl kr kr kr o2 B2.size om (by unfold maxLen;omega) fun A' c' w3 o3 g3=>⟨A',_,c',rfl,B2.trans g3.below,?_⟩
  rw [hst,if_pos hc]
  exact o3
 refine (hr.keep B2).op rfl rfl hk2 fun b o c0 c1 c2 c3 c4 c5 c6 c7 c8 c9 c10=>?_
 simp only [c0,lds]
 refine bre (fun e1=>put1 (.inl e1)) fun e1=>?_
 refine (hr.keep B2).op rfl rfl hk2 fun b o c0 c1 c2 c3 c4 c5 c6 c7 c8 c9 c10=>?_
 simp only [c0,lds]
 have no:¬(xs[k].o.kind=1\/(xs[k].o.kind=8/\put (k:Nat)≠0))->Below w.heap.size w w2/\Own LHn w2 w.heap.size 42 (.slice rA rN rC) (toldF (xs.map (·.o)) put (k+1)):=fun h=>by
  rw [hst,if_neg h,List.append_nil]
  exact⟨B2,o2⟩
 refine bre (fun e8=>?_) fun e8=>no (by rintro (h | h);exact e1 h;exact e8 h.1)
 refine y2.hn om rfl hpk fun b o cc=>?_
 rw [hpg] at cc
 simp only [cc,lds]
 exact brn (fun h0=>put1 (.inr ⟨e8,om⟩)) fun h0=>no (by rintro (h | h);exact e1 h;exact h.2 om)
theorem applyR_calls (h:RM ok w g D vs vr) (hok:∀b,w.heap.size<=b->ok b=true) (hw:Wf D) (xs:List E11) {A:OA}{c:Nat} (hr:Rd LOp w A c xs) (hx:∀x∈xs,ROp (vw ok g w) x) (hl:xs.length<=1048576)
  (hK:∀w',Below w.heap.size w w'->ApplyRK R ok w (applyF D (xs.map (·.o))) w') :
  CL 24 #[.pointer (some ⟨g,0,none⟩),.slice A xs.length c] w R:=by
 have hxw:∀x∈xs,ROp w x:=fun x hm=>(hx x hm).sub sub_of_only
 generalize hLL:xs.map (·.o)=L at *
 have hLn:L.length=xs.length:=by rw [<-hLL,lmp]
 refine ok24 (some ⟨g,0,none⟩) A xs.length c ?_
 unfold F24
 refine checkR_calls xs hr hxw hl fun w1 hb1=>⟨_,_,rfl,?_⟩
 rw [hLL]
 refine brn (fun hne=>?_) fun heq=>?_
 ·have:=hK w1 hb1
  unfold ApplyRK applyF at this
  rw [if_pos hne] at this
  exact this
 have hne:¬(checkF L).2≠0:=by rw [heq];simp
 have hfew:xs.length<=4096:=by rw [<-hLn];exact check_few heq
 have hck:=check_kind L [] (check_ok heq).2
 refine planR_calls xs (hr.keep hb1) (fun x hm=>(hxw x hm).sub (sub_below hb1)) hl fun w2 hb2=>?_
 unfold PlanK
 rw [hLL,if_neg hne]
 intro vo oo
 refine⟨_,_,_,_,rfl,?_⟩
 have B2:=btr hb1 hb1.size hb2
 have hs2:=B2.size
 obtain⟨o1,o2⟩:=rdO oo
 generalize hor:planF L 5=order at *
 have hpl:order.length<=20480:=by
  rw [<-hor]
  have:=plan_len L 5
  omega
 have hrun:=hK
 unfold ApplyRK applyF at hrun
 simp only [if_neg hne,hor] at hrun
 refine⟨fun cc given gN gC w'=>∃(gc:Nat) (vs' vr':Sv),cc=some ⟨gc,0,none⟩/\gN=xs.length/\Below w2.heap.size w2 w'/\w2.heap.size<=gc/\RM (exB ok (rowOf (.slice given gN gC)) none) w' gc D vs' vr'/\Own LHn w' w2.heap.size 42 (.slice given gN gC) (List.replicate xs.length 0)/\rowOf (.slice given gN gC)≠some gc,?_,?_⟩
 rotate_left
 ·have hdr:Below w2.heap.size w2 w2.drew:=(Below.refl _ _).drew
  have hz:((xs.length:Nat):Int).toNat=xs.length:=by omega
  refine⟨fun w'=>True,trivial,?_,?_⟩
  ·refine copyRM_calls (h.keep (btr B2 hs2 hdr)) (fun b hb=>hok b (by have:w2.drew.heap.size=w2.heap.size:=rfl;omega)) fun gc vs' vr' w3 hb3 hge3 h3=>⟨_,rfl,?_⟩
   have D3:=btr hdr hdr.size hb3
   have hs3:=D3.size
   refine⟨om,om,om,?_⟩
   rw [hz]
   refine al fun g40 w4 hb4 b4 hge4=>?_
   have hgc:=h3.blk.lt
   have hrw:∀b,rowOf (.slice (some ⟨g40,0,none⟩) xs.length xs.length)=some b->b=g40:=fun b e=>by
    cases hn:xs.length with
    | zero=>rw [hn] at e;cases e
    | succ n=>rw [hn] at e;exact (osi e).symm
   refine⟨gc,vs',vr',rfl,rfl,btr D3 D3.size hb4,hge3,h3.fm2 (M:=fun _=>False) (.below hb4) (fun _ _ h=>h.elim) (fun b hb hh=>exB_iff.2 ⟨hh,fun e=>by have:=hrw b e;omega,fun e=>by cases e⟩),?_,fun e=>by have:=hrw _ e;omega⟩
   have:=Own.lit' (L:=LHn) (xs:=List.replicate xs.length 0) (base:=w2.heap.size) b4 om (zrowH _) (by rw [List.length_replicate];unfold maxLen;omega)
   rw [List.length_replicate] at this
   exact this
  ·refine⟨om,om,om,?_⟩
   rw [hz]
   refine al fun g40 w4 hb4 b4 hge4=>?_
   have D4:=btr hdr hdr.size hb4
   have hs4:=D4.size
   have hg40:=b4.lt
   have hrw:∀b,rowOf (.slice (some ⟨g40,0,none⟩) xs.length xs.length)=some b->b=g40:=fun b e=>by
    cases hn:xs.length with
    | zero=>rw [hn] at e;cases e
    | succ n=>rw [hn] at e;exact (osi e).symm
   have h2:=h.keep B2
   have hd2:w2.drew.heap.size=w2.heap.size:=rfl
   refine copyRM_calls (ok:=exB ok (rowOf (.slice (some ⟨g40,0,none⟩) xs.length xs.length)) none) (h2.fm2 (M:=fun _=>False) (.below D4) (fun _ _ h=>h.elim) (fun b hb hh=>exB_iff.2 ⟨hh,fun e=>by have:=hrw b e;omega,fun e=>by cases e⟩)) (fun b hb=>exB_iff.2 ⟨hok b om,fun e=>by have:=hrw b e;omega,fun e=>by cases e⟩) fun gc vs' vr' w3 hb3 hge3 h3=>⟨_,rfl,?_⟩
   refine⟨gc,vs',vr',rfl,rfl,btr D4 D4.size hb3,om,h3,?_,fun e=>by have:=hrw _ e;omega⟩
   have:=Own.lit' (L:=LHn) (xs:=List.replicate xs.length 0) (base:=w2.heap.size) (b4.keep hb3) hge4 (zrowH _) (by rw [List.length_replicate];unfold maxLen;omega)
   rw [List.length_replicate] at this
   exact this
 rintro _ gA gN gC w3 ⟨gc,vs3,vr3,rfl,rfl,C3,hgc,h3,og3,hgr⟩
 have B3:=btr B2 hs2 C3
 have hs3:=C3.size
 unfold F24_j6
 refine al fun g41 w4 hb4 b4 hge4=>?_
 have C4:=btr C3 hs3 hb4
 have hs4:=hb4.size
 have grow:∀b,rowOf (.slice gA xs.length gC)=some b->w2.heap.size<=b/\b<w3.heap.size:=fun b hb=>og3.lt b hb
 have hgcl:=h3.blk.lt
 have hput0:putL (fun _=>0) xs.length=List.replicate xs.length 0:=by
  unfold putL
  refine List.ext_getElem sm fun k h1 h2=>by simp
 refine⟨fun nA nN nC i w'=>∃(k:Nat) (Dk:Im) (gone:List Nat) (put:Int->Nat) (vs' vr':Sv),i=k/\k<=order.length/\Below w2.heap.size w2 w'/\w4.heap.size<=w'.heap.size/\runF L (order.drop k) Dk gone put=runF L order D [] (fun _=>0)/\Wf Dk/\RM (exB ok (rowOf (.slice gA xs.length gC)) (rowOf (.slice nA nN nC))) w' gc Dk vs' vr'/\gone.length<=k*4096 /\
   Own LHn w' w4.heap.size 42 (.slice nA nN nC) gone/\Own LHn w' w2.heap.size 42 (.slice gA xs.length gC) (putL put xs.length),fun _ _ _ i _=>order.length-i.toNat,
  ⟨0,D,[],fun _=>0,vs3,vr3,rfl,om,C4,nlr _,by rw [List.drop_zero],hw,h3.keep hb4,Nat.zero_le _,Own.bare _ _ _ _ _,by rw [hput0];exact og3.keep hb4⟩,?_⟩
 rintro nA nN nC _ w5 ⟨k,Dk,gone,put,vs5,vr5,rfl,hk,C5,hs5,hrk,hwk,h5,hgl,on5,og5⟩
 unfold F24_l8
 have B5:=btr B2 hs2 C5
 have hs25:=C5.size
 have nrow:∀b,rowOf (.slice nA nN nC)=some b->w4.heap.size<=b/\b<w5.heap.size:=fun b hb=>on5.lt b hb
 obtain⟨nl,_⟩:=on5.rd
 refine brd (fun hlt=>?_) (fun hge=>?_)
 rotate_left
 ·have hk2:k=order.length:=by omega
  subst hk2
  rw [List.drop_length] at hrk
  refine toldR_loop (w:=w5) (w0:=w2) (gc:=gc) (put:=put) (hr.keep B5) hfew C5 og5 fun w6 v hb6 o6=>?_
  have B6:=btr B5 B5.size hb6
  have hrun:=hrun w6 B6
  rw [<-hrk] at hrun
  simp only [runF] at hrun
  have ht:toldF L put L.length=givenF put L.length:=told_given (D:=D) (D':=Dk) (a:=0) (b:=0) heq (by rw [hor,<-hrk];rfl) L.length (nlr _)
  rw [hLL,<-hLn,ht] at o6
  exact hrun gc vs5 vr5 v (h5.fm2 (M:=fun _=>False) (.below hb6) (fun _ _ h=>h.elim) fun b _ hh=>(exB_iff.1 hh).1) om (o6.rebase fun b hb=>by have:=(o6.lt b hb).1;omega)
 have hk2:k<order.length:=by omega
 have hmem:order[k]∈planF L 5:=by rw [hor];exact gem hk2
 obtain⟨i,hi,hil⟩:=mem_plan.1 hmem
 have hix:i<xs.length:=by omega
 have hLi:L[i]?=some xs[i].o:=by rw [<-hLL,List.getElem?_map,gge hix];rfl
 have hLi2:L[(order[k]).toNat]?=some xs[i].o:=by rw [hi,tnc];exact hLi
 obtain⟨kd1,kd8,klook⟩:=hck xs[i].o (mog hLi)
 rw [dgc hk2,run_step hLi2] at hrk
 refine⟨fun nA2 nN2 nC2 w'=>∃(Dk:Im) (gone:List Nat) (put:Int->Nat) (vs' vr':Sv),Below w2.heap.size w2 w'/\w4.heap.size<=w'.heap.size/\runF L (order.drop (k+1)) Dk gone put=runF L order D [] (fun _=>0)/\Wf Dk/\RM (exB ok (rowOf (.slice gA xs.length gC)) (rowOf (.slice nA2 nN2 nC2))) w' gc Dk vs' vr'/\gone.length<=(k+1)*4096 /\
   Own LHn w' w4.heap.size 42 (.slice nA2 nN2 nC2) gone/\Own LHn w' w2.heap.size 42 (.slice gA xs.length gC) (putL put xs.length),?_,?_⟩
 ·rintro nA2 nN2 nC2 w' ⟨Dk,gone,put,vs',vr',q1,q2,q3,q4,q5,q6,q7,q8⟩
  unfold F24_j9
  exact⟨inR_i64 om om,⟨k+1,Dk,gone,put,vs',vr',sm,om,q1,q2,q3,q4,q5,q6,q7,q8⟩,odz⟩
 have ro5:Rd LI w5 vo.1 vo.2.2 order:=o2.keep C5
 refine ro5.i64 o1 rfl hk2 fun b oo cc=>?_
 rw [hi] at cc
 simp only [cc,lds]
 refine (hr.keep B5).op rfl rfl hix fun b oo c0 c1 c2 c3 c4 c5 c6 c7 c8 c9 c10=>?_
 simp only [c0,c1,c2,c3,c4,c5,c6,c7,c8,c9,c10,lds]
 refine al11 fun go w6 hb6 bo hgo=>?_
 have hs6:=hb6.size
 have hgol:=bo.lt
 have C6:=btr C5 C5.size hb6
 have h6:=h5.keep hb6
 have on6:=on5.keep hb6
 have og6:=og5.keep hb6
 refine⟨fun w'=>skipB gone xs[i].o=false/\w'=w6,?_,?_⟩
 rotate_left
 ·simp only [bo.cell,lds]
  refine brn (fun hk1=>?_) fun hk1=>⟨by unfold skipB;simp [hk1],(by first | exact rfl | trivial)⟩
  obtain⟨p1,p2⟩:=on6.rd
  refine inR_calls (v:=(nA,nN,nC)) p1 p2 om ⟨_,rfl,?_⟩
  refine brd (fun hm=>?_) fun hm=>⟨by unfold skipB;simp [hm],(by first | exact rfl | trivial)⟩
  have hskip:skipB gone xs[i].o=true:=by unfold skipB;simp [hk1,hm]
  rw [if_pos hskip] at hrk
  exact⟨Dk,gone,put,vs5,vr5,C6,om,hrk,hwk,h6,om,on6,og6⟩
 rintro _ ⟨hskip,rfl⟩
 rw [hskip,if_neg dc] at hrk
 unfold F24_j12
 refine al fun g64 w7 hb7 b7 hge7=>?_
 have hs7:=hb7.size
 have C7:=btr C6 C6.size hb7
 have B7:=btr B2 hs2 C7
 have h7:=h6.keep hb7
 have on7:=on6.keep hb7
 have og7:=og6.keep hb7
 have bo7:=bo.keep hb7
 refine⟨fun tA tN tC w'=>∃T:List Nat,Below w7.heap.size w7 w'/\tN=T.length/\Own LHn w' w7.heap.size 42 (.slice tA tN tC) T/\((oneF Dk xs[i].o).2.2=0->T=takenF Dk xs[i].o),?_,?_⟩
 ·rintro tA tN tC w8 ⟨T,hb8,htn,ot8,hT⟩
  have hs8:=hb8.size
  have C8:=btr C7 C7.size hb8
  have B8:=btr B2 hs2 C8
  have h8:=h7.keep hb8
  have bo8:=bo7.keep hb8
  unfold F24_j15
  simp only [bo8.cell,lds]
  have hsub:Sub (vw ok g w) (vw (exB ok (rowOf (.slice gA xs.length gC)) (rowOf (.slice nA nN nC))) gc w8):=sub_only (fun b hb hh=>vw_iff.2 ⟨exB_iff.2 ⟨(vw_iff.1 hh).1,fun e=>by have:=(grow b e).1;omega,fun e=>by have:=(nrow b e).1;omega⟩,om⟩) fun b hb _=>B8.block b hb
  refine oneR_calls (x:=xs[i]) h8 (fun b hb=>exB_iff.2 ⟨hok b om,fun e=>by have:=(grow b e).2;omega,fun e=>by have:=(nrow b e).2;omega⟩) hwk ((hx _ (gem hix)).sub hsub) kd1 kd8 fun w9 vs9 vr9 h9 f9=>⟨_,_,rfl,?_⟩
  have hs9:=f9.size
  have C9:Below w2.heap.size w2 w9:=C8.trans (f9.toBelow C8.size fun b hb e=>by have e:b=gc:=e;omega)
  have ro9:Rd LI w9 vo.1 vo.2.2 order:=o2.keep C9
  refine brn (fun hne9=>?_) fun heq9=>?_
  ·refine dr fun w10 hb10 _=>?_
   have C10:=btr C9 C9.size hb10
   refine (o2.keep C10).i64 o1 rfl hk2 fun b oo cc=>?_
   simp only [cc,lds]
   rw [if_pos hne9] at hrk
   have hrun:=hrun w10 (btr B2 hs2 C10)
   rw [<-hrk] at hrun
   exact hrun
  ·rw [if_neg (by rw [heq9];simp)] at hrk
   refine ro9.i64 o1 rfl hk2 fun b oo cc=>?_
   rw [hi] at cc
   simp only [cc,lds]
   have og9:Own LHn w9 w2.heap.size 42 (.slice gA xs.length gC) (putL put xs.length):=own_fm (og7.keep hb8) f9 fun b hb e=>hgr (by have e:b=gc:=e;rw [<-e];exact hb)
   have hpll:(putL put xs.length).length=xs.length:=by unfold putL;simp
   refine og9.elA (v:=(gA,xs.length,gC)) rfl om rfl fun bg hbg=>?_
   refine og9.stc (v:=(gA,xs.length,gC)) (j:=0) (x':=(oneF Dk xs[i].o).2.1) om dc rfl hbg fun w10 og10 f10=>?_
   have hs10:=f10.size
   have on10:Own LHn w10 w4.heap.size 42 (.slice nA nN nC) gone:=own_fm (own_fm (on7.keep hb8) f9 fun b hb e=>by have e:b=gc:=e;have:=(nrow b hb).1;omega) f10 fun b hb e=>by have:=(nrow b hb).1;have:=(grow b e).2;omega
   have ot10:Own LHn w10 w7.heap.size 42 (.slice tA tN tC) T:=own_fm (own_fm ot8 f9 fun b hb e=>by have e:b=gc:=e;have:=(ot8.lt b hb).1;omega) f10 fun b hb e=>by have:=(ot8.lt b hb).1;have:=(grow b e).2;omega
   have h10:=h9.fm f10 fun b _ e=>⟨by
    cases hx:exB ok (rowOf (.slice gA xs.length gC)) (rowOf (.slice nA nN nC)) b with
    | false=>rfl
    | true=>exact absurd e (exB_iff.1 hx).2.1,fun e2=>hgr (by rw [<-e2];exact e)⟩
   obtain⟨_,rt⟩:=ot10.rd
   have hTe:=hT heq9
   have hTl:T.length<=4096:=by rw [hTe];exact taken_len hwk heq9
   refine ap (L:=LHn) (xs:=gone) (ys:=T) (base:=w4.heap.size) (v:=.slice nA nN nC) (.int .u64 0) 8 htn kr kr kr on10 rt om om (by unfold maxLen;omega) fun A' c' w11 o11 g11=>⟨A',_,c',rfl,?_⟩
   have F11:Fm (fun b=>rowOf (.slice nA nN nC)=some b) w10 w11:=Fm.grown g11.grown fun b hb=>hb
   have hs11:=F11.size
   have C10:Below w2.heap.size w2 w10:=C9.trans (f10.toBelow C9.size fun b hb e=>by have:=(grow b e).1;omega)
   have C11:Below w2.heap.size w2 w11:=C10.trans (F11.toBelow C10.size fun b hb e=>by have:=(nrow b e).1;omega)
   have hrow:∀b,rowOf (.slice A' (gone.length+T.length) c')=some b->rowOf (.slice nA nN nC)=some b\/w10.heap.size<=b:=fun b hb=>by
    rcases g11.row with e | e | ⟨q,e,hge⟩
    ·left;rw [<-e];exact hb
    ·rw [e] at hb;cases hb
    ·right;rw [e] at hb;cases hb;exact hge
   have hngc:∀b,rowOf (.slice nA nN nC)=some b->b≠gc:=fun b hb e=>by have:=(nrow b hb).1;omega
   have h11:RM (exB ok (rowOf (.slice gA xs.length gC)) (rowOf (.slice A' (gone.length+T.length) c'))) w11 gc (oneF Dk xs[i].o).1 vs9 vr9:=h10.fm2 F11 (fun b _ e=>⟨by
    cases hx:exB ok (rowOf (.slice gA xs.length gC)) (rowOf (.slice nA nN nC)) b with
    | false=>rfl
    | true=>exact absurd e (exB_iff.1 hx).2.2,hngc b e⟩) fun b hb hh=>by
     obtain⟨q1,q2,q3⟩:=exB_iff.1 hh
     exact exB_iff.2 ⟨q1,q2,fun e=>by rcases hrow b e with e | e;exact q3 e;omega⟩
   have og11:Own LHn w11 w2.heap.size 42 (.slice gA xs.length gC) (putL (fun j=>if j=(i:Int) then (oneF Dk xs[i].o).2.1 else put j) xs.length):=by
    rw [putL_set] at og10
    exact own_fm og10 F11 fun b hb e=>by have:=(nrow b e).1;have:=(grow b hb).2;omega
   rw [hTe] at o11 h11 |-
   rw [hi] at hrk
   refine⟨_,_,_,vs9,vr9,C11,om,hrk,one_wf' hwk _,h11,?_,o11,og11⟩
   rw [lap]
   rw [hTe] at hTl
   omega
 ·have hes:=h7.re
  obtain⟨es7,hw7⟩:=hes
  have all1:(xs[i].o.kind=3\/xs[i].o.kind=8)->CL 55 #[.pointer (some ⟨gc,0,none⟩),.int .u64 (xs[i].o.node:Nat)] w7 (post R fun v3 w1_17=>
    ∃(x77_0:OA) (x77_0N:Nat) (x77_0C:Nat) (x77_1:Int),v3=(.tuple #[.slice x77_0 x77_0N x77_0C,.int .i64 x77_1]) /\
    ∃T:List Nat,Below w7.heap.size w7 w1_17/\x77_0N=T.length/\Own LHn w1_17 w7.heap.size 42 (.slice x77_0 x77_0N x77_0C) T/\((oneF Dk xs[i].o).2.2=0->T=takenF Dk xs[i].o)):=fun hk38=>by
   refine AllW hw7 hwk (hxw _ (gem hix)).1.1 fun v w8 hb8 ov hnil=>⟨_,_,_,_,rfl,?_⟩
   have htk:takenF Dk xs[i].o=allI Dk xs[i].o.node:=by unfold takenF;rw [if_pos hk38]
   rw [htk]
   by_cases hlv:xs[i].o.node=0\/∃s,slA Dk.sl xs[i].o.node=some s
   ·have ov:=ov hlv
    exact⟨_,hb8,(rdO ov).1,ov,fun _=>rfl⟩
   ·rw [not_or] at hlv
    have hv:=hnil hlv.1 (by
     cases hs:slA Dk.sl xs[i].o.node with
     | none=>rfl
     | some s=>exact absurd ⟨s,hs⟩ hlv.2)
    rw [hv]
    refine⟨[],hb8,rfl,Own.nil _ _ _ _,fun he=>?_⟩
    exact absurd (one_live hwk he hk38) hlv.2
  simp only [bo7.cell,lds]
  refine bre (fun e3=>all1 (.inl e3)) fun e3=>?_
  refine bre (fun e8=>all1 (.inr e8)) fun e8=>?_
  refine⟨[],.refl _ _,rfl,Own.bare _ _ _ _ _,fun _=>?_⟩
  unfold takenF
  rw [if_neg (by rintro (h | h);exact e3 h;exact e8 h)]
end
def ptF (put:Int->Nat):Int->Option Value:=fun k=>if put k=0 then none else some (.int .u64 (put k:Nat))
theorem pt_zero:ptF (fun _=>0)=fun _=>none:=by funext k;simp [ptF]
theorem pt_upd {put:Int->Nat}{i:Int}{h:Nat} (hh:h≠0):upd (ptF put) i (some (.int .u64 (h:Nat)))=ptF fun j=>if j=i then h else put j:=by
 funext k
 unfold upd ptF
 by_cases e:k=i
 ·simp [e,hh]
 ·simp [e]
theorem pt_same {put:Int->Nat}{i:Int} (hh:put i=0):ptF (fun j=>if j=i then 0 else put j)=ptF put:=by
 congr 1
 funext k
 by_cases e:k=i
 ·rw [if_pos e,e,hh]
 ·rw [if_neg e]
theorem plan_nodup (l:List O1):(planF l 5).Nodup:=by
 unfold planF List.Nodup
 rw [List.pairwise_flatMap]
 refine⟨fun a _=>?_,?_⟩
 ·unfold phsF
  rw [List.pairwise_map]
  refine List.Pairwise.imp (fun {x y} h=>?_) (List.nodup_range.filter _)
  omega
 ·refine List.pairwise_lt_range.imp fun {a b} hab=>?_
  intro x hx y hy e
  obtain⟨i,p,e1,_,h1,h2⟩:=mem_phs.1 hx
  obtain⟨j,q,e2,_,h3,h4⟩:=mem_phs.1 hy
  have:i=j:=by omega
  subst this
  rw [h1] at h3
  obtain rfl:=osi h3
  omega
def TrialK (R:RT) (n0:Nat) (r:Option (Im × List Nat) × Int × Int) (w:Wd):Prop:=match r.1 with
 | none=>R (.returned (.tuple #[.slice none 0 0,.int .i64 r.2.1,.int .i64 r.2.2])) w
 | some (_,l)=>∀v:Sv,Own LHn w n0 42 (slV v) l->R (.returned (.tuple #[slV v,.int .i64 0,.int .i64 0])) w
section
variable {w w0:Wd}{o:Nat->Nat}{θ:Th}{S:PS}{R:RT}
theorem tryP_calls (xs:List E11) {A:OA}{c:Nat} (hr:Rd LOp w0 A c xs) (hx:∀x∈xs,ROp w0 x) (hl:xs.length<=1048576) (hT:Tabs w0) (hp:PM w o θ S) (hi:PI S) (hw:Wf S.D) (hb0:Below w0.heap.size w0 w) (ho:∀b,o b≠0->w0.heap.size<=b)
  (hK:∀w',Below w0.heap.size w0 w'->TrialK R w.heap.size (applyF S.D (xs.map (·.o))) w') :
  CL 56 #[.pointer (some ⟨θ.g,0,none⟩),.slice A xs.length c] w R:=by
 have hrw:=hr.keep hb0
 have hxw:∀x∈xs,ROp w x:=fun x hm=>(hx x hm).sub (sub_below hb0)
 have hTw:=hT.sub (sub_below hb0)
 generalize hLL:xs.map (·.o)=L at *
 have hLn:L.length=xs.length:=by rw [<-hLL,lmp]
 refine ok56 (some ⟨θ.g,0,none⟩) A xs.length c ?_
 unfold F56
 refine checkP_calls xs hrw hxw hTw hl fun w1 hb1=>⟨_,_,rfl,?_⟩
 rw [hLL]
 have hs0:=hb0.size
 refine brn (fun hne=>?_) fun heq=>?_
 ·have:=hK w1 (btr hb0 hs0 hb1)
  unfold TrialK applyF at this
  rw [if_pos hne] at this
  exact this
 have hne:¬(checkF L).2≠0:=by rw [heq];simp
 have hfew:xs.length<=4096:=by rw [<-hLn];exact check_few heq
 have hck:=check_kind L [] (check_ok heq).2
 refine planP_calls xs (hrw.keep hb1) (fun x hm=>(hxw x hm).sub (sub_below hb1)) (hTw.sub (sub_below hb1)) hl fun w2 hb2=>?_
 unfold PlanK
 rw [hLL,if_neg hne]
 intro vo oo
 refine⟨_,_,_,_,rfl,?_⟩
 have B2:=btr hb1 hb1.size hb2
 have hs2:=B2.size
 obtain⟨o1,o2⟩:=rdO oo
 have hnd:=plan_nodup L
 generalize hor:planF L 5=order at *
 have hpl:order.length<=20480:=by
  rw [<-hor]
  have:=plan_len L 5
  omega
 have hrun:=hK
 unfold TrialK applyF at hrun
 simp only [if_neg hne,hor] at hrun
 refine almM fun r36 w3 hb3 hge3 hlt3 hm3=>?_
 have B3:=btr B2 hs2 hb3
 refine al fun gm w4 hb4 b4 hge4=>?_
 have B4:=btr B3 B3.size hb4
 refine almM fun r39 w5 hb5 hge5 hlt5 hm5=>?_
 have B5:=btr B4 B4.size hb5
 have hs3:=hb3.size
 have hs4:=hb4.size
 have hs5:=hb5.size
 have hgm:=b4.lt
 have b45:=b4.keep hb5
 have hMg:Mp .u64 w5 r36 (gnF []):=by
  rw [gn_nil]
  exact (mp_new .u64 hm3).fm (M:=fun _=>False) (.below (btr hb4 hs4 hb5)) (fun h=>h)
 have hMp:Mp .i64 w5 r39 (ptF fun _=>0):=by rw [pt_zero];exact mp_new .i64 hm5
 have hol:∀b,o b≠0->b<w.heap.size:=fun b hb=>hp.lt b hb
 have oz:∀b,w.heap.size<=b->o b=0:=fun b hb=>byc fun e=>by have:=hol b e;omega
 have oo5:Own LI w5 w1.heap.size 3 (slV vo) order:=(oo.keep hb3).keep (btr hb4 hs4 hb5)
 have hor5:∀b,rowOf (slV vo)=some b->w1.heap.size<=b/\b<w2.heap.size:=fun b hb=>oo.lt b hb
 have hs1:=hb1.size
 have h05:Below w0.heap.size w0 w5:=btr hb0 hs0 B5
 refine⟨fun i w'=>∃(k:Nat) (o':Nat->Nat) (S':PS) (gone:List Nat) (put:Int->Nat),i=k/\k<=order.length/\PM w' o' θ S'/\PI S'/\Wf S'.D/\runF L (order.drop k) S'.D gone put=runF L order S.D [] (fun _=>0)/\(∀z∈order.drop k,put z=0) /\
   Mp .u64 w' r36 (gnF gone)/\Mp .i64 w' r39 (ptF put)/\Fm (fun b=>o b≠0\/b=r36\/b=r39) w5 w'/\(∀b,b<w5.heap.size->o b=0->o' b=0),fun i _=>order.length-i.toNat,
  ⟨0,o,S,[],fun _=>0,rfl,om,hp.below B5,hi,hw,by rw [List.drop_zero],fun _ _=>rfl,hMg,hMp,.refl _ _,fun _ _ h=>h⟩,?_⟩
 rintro _ w6 ⟨k,o6,S6,gone,put,rfl,hk,hp6,hi6,hw6,hrk,hz6,hMg6,hMp6,f6,hold6⟩
 have hs6:=f6.size
 have B06:Below w0.heap.size w0 w6:=h05.trans (f6.toBelow h05.size fun b hb e=>by
  rcases e with e | e | e
  ·have:=ho b e;omega
  ·omega
  ·omega)
 have oo6:Own LI w6 w1.heap.size 3 (slV vo) order:=own_fm oo5 f6 fun b hb e=>by
  have:=hor5 b hb
  rcases e with e | e | e
  ·exact e (oz b om)
  ·omega
  ·omega
 unfold F56_l8
 refine brd (fun hlt=>?_) (fun hge=>?_)
 ·have hk2:k<order.length:=by omega
  have hmem:order[k]∈planF L 5:=by rw [hor];exact gem hk2
  obtain⟨i,hii,hil⟩:=mem_plan.1 hmem
  have hix:i<xs.length:=by omega
  have hLi:L[i]?=some xs[i].o:=by rw [<-hLL,List.getElem?_map,gge hix];rfl
  have hLi2:L[(order[k]).toNat]?=some xs[i].o:=by rw [hii,tnc];exact hLi
  obtain⟨kd1,kd8,klook⟩:=hck xs[i].o (mog hLi)
  rw [dgc hk2] at hrk hz6
  rw [run_step hLi2] at hrk
  have hnd2:(order.drop k).Nodup:=hnd.sublist (List.drop_sublist k order)
  rw [dgc hk2,List.nodup_cons] at hnd2
  refine⟨fun w'=>∃(o':Nat->Nat) (S':PS) (gone:List Nat) (put:Int->Nat),PM w' o' θ S'/\PI S'/\Wf S'.D/\runF L (order.drop (k+1)) S'.D gone put=runF L order S.D [] (fun _=>0)/\(∀z∈order.drop (k+1),put z=0) /\
   Mp .u64 w' r36 (gnF gone)/\Mp .i64 w' r39 (ptF put)/\Fm (fun b=>o b≠0\/b=r36\/b=r39) w5 w'/\(∀b,b<w5.heap.size->o b=0->o' b=0),?_,?_⟩
  ·rintro w' ⟨o',S',gone',put',q⟩
   unfold F56_j15
   exact⟨inR_i64 om om,⟨k+1,o',S',gone',put',sm,om,q⟩,odz⟩
  refine (rdO oo6).2.i64 o1 rfl hk2 fun b oo cc=>?_
  rw [hii] at cc
  simp only [cc,lds]
  refine (hr.keep B06).op rfl rfl hix fun b oo c0 c1 c2 c3 c4 c5 c6 c7 c8 c9 c10=>?_
  simp only [c0,c1,c2,c3,c4,c5,c6,c7,c8,c9,c10,lds]
  have b46:Blk w6 gm _ 187:=f6.blk b45 fun e=>by
   rcases e with e | e | e
   ·exact e (oz gm om)
   ·omega
   ·omega
  have hsub:Sub w0 (wc o6 w6):=fun b c t fr hb=>by
   have hlt:=(agi.1 hb).1
   refine cells_only (ok:=fun b=>Nat.beq (o6 b) 0) ?_ ?_
   ·have:o b=0:=byc fun e=>by have:=ho b e;omega
    show Nat.beq (o6 b) 0=true
    rw [hold6 b (by have:=h05.size;omega) this];rfl
   ·rw [B06.block b hlt];exact hb
  have h6r:o6 r36=0:=hold6 r36 om (oz r36 om)
  have h6p:o6 r39=0:=hold6 r39 om (oz r39 om)
  have nd:order[k]∉order.drop (k+1):=hnd2.1
  refine doP_calls (x:=xs[i]) b46 hp6 hi6 hw6 hMg6 (hold6 gm om (oz gm om)) h6r om (hT.sub hsub) ((hx _ (gem hix)).sub hsub) kd1 kd8 (fun hsk w7 hb7=>⟨_,_,rfl,?_⟩) (fun hsk w7 o7 S7 hp7 hi7 hD7 ev7 hg7=>⟨_,_,rfl,?_⟩)
  ·refine brn (fun h=>absurd rfl h) fun _=>?_
   refine brn (fun h=>absurd rfl h) fun _=>?_
   rw [if_pos hsk] at hrk
   exact⟨o6,S6,gone,put,hp6.below hb7,hi6,hw6,hrk,fun z hz=>hz6 z (mcm _ hz),hMg6.fm (M:=fun _=>False) (.below hb7) (fun h=>h),hMp6.fm (M:=fun _=>False) (.below hb7) (fun h=>h),f6.trans (.below hb7),hold6⟩
  ·rw [hsk,if_neg dc] at hrk
   have hs7:=ev7.fm.size
   have B07:Below w0.heap.size w0 w7:=B06.trans (ev7.fm.toBelow B06.size fun b hb e=>by
    rcases e with e | e
    ·have h1:=h05.size
     by_cases e0:o b=0
     ·exact e (hold6 b om e0)
     ·have:=ho b e0;omega
    ·omega)
   refine brn (fun hne7=>?_) fun heq7=>?_
   ·rw [if_pos hne7] at hrk
    have hrun:=hrun w7 B07
    rw [<-hrk] at hrun
    rw [<-hii]
    exact hrun
   rw [if_neg (by rw [heq7];simp)] at hrk
   have f7:Fm (fun b=>o b≠0\/b=r36\/b=r39) w5 w7:=⟨ev7.fm.os.trans f6.os,ev7.fm.tape.trans f6.tape,ev7.fm.output.trans f6.output,om,fun b hb hm=>(ev7.fm.block b om fun e=>hm (by
    rcases e with e | e
    ·exact .inl fun e0=>e (hold6 b hb e0)
    ·exact .inr (.inl e))).trans (f6.block b hb hm)⟩
   have hold7:∀b,b<w5.heap.size->o b=0->o7 b=0:=fun b hb e=>ev7.old b om (hold6 b hb e)
   have hMp7:Mp .i64 w7 r39 (ptF put):=hMp6.fm ev7.fm fun e=>by
    rcases e with e | e
    ·exact e h6p
    ·omega
   have hw7:Wf S7.D:=by rw [hD7];exact one_wf' hw6 _
   rw [<-hD7] at hrk
   refine brn (fun hh=>?_) fun hh=>?_
   ·have hh:(oneF S6.D xs[i].o).2.1≠0:=fun e=>hh (by rw [e];rfl)
    refine hMp7.update mapPut keyInt _ _ fun w8 hM8 f8=>?_
    rw [pt_upd hh] at hM8
    rw [hii] at hrk nd
    have h7p:=hold7 r39 om (oz r39 om)
    have hs8:=f8.size
    refine⟨o7,S7,_,fun j=>if j=(i:Int) then (oneF S6.D xs[i].o).2.1 else put j,hp7.keep f8 (fun b hb e=>by have e:b=r39:=e;subst e;rw [h7p] at hb;exact not_pc0 hb) (fun _ _=>rfl) (fun b hb=>by have:=hp7.lt b hb;omega),hi7,hw7,hrk,fun z hz=>?_,(hg7 heq7).fm f8 (fun e=>by have e:r36=r39:=e;omega),hM8,f7.trans (f8.mono fun b _ e=>.inr (.inr e)),hold7⟩
    show (if z=(i:Int) then _ else put z)=0
    rw [if_neg (show ¬z=(i:Int) from fun e=>nd (e ▸ hz))]
    exact hz6 z (mcm _ hz)
   ·have hh:(oneF S6.D xs[i].o).2.1=0:=by omega
    rw [hh] at hrk
    have hzi:put order[k]=0:=hz6 _ List.mem_cons_self
    refine⟨o7,S7,_,fun j=>if j=order[k] then 0 else put j,hp7,hi7,hw7,hrk,fun z hz=>?_,hg7 heq7,?_,f7,hold7⟩
    ·show (if z=order[k] then _ else put z)=0
     rw [if_neg (show ¬z=order[k] from fun e=>nd (e ▸ hz))]
     exact hz6 z (mcm _ hz)
    ·rw [pt_same hzi];exact hMp7
 ·have hk2:k=order.length:=by omega
  subst hk2
  rw [List.drop_length] at hrk
  have hs05:=h05.size
  refine⟨fun rA rN rC j w'=>∃m:Nat,j=m/\m<=xs.length/\Below w6.heap.size w6 w'/\Own LHn w' w6.heap.size 42 (.slice rA rN rC) (givenF put m),fun _ _ _ j _=>xs.length-j.toNat,⟨0,rfl,om,.refl _ _,Own.nil _ _ _ _⟩,?_⟩
  rintro rA rN rC _ w7 ⟨m,rfl,hm,hb7,o7⟩
  unfold F56_l18
  have hs7:=hb7.size
  refine brd (fun hlt=>?_) (fun hge=>?_)
  ·have hm2:m<xs.length:=by omega
   refine⟨fun rA2 rN2 rC2 w'=>Below w6.heap.size w6 w'/\Own LHn w' w6.heap.size 42 (.slice rA2 rN2 rC2) (givenF put (m+1)),?_,?_⟩
   ·rintro rA2 rN2 rC2 w' ⟨q1,q2⟩
    unfold F56_j23
    exact⟨inR_i64 om om,⟨m+1,sm,om,q1,q2⟩,odz⟩
   have hM7:Mp .i64 w7 r39 (ptF put):=hMp6.fm (M:=fun _=>False) (.below hb7) (fun h=>h)
   refine hM7.look mapPut keyInt (zeroHn w7) _ true ?_
   rw [if_pos rfl]
   have hgs:=given_step put m
   have hgl:=given_len put m
   by_cases hz:put (m:Nat)=0
   ·have e1:ptF put (m:Nat)=none:=by unfold ptF;rw [if_pos hz]
    rw [e1]
    refine⟨0,false,rfl,?_⟩
    rw [Br_f,hgs,if_neg (by rw [hz];simp),List.append_nil]
    exact⟨hb7,o7⟩
   ·have e1:ptF put (m:Nat)=some (.int .u64 (put (m:Nat):Nat)):=by unfold ptF;rw [if_neg hz]
    rw [e1]
    refine⟨_,true,rfl,?_⟩
    rw [Br_t]
    refine ap1 (L:=LHn) (x:=put (m:Nat)) (base:=w6.heap.size) (.int .u64 0) 8 rfl kr kr kr o7 hs7 om (by unfold maxLen;omega) fun A' c' w8 o8 g8=>⟨A',_,c',rfl,hb7.trans g8.below,?_⟩
    rw [hgs,if_pos hz];exact o8
  ·have hm2:m=xs.length:=by omega
   subst hm2
   have hrun:=hrun w7 (btr B06 B06.size hb7)
   rw [<-hrk] at hrun
   simp only [runF] at hrun
   rw [hLn] at hrun
   exact hrun (rA,rN,rC) (o7.rebase fun b hb=>by have:=(o7.lt b hb).1;omega)
end
section
variable {w:Wd}{o:Nat->Nat}{R:RT}{k g:Nat}{ty:TypeId}{D:Im}
theorem TrialP_calls (h:LD k g ty w o D) (hw:Wf D) (xs:List E11) {A:OA}{c:Nat} (hr:Rd LOp w A c xs) (hx:∀x∈xs,ROp w x) (hl:xs.length<=1048576) (hT:Tabs w)
  (hK:∀w',Below w.heap.size w w'->TrialK R w.heap.size (applyF D (xs.map (·.o))) w') :
  CL 20 #[.pointer (some ⟨g,0,none⟩),.slice A xs.length c] w R:=by
 refine ok20 (some ⟨g,0,none⟩) A xs.length c ?_
 unfold F20
 rw [oin,Br_f]
 refine TreeU_calls h ?_
 intro gc bs o1 w1 S1 hb1 hD1 hp1 _ ho1 hi1
 refine⟨_,rfl,?_⟩
 rw [<-hD1] at hK hw
 have hs1:=hb1.size
 refine tryP_calls (θ:=⟨gc,106,[]⟩) (w0:=w) xs hr hx hl hT hp1 hi1 hw hb1 ho1 ?_
 intro w2 hb2
 have hK:=hK w2 hb2
 clear hb1 hp1 hi1 ho1 hr hx hT h hw
 revert hK
 unfold TrialK
 generalize applyF S1.D (xs.map (·.o))=q
 obtain⟨q1,q2,q3⟩:=q
 intro hK
 cases q1 with
 | none=>exact⟨none,0,0,q2,q3,rfl,hK⟩
 | some x=>
  intro v ov
  refine⟨v.1,v.2.1,v.2.2,0,0,rfl,?_⟩
  exact hK v (ov.rebase fun b hb=>by have:=(ov.lt b hb).1;omega)
end
def Fwd (sl sl':List Sl):Prop:=∀(k:Nat) (s:Sl),sl[k]?=some s->∃s',sl'[k]?=some s'/\(s.gen<s'.gen\/(s'.gen=s.gen/\(s.live=false->s'.live=false)))
def Dead (sl:List Sl) (h:Nat):Prop:=∃k s,h % 4294967296=k+1/\sl[k]?=some s/\(h / 4294967296<s.gen\/(h / 4294967296=s.gen/\s.live=false))
section
variable {sl sl1 sl2:List Sl}
theorem Fwd.refl (sl:List Sl):Fwd sl sl:=fun k s h=>⟨s,h,.inr ⟨rfl,id⟩⟩
theorem Fwd.trans (h:Fwd sl sl1) (k:Fwd sl1 sl2):Fwd sl sl2:=fun i s hs=>by
 obtain⟨s1,h1,q1⟩:=h i s hs
 obtain⟨s2,h2,q2⟩:=k i s1 h1
 refine⟨s2,h2,?_⟩
 rcases q1 with q1 | ⟨q1,r1⟩ <;> rcases q2 with q2 | ⟨q2,r2⟩
 ·left;omega
 ·left;omega
 ·left;omega
 ·exact .inr ⟨q2.trans q1,fun h=>r2 (r1 h)⟩
theorem Dead.fwd {x:Nat} (h:Dead sl x) (k:Fwd sl sl1):Dead sl1 x:=by
 obtain⟨i,s,h1,h2,h3⟩:=h
 obtain⟨s1,q1,q2⟩:=k i s h2
 refine⟨i,s1,h1,q1,?_⟩
 rcases h3 with h3 | ⟨h3,h4⟩ <;> rcases q2 with q2 | ⟨q2,r2⟩
 ·left;omega
 ·left;omega
 ·left;omega
 ·exact .inr ⟨h3.trans q2.symm,r2 h4⟩
theorem hnd_div {g k x:Nat} (hk:x % 4294967296=k+1) (h:hnd g k=x):x / 4294967296=g:=by
 unfold hnd at h
 omega
theorem Dead.none {x:Nat} (h:Dead sl x):slA sl x=none:=by
 cases hs:slA sl x with
 | none=>rfl
 | some t=>
  obtain⟨k,k1,k2,k3,k4⟩:=slA_iff.1 hs
  obtain⟨i,s,h1,h2,h3⟩:=h
  obtain rfl:i=k:=by omega
  rw [h2] at k2
  obtain rfl:=osi k2
  have:=hnd_div h1 k4
  rcases h3 with h3 | ⟨h3,h4⟩
  ·omega
  ·rw [h4] at k3;cases k3
theorem Dead.ne0 {x:Nat} (h:Dead sl x):x≠0:=fun e=>by
 obtain⟨k,s,h1,_⟩:=h
 subst e;simp at h1
theorem dead_of {x:Nat}{s:Sl} (h:slA sl x=some s) (k:Fwd sl sl1) (hn:slA sl1 x=none):Dead sl1 x:=by
 obtain⟨i,i1,i2,i3,i4⟩:=slA_iff.1 h
 obtain⟨s1,q1,q2⟩:=k i s i2
 have hd:=hnd_div i1 i4
 refine⟨i,s1,i1,q1,?_⟩
 rcases q2 with q2 | ⟨q2,_⟩
 ·left;omega
 ·right
  refine⟨om,?_⟩
  cases hl:s1.live with
  | false=>rfl
  | true=>
   rw [slA_iff.2 ⟨i,i1,q1,hl,by rw [q2];exact i4⟩] at hn
   cases hn
theorem fwd_modify (sl:List Sl) (i:Nat) (f:Sl->Sl) (h:∀s,sl[i]?=some s->(f s).gen=s.gen/\(s.live=false->(f s).live=false)):Fwd sl (sl.modify i f):=fun k s hs=>by
 by_cases e:i=k
 ·subst e
  refine⟨f s,by rw [List.getElem?_modify];simp [hs],.inr (h s hs)⟩
 ·exact⟨s,by rw [List.getElem?_modify];simp [e,hs],.inr ⟨rfl,id⟩⟩
theorem fwd_setI (D:Im) (p:Nat) (l:List Nat):Fwd D.sl (setI D p l).sl:=by
 unfold setI
 split
 ·exact .refl _
 ·exact fwd_modify _ _ _ fun s _=>⟨rfl,id⟩
theorem fwd_updI (D:Im) (n:Nat) (f:Sl->Sl) (h:∀s,(f s).gen=s.gen/\(f s).live=s.live):Fwd D.sl (updI D n f).sl:=
 fwd_modify _ _ _ fun s _=>⟨(h s).1,fun e=>by rw [(h s).2];exact e⟩
theorem fwd_kill:∀(L:List Nat) (sl:List Sl),Fwd sl (killF sl L)
 | [],sl=>.refl _
 | x :: L,sl=>by
  show Fwd sl (killF (sl.modify (x % 4294967296-1) fun s=>deadS s.gen) L)
  exact (fwd_modify sl (x % 4294967296-1) (fun s=>deadS s.gen) fun s _=>⟨rfl,fun _=>rfl⟩).trans (fwd_kill L _)
theorem fwd_born (sl:List Sl) {s:Sl} (hg:s.gen=genI sl):Fwd sl ((roomF sl).set (freeI sl) s):=fun k t ht=>by
 by_cases e:freeI sl=k
 ·subst e
  have h1:=room_old ht
  refine⟨s,?_,.inl (by rw [hg,genI_eq h1];omega)⟩
  rw [List.getElem?_set_self (gsi.1 h1).1]
 ·exact⟨t,by rw [gsn e];exact room_old ht,.inr ⟨rfl,id⟩⟩
theorem fwd_make:∀(x:Tr) (p:Nat) (sl:List Sl),Fwd sl (makeF x p sl):=by
 refine Tr.ind fun kind nm attrs text kids ih=>?_
 intro p sl
 unfold makeF
 split
 ·exact fwd_born sl rfl
 ·have key:∀(l:List Tr),(∀x∈l,x∈kids)->∀(h i:Nat) (sl:List Sl),Fwd sl (makesF l h i sl):=fun l=>by
   induction l with
   | nil=>intro _ h i sl;unfold makesF;exact .refl _
   | cons x l ihl=>
    intro hm h i sl
    unfold makesF
    refine Fwd.trans ?_ (ihl (fun y hy=>hm y (by simp [hy])) h i _)
    exact (ih x (hm x sm) h sl).trans (fwd_modify _ i _ fun s _=>⟨rfl,id⟩)
  exact (fwd_born sl rfl).trans (key kids (fun _ h=>h) _ _ _)
theorem fwd_put (D:Im) (n p:Nat) (wh:Int) (a:Nat):Fwd D.sl (putI D n p wh a).sl:=fwd_setI _ _ _
theorem fwd_out (D:Im) (n:Nat):Fwd D.sl (outI D n).sl:=by
 unfold outI
 split
 ·exact fwd_setI _ _ _
 ·exact .refl _
theorem fwd_ins (D:Im) (wh:Int) (a:Nat) (x:Tr):Fwd D.sl (insF D wh a x).1.sl:=by
 unfold insF
 repeat' split
 all_goals first | exact .refl _ | exact (fwd_make x (placeF D wh a).1 D.sl).trans (fwd_put { D with sl:=makeF x (placeF D wh a).1 D.sl } _ _ _ _)
theorem fwd_mov (D:Im) (n:Nat) (wh:Int) (a:Nat):Fwd D.sl (movF D n wh a).1.sl:=by
 unfold movF
 repeat' split
 all_goals first | exact .refl _ | exact ((fwd_out D n).trans (fwd_put _ n (placeF D wh a).1 wh a)).trans (fwd_updI _ n _ fun s=>⟨rfl,rfl⟩)
theorem fwd_del (D:Im) (n:Nat):Fwd D.sl (delF D n).1.sl:=by
 unfold delF
 split
 ·exact .refl _
 ·exact (fwd_out D n).trans (fwd_kill (allA (slA D.sl) 65 n) (outI D n).sl)
theorem fwd_one (D:Im) (o:O1):Fwd D.sl (oneF D o).1.sl:=by
 unfold oneF
 split
 ·exact fwd_ins _ _ _ _
 split
 ·exact fwd_mov _ _ _ _
 split
 ·exact fwd_del _ _
 split
 ·unfold setNameF
  repeat' split
  all_goals first | exact .refl _ | exact fwd_updI _ _ _ fun s=>⟨rfl,rfl⟩
 split
 ·unfold setTextF
  repeat' split
  all_goals first | exact .refl _ | exact fwd_updI _ _ _ fun s=>⟨rfl,rfl⟩
 split
 ·unfold setAttrF
  repeat' split
  all_goals first | exact .refl _ | exact fwd_updI _ _ _ fun s=>⟨rfl,rfl⟩
 split
 ·unfold dropAttrF
  repeat' split
  all_goals first | exact .refl _ | exact fwd_updI _ _ _ fun s=>⟨rfl,rfl⟩
 split
 ·exact .refl _
 ·exact (fwd_ins _ _ _ _).trans (fwd_del _ _)
end
theorem del_dead {D:Im} (hw:Wf D) {n:Nat} (h:(delF D n).2=0):∀x∈allI D n,Dead (delF D n).1.sl x:=fun x hx=>by
 cases hn:slA D.sl n with
 | none=>unfold delF at h;rw [hn] at h;cases h
 | some s=>
  have hn0:n≠0:=fun e=>by rw [e,slA_zero] at hn;cases hn
  unfold allI at hx
  rw [if_neg hn0] at hx
  obtain⟨t,ht⟩:=all_live hw.a ⟨s,hn⟩ (fun z hz=>by simp at hz) hx
  have q:=(del_word (E:=fun _=>none) hw hn).2 x
  refine dead_of ht (fwd_del D n) ?_
  cases hx2:slA (delF D n).1.sl x with
  | none=>rfl
  | some u=>exact absurd hx (q.1 ⟨u,hx2⟩).1
theorem one_taken {D:Im} (hw:Wf D) {o:O1} (h:(oneF D o).2.2=0):∀x∈takenF D o,Dead (oneF D o).1.sl x:=fun x hx=>by
 unfold takenF at hx
 split at hx
 ·rename_i hk
  unfold oneF at h |-
  rcases hk with hk | hk
  ·rw [if_neg om,if_neg om,if_pos hk] at h |-
   exact del_dead hw h x hx
  ·rw [if_neg om,if_neg om,if_neg om,if_neg om,if_neg om,if_neg om,if_neg om] at h |-
   split at h
   ·rename_i h1;exact absurd h h1
   rename_i h1
   rw [if_neg h1]
   obtain⟨s,h2,h3,h4⟩:=ins_all hw (by simpa using h1)
   exact del_dead (ins_wf hw _ _ _) h x (by rw [h4];exact hx)
 ·simp at hx
theorem one_gone {D:Im}{o:O1} (hk:o.kind=3\/o.kind=8) (hl:o.kind=8->(lookF o.t 1 0).2=0) (hd:Dead D.sl o.node):oneF D o=(D,0,8):=by
 have hn:=hd.none
 have h0:=hd.ne0
 unfold oneF
 rcases hk with hk | hk
 ·rw [if_neg om,if_neg om,if_pos hk]
  unfold delF
  rw [hn]
 ·have e:insF D 3 o.node o.t=(D,0,8):=by
   have hp:placeF D 3 o.node=(0,8):=by
    unfold placeF
    rw [if_neg om,if_neg h0,hn]
   unfold insF
   rw [hp]
   rw [if_neg dc,if_neg (by rw [hl hk];simp),if_pos dc]
  rw [if_neg om,if_neg om,if_neg om,if_neg om,if_neg om,if_neg om,if_neg om,e]
  rfl
def phI (l:List O1) (z:Int):Int:=match l[z.toNat]? with | some o=>phF o.kind | none=>0
theorem phI_mem {l:List O1}{p:Int}{k:Nat}{z:Int} (h:z∈phsF l p k):phI l z=p:=by
 obtain⟨i,o,rfl,_,h2,h3⟩:=mem_phs.1 h
 unfold phI
 rw [tnc,h2]
 exact h3
theorem plan_sorted (l:List O1):(planF l 5).Pairwise fun i j=>phI l i<=phI l j:=by
 unfold planF
 rw [List.pairwise_flatMap]
 refine⟨fun a _=>?_,?_⟩
 ·refine List.Pairwise.imp_of_mem (fun {x y} hx hy _=>?_) (List.pairwise_of_forall (R:=fun _ _=>True) fun _ _=>trivial)
  rw [phI_mem hx,phI_mem hy]
  exact Int.le_refl _
 ·refine List.pairwise_lt_range.imp fun {a b} hab=>?_
  intro x hx y hy
  rw [phI_mem hx,phI_mem hy]
  omega
theorem phs_sum {l:List O1}:∀k,k<=l.length->(phsF l 0 k).length+(phsF l 1 k).length+(phsF l 2 k).length+(phsF l 3 k).length+(phsF l 4 k).length=k
 | 0,_=>by simp [phs_zero]
 | k+1,h=>by
  have ih:=phs_sum (l:=l) k om
  have hk:k<l.length:=by omega
  rw [phs_step hk,phs_step hk,phs_step hk,phs_step hk,phs_step hk]
  simp only [lap]
  rcases phF_cases l[k].kind with e | e | e | e | e <;> rw [e] <;> simp <;> omega
theorem plan_size (l:List O1):(planF l 5).length=l.length:=by
 have h:=phs_sum (l:=l) l.length (nlr _)
 rw [show planF l 5=phsF l 0 l.length++phsF l 1 l.length++phsF l 2 l.length++phsF l 3 l.length++phsF l 4 l.length by
  rw [plan_step,plan_step,plan_step,plan_step,plan_step,plan_zero];rfl]
 simp only [lap]
 omega
theorem plan_one (o:O1):planF [o] 5=[0]:=by
 have h:=plan_size [o]
 match hp:planF [o] 5,h with
 | [z],_=>
  have:z∈planF [o] 5:=by rw [hp];simp
  obtain⟨i,rfl,hi⟩:=mem_plan.1 this
  have:i=0:=by simpa using hi
  subst this;rfl
theorem plan_two (a b:O1):planF [a,b] 5=if phF a.kind<=phF b.kind then [0,1] else [1,0]:=by
 rcases phF_cases a.kind with ea | ea | ea | ea | ea <;> rcases phF_cases b.kind with eb | eb | eb | eb | eb <;> simp [planF,phsF,List.range_succ,List.filter_cons,ea,eb]
def opsF (l:List O1):List O1:=(List.range 5).flatMap fun p:Nat=>l.filter fun o=>decide (phF o.kind=(p:Nat))
theorem phs_ops {l:List O1}{p:Int}:∀k,k<=l.length->(phsF l p k).filterMap (fun z=>l[z.toNat]?)=(l.take k).filter fun o=>decide (phF o.kind=p)
 | 0,_=>by simp [phs_zero]
 | k+1,h=>by
  have ih:=phs_ops (l:=l) (p:=p) k om
  have hk:k<l.length:=by omega
  rw [phs_step hk,List.filterMap_append,ih,tsa hk,List.filter_append]
  congr 1
  by_cases e:phF l[k].kind=p
  ·rw [if_pos e];simp [e,gge hk]
  ·rw [if_neg e];simp [e]
theorem plan_ops (l:List O1):(planF l 5).filterMap (fun z=>l[z.toNat]?)=opsF l:=by
 unfold planF opsF
 rw [List.filterMap_flatMap]
 congr 1
 funext p
 rw [phs_ops l.length (nlr _),tkl]
theorem ops_turned {A C:List O1}{a b:O1} (h:phF a.kind≠phF b.kind):opsF (A++a :: b :: C)=opsF (A++b :: a :: C):=by
 unfold opsF
 congr 1
 funext p
 rw [List.filter_append,List.filter_append]
 congr 1
 simp only [List.filter_cons]
 by_cases e1:phF a.kind=(p:Nat) <;> by_cases e2:phF b.kind=(p:Nat)
 ·exact absurd (e1.trans e2.symm) h
 ·simp [e1,e2]
 ·simp [e1,e2]
 ·simp [e1,e2]
def runD:List O1->Im->List Nat->Option Im
 | [],D,_=>some D
 | o :: r,D,gone=>if skipB gone o=true then runD r D gone else if (oneF D o).2.2≠0 then none else runD r (oneF D o).1 (gone++takenF D o)
theorem run_runD {l:List O1}:∀(is:List Int) (D:Im) (gone:List Nat) (put:Int->Nat),(∀i∈is,∃o,l[i.toNat]?=some o)->(runF l is D gone put).1.map (·.1)=runD (is.filterMap fun z=>l[z.toNat]?) D gone
 | [],D,gone,put,_=>by simp [runF,runD]
 | i :: is,D,gone,put,h=>by
  obtain⟨o,ho⟩:=h i sm
  have h':∀j∈is,∃o,l[j.toNat]?=some o:=fun j hj=>h j (by simp [hj])
  rw [run_step ho,List.filterMap_cons,ho]
  show _=runD (o :: _) D gone
  unfold runD
  by_cases hs:skipB gone o=true
  ·rw [if_pos hs,if_pos hs];exact run_runD is D gone put h'
  rw [if_neg hs,if_neg hs]
  by_cases he:(oneF D o).2.2≠0
  ·rw [if_pos he,if_pos he];rfl
  rw [if_neg he,if_neg he]
  exact run_runD is _ _ _ h'
theorem plan_at {l:List O1}{i:Int} (h:i∈planF l 5):∃o,l[i.toNat]?=some o:=by
 obtain⟨k,rfl,hk⟩:=mem_plan.1 h
 exact⟨l[k],by rw [tnc];exact gge hk⟩
theorem apply_D (D:Im) (l:List O1) (hc:(checkF l).2=0):(applyF D l).1.map (·.1)=runD (opsF l) D []:=by
 have h:=run_runD (planF l 5) D [] (fun _=>0) fun i hi=>plan_at hi
 rw [plan_ops] at h
 rw [<-h]
 unfold applyF
 rw [if_neg (by rw [hc];simp)]
 cases runF l (planF l 5) D [] (fun _=>0) with
 | mk x y=>cases x with
  | none=>rfl
  | some z=>rfl
theorem run_err {l:List O1}:∀(is:List Int) (D:Im) (gone:List Nat) (put:Int->Nat),(∀i∈is,∃o,l[i.toNat]?=some o)->(runF l is D gone put).1=none->(runF l is D gone put).2.2≠0
 | [],D,gone,put,_=>by simp [runF]
 | i :: is,D,gone,put,h=>by
  obtain⟨o,ho⟩:=h i sm
  have h':∀j∈is,∃o,l[j.toNat]?=some o:=fun j hj=>h j (by simp [hj])
  rw [run_step ho]
  by_cases hs:skipB gone o=true
  ·rw [if_pos hs];exact run_err is _ _ _ h'
  rw [if_neg hs]
  by_cases he:(oneF D o).2.2≠0
  ·rw [if_pos he];exact fun _=>he
  rw [if_neg he]
  exact run_err is _ _ _ h'
theorem run_none {l:List O1}:∀(is:List Int) (D:Im) (gone:List Nat) (put:Int->Nat),(∀i∈is,∃o,l[i.toNat]?=some o)->(runF l is D gone put).1≠none->(runF l is D gone put).2=(0,0)
 | [],D,gone,put,_=>by simp [runF]
 | i :: is,D,gone,put,h=>by
  obtain⟨o,ho⟩:=h i sm
  have h':∀j∈is,∃o,l[j.toNat]?=some o:=fun j hj=>h j (by simp [hj])
  rw [run_step ho]
  by_cases hs:skipB gone o=true
  ·rw [if_pos hs];exact run_none is _ _ _ h'
  rw [if_neg hs]
  by_cases he:(oneF D o).2.2≠0
  ·rw [if_pos he];exact fun h=>absurd rfl h
  rw [if_neg he]
  exact run_none is _ _ _ h'
theorem apply_ok (D:Im) (l:List O1):(applyF D l).2.2=0↔∃x,(applyF D l).1=some x:=by
 unfold applyF
 by_cases hc:(checkF l).2≠0
 ·rw [if_pos hc]
  exact⟨fun h=>absurd h hc,fun⟨x,h⟩=>by cases h⟩
 rw [if_neg hc]
 have h1:=run_err (planF l 5) D [] (fun _=>0) fun i hi=>plan_at hi
 have h2:=run_none (planF l 5) D [] (fun _=>0) fun i hi=>plan_at hi
 generalize runF l (planF l 5) D [] (fun _=>0)=q at *
 obtain⟨x,i,e⟩:=q
 cases x with
 | none=>exact⟨fun h=>absurd h (h1 rfl),fun⟨x,h⟩=>by cases h⟩
 | some z=>exact⟨fun _=>⟨_,rfl⟩,fun _=>rfl⟩
def ownO (o:O1):Prop:=¬(o.kind<1\/8<o.kind)/\¬((o.kind=1\/o.kind=8)/\(lookF o.t 1 0).2≠0)
theorem bad_iff {pre:List O1}{o:O1}:badO pre o=0↔ownO o/\∀a∈pre,cfB a o=false:=by
 unfold badO ownO
 by_cases h1:o.kind<1\/8<o.kind
 ·rw [if_pos h1];exact⟨fun h=>(by cases h),fun h=>absurd h1 h.1.1⟩
 rw [if_neg h1]
 by_cases h2:(o.kind=1\/o.kind=8)/\(lookF o.t 1 0).2≠0
 ·rw [if_pos h2];exact⟨fun h=>absurd h h2.2,fun h=>absurd h2 h.1.2⟩
 rw [if_neg h2]
 by_cases h3:(pre.any fun a=>cfB a o)=true
 ·rw [if_pos h3]
  refine⟨fun h=>(by cases h),fun h=>?_⟩
  obtain⟨a,ha,hc⟩:=List.any_eq_true.1 h3
  rw [h.2 a ha] at hc;cases hc
 ·rw [if_neg h3]
  refine⟨fun _=>⟨⟨h1,h2⟩,fun a ha=>?_⟩,fun _=>rfl⟩
  cases hc:cfB a o with
  | false=>rfl
  | true=>exact absurd (List.any_eq_true.2 ⟨a,ha,hc⟩) h3
theorem chk_iff:∀(l pre:List O1),(chkF pre l).2=0↔(∀o∈l,ownO o)/\(∀o∈l,∀a∈pre,cfB a o=false)/\l.Pairwise fun a b=>cfB a b=false
 | [],pre=>by simp [chkF]
 | o :: l,pre=>by
  unfold chkF
  by_cases hb:badO pre o≠0
  ·rw [if_pos hb]
   exact⟨fun h=>absurd h hb,fun h=>absurd (bad_iff.2 ⟨h.1 o sm,h.2.1 o sm⟩) hb⟩
  rw [if_neg hb,chk_iff l (pre++[o])]
  obtain⟨b1,b2⟩:=bad_iff.1 (by simpa using hb:badO pre o=0)
  rw [List.pairwise_cons]
  constructor
  ·rintro ⟨h1,h2,h3⟩
   refine⟨fun x hx=>?_,fun x hx a ha=>?_,fun x hx=>h2 x hx o sm,h3⟩
   ·rcases mcn.1 hx with rfl | hx
    ·exact b1
    ·exact h1 x hx
   ·rcases mcn.1 hx with rfl | hx
    ·exact b2 a ha
    ·exact h2 x hx a (by simp [ha])
  ·rintro ⟨h1,h2,h3,h4⟩
   refine⟨fun x hx=>h1 x (by simp [hx]),fun x hx a ha=>?_,h4⟩
   rcases List.mem_append.1 ha with ha | ha
   ·exact h2 x (by simp [hx]) a ha
   ·obtain rfl:a=o:=by simpa using ha
    exact h3 x hx
theorem cf_sym (a b:O1):cfB a b=cfB b a:=by
 rw [Bool.eq_iff_iff]
 unfold cfB
 simp only [bae,Bool.or_eq_true,dete]
 constructor
 ·rintro ⟨h1,⟨h2,h3⟩ | ⟨⟨h2,h3⟩,h4⟩⟩
  ·exact⟨h1.symm,.inl ⟨h2.symm,h2 ▸ h3⟩⟩
  ·exact⟨h1.symm,.inr ⟨⟨h3,h2⟩,h4.symm⟩⟩
 ·rintro ⟨h1,⟨h2,h3⟩ | ⟨⟨h2,h3⟩,h4⟩⟩
  ·exact⟨h1.symm,.inl ⟨h2.symm,h2 ▸ h3⟩⟩
  ·exact⟨h1.symm,.inr ⟨⟨h3,h2⟩,h4.symm⟩⟩
theorem check_perm {l l':List O1} (h:l.Perm l') (hc:(checkF l).2=0):(checkF l').2=0:=by
 obtain⟨h1,h2⟩:=check_ok hc
 obtain⟨a1,a2,a3⟩:=(chk_iff l []).1 h2
 unfold checkF
 rw [if_neg (by rw [<-h.length_eq];omega)]
 exact (chk_iff l' []).2 ⟨fun o ho=>a1 o (h.mem_iff.2 ho),fun o _ a ha=>by simp at ha,(h.pairwise_iff (fun {x y} hxy=>by rw [cf_sym];exact hxy)).1 a3⟩
theorem check_sub {l l':List O1} (h:l'.Sublist l) (hc:(checkF l).2=0):(checkF l').2=0:=by
 obtain⟨h1,h2⟩:=check_ok hc
 obtain⟨a1,a2,a3⟩:=(chk_iff l []).1 h2
 unfold checkF
 rw [if_neg (by have:=h.length_le;omega)]
 exact (chk_iff l' []).2 ⟨fun o ho=>a1 o (h.subset ho),fun o _ a ha=>by simp at ha,a3.sublist h⟩
theorem apply_one (D:Im) {o:O1} (hc:(checkF [o]).2=0):applyF D [o]=if (oneF D o).2.2≠0 then (none,0,(oneF D o).2.2) else (some ((oneF D o).1,givenF (fun j=>if j=0 then (oneF D o).2.1 else 0) 1),0,0):=by
 unfold applyF
 rw [if_neg (by rw [hc];simp),plan_one,run_step (o:=o) rfl]
 have hs:skipB [] o=false:=by unfold skipB;simp
 rw [hs]
 by_cases he:(oneF D o).2.2≠0
 ·rw [if_pos he,if_neg dc,if_pos he]
 ·rw [if_neg he,if_neg dc,if_neg he];rfl
theorem apply_turned {D D':Im}{A C:List O1}{a b:O1}{g:List Nat} (h:phF a.kind≠phF b.kind) (hc:(checkF (A++a :: b :: C)).2=0) (ha:(applyF D (A++a :: b :: C)).1=some (D',g)) :
  ∃g',(applyF D (A++b :: a :: C)).1=some (D',g'):=by
 have hp:(A++a :: b :: C).Perm (A++b :: a :: C):=List.Perm.append_left A (List.Perm.swap b a C)
 have hc':=check_perm hp hc
 have e1:=apply_D D _ hc
 have e2:=apply_D D _ hc'
 rw [ha,ops_turned h] at e1
 rw [<-e1] at e2
 cases hx:(applyF D (A++b :: a :: C)).1 with
 | none=>rw [hx] at e2;cases e2
 | some x=>
  rw [hx] at e2
  obtain⟨x1,x2⟩:=x
  have:x1=D':=by simpa using e2
  exact⟨x2,by rw [this]⟩
theorem ph3 {k:Int} (h:3<=phF k):k=8\/k=3:=by
 unfold phF at h
 by_cases h1:k=1
 ·rw [if_pos h1] at h;omega
 by_cases h2:k=2
 ·rw [if_neg h1,if_pos h2] at h;omega
 by_cases h3:k=8
 ·exact .inl h3
 by_cases h4:k=3
 ·exact .inr h4
 ·rw [if_neg h1,if_neg h2,if_neg h3,if_neg h4] at h;omega
structure Ones (l:List O1) (rest:List Int) (D:Im) (gone:List Nat) (put:Int->Nat) (D':Im):Prop where
 run:∃put',(runF l rest D gone put).1=some (D',put')
 dead:∀x∈gone,Dead D.sl x
 late:gone≠[]->∀z∈rest,3<=phI l z
 sort:rest.Pairwise fun i j=>phI l i<=phI l j
 wf:Wf D
theorem ones_begin {D D':Im}{l:List O1}{g:List Nat} (hw:Wf D) (hc:(checkF l).2=0) (h:(applyF D l).1=some (D',g)):Ones l (planF l 5) D [] (fun _=>0) D':=by
 refine⟨?_,fun x hx=>by simp at hx,fun h=>absurd rfl h,plan_sorted l,hw⟩
 unfold applyF at h
 rw [if_neg (by rw [hc];simp)] at h
 generalize runF l (planF l 5) D [] (fun _=>0)=q at *
 obtain⟨x,i,e⟩:=q
 cases x with
 | none=>cases h
 | some z=>
  obtain⟨z1,z2⟩:=z
  have h:(z1,givenF z2 l.length)=(D',g):=osi h
  exact⟨z2,by rw [show z1=D' from congrArg Prod.fst h]⟩
theorem ones_step {l:List O1}{i:Int}{r:List Int}{D D':Im}{gone:List Nat}{put:Int->Nat}{o:O1} (h:Ones l (i :: r) D gone put D') (ho:l[i.toNat]?=some o) (hl:o.kind=8->(lookF o.t 1 0).2=0) :
  (oneF D o).2.2=8\/((oneF D o).2.2=0/\∃gone' put',Ones l r (oneF D o).1 gone' put' D'):=by
 obtain⟨put',hr⟩:=h.run
 rw [run_step ho] at hr
 have hph:phI l i=phF o.kind:=by unfold phI;rw [ho]
 by_cases hs:skipB gone o=true
 ·left
  unfold skipB at hs
  rw [bae,dete,dete] at hs
  have h3:=h.late (fun e=>by rw [e] at hs;simp at hs) i sm
  rw [hph] at h3
  rw [one_gone (ph3 h3).symm hl (h.dead _ hs.2)]
 rw [if_neg hs] at hr
 by_cases he:(oneF D o).2.2≠0
 ·rw [if_pos he] at hr;cases hr
 rw [if_neg he] at hr
 have he0:(oneF D o).2.2=0:=by simpa using he
 obtain⟨s1,s2⟩:=List.pairwise_cons.1 h.sort
 refine .inr ⟨he0,_,_,⟨put',hr⟩,fun x hx=>?_,fun hne z hz=>?_,s2,one_wf' h.wf o⟩
 ·rcases List.mem_append.1 hx with hx | hx
  ·exact (h.dead x hx).fwd (fwd_one D o)
  ·exact one_taken h.wf he0 x hx
 ·by_cases hg:gone=[]
  ·have ht:takenF D o≠[]:=fun e=>hne (by rw [hg,e];rfl)
   have hk:o.kind=3\/o.kind=8:=byc fun hk=>ht (by unfold takenF;rw [if_neg hk])
   have h3:3<=phI l i:=by
    rw [hph]
    unfold phF
    rcases hk with hk | hk <;> rw [hk] <;> decide
   exact Int.le_trans h3 (s1 z hz)
  ·exact h.late hg z (by simp [hz])
theorem ones_end {l:List O1}{D D':Im}{gone:List Nat}{put:Int->Nat} (h:Ones l [] D gone put D'):D=D':=by
 obtain⟨put',hr⟩:=h.run
 have:(D,put)=(D',put'):=osi hr
 exact congrArg Prod.fst this
section
variable {w w0:Wd}{o:Nat->Nat}{R:RT}{k g r:Nat}{D:Im}{gone:List Nat}
theorem ldK {k1:Nat}{w1 w2:Wd}{o1:Nat->Nat}{D1:Im} (h:LD k1 g 113 w1 o1 D1) (hb:Below w1.heap.size w1 w2):LD k1 g 113 w2 o1 D1:=(label_edr (g:=g)).keep (M:=fun _=>False) h (.below hb) fun _ _ h=>h.elim
theorem ldU {k1:Nat}{w1:Wd}{o1:Nat->Nat}{D1:Im} (h:LD k1 g 113 w1 o1 D1):LD (k1+1) g 113 w1 o1 D1:=(label_edr (g:=g)).up h
theorem make1_calls (h:LD k g 113 w o D) (hk:k<1000000000000) (hw:Wf D) (hM:Mp .u64 w r (gnF gone)) (h1:o r=0) (hT:Tabs (wc o w)) {x:E11} (hx:ROp (wc o w) x) (hk1:1<=x.o.kind) (hk8:x.o.kind<=8)
  (hS:skipB gone x.o=true->∀w',Below w.heap.size w w'->R (.returned (.tuple #[])) w')
  (hok:skipB gone x.o=false->(oneF D x.o).2.2=0)
  (hK:skipB gone x.o=false->∀w' o',LD (k+2) g 113 w' o' (oneF D x.o).1->Mp .u64 w' r (gnF (gone++takenF D x.o))->EvR r w o w' o'->R (.returned (.tuple #[])) w') :
  CL 59 #[.iface 58 (.pointer (some ⟨g,0,none⟩)),.func (.func 30) #[.pointer (some ⟨g,0,none⟩)] #[],.map (some r),opV x] w R:=by
 have E:=label_edr (g:=g)
 obtain⟨⟨hn,ha⟩,ht⟩:=hx
 have hol:∀b,o b≠0->b<w.heap.size:=E.lt h
 refine ok59 (.iface 58 (.pointer (some ⟨g,0,none⟩))) (.func (.func 30) #[.pointer (some ⟨g,0,none⟩)] #[]) (some r) x.o.kind (x.o.node:Nat) (x.o.at_:Nat) x.o.wh x.o.nm x.o.val x.e.kind x.e.nm x.e.ats.1 x.e.ats.2.1 x.e.ats.2.2 x.e.text x.e.kids.1 x.e.kids.2.1 x.e.kids.2.2 ?_
 unfold F59
 refine al fun go w1 hb1 bo hgo=>?_
 have hs1:=hb1.size
 have hgol:=bo.lt
 have hrl:=hM.lt
 have hM1:Mp .u64 w1 r (gnF gone):=hM.fm (M:=fun _=>False) (.below hb1) (fun h=>h)
 refine⟨fun w'=>skipB gone x.o=false/\w'=w1,?_,?_⟩
 rotate_left
 ·simp only [bo.cell,lds]
  refine brn (fun hk=>?_) fun hk=>⟨by unfold skipB;simp [hk],(by first | exact rfl | trivial)⟩
  refine hM1.look mapGone opKey (zeroBool _) _ false ?_
  rw [if_neg dc,gn_look]
  refine⟨_,rfl,?_⟩
  refine brd (fun hmem=>?_) fun hmem=>⟨by unfold skipB;simp [hmem],(by first | exact rfl | trivial)⟩
  exact hS (by unfold skipB;simp [hk,hmem]) _ hb1
 rintro w1 ⟨hsk,rfl⟩
 have hK:=hK hsk
 have hok:=hok hsk
 unfold F59_j2
 simp only [bo.cell,lds]
 have hL1:=ldK h hb1
 have hsub:Sub (wc o w) (wc o w1):=sub_only (fun _ _ h=>h) fun b hb _=>hb1.block b hb
 have ht1:=RTr.sub hsub _ _ ht
 have hT1:=hT.sub hsub
 have ev1:EvR r w o w1 o:=.below hb1
 have hgo0:o go=0:=byc fun e=>by have:=hol go e;omega
 have nt:¬(x.o.kind=3\/x.o.kind=8)->takenF D x.o=[]:=fun h=>by unfold takenF;rw [if_neg h]
 have fin:¬(x.o.kind=3\/x.o.kind=8)->∀{w':Wd}{o':Nat->Nat},LD (k+1) g 113 w' o' (oneF D x.o).1->EvA w1 o w' o'->R (.returned (.tuple #[])) w':=fun hn38 {w' o'} hL' hev=>by
  refine hK w' o' (ldU hL') ?_ (ev1.trans (.a hev))
  rw [nt hn38,List.append_nil]
  exact hM1.fm hev.fm fun e=>e h1
 have delJ:∀{w3:Wd}{o3:Nat->Nat}{D3:Im}{s:Sl},LD (k+1) g 113 w3 o3 D3->Wf D3->slA D3.sl x.o.node=some s->EvR r w1 o w3 o3->Mp .u64 w3 r (gnF gone)->(∀w' o',LD (k+2) g 113 w' o' (delF D3 x.o.node).1->Mp .u64 w' r (gnF (gone++allI D3 x.o.node))->EvR r w o w' o'->R (.returned (.tuple #[])) w') ->
   F59_j5 (.iface 58 (.pointer (some ⟨g,0,none⟩))) (.func (.func 30) #[.pointer (some ⟨g,0,none⟩)] #[]) (some r) ⟨go,0,none⟩ w3 R:=by
  intro w3 o3 D3 s hL3 hw3 hs3 ev3 hM3 hK3
  have e0:x.o.node≠0:=fun e=>by rw [e,slA_zero] at hs3;cases hs3
  have bo3:Blk w3 go (opC x) 50:=ev3.blk bo hgo0 om
  have hdr:Below w3.heap.size w3 w3.drew:=(Below.refl _ _).drew
  unfold F59_j5
  refine⟨fun w'=>Below w3.heap.size w3 w',hdr,?_⟩
  simp only [nds]
  refine⟨_,fun w' hw'=>by rw [(bo3.keep hw').cell];rfl,?_⟩
  refine⟨kr,?_⟩
  show CL 30 #[.pointer (some ⟨g,0,none⟩)] _ _
  refine TreeU_calls (ldK hL3 hdr) ?_
  intro gc bs o4 w4 S4 hb4 hD4 hp4 _ ho4 hi4
  refine⟨_,rfl,?_⟩
  have E4:=btr hdr hdr.size hb4
  refine⟨E4,?_⟩
  refine AllT_calls (θ:=⟨gc,106,[]⟩) hp4 (by rw [hD4];exact hw3.s) (by rw [hD4];exact hw3.a) hn e0 fun v w5 hb5 ov=>⟨_,_,_,_,rfl,?_⟩
  rw [hD4] at ov
  have ov:=ov s hs3
  have hal:allI D3 x.o.node=allA (slA D3.sl) 65 x.o.node:=by unfold allI;rw [if_neg e0]
  rw [<-hal] at ov
  obtain⟨y1,y2⟩:=rdO ov
  have hfew:(allI D3 x.o.node).length<=4096:=by rw [hal];exact all_few hw3.s hw3.a ⟨s,hs3⟩
  have E5:=btr E4 E4.size hb5
  have hs34:=E4.size
  have hr3:=hM3.lt
  have h3r:o3 r=0:=ev3.old r om h1
  refine⟨fun i w'=>∃j:Nat,i=j/\j<=(allI D3 x.o.node).length/\Fm (·=r) w5 w'/\Mp .u64 w' r (gnF (gone++(allI D3 x.o.node).take j)),fun i _=>(allI D3 x.o.node).length-i.toNat,
   ⟨0,rfl,om,.refl _ _,by rw [List.take_zero,List.append_nil];exact hM3.fm (M:=fun _=>False) (.below E5) (fun h=>h)⟩,?_⟩
  rintro _ w6 ⟨j,rfl,hj,f6,hM6⟩
  unfold F59_l7
  refine brd (fun hlt=>?_) (fun hge=>?_)
  ·have hj2:j<(allI D3 x.o.node).length:=by omega
   have y3:Rd LHn w6 v.1 v.2.2 (allI D3 x.o.node):=(rdO (own_fm ov f6 fun b hb e=>by have e:b=r:=e;have:=(ov.lt b hb).1;omega)).2
   refine mark_step (v:=v) y1 y3 rfl hj2 hM6 fun w7 h7 f7=>?_
   refine⟨inR_i64 om om,⟨j+1,sm,om,f6.trans f7,?_⟩,odz⟩
   rw [tsa hj2,<-laa];exact h7
  ·have hj2:j=(allI D3 x.o.node).length:=by omega
   subst hj2
   rw [tkl] at hM6
   have ev6:EvR r w3 o3 w6 o3:=(EvR.below E5).trans (.one f6)
   have bo6:Blk w6 go (opC x) 50:=ev6.blk bo3 (ev3.old go om hgo0) om
   simp only [bo6.cell,lds]
   have hL6:LD (k+1) g 113 w6 o3 D3:=E.keep (ldK hL3 E5) f6 fun b hb e=>by have e:b=r:=e;rw [e];exact h3r
   refine E.del hL6 om hw3 hn fun w7 o7 hL7 ev7=>⟨_,rfl,?_⟩
   exact hK3 w7 o7 hL7 (hM6.fm ev7.fm fun e=>e h3r) (ev1.trans (ev3.trans (ev6.trans (.a ev7))))
 unfold oneF at hK hok fin
 refine bre (fun e=>?_) fun e4=>?_
 ·rw [if_neg om,if_neg om,if_neg om,if_pos e] at fin
  exact E.name hL1 om hw hT1 hn fun w' o' q1 q2=>⟨_,rfl,fin om q1 q2⟩
 refine bre (fun e=>?_) fun e5=>?_
 ·rw [if_neg om,if_neg om,if_neg om,if_neg om,if_pos e] at fin
  exact E.text hL1 om hw hT1 hn fun w' o' q1 q2=>⟨_,rfl,fin om q1 q2⟩
 refine bre (fun e=>?_) fun e6=>?_
 ·rw [if_neg om,if_neg om,if_neg om,if_neg om,if_neg om,if_pos e] at fin
  exact E.attr hL1 om hw hT1 hn fun w' o' q1 q2=>⟨_,rfl,fin om q1 q2⟩
 refine bre (fun e=>?_) fun e7=>?_
 ·rw [if_neg om,if_neg om,if_neg om,if_neg om,if_neg om,if_neg om,if_pos e] at fin
  exact E.drop hL1 om hw hn fun w' o' q1 q2=>⟨_,rfl,fin om q1 q2⟩
 refine bre (fun e=>?_) fun e1=>?_
 ·rw [if_pos e] at fin
  exact E.ins (e:=x.e) hL1 om hw hT1 ht1 ha fun w' o' q1 q2=>⟨_,_,rfl,fin om q1 q2⟩
 refine bre (fun e=>?_) fun e2=>?_
 ·rw [if_neg e1,if_pos e] at fin
  exact E.mov hL1 om hw hn ha fun w' o' q1 q2=>⟨_,rfl,fin om q1 q2⟩
 have h38:x.o.kind=3\/x.o.kind=8:=by omega
 have htk:takenF D x.o=allI D x.o.node:=by unfold takenF;rw [if_pos h38]
 rw [htk] at hK
 rw [if_neg e1,if_neg e2] at hK hok
 have hoc:∀b,w.heap.size<=b->o b=0:=fun b hb=>byc fun e=>by have:=hol b e;omega
 refine⟨fun w'=>F59_j5 (.iface 58 (.pointer (some ⟨g,0,none⟩))) (.func (.func 30) #[.pointer (some ⟨g,0,none⟩)] #[]) (some r) ⟨go,0,none⟩ w' R,fun w' h=>h,?_⟩
 refine bre (fun e8=>?_) fun e8=>?_
 ·rw [if_neg om,if_neg e4,if_neg e5,if_neg e6,if_neg e7] at hK hok
  have hin:(insF D 3 x.o.node x.o.t).2.2=0:=byc fun e=>by rw [if_pos e] at hok;exact e hok
  rw [if_neg (by rw [hin];simp)] at hK
  obtain⟨s,_,hs2,hal⟩:=ins_all hw hin
  refine E.ins (e:=x.e) (wh:=3) hL1 om hw hT1 ht1 hn fun w3 o3 q1 q2=>⟨_,_,rfl,?_⟩
  refine delJ q1 (ins_wf hw _ _ _) hs2 (.a q2) (hM1.fm q2.fm fun e=>e h1) fun w' o' p1 p2 p3=>?_
  rw [hal] at p2
  exact hK w' o' p1 p2 p3
 ·have e3:x.o.kind=3:=by omega
  rw [if_pos e3] at hK hok
  obtain⟨s,hs⟩:∃s,slA D.sl x.o.node=some s:=by
   cases hs:slA D.sl x.o.node with
   | none=>unfold delF at hok;rw [hs] at hok;cases hok
   | some s=>exact⟨s,rfl⟩
  exact delJ (ldU hL1) hw hs (.below (.refl _ _)) hM1 hK
def afterF (D:Im) (r:Option (Im × List Nat) × Int × Int):Im:=match r.1 with
 | some (E,_)=>E
 | none=>D
theorem ApplyP_calls (h:LD k g 113 w o D) (hk:k<999999000000) (hw:Wf D) (xs:List E11) {A:OA}{c:Nat} (hrc:Rd LOp (wc o w) A c xs) (hx:∀x∈xs,ROp (wc o w) x) (hl:xs.length<=1048576) (hT:Tabs (wc o w))
  (hK:∀w' o',LD (k+65536) g 113 w' o' (afterF D (applyF D (xs.map (·.o))))->EvA w o w' o'->TrialK R w.heap.size (applyF D (xs.map (·.o))) w') :
  CL 22 #[.pointer (some ⟨g,0,none⟩),.slice A xs.length c] w R:=by
 have E:=label_edr (g:=g)
 have hr:Rd LOp w A c xs:=sub_of_only.rd hrc
 have hxw:∀x∈xs,ROp w x:=fun x hm=>(hx x hm).sub sub_of_only
 have hTw:Tabs w:=hT.sub sub_of_only
 have hol:∀b,o b≠0->b<w.heap.size:=E.lt h
 have oz:∀b,w.heap.size<=b->o b=0:=fun b hb=>byc fun e=>by have:=hol b e;omega
 have up:∀(n:Nat) {k1:Nat}{w1:Wd}{o1:Nat->Nat}{D1:Im},LD k1 g 113 w1 o1 D1->LD (k1+n) g 113 w1 o1 D1:=fun n=>by
  induction n with
  | zero=>intro k1 w1 o1 D1 h;exact h
  | succ n ih=>intro k1 w1 o1 D1 h;exact ldU (ih h)
 generalize hLL:xs.map (·.o)=L at *
 have hLn:L.length=xs.length:=by rw [<-hLL,lmp]
 refine ok22 (some ⟨g,0,none⟩) A xs.length c ?_
 unfold F22
 refine TrialP_calls h hw xs hr hxw hl hTw fun w1 hb1=>?_
 rw [hLL]
 have hs1:=hb1.size
 have hsub1:Sub (wc o w) (wc o w1):=sub_only (fun _ _ h=>h) fun b hb _=>hb1.block b hb
 cases hap:(applyF D L).1 with
 | none=>
  have hK:=hK w1 o (by unfold afterF;rw [hap];exact up _ (ldK h hb1)) ⟨.below hb1,fun _ _ e=>e⟩
  unfold TrialK at hK |-
  rw [hap] at hK |-
  have hne:(applyF D L).2.2≠0:=fun e=>by
   have:=(apply_ok D L).1 e
   rw [hap] at this
   obtain⟨x,hx⟩:=this
   cases hx
  refine⟨none,0,0,(applyF D L).2.1,(applyF D L).2.2,rfl,?_⟩
  refine brn (fun _=>hK) fun e=>absurd e hne
 | some z=>
  obtain⟨D',l⟩:=z
  unfold afterF TrialK at hK
  rw [hap] at hK
  unfold TrialK
  rw [hap]
  intro v ov
  refine⟨v.1,v.2.1,v.2.2,0,0,rfl,?_⟩
  refine brn (fun e=>absurd rfl e) fun _=>?_
  have heq:(checkF L).2=0:=byc fun e=>by unfold applyF at hap;rw [if_pos e] at hap;cases hap
  have hfew:xs.length<=4096:=by rw [<-hLn];exact check_few heq
  have hck:=check_kind L [] (check_ok heq).2
  refine planP_calls xs (hr.keep hb1) (fun x hm=>(hxw x hm).sub (sub_below hb1)) (hTw.sub (sub_below hb1)) hl fun w2 hb2=>?_
  unfold PlanK
  rw [hLL,if_neg (by rw [heq];simp)]
  intro vo oo
  refine⟨_,_,_,_,rfl,?_⟩
  have B2:=btr hb1 hs1 hb2
  have hs2:=hb2.size
  obtain⟨o1,o2⟩:=rdO oo
  have hrun:∃put',(runF L (planF L 5) D [] fun _=>0).1=some (D',put'):=by
   unfold applyF at hap
   rw [if_neg (by rw [heq];simp)] at hap
   generalize runF L (planF L 5) D [] (fun _=>0)=q at *
   obtain⟨q1,q2,q3⟩:=q
   cases q1 with
   | none=>cases hap
   | some y=>
    obtain⟨y1,y2⟩:=y
    have hap:(y1,givenF y2 L.length)=(D',l):=osi hap
    exact⟨y2,by rw [show y1=D' from congrArg Prod.fst hap]⟩
  generalize hor:planF L 5=order at *
  have hpl:order.length<=20480:=by
   rw [<-hor]
   have:=plan_len L 5
   omega
  refine almM fun r w3 hb3 hge3 hlt3 hm3=>?_
  have B3:=btr B2 B2.size hb3
  have hs3:=hb3.size
  have hMg:Mp .u64 w3 r (gnF []):=by rw [gn_nil];exact mp_new .u64 hm3
  have or0:o r=0:=oz r om
  have hsub3:Sub (wc o w) (wc o w3):=sub_only (fun _ _ h=>h) fun b hb _=>B3.block b hb
  refine⟨fun i w'=>∃(j:Nat) (o':Nat->Nat) (Dj:Im) (gone:List Nat) (put:Int->Nat),i=j/\j<=order.length/\LD (k+2*j) g 113 w' o' Dj/\Wf Dj/\(∃put',(runF L (order.drop j) Dj gone put).1=some (D',put'))/\Mp .u64 w' r (gnF gone)/\EvR r w3 o w' o',fun i _=>order.length-i.toNat,
   ⟨0,o,D,[],fun _=>0,rfl,om,ldK h B3,hw,by rw [List.drop_zero];exact hrun,hMg,.below (.refl _ _)⟩,?_⟩
  rintro _ w4 ⟨j,o4,Dj,gone,put,rfl,hj,hL4,hw4,hrk,hM4,ev4⟩
  unfold F22_l7
  have hs4:=ev4.fm.size
  have keepO:∀{α:Type}{Ly:Lay α}{e:TypeId}{B:Nat}{u:Sv}{ys:List α},Own Ly w3 B e (slV u) ys->w.heap.size<=B->(∀b,rowOf (slV u)=some b->b≠r)->Own Ly w4 B e (slV u) ys:=fun hO hB hne=>own_fm hO ev4.fm fun b hb e=>by
   rcases e with e | e
   ·exact e (oz b (by have:=(hO.lt b hb).1;omega))
   ·exact hne b hb e
  refine brd (fun hlt=>?_) (fun hge=>?_)
  ·have hj2:j<order.length:=by omega
   have hmem:order[j]∈planF L 5:=by rw [hor];exact gem hj2
   obtain⟨i,hii,hil⟩:=mem_plan.1 hmem
   have hix:i<xs.length:=by omega
   have hLi:L[i]?=some xs[i].o:=by rw [<-hLL,List.getElem?_map,gge hix];rfl
   have hLi2:L[(order[j]).toNat]?=some xs[i].o:=by rw [hii,tnc];exact hLi
   obtain⟨kd1,kd8,klook⟩:=hck xs[i].o (mog hLi)
   rw [dgc hj2,run_step hLi2] at hrk
   have oo4:=keepO (oo.keep hb3) hs1 fun b hb e=>by have:=(oo.lt b hb).2;omega
   refine (rdO oo4).2.i64 o1 rfl hj2 fun b oo' cc=>?_
   rw [hii] at cc
   simp only [cc,lds]
   have hsub4:Sub (wc o w) (wc o4 w4):=hsub3.trans (ev4.sub hMg.ob)
   have hr4:Rd LOp w4 A c xs:=sub_of_only.rd (hsub4.rd hrc)
   refine hr4.op rfl rfl hix fun b oo' c0 c1 c2 c3 c4 c5 c6 c7 c8 c9 c10=>?_
   simp only [c0,c1,c2,c3,c4,c5,c6,c7,c8,c9,c10,lds]
   have o4r:o4 r=0:=ev4.old r om or0
   refine make1_calls (x:=xs[i]) hL4 om hw4 hM4 o4r (hT.sub hsub4) ((hx _ (gem hix)).sub hsub4) kd1 kd8 (fun hsk w5 hb5=>⟨rfl,?_⟩) (fun hsk=>?_) (fun hsk w5 o5 hL5 hM5 ev5=>⟨rfl,?_⟩)
   ·rw [if_pos hsk] at hrk
    exact⟨inR_i64 om om,⟨j+1,o4,Dj,gone,put,sm,om,up 2 (ldK hL4 hb5),hw4,hrk,hM4.fm (M:=fun _=>False) (.below hb5) (fun h=>h),ev4.trans (.below hb5)⟩,odz⟩
   ·rw [hsk,if_neg dc] at hrk
    refine byc fun e=>?_
    rw [if_pos e] at hrk
    obtain⟨_,hrk⟩:=hrk
    cases hrk
   ·rw [hsk,if_neg dc] at hrk
    have he:¬(oneF Dj xs[i].o).2.2≠0:=fun e=>by
     rw [if_pos e] at hrk
     obtain⟨_,hrk⟩:=hrk
     cases hrk
    rw [if_neg he] at hrk
    exact⟨inR_i64 om om,⟨j+1,o5,_,_,_,sm,om,hL5,one_wf' hw4 _,hrk,hM5,ev4.trans ev5⟩,odz⟩
  ·have hj2:j=order.length:=by omega
   subst hj2
   rw [List.drop_length] at hrk
   obtain⟨put',hrk⟩:=hrk
   have hDD:Dj=D':=congrArg Prod.fst (osi hrk:(Dj,put)=(D',put'))
   subst hDD
   have ov4:=keepO ((ov.keep hb2).keep hb3) (nlr _) fun b hb e=>by have:=(ov.lt b hb).2;omega
   have hev:EvA w o w4 o4:=⟨⟨ev4.fm.os.trans B3.os,ev4.fm.tape.trans B3.tape,ev4.fm.output.trans B3.output,om,fun b hb hm=>(ev4.fm.block b om fun e=>by
    rcases e with e | e
    ·exact hm e
    ·omega).trans (B3.block b hb)⟩,fun b hb e=>ev4.old b om e⟩
   exact hK w4 o4 (by have:=up (65536-2*order.length) hL4;rwa [show k+2*order.length+(65536-2*order.length)=k+65536 by omega] at this) hev v ov4
end
def lstF (r:Option (Im × List Nat) × Int × Int):List Nat:=match r.1 with
 | some (_,l)=>l
 | none=>[]
theorem apply_zero {D:Im}{L:List O1}{x:Im × List Nat} (h:(applyF D L).1=some x):(applyF D L).2=(0,0):=by
 unfold applyF at h |-
 by_cases hc:(checkF L).2≠0
 ·rw [if_pos hc] at h;cases h
 rw [if_neg hc] at h |-
 generalize runF L (planF L 5) D [] (fun _=>0)=q at *
 obtain⟨q1,q2,q3⟩:=q
 cases q1 with
 | none=>cases h
 | some y=>rfl
theorem run_wf {l:List O1}:∀(is:List Int) {D:Im}{gone:List Nat}{put:Int->Nat}{D':Im}{put':Int->Nat},Wf D->(runF l is D gone put).1=some (D',put')->Wf D'
 | [],D,gone,put,D',put',hw,h=>by
  have:(D,put)=(D',put'):=osi h
  rw [<-(Prod.mk.inj this).1];exact hw
 | i :: is,D,gone,put,D',put',hw,h=>by
  unfold runF at h
  cases hi:l[i.toNat]? with
  | none=>rw [hi] at h;cases h
  | some o=>
   rw [hi] at h
   simp only at h
   split at h
   ·exact run_wf is hw h
   split at h
   ·cases h
   ·exact run_wf is (one_wf' hw o) h
theorem after_wf {D:Im} (hw:Wf D) (L:List O1):Wf (afterF D (applyF D L)):=by
 unfold afterF
 cases h:(applyF D L).1 with
 | none=>exact hw
 | some x=>
  obtain⟨E,l⟩:=x
  unfold applyF at h
  by_cases hc:(checkF L).2≠0
  ·rw [if_pos hc] at h;cases h
  rw [if_neg hc] at h
  have hq:∀q,runF L (planF L 5) D [] (fun _=>0)=q->Wf E:=fun q hq=>by
   rw [hq] at h
   obtain⟨q1,q2,q3⟩:=q
   cases q1 with
   | none=>cases h
   | some y=>
    obtain⟨y1,y2⟩:=y
    have h:(y1,givenF y2 L.length)=(E,l):=osi h
    rw [<-(Prod.mk.inj h).1]
    exact run_wf (put':=y2) _ hw (by rw [hq])
  exact hq _ rfl
theorem TrialK.of {R:RT}{n0:Nat}{D:Im}{L:List O1}{w:Wd} (H:∀v:Sv,Own LHn w n0 42 (slV v) (lstF (applyF D L))->R (.returned (.tuple #[slV v,.int .i64 (applyF D L).2.1,.int .i64 (applyF D L).2.2])) w):TrialK R n0 (applyF D L) w:=by
 unfold TrialK
 unfold lstF at H
 cases h:(applyF D L).1 with
 | none=>
  rw [h] at H
  exact H (none,0,0) (Own.nil _ _ _ _)
 | some x=>
  rw [h,apply_zero h] at H
  exact H
structure AftR (ok:Nat->Bool) (w0 w:Wd) (D:Im) (r:Option (Im × List Nat) × Int × Int) (p:OA):Prop where
 no:r.1=none->p=none
 yes:∀E l,r.1=some (E,l)->∃g' vs' vr',p=some ⟨g',0,none⟩/\RM ok w g' E vs' vr'/\w0.heap.size<=g'
theorem ApplyRK.of {R:RT}{ok:Nat->Bool}{w0:Wd}{D:Im}{L:List O1}{w:Wd} (H:∀(p:OA) (v:Sv),AftR ok w0 w D (applyF D L) p->Own LHn w w0.heap.size 42 (slV v) (lstF (applyF D L))->R (.returned (.tuple #[.pointer p,slV v,.int .i64 (applyF D L).2.1,.int .i64 (applyF D L).2.2])) w):ApplyRK R ok w0 (applyF D L) w:=by
 unfold ApplyRK
 unfold lstF at H
 cases h:(applyF D L).1 with
 | none=>
  rw [h] at H
  exact H none (none,0,0) ⟨fun _=>rfl,fun E l e=>by rw [h] at e;cases e⟩ (Own.nil _ _ _ _)
 | some x=>
  obtain⟨E,l⟩:=x
  rw [h,apply_zero h] at H
  intro g' vs' vr' v h1 h2 h3
  refine H _ v ⟨fun e=>(by rw [h] at e;cases e),fun E' l' e=>?_⟩ h3
  rw [h] at e
  have e:=osi e
  rw [<-(Prod.mk.inj e).1]
  exact⟨g',vs',vr',rfl,h1,h2⟩
def exT:Tr:=.mk 2 noB [] noB []
section
variable {w:Wd}{R:RT}
theorem sub_wc {w0 w1:Wd}{o:Nat->Nat} (hb:Below w0.heap.size w0 w1) (ho:∀b,b<w0.heap.size->o b=0):Sub w0 (wc o w1):=fun b c t fr h=>by
 have hlt:=(agi.1 h).1
 refine cells_only (ok:=fun b=>Nat.beq (o b) 0) ?_ ?_
 ·show Nat.beq (o b) 0=true
  rw [ho b hlt];rfl
 ·rw [hb.block b hlt];exact h
theorem sub_vw {w0 w1:Wd}{ok:Nat->Bool}{g:Nat} (hb:Below w0.heap.size w0 w1) (ho:∀b,b<w0.heap.size->ok b=true) (hg:w0.heap.size<=g):Sub w0 (vw ok g w1):=fun b c t fr h=>by
 have hlt:=(agi.1 h).1
 refine cells_only (vw_iff.2 ⟨ho b hlt,om⟩) ?_
 rw [hb.block b hlt];exact h
end
structure Ev3 (w:Wd) (c:Nat->Prop) (w1:Wd) (c1:Nat->Prop):Prop where
 fm:Fm c w w1
 old:∀b,b<w.heap.size->¬c b->¬c1 b
theorem Ev3.refl (w:Wd) (c:Nat->Prop):Ev3 w c w c:=⟨.refl _ _,fun _ _ h=>h⟩
theorem Ev3.trans {w w1 w2:Wd}{c c1 c2:Nat->Prop} (h:Ev3 w c w1 c1) (k:Ev3 w1 c1 w2 c2):Ev3 w c w2 c2:=
 ⟨⟨k.fm.os.trans h.fm.os,k.fm.tape.trans h.fm.tape,k.fm.output.trans h.fm.output,nlt h.fm.size k.fm.size,fun b hb hm=>(k.fm.block b (nll hb h.fm.size) (h.old b hb hm)).trans (h.fm.block b hb hm)⟩,fun b hb e=>k.old b (nll hb h.fm.size) (h.old b hb e)⟩
theorem Ev3.below {w w1:Wd}{c:Nat->Prop} (h:Below w.heap.size w w1):Ev3 w c w1 c:=⟨.below h,fun _ _ e=>e⟩
structure Tri (w0 w:Wd) (gp gq gs:Nat) (op oq os:Nat->Nat) (DP DQ DS:Im) (kp kq ks:Nat):Prop where
 p:LD kp gp 113 w op DP
 q:LD kq gq 113 w oq DQ
 s:LD ks gs 113 w os DS
 pq:∀b,op b≠0->oq b=0
 ps:∀b,op b≠0->os b=0
 qs:∀b,oq b≠0->os b=0
 old:Below w0.heap.size w0 w
 col:∀b,b<w0.heap.size->op b=0/\oq b=0/\os b=0
def cl3 (op oq os:Nat->Nat) (b:Nat):Prop:=op b≠0\/oq b≠0\/os b≠0
section
variable {w0 w w1:Wd}{gp gq gs:Nat}{op oq os o1:Nat->Nat}{DP DQ DS D1:Im}{kp kq ks k1:Nat}{R:RT}
theorem ldlt {k g:Nat}{w:Wd}{o:Nat->Nat}{D:Im} (h:LD k g 113 w o D):∀b,o b≠0->b<w.heap.size:=(label_edr (g:=g)).lt h
theorem ldkeep {k g:Nat}{w w1:Wd}{o:Nat->Nat}{D:Im}{M:Nat->Prop} (h:LD k g 113 w o D) (hf:Fm M w w1) (hm:∀b,b<w.heap.size->M b->o b=0):LD k g 113 w1 o D:=(label_edr (g:=g)).keep h hf hm
theorem Tri.below (h:Tri w0 w gp gq gs op oq os DP DQ DS kp kq ks) (hb:Below w.heap.size w w1):Tri w0 w1 gp gq gs op oq os DP DQ DS kp kq ks:=
 ⟨ldkeep (M:=fun _=>False) h.p (.below hb) fun _ _ h=>h.elim,ldkeep (M:=fun _=>False) h.q (.below hb) fun _ _ h=>h.elim,ldkeep (M:=fun _=>False) h.s (.below hb) fun _ _ h=>h.elim,h.pq,h.ps,h.qs,h.old.trans (hb.mono h.old.size),h.col⟩
theorem dis_step {ox oy o1:Nat->Nat} (ev:EvA w ox w1 o1) (hy:∀b,oy b≠0->b<w.heap.size) (d:∀b,ox b≠0->oy b=0):∀b,o1 b≠0->oy b=0:=fun b hb=>by
 refine byc fun e=>?_
 have:=hy b e
 exact hb (ev.old b this (byc fun e2=>e (d b e2)))
theorem Tri.edP (h:Tri w0 w gp gq gs op oq os DP DQ DS kp kq ks) (hL:LD k1 gp 113 w1 o1 D1) (ev:EvA w op w1 o1):Tri w0 w1 gp gq gs o1 oq os D1 DQ DS k1 kq ks/\Ev3 w (cl3 op oq os) w1 (cl3 o1 oq os):=by
 have hs:=h.old.size
 refine⟨⟨hL,ldkeep h.q ev.fm fun b _ e=>h.pq b e,ldkeep h.s ev.fm fun b _ e=>h.ps b e,dis_step ev (ldlt h.q) h.pq,dis_step ev (ldlt h.s) h.ps,h.qs,h.old.trans (ev.fm.toBelow hs fun b hb e=>e (h.col b hb).1),fun b hb=>⟨ev.old b om (h.col b hb).1,(h.col b hb).2⟩⟩,ev.fm.mono fun b _ e=>.inl e,fun b hb e=>?_⟩
 rintro (e2 | e2)
 ·exact e2 (ev.old b hb (byc fun e3=>e (.inl e3)))
 ·exact e (.inr e2)
theorem Tri.edQ (h:Tri w0 w gp gq gs op oq os DP DQ DS kp kq ks) (hL:LD k1 gq 113 w1 o1 D1) (ev:EvA w oq w1 o1):Tri w0 w1 gp gq gs op o1 os DP D1 DS kp k1 ks/\Ev3 w (cl3 op oq os) w1 (cl3 op o1 os):=by
 have hs:=h.old.size
 have qp:∀b,oq b≠0->op b=0:=fun b e=>byc fun e2=>e (h.pq b e2)
 have pq1:=dis_step ev (ldlt h.p) qp
 refine⟨⟨ldkeep h.p ev.fm fun b _ e=>qp b e,hL,ldkeep h.s ev.fm fun b _ e=>h.qs b e,fun b e=>byc fun e2=>e (pq1 b e2),h.ps,dis_step ev (ldlt h.s) h.qs,h.old.trans (ev.fm.toBelow hs fun b hb e=>e (h.col b hb).2.1),fun b hb=>⟨(h.col b hb).1,ev.old b om (h.col b hb).2.1,(h.col b hb).2.2⟩⟩,ev.fm.mono fun b _ e=>.inr (.inl e),fun b hb e=>?_⟩
 rintro (e2 | e2 | e2)
 ·exact e (.inl e2)
 ·exact e2 (ev.old b hb (byc fun e3=>e (.inr (.inl e3))))
 ·exact e (.inr (.inr e2))
theorem Tri.fresh (h:Tri w0 w gp gq gs op oq os DP DQ DS kp kq ks) {b:Nat} (hb:w.heap.size<=b):¬cl3 op oq os b:=by
 rintro (e | e | e)
 ·have:=ldlt h.p b e;omega
 ·have:=ldlt h.q b e;omega
 ·have:=ldlt h.s b e;omega
theorem atL_get {l:List Int}{v:Sv}{k:Nat} (zv:v.2.1=l.length) (rv:Rd LI w v.1 v.2.2 l) (hK:R (.returned (.int .i64 (l.getD k (-1)))) w):CL 34 #[.slice v.1 v.2.1 v.2.2,.int .i64 (k:Nat)] w R:=by
 refine ok34 v.1 v.2.1 v.2.2 (k:Nat) ?_
 unfold F34
 refine brd (fun hlt=>?_) (fun hge=>?_)
 ·have hk:k<l.length:=by omega
  refine rv.i64 zv rfl hk fun b o cc=>?_
  simp only [cc,lds]
  rw [gdd,gge hk] at hK
  exact hK
 ·have hk:l.length<=k:=by omega
  rw [gdd,List.getElem?_eq_none hk] at hK
  exact hK
theorem numbersB_calls {l m:List Int}{v u:Sv} (hl:l.length<=1048576) (hm:m.length<=1048576) (zv:v.2.1=l.length) (rv:Rd LI w v.1 v.2.2 l) (zu:u.2.1=m.length) (ru:Rd LI w u.1 u.2.2 m) (hK:∀w',Below w.heap.size w w'->R (.returned (.bool (decide (l=m)))) w') :
  CL 33 #[.slice v.1 v.2.1 v.2.2,.slice u.1 u.2.1 u.2.2] w R:=by
 refine ok33 v.1 v.2.1 v.2.2 u.1 u.2.1 u.2.2 ?_
 unfold F33
 refine brn (fun h=>?_) fun h=>?_
 ·have:decide (l=m)=false:=def0 fun e=>h (by rw [zv,zu,e])
  rw [this] at hK
  exact hK w (.refl _ _)
 have hlm:l.length=m.length:=by omega
 refine⟨fun i w'=>∃k:Nat,i=k/\k<=l.length/\Below w.heap.size w w'/\l.take k=m.take k,fun i _=>l.length-i.toNat,⟨0,rfl,om,.refl _ _,sm⟩,?_⟩
 rintro _ w1 ⟨k,rfl,hk,hb1,he⟩
 unfold F33_l4
 refine brd (fun hlt=>?_) (fun hge=>?_)
 rotate_left
 ·have hk2:k=l.length:=by omega
  subst hk2
  rw [tkl,hlm,tkl] at he
  rw [det he] at hK
  exact hK w1 hb1
 have hk2:k<l.length:=by omega
 have hk3:k<m.length:=by omega
 refine dr fun w2 hb2 _=>?_
 have B2:=btr hb1 hb1.size hb2
 refine (rv.keep B2).i64 zv rfl hk2 fun b o c0=>?_
 simp only [c0,lds]
 refine (ru.keep B2).i64 zu rfl hk3 fun b2 o2 d0=>?_
 simp only [d0,lds]
 refine brn (fun hne=>?_) fun heq=>?_
 ·have:decide (l=m)=false:=def0 fun e=>hne (by subst e;rfl)
  rw [this] at hK
  exact hK w2 B2
 ·refine⟨inR_i64 om om,⟨k+1,sm,om,B2,?_⟩,odz⟩
  rw [tsa hk2,tsa hk3,he,heq]
theorem ne_two {p q:Int}:((if p<=q then [0,1] else [1,0]:List Int)=[1-(if q<=p then [0,1] else [1,0]:List Int).getD 0 (-1),1-(if q<=p then [0,1] else [1,0]:List Int).getD 1 (-1)])↔p≠q:=by
 by_cases h1:p<=q <;> by_cases h2:q<=p
 ·rw [if_pos h1,if_pos h2]
  exact⟨fun h=>(by simp at h),fun h=>absurd om h⟩
 ·rw [if_pos h1,if_neg h2]
  exact⟨fun _=>by omega,fun _=>rfl⟩
 ·rw [if_neg h1,if_pos h2]
  exact⟨fun _=>by omega,fun _=>rfl⟩
 ·omega
theorem imgQ_calls {k g gd:Nat}{o:Nat->Nat}{D:Im}{ok:Nat->Bool}{us ur:Sv} (hL:LD k g 113 w o D) (hw:Wf D) (hR:RM ok w gd D us ur) {F:Wd->Prop} (hF:∀w',Below w.heap.size w w'->F w') :
  CL 30 #[.pointer (some ⟨g,0,none⟩)] w (post R fun v10 w1_10=>
  ∃(x154:OA),v10=(.pointer x154) /\
  CL 31 #[.pointer x154] w1_10 (post R fun v11 w1_11=>
  ∃(x155_0:OA) (x155_0N:Nat) (x155_0C:Nat) (x155_1:OA) (x155_1N:Nat) (x155_1C:Nat),v11=(.agg #[.slice x155_0 x155_0N x155_0C,.slice x155_1 x155_1N x155_1C]) /\
  CL 16 #[(.pointer (some ⟨gd,0,none⟩))] w1_11 (post R fun v12 w1_12=>
  ∃(x157_0:OA) (x157_0N:Nat) (x157_0C:Nat) (x157_1:OA) (x157_1N:Nat) (x157_1C:Nat),v12=(.agg #[.slice x157_0 x157_0N x157_0C,.slice x157_1 x157_1N x157_1C]) /\
  CL 15 #[.agg #[.slice x155_0 x155_0N x155_0C,.slice x155_1 x155_1N x155_1C],.agg #[.slice x157_0 x157_0N x157_0C,.slice x157_1 x157_1N x157_1C]] w1_12 (post R fun v13 w1_13=>
  ∃(x158:Bool),v13=(.bool x158) /\
  Br (!x158)
  (R (.returned (.bool false)) w1_13)
  (F w1_13))))):=by
 refine TreeU_calls hL ?_
 intro gc bs o1 w1 S1 hb1 hD1 hp1 _ ho1 hi1
 refine⟨_,rfl,?_⟩
 have hwS:Wf S1.D:=by rw [hD1];exact hw
 refine Image_calls (θ:=⟨gc,106,[]⟩) hp1 hwS fun vs vr es w2 B1 hb2 hB1 oi or_ hrow=>⟨_,_,_,_,_,_,rfl,?_⟩
 have B2:=btr hb1 hb1.size hb2
 refine ImageR_calls (hR.keep B2) fun w3 hb3 him=>⟨_,_,_,_,_,_,rfl,?_⟩
 have hrd:=hR.rdr
 have hrl:=rr_live hw
 rw [<-hD1] at him
 refine imagesE_calls (vs:=vs) (vr:=vr) (us:=us) (ur:=ur) (X:=S1.D) ((oi.keep hb3).rim (roots:=S1.D.roots) (rr_own (or_.keep hb3) (by rw [hD1];omega)) (by have:=hp1.few;omega) (fun s hs=>(hp1.rng s hs).atf) (fun s hs=>(hp1.rng s hs).few) (by rw [hD1];exact hrd.im.ok) (by rw [hD1];exact hrd.im.rok)) him fun w4 hb4=>⟨_,rfl,?_⟩
 rw [show (!true)=false from rfl,Br_f]
 exact hF w4 (btr (btr B2 B2.size hb3) (by have:=B2.size;have:=hb3.size;omega) hb4)
end
theorem Rd.opH {w:Wd}{A:OA}{c:Nat}{xs:List E11}{S:Wd->Prop} (h:Rd LOp w A c xs) (hS:∀w1,S w1->Below w.heap.size w w1) {n:Nat} (hn:n=xs.length) {i:Int}{k:Nat} (hi:i=k) (hk:k<xs.length) {K:Addr->Prop}
  (hK:∀b o,(∀(j:Nat) (u:Value),(LOp.cells xs[k])[j]?=some u->Held S ⟨b,o+j,none⟩ u)->K ⟨b,o,none⟩):IdxA A n i 11 K:=by
 subst hi
 refine h.held hS hn om om rfl fun b o hc=>?_
 simp only [tnc] at hc
 exact hK b o hc
theorem one_err {D:Im}{o:O1} (hc:(checkF [o]).2=0):(applyF D [o]).2.2=(oneF D o).2.2/\afterF D (applyF D [o])=if (oneF D o).2.2≠0 then D else (oneF D o).1:=by
 unfold afterF
 rw [apply_one D hc]
 by_cases h:(oneF D o).2.2≠0
 ·rw [if_pos h,if_pos h];exact⟨rfl,rfl⟩
 ·rw [if_neg h,if_neg h];exact⟨(by simpa using h:(oneF D o).2.2=0).symm,rfl⟩
section
variable {w0 w w1:Wd}{R:RT}{gp gq gs:Nat}{op oq os:Nat->Nat}{DP DQ DS:Im}{kp kq ks:Nat}
theorem appQ_calls (h:Tri w0 w gp gq gs op oq os DP DQ DS kp kq ks) (hk:kq<999999000000) (hw:Wf DQ) (hT:Tabs w0) (zs:List E11) {A:OA}{c:Nat} (hr:Rd LOp w A c zs) (hx:∀z∈zs,ROp w z) (hl:zs.length<=1048576) {K:Int->Wd->Prop}
  (hK:∀w' oq',Tri w0 w' gp gq gs op oq' os DP (afterF DQ (applyF DQ (zs.map (·.o)))) DS kp (kq+65536) ks->Ev3 w (cl3 op oq os) w' (cl3 op oq' os)->K (applyF DQ (zs.map (·.o))).2.2 w') :
  CL 14 #[.slice A zs.length c] w (post R fun v10 w1_11=>
  ∃(x137:OA) (x137N:Nat) (x137C:Nat),v10=(.slice x137 x137N x137C) /\
  CL 22 #[(.pointer (some ⟨gq,0,none⟩)),.slice x137 x137N x137C] w1_11 (post R fun v11 w1_12=>
  ∃(x138_0:OA) (x138_0N:Nat) (x138_0C:Nat) (x138_1:Int) (x138_2:Int),v11=(.tuple #[.slice x138_0 x138_0N x138_0C,.int .i64 x138_1,.int .i64 x138_2])/\K x138_2 w1_12)):=by
 refine copiedO2_calls zs hr hx hl fun w2 cv ys lo hb2 oc hmo hzb hlo hot=>⟨cv.1,cv.2.1,cv.2.2,rfl,?_⟩
 have hs2:=hb2.size
 have hyl:ys.length=zs.length:=by
  have:=congrArg List.length hmo
  rwa [lmp,lmp] at this
 obtain⟨ca,cn,cc⟩:=cv
 obtain⟨n1,n2⟩:=rdO oc
 have n1:cn=ys.length:=n1
 subst n1
 have h2:=h.below hb2
 have hun:∀b,w.heap.size<=b->oq b=0:=fun b hb=>byc fun e=>by have:=ldlt h.q b e;omega
 have hc2:Sub (wOnly (fun b=>decide (w.heap.size<=b)) w2) (wc oq w2):=sub_only (fun b hb h=>by
  have h:=of_decide_eq_true h
  show Nat.beq (oq b) 0=true
  rw [hun b h];rfl) fun b hb _=>rfl
 have hz:∀z∈ys,ROp (wc oq w2) z:=fun z hz=>(ops_ot (ok:=fun b=>decide (w.heap.size<=b)) (fun b h1 _=>det om) hzb hot z hz).sub hc2
 have hrz:Rd LOp (wc oq w2) ca cc ys:=by
  have:Own LOp (wOnly (fun b=>decide (w.heap.size<=b)) w2) w.heap.size 50 (slV (ca,ys.length,cc)) ys:=by
   rcases oc with h | h | ⟨g,c,cur,h1,h2,h3,h4⟩
   ·exact .inl h
   ·exact .inr (.inl h)
   ·exact .inr (.inr ⟨g,c,cur,h1,h2,cells_only (det h2) h3,h4⟩)
  exact hc2.rd (rdO this).2
 refine ApplyP_calls h2.q hk hw ys hrz hz om (hT.sub (sub_wc h2.old fun b hb=>(h2.col b hb).2.1)) fun w3 o3 hL3 ev3=>?_
 rw [hmo] at hL3 |-
 refine TrialK.of fun gv og=>⟨gv.1,gv.2.1,gv.2.2,(applyF DQ (zs.map (·.o))).2.1,(applyF DQ (zs.map (·.o))).2.2,rfl,?_⟩
 obtain⟨t3,e3⟩:=h2.edQ hL3 ev3
 exact hK w3 o3 t3 ((Ev3.below hb2).trans e3)
theorem Tri.swapPQ (h:Tri w0 w gp gq gs op oq os DP DQ DS kp kq ks):Tri w0 w gq gp gs oq op os DQ DP DS kq kp ks:=
 ⟨h.q,h.p,h.s,fun b e=>byc fun e2=>e (h.pq b e2),h.qs,h.ps,h.old,fun b hb=>⟨(h.col b hb).2.1,(h.col b hb).1,(h.col b hb).2.2⟩⟩
theorem Tri.swapQS (h:Tri w0 w gp gq gs op oq os DP DQ DS kp kq ks):Tri w0 w gp gs gq op os oq DP DS DQ kp ks kq:=
 ⟨h.p,h.s,h.q,h.ps,h.pq,fun b e=>byc fun e2=>e (h.qs b e2),h.old,fun b hb=>⟨(h.col b hb).1,(h.col b hb).2.2,(h.col b hb).2.1⟩⟩
theorem cl3_pq (b:Nat):cl3 oq op os b↔cl3 op oq os b:=by unfold cl3;omega
theorem cl3_qs (b:Nat):cl3 op os oq b↔cl3 op oq os b:=by unfold cl3;omega
theorem Ev3.iff {c c' c1 c1':Nat->Prop} (h:Ev3 w c w1 c1) (e:∀b,c b↔c' b) (e1:∀b,c1 b↔c1' b):Ev3 w c' w1 c1':=⟨h.fm.mono fun b _ k=>(e b).1 k,fun b hb k k1=>h.old b hb (fun k2=>k ((e b).1 k2)) ((e1 b).2 k1)⟩
end
def okN3 (op oq os:Nat->Nat) (b:Nat):Bool:=okc op b && (okc oq b && okc os b)
theorem okN3_iff {op oq os:Nat->Nat}{b:Nat}:okN3 op oq os b=true↔¬cl3 op oq os b:=by
 unfold okN3 cl3
 rw [bae,bae,okc_iff,okc_iff,okc_iff]
 omega
theorem rm_ev3 {op oq os op' oq' os':Nat->Nat}{w w':Wd}{g:Nat}{D:Im}{vs vr:Sv} (h:RM (okN3 op oq os) w g D vs vr) (ev:Ev3 w (cl3 op oq os) w' (cl3 op' oq' os')) (hg:¬cl3 op oq os g):RM (okN3 op' oq' os') w' g D vs vr/\¬cl3 op' oq' os' g:=by
 refine⟨h.fm2 ev.fm (fun b hb e=>⟨?_,fun h9=>hg (h9 ▸ e)⟩) fun b hb h9=>okN3_iff.2 (ev.old b hb (okN3_iff.1 h9)),ev.old g h.blk.lt hg⟩
 cases h9:okN3 op oq os b with
 | false=>rfl
 | true=>exact absurd e (okN3_iff.1 h9)
theorem own_ev3 {α:Type}{L:Lay α}{e:TypeId}{B:Nat}{v:Value}{xs:List α}{w w':Wd}{c c':Nat->Prop} (h:Own L w B e v xs) (ev:Ev3 w c w' c') (hc:∀b,rowOf v=some b->¬c b):Own L w' B e v xs:=own_fm h ev.fm hc
theorem split2 {α:Type}{l:List α}{k:Nat} (h:k+1<l.length):l=l.take k++l[k] :: l[k+1] :: l.drop (k+2):=by
 have h1:l.drop k=l[k] :: l.drop (k+1):=dgc om
 have h2:l.drop (k+1)=l[k+1] :: l.drop (k+2):=dgc h
 rw [<-h2,<-h1,tad]
theorem plan_two_mem (a b:O1) (i:Nat) (hi:i<2):-1<=(planF [a,b] 5).getD i (-1)/\(planF [a,b] 5).getD i (-1)<=1:=by
 rw [plan_two]
 have:i=0\/i=1:=by omega
 split <;> rcases this with rfl | rfl <;> simp
section
variable {w0 w w1:Wd}{R:RT}{gp gq gs gx:Nat}{op oq os:Nat->Nat}{DP DQ D DA:Im}{kp kq ks:Nat}{us ur:Sv}
theorem turned_calls (h:Tri w0 w gp gq gs op oq os DP DQ D kp kq ks) (hks:ks<999999000000) (hw:Wf D) (hT:Tabs w0) (hR:RM (okN3 op oq os) w gx DA us ur) (hgx:¬cl3 op oq os gx) (hwA:Wf DA) {ys:List E11}{A:OA}{c:Nat} (hr:Rd LOp w A c ys) (hx:∀y∈ys,ROp w y) (hl:ys.length<=4096)
  (hc:(checkF (ys.map (·.o))).2=0) {gl:List Nat} (hA:(applyF D (ys.map (·.o))).1=some (DA,gl)) {k:Nat} (hk:k+1<ys.length) {aA bA:OA}{aC bC:Nat} (ha:Rd LOp w aA aC [ys[k],ys[k+1]]) (hb:Rd LOp w bA bC [ys[k+1],ys[k]]) {J36:Wd->Prop}
  (hJ:∀w' os' Ds ks',Tri w0 w' gp gq gs op oq os' DP DQ Ds kp kq ks'->Ev3 w (cl3 op oq os) w' (cl3 op oq os')->J36 w') :
  F5_j29 (k:Nat) (some ⟨gs,0,none⟩) A ys.length c (some ⟨gx,0,none⟩) J36 aA 2 aC bA 2 bC w R:=by
 have hk0:k<ys.length:=by omega
 have hsp:=split2 hk
 generalize hy1:ys[k]=y1 at *
 generalize hy2:ys[k+1]=y2 at *
 have hm:ys.map (·.o)=(ys.take k).map (·.o)++y1.o :: y2.o :: (ys.drop (k+2)).map (·.o):=by
  conv=>lhs;rw [hsp]
  rw [List.map_append];rfl
 have hmy1:y1∈ys:=by rw [<-hy1];exact gem _
 have hmy2:y2∈ys:=by rw [<-hy2];exact gem _
 have c1:(checkF [y1.o,y2.o]).2=0:=by
  refine check_sub (l:=ys.map (·.o)) ?_ hc
  rw [hm]
  exact (((List.nil_sublist _).cons_cons y2.o).cons_cons y1.o).trans (List.sublist_append_right _ _)
 have c2:(checkF [y2.o,y1.o]).2=0:=check_perm (List.Perm.swap y2.o y1.o []) c1
 have r1:∀y∈[y1,y2],ROp w y:=fun y hy=>by
  rcases mcn.1 hy with rfl | hy
  ·exact hx _ hmy1
  ·obtain rfl:y=y2:=by simpa using hy
   exact hx _ hmy2
 have r2:∀y∈[y2,y1],ROp w y:=fun y hy=>by
  rcases mcn.1 hy with rfl | hy
  ·exact hx _ hmy2
  ·obtain rfl:y=y1:=by simpa using hy
   exact hx _ hmy1
 unfold F5_j29
 refine planR_calls [y1,y2] ha r1 sm fun w1 hb1=>?_
 unfold PlanK
 rw [show [y1,y2].map (·.o)=[y1.o,y2.o] from rfl,if_neg (by rw [c1];simp)]
 intro vx ox
 refine⟨vx.1,vx.2.1,vx.2.2,0,rfl,?_⟩
 refine planR_calls [y2,y1] (hb.keep hb1) (fun y hy=>(r2 y hy).sub (sub_below hb1)) sm fun w2 hb2=>?_
 unfold PlanK
 rw [show [y2,y1].map (·.o)=[y2.o,y1.o] from rfl,if_neg (by rw [c2];simp)]
 intro vy oy
 refine⟨vy.1,vy.2.1,vy.2.2,0,rfl,?_⟩
 have B2:=btr hb1 hb1.size hb2
 obtain⟨p1,p2⟩:=rdO (ox.keep hb2)
 obtain⟨q1,q2⟩:=rdO oy
 have m0:=plan_two_mem y2.o y1.o 0 om
 have m1:=plan_two_mem y2.o y1.o 1 om
 refine atL_get (k:=0) q1 q2 ⟨_,rfl,?_⟩
 refine⟨inR_i64 om om,?_⟩
 refine atL_get (k:=1) q1 q2 ⟨_,rfl,?_⟩
 refine⟨inR_i64 om om,?_⟩
 refine al fun g205 w3 hb3 b3 hge3=>?_
 have B3:=btr B2 B2.size hb3
 have r3:Rd LI w3 (some ⟨g205,0,none⟩) 2 [1-(planF [y2.o,y1.o] 5).getD 0 (-1),1-(planF [y2.o,y1.o] 5).getD 1 (-1)]:=rd_row (xs:=[1-(planF [y2.o,y1.o] 5).getD 0 (-1),1-(planF [y2.o,y1.o] 5).getD 1 (-1)]) b3 rfl (by simp [maxLen])
 refine numbersB_calls (v:=vx) (u:=(some ⟨g205,0,none⟩,2,2)) (by rw [plan_size];simp) sm p1 (p2.keep hb3) rfl r3 fun w4 hb4=>⟨_,rfl,?_⟩
 have B4:=btr B3 B3.size hb4
 have h4:=h.below B4
 have ev4:Ev3 w (cl3 op oq os) w4 (cl3 op oq os):=.below B4
 rw [plan_two y1.o y2.o,plan_two y2.o y1.o]
 refine brd (fun hne=>?_) fun _=>hJ w4 os D ks h4 ev4
 have hph:=ne_two.1 hne
 have hdr:Below w4.heap.size w4 w4.drew:=(Below.refl _ _).drew
 have B5:=btr B4 B4.size hdr
 have hcl:=hr.1
 have hml:=hr.2.1
 refine⟨fun w'=>True,trivial,om,om,om,inR_i64 om om,om,om,om,?_⟩
 refine al fun g207 w6 hb6 b6 hge6=>?_
 have B6:=btr B5 B5.size hb6
 have hs6:=B6.size
 have hk1:(k:Int).toNat=k:=by omega
 have hk2:((k:Nat)+2:Int).toNat=k+2:=by omega
 have hk3:((ys.length:Nat):Int).toNat=ys.length:=by omega
 rw [hk1,hk2,hk3]
 have tl:(ys.take k).length=k:=by rw [ltk];omega
 have dl:(ys.drop (k+2)).length=ys.length-(k+2):=ldp
 refine ap (L:=LOp) (e:=50) (xs:=[]) (ys:=ys.take k) (base:=w6.heap.size) (v:=.slice (some ⟨g207,0,none⟩) 0 0) (.agg #[.int .i64 0,.int .u64 0,.int .u64 0,.int .i64 0,eS,eS,.int .i64 0,eS,.slice none 0 0,eS,.slice none 0 0]) 152 tl.symm kr kr kr (Own.bare _ _ _ _ _) ((hr.keep B6).take k) (nlr _) (by simp only [List.length_nil,nza];omega) (by simp only [List.length_nil,nza];unfold maxLen;omega) fun A7 c7 w7 o7 g7=>⟨A7,_,c7,rfl,?_⟩
 have D7:Below w6.heap.size w6 w7:=g7.below
 have B7:=btr B6 hs6 D7
 have hs7:=D7.size
 rw [lna] at o7
 have l7:(([]:List E11).length+(ys.take k).length)=k:=by rw [tl];simp
 rw [l7] at o7 |-
 refine ap (L:=LOp) (xs:=ys.take k) (ys:=[y2,y1]) (base:=w6.heap.size) (v:=.slice A7 k c7) (.agg #[.int .i64 0,.int .u64 0,.int .u64 0,.int .i64 0,eS,eS,.int .i64 0,eS,.slice none 0 0,eS,.slice none 0 0]) 152 rfl kr kr kr o7 (hb.keep B7) om (by simp only [lcn,List.length_nil];omega) (by simp only [lcn,List.length_nil];unfold maxLen;omega) fun A8 c8 w8 o8 g8=>⟨A8,_,c8,rfl,?_⟩
 have D8:Below w6.heap.size w6 w8:=D7.trans g8.below
 have B8:=btr B6 hs6 D8
 have hs8:=D8.size
 have l8:((ys.take k).length+[y2,y1].length)=k+2:=by rw [tl];rfl
 rw [l8] at o8 |-
 refine ap (L:=LOp) (xs:=ys.take k++[y2,y1]) (ys:=ys.drop (k+2)) (base:=w6.heap.size) (v:=.slice A8 (k+2) c8) (.agg #[.int .i64 0,.int .u64 0,.int .u64 0,.int .i64 0,eS,eS,.int .i64 0,eS,.slice none 0 0,eS,.slice none 0 0]) 152 dl.symm kr kr kr o8 ((hr.keep B8).slice (k:=k+2) om) om (by rw [lap,tl,dl];simp only [lcn,List.length_nil];omega) (by rw [lap,tl,dl];simp only [lcn,List.length_nil];unfold maxLen;omega) fun A9 c9 w9 o9 g9=>⟨A9,_,c9,rfl,?_⟩
 have D9:Below w6.heap.size w6 w9:=D8.trans g9.below
 have B9:=btr B6 hs6 D9
 have h9:=h.below B9
 have hTl:(ys.take k++[y2,y1]++ys.drop (k+2)).length=ys.length:=by rw [lap,lap,tl,dl];simp only [lcn,List.length_nil];omega
 have hmT:(ys.take k++[y2,y1]++ys.drop (k+2)).map (·.o)=(ys.take k).map (·.o)++y2.o :: y1.o :: (ys.drop (k+2)).map (·.o):=by
  rw [List.map_append,List.map_append,laa];rfl
 have hxT:∀z∈ys.take k++[y2,y1]++ys.drop (k+2),ROp w9 z:=fun z hz=>by
  refine ROp.sub ?_ (sub_below B9)
  rcases List.mem_append.1 hz with hz | hz
  ·rcases List.mem_append.1 hz with hz | hz
   ·exact hx z (List.mem_of_mem_take hz)
   ·exact r2 z hz
  ·exact hx z (List.mem_of_mem_drop hz)
 have l9:(ys.take k++[y2,y1]).length+(ys.drop (k+2)).length=(ys.take k++[y2,y1]++ys.drop (k+2)).length:=lap.symm
 rw [hm] at hA hc
 obtain⟨g',hA'⟩:=apply_turned hph hc hA
 rw [<-hmT] at hA'
 generalize ys.take k++[y2,y1]++ys.drop (k+2)=zs at *
 rw [l9] at o9 |-
 obtain⟨z1,z2⟩:=rdO (v:=(A9,zs.length,c9)) o9
 refine appQ_calls h9.swapQS hks hw hT zs z2 hxT om fun w10 os' t10 e10=>?_
 have e0:(applyF D (zs.map (·.o))).2.2=0:=by rw [apply_zero hA']
 rw [e0]
 refine brn (fun h=>absurd rfl h) fun _=>?_
 have t10:=t10.swapQS
 have hDA:afterF D (applyF D (zs.map (·.o)))=DA:=by unfold afterF;rw [hA']
 rw [hDA] at t10
 have ev10:Ev3 w (cl3 op oq os) w10 (cl3 op oq os'):=(Ev3.below B9).trans (e10.iff cl3_qs cl3_qs)
 obtain⟨hR10,_⟩:=rm_ev3 hR ev10 hgx
 exact imgQ_calls t10.s hwA hR10 fun w11 hb11=>hJ w11 os' DA _ (t10.below hb11) (ev10.trans (.below hb11))
end
section
variable {w:Wd}{R:RT}
theorem Rd.i64H {w:Wd}{A:OA}{c:Nat}{xs:List Int}{S:Wd->Prop} (h:Rd LI w A c xs) (hS:∀w1,S w1->Below w.heap.size w w1) {n:Nat} (hn:n=xs.length) {i:Int}{k:Nat} (hi:i=k) (hk:k<xs.length) {K:Addr->Prop}
  (hK:∀b o,Held S ⟨b,o,none⟩ (.int .i64 xs[k])->K ⟨b,o,none⟩):IdxA A n i 1 K:=by
 subst hi
 refine h.held hS hn om om rfl fun b o hc=>?_
 simp only [tnc] at hc
 exact hK b o (hc 0 _ rfl)
theorem onesU_calls (acs:List E12) {A:OA}{c:Nat} (hra:Rd LAc w A c acs) (hxa:∀x∈acs,RAc w x) (hla:acs.length<=1048576) (xs:List E11) {A':OA}{c':Nat} (hr:Rd LOp w A' c' xs) (hx:∀x∈xs,ROp w x) (hl:xs.length<=1048576) {kk:Nat} (hkk:kk<=255) (hT:Tabs w)
  (hK:∀w',Below w.heap.size w w'->R (.returned (.bool true)) w') :
  CL 5 #[.slice A acs.length c,.slice A' xs.length c',.int .u8 (kk:Nat)] w R:=by
 refine ok5 A acs.length c A' xs.length c' (kk:Nat) ?_
 unfold F5
 refine madeU_calls hT hra hxa hla fun gp gd w1 op vs vr hgp hB1=>⟨_,_,_,rfl,?_⟩
 have B1:=hB1.old
 have hs1:=B1.size
 refine madeU_calls (hT.sub (sub_below B1)) (hra.keep B1) (fun x h=>(hxa x h).sub (sub_below B1)) hla fun gq gd2 w2 oq vs2 vr2 hgq hB2=>⟨_,_,_,rfl,?_⟩
 have C2:=hB2.old
 have B2:=B1.trans (C2.mono hs1)
 have hs2:=C2.size
 refine madeU_calls (hT.sub (sub_below B2)) (hra.keep B2) (fun x h=>(hxa x h).sub (sub_below B2)) hla fun gs gd3 w3 os vs3 vr3 hgs hB3=>⟨_,_,_,rfl,?_⟩
 have C3:=hB3.old
 have hs3:=C3.size
 have B3:=B2.trans (C3.mono B2.size)
 generalize actsD acs=D at *
 have hw:=hB1.wf
 have hol1:=ldlt hB1.p
 have hol2:=ldlt hB2.p
 have C13:Below w1.heap.size w1 w3:=C2.trans (C3.mono hs2)
 have t3:Tri w w3 gp gq gs op oq os D D D acs.length acs.length acs.length:=
  ⟨ldkeep (M:=fun _=>False) hB1.p (.below C13) fun _ _ h=>h.elim,ldkeep (M:=fun _=>False) hB2.p (.below C3) fun _ _ h=>h.elim,hB3.p,fun b e=>hB2.col b (hol1 b e),fun b e=>hB3.col b (by have:=hol1 b e;omega),fun b e=>hB3.col b (hol2 b e),B3,
   fun b hb=>⟨hB1.col b hb,hB2.col b om,hB3.col b om⟩⟩
 have hR3:RM (okN3 op oq os) w3 gd D vs vr:=hB1.r.fm2 (M:=fun _=>False) (.below C13) (fun _ _ h=>h.elim) fun b hb h=>by
  unfold okN3
  rw [h,Bool.true_and,bae]
  exact⟨okc_iff.2 (hB2.col b hb),okc_iff.2 (hB3.col b om)⟩
 have hgd1:=hB1.r.blk.lt
 have hgd0:¬cl3 op oq os gd:=by
  rintro (e | e | e)
  ·exact e hB1.og
  ·exact e (hB2.col gd hgd1)
  ·exact e (hB3.col gd om)
 have hgne:=hB1.gne
 have hocl:∀b,b<w.heap.size->¬cl3 op oq os b:=fun b hb=>by have:=t3.col b hb;unfold cl3;omega
 clear hB1 hB2 hB3
 refine⟨fun w'=>w'=w3,?_,?_⟩
 rotate_left
 ·rw [show (!true)=false from rfl,Br_f,oin,Br_f,oin,Br_f]
 rintro w3 rfl
 unfold F5_j6
 obtain⟨es3,hRW3⟩:=hR3.re
 refine meantU_calls hRW3 hw true xs (hr.keep B3) (fun x hm=>(hx x hm).1) hl fun w4 mv hb4 omv=>⟨mv.1,mv.2.1,mv.2.2,rfl,?_⟩
 have hs4:=hb4.size
 have B4:=B3.trans (hb4.mono B3.size)
 have hys:∀y∈xs.map (mtE D true),ROp w y:=fun y hy=>by
  obtain⟨x,hxm,rfl⟩:=List.mem_map.1 hy
  exact mt_rop hRW3 hw true (hx x hxm)
 have hyl:(xs.map (mtE D true)).length=xs.length:=lmp _
 generalize xs.map (mtE D true)=ys at *
 obtain⟨ma,mn,mc⟩:=mv
 obtain⟨m1,m2⟩:=rdO omv
 have m1:mn=ys.length:=m1
 subst m1
 have m2:Rd LOp w4 ma mc ys:=m2
 have t4:=t3.below hb4
 have hR4:=hR3.keep hb4
 have hmr:∀b,rowOf (slV (ma,ys.length,mc))=some b->¬cl3 op oq os b:=fun b hb=>t3.fresh (omv.lt b hb).1
 refine applyR_calls hR4 (fun b hb=>okN3_iff.2 (t4.fresh hb)) hw ys m2 (fun y hy=>(hys y hy).sub (sub_vw B4 (fun b hb=>okN3_iff.2 (hocl b hb)) hgne)) om fun w5 hb5=>?_
 have hs5:=hb5.size
 have B5:=B4.trans (hb5.mono B4.size)
 have t5:=t4.below hb5
 refine ApplyRK.of fun pa wv hpa ow=>⟨pa,wv.1,wv.2.1,wv.2.2,(applyF D (ys.map (·.o))).2.1,(applyF D (ys.map (·.o))).2.2,rfl,?_⟩
 have om5:=omv.keep hb5
 have my5:∀{u:Wd},Below w.heap.size w u->∀y∈ys,ROp u y:=fun hb y hy=>(hys y hy).sub (sub_below hb)
 refine appQ_calls t5.swapPQ om hw hT ys (m2.keep hb5) (my5 B5) om fun w7 op' t7 e7=>?_
 have t7:=t7.swapPQ
 have ev7:Ev3 w5 (cl3 op oq os) w7 (cl3 op' oq os):=e7.iff cl3_pq cl3_pq
 clear e7
 have B7:=t7.old
 have hs7:=ev7.fm.size
 have hR5:=hR4.keep hb5
 obtain⟨hR7,hgd7⟩:=rm_ev3 hR5 ev7 hgd0
 have om7:Own LOp w7 w3.heap.size 50 (slV (ma,ys.length,mc)) ys:=own_ev3 om5 ev7 hmr
 refine brn (fun h=>absurd rfl h) fun _=>?_
 cases hap:(applyF D (ys.map (·.o))).1 with
 | none=>
  have hne:(applyF D (ys.map (·.o))).2.2≠0:=fun e=>by
   obtain⟨x,hx⟩:=(apply_ok _ _).1 e
   rw [hap] at hx;cases hx
  refine brn (fun _=>?_) fun h=>absurd h hne
  have hDA:afterF D (applyF D (ys.map (·.o)))=D:=by unfold afterF;rw [hap]
  rw [hDA] at t7
  refine isU_calls t7.p hw hR7 fun w8 hb8=>⟨_,rfl,?_⟩
  rw [Br_t]
  have B8:=B7.trans (hb8.mono B7.size)
  exact livesU_calls (hT.sub (sub_below B8)) fun w9 hb9=>⟨_,rfl,hK w9 (B8.trans (hb9.mono B8.size))⟩
 | some z=>
  obtain⟨DA,gl⟩:=z
  have h00:(applyF D (ys.map (·.o))).2=(0,0):=apply_zero hap
  rw [h00]
  refine brn (fun h=>absurd rfl h) fun _=>?_
  have hDA:afterF D (applyF D (ys.map (·.o)))=DA:=by unfold afterF;rw [hap]
  have hwA:Wf DA:=by rw [<-hDA];exact after_wf hw _
  rw [hDA] at t7
  obtain⟨gx,us,ur,rfl,hRx5,hgx5⟩:=hpa.yes DA gl hap
  obtain⟨hRx7,hgx7⟩:=rm_ev3 hRx5 ev7 (t4.fresh hgx5)
  have hc:(checkF (ys.map (·.o))).2=0:=byc fun e=>by unfold applyF at hap;rw [if_pos e] at hap;cases hap
  have hfew:ys.length<=4096:=by have:=check_few hc;rwa [lmp] at this
  have r7:Rd LOp w7 ma mc ys:=(rdO om7).2
  refine copiedO2_calls ys r7 (my5 B7) om fun w8 cv zs lo hb8 oc hmo hzb hlo hot=>⟨cv.1,cv.2.1,cv.2.2,rfl,?_⟩
  have hs8:=hb8.size
  have B8:=B7.trans (hb8.mono B7.size)
  have hzl:zs.length=ys.length:=by
   have:=congrArg List.length hmo
   rwa [lmp,lmp] at this
  obtain⟨ca,cn,cc⟩:=cv
  obtain⟨n1,n2⟩:=rdO oc
  have n1:cn=zs.length:=n1
  subst n1
  refine planP_calls zs n2 (fun z hz=>(ops_ot (ok:=fun _=>true) (fun _ _ _=>rfl) hzb hot z hz).sub sub_of_only) (hT.sub (sub_below B8)) om fun w9 hb9=>?_
  unfold PlanK
  rw [hmo,if_neg (by rw [hc];simp)]
  intro vo oo
  refine⟨vo.1,vo.2.1,vo.2.2,0,rfl,?_⟩
  have hs9:=hb9.size
  have D9:=btr hb8 hs8 hb9
  have B9:=B7.trans (D9.mono B7.size)
  have t9:=t7.below D9
  obtain⟨o1,_⟩:=rdO oo
  have hpl:=plan_size (ys.map (·.o))
  rw [lmp] at hpl
  obtain⟨hRx9,hgx9⟩:=rm_ev3 hRx7 (.below D9) hgx7
  have om9:=om7.keep D9
  have hmr9:∀b,rowOf (slV (ma,ys.length,mc))=some b->¬cl3 op' oq os b:=fun b hb=>ev7.old b (by have:=(omv.lt b hb).2;omega) (hmr b hb)
  have hor9:∀b,rowOf (slV vo)=some b->¬cl3 op' oq os b:=fun b hb=>by
   have:=(oo.lt b hb).1
   exact t7.fresh om
  refine⟨fun w'=>w'=w9,?_,?_⟩
  rotate_left
  ·refine brn (fun h=>absurd rfl h) fun _=>?_
   refine brn (fun h=>absurd (by rw [o1,hpl]) h) fun _=>(by first | exact rfl | trivial)
  rintro w9 rfl
  unfold F5_j16
  refine⟨fun gone w'=>∃(oq':Nat->Nat) (Dq:Im) (kq:Nat),Tri w w' gp gq gs op' oq' os DA Dq D (acs.length+65536) kq acs.length/\Ev3 w9 (cl3 op' oq os) w' (cl3 op' oq' os)/\(gone=false->Dq=DA),?_,?_⟩
  ·rintro gone w10 ⟨oq',Dq,kq,t10,ev10,hgD⟩
   unfold F5_j24
   refine⟨fun w'=>∃(oq':Nat->Nat) (Dq:Im) (kq:Nat),Tri w w' gp gq gs op' oq' os DA Dq D (acs.length+65536) kq acs.length/\Ev3 w9 (cl3 op' oq os) w' (cl3 op' oq' os),?_,?_⟩
   rotate_left
   ·cases gone with
    | true=>exact⟨oq',Dq,kq,t10,ev10⟩
    | false=>
     rw [show (!false)=true from rfl,Br_t]
     obtain rfl:=hgD rfl
     obtain⟨hRx10,_⟩:=rm_ev3 hRx9 ev10 hgx9
     exact imgQ_calls t10.q hwA hRx10 fun w11 hb11=>⟨oq',Dq,kq,t10.below hb11,ev10.trans (.below hb11)⟩
   clear t10 ev10 hgD
   clear oq' Dq kq
   rintro w11 ⟨oq',Dq,kq,t11,ev11⟩
   unfold F5_j26
   refine⟨fun w'=>∃(oq' os':Nat->Nat) (Dq Ds:Im) (kq ks:Nat),Tri w w' gp gq gs op' oq' os' DA Dq Ds (acs.length+65536) kq ks/\Ev3 w9 (cl3 op' oq os) w' (cl3 op' oq' os'),?_,?_⟩
   ·rintro w12 ⟨oq',os',Dq,Ds,kq,ks,t12,ev12⟩
    unfold F5_j36
    obtain⟨hRx12,_⟩:=rm_ev3 hRx9 ev12 hgx9
    refine isU_calls t12.p hwA hRx12 fun w13 hb13=>⟨_,rfl,?_⟩
    rw [Br_t]
    have B13:=t12.old.trans (hb13.mono t12.old.size)
    exact livesU_calls (hT.sub (sub_below B13)) fun w14 hb14=>⟨_,rfl,hK w14 (B13.trans (hb14.mono B13.size))⟩
   obtain⟨hRx11,hgx11⟩:=rm_ev3 hRx9 ev11 hgx9
   have om11:=own_ev3 om9 ev11 hmr9
   have r11:Rd LOp w11 ma mc ys:=(rdO om11).2
   refine⟨inR_i64 om om,inR_i64 om om,?_⟩
   refine brd (fun hlt=>?_) fun _=>⟨oq',os,Dq,D,kq,_,t11,ev11⟩
   have hk1:kk+1<ys.length:=by omega
   have hdr:Below w11.heap.size w11 w11.drew:=(Below.refl _ _).drew
   refine⟨fun aA aN aC bA bN bC w'=>Below w11.heap.size w11 w'/\aN=2/\bN=2/\Rd LOp w' aA aC [ys[kk],ys[kk+1]]/\Rd LOp w' bA bC [ys[kk+1],ys[kk]],?_,?_⟩
   ·rintro aA _ aC bA _ bC w12 ⟨hb12,rfl,rfl,ra,rb⟩
    have ev12:Ev3 w11 (cl3 op' oq' os) w12 (cl3 op' oq' os):=.below hb12
    obtain⟨hRx12,hgx12⟩:=rm_ev3 hRx11 ev12 hgx11
    have t12:=t11.below hb12
    exact turned_calls t12 om hw hT hRx12 hgx12 hwA (r11.keep hb12) (my5 t12.old) hfew hc hap hk1 ra rb fun w' os' Ds ks' t' ev'=>⟨oq',os',Dq,Ds,kq,ks',t',(ev11.trans ev12).trans ev'⟩
   ·have hk1c:(kk:Int)+1=((kk+1:Nat):Int):=by omega
    refine⟨fun w'=>Below w11.heap.size w11 w',hdr,?_⟩
    have pr:∀{u:Wd}{g:Nat}{y1 y2:E11},Blk u g ((LOp.cells y1++LOp.cells y2).toArray) 50->Rd LOp u (some ⟨g,0,none⟩) 2 [y1,y2]:=fun {u g y1 y2} hb=>rd_row (xs:=[y1,y2]) hb (by simp [Lay.all]) (by simp [maxLen])
    refine r11.opH (fun _ h=>h) rfl rfl om fun b1 o1 c1=>?_
    simp only [Addr.add_mk]
    refine⟨_,c1 0 _ rfl,_,c1 1 _ rfl,_,c1 2 _ rfl,_,c1 3 _ rfl,_,c1 4 _ rfl,_,c1 5 _ rfl,_,c1 6 _ rfl,_,c1 7 _ rfl,_,_,_,c1 8 _ rfl,_,c1 9 _ rfl,_,_,_,c1 10 _ rfl,inR_i64 om om,?_⟩
    refine r11.opH (fun _ h=>h) rfl hk1c hk1 fun b2 o2 c2=>?_
    simp only [Addr.add_mk]
    refine⟨_,c2 0 _ rfl,_,c2 1 _ rfl,_,c2 2 _ rfl,_,c2 3 _ rfl,_,c2 4 _ rfl,_,c2 5 _ rfl,_,c2 6 _ rfl,_,c2 7 _ rfl,_,_,_,c2 8 _ rfl,_,c2 9 _ rfl,_,_,_,c2 10 _ rfl,inR_i64 om om,?_⟩
    refine r11.opH (fun _ h=>h) rfl hk1c hk1 fun b3 o3 c3=>?_
    simp only [Addr.add_mk]
    refine⟨_,c3 0 _ rfl,_,c3 1 _ rfl,_,c3 2 _ rfl,_,c3 3 _ rfl,_,c3 4 _ rfl,_,c3 5 _ rfl,_,c3 6 _ rfl,_,c3 7 _ rfl,_,_,_,c3 8 _ rfl,_,c3 9 _ rfl,_,_,_,c3 10 _ rfl,?_⟩
    refine r11.opH (fun _ h=>h) rfl rfl om fun b4 o4 c4=>?_
    simp only [Addr.add_mk]
    refine⟨_,c4 0 _ rfl,_,c4 1 _ rfl,_,c4 2 _ rfl,_,c4 3 _ rfl,_,c4 4 _ rfl,_,c4 5 _ rfl,_,c4 6 _ rfl,_,c4 7 _ rfl,_,_,_,c4 8 _ rfl,_,c4 9 _ rfl,_,_,_,c4 10 _ rfl,?_⟩
    refine⟨al fun g1 u1 e1 q1 _=>?_,al fun g1 u1 e1 q1 _=>?_⟩
    ·have U1:=btr hdr hdr.size e1
     refine⟨U1,al fun g2 u2 e2 q2 _=>?_⟩
     have U2:=btr U1 U1.size e2
     exact⟨U2,U2,(by first | exact rfl | trivial),(by first | exact rfl | trivial),pr (q1.keep e2),pr q2⟩
    ·have U1:=btr hdr hdr.size e1
     refine⟨U1,al fun g2 u2 e2 q2 _=>?_⟩
     have U2:=btr U1 U1.size e2
     exact⟨U2,U2,(by first | exact rfl | trivial),(by first | exact rfl | trivial),pr q2,pr (q1.keep e2)⟩
  ·-- one by one
   have hog:(planF (ys.map (·.o)) 5).length<=20480:=by omega
   refine⟨fun gone i w'=>∃(j:Nat) (oq':Nat->Nat) (Dq:Im) (kq:Nat),i=j/\j<=(planF (ys.map (·.o)) 5).length/\Tri w w' gp gq gs op' oq' os DA Dq D (acs.length+65536) kq acs.length/\Ev3 w9 (cl3 op' oq os) w' (cl3 op' oq' os)/\kq<=acs.length+65536*j/\Wf Dq/\(gone=false->∃gl put,Ones (ys.map (·.o)) ((planF (ys.map (·.o)) 5).drop j) Dq gl put DA),fun _ i _=>(planF (ys.map (·.o)) 5).length-i.toNat,
    ⟨0,oq,D,acs.length,rfl,om,t9,.refl _ _,om,hw,fun _=>⟨[],fun _=>0,by rw [List.drop_zero];exact ones_begin hw hc hap⟩⟩,?_⟩
   rintro gone _ w10 ⟨j,oq',Dq,kq,rfl,hj,t10,ev10,hkq,hwq,hones⟩
   unfold F5_l18
   refine⟨fun w'=>w'=w10/\j<(planF (ys.map (·.o)) 5).length/\gone=false,?_,?_⟩
   rotate_left
   ·refine brd (fun hlt=>?_) fun hge=>?_
    ·cases gone with
     | true=>exact⟨oq',Dq,kq,t10,ev10,fun h=>by cases h⟩
     | false=>exact⟨by first | exact rfl | trivial,om,by first | exact rfl | trivial⟩
    ·refine⟨oq',Dq,kq,t10,ev10,fun h=>?_⟩
     obtain⟨gl',put',ho⟩:=hones h
     have hj2:j=(planF (ys.map (·.o)) 5).length:=by omega
     rw [hj2,List.drop_length] at ho
     exact ones_end ho
   rintro w10 ⟨rfl,hj2,rfl⟩
   obtain⟨gl',put',ho⟩:=hones rfl
   unfold F5_j20
   refine⟨fun gone2 w'=>∃(oq':Nat->Nat) (Dq:Im) (kq:Nat),Tri w w' gp gq gs op' oq' os DA Dq D (acs.length+65536) kq acs.length/\Ev3 w9 (cl3 op' oq os) w' (cl3 op' oq' os)/\kq<=acs.length+65536*(j+1)/\Wf Dq/\(gone2=false->∃gl put,Ones (ys.map (·.o)) ((planF (ys.map (·.o)) 5).drop (j+1)) Dq gl put DA),?_,?_⟩
   ·rintro gone2 w11 ⟨oq2,Dq2,kq2,q⟩
    unfold F5_j19
    exact⟨inR_i64 om om,⟨j+1,oq2,Dq2,kq2,sm,om,q⟩,odz⟩
   have hmem:(planF (ys.map (·.o)) 5)[j]∈planF (ys.map (·.o)) 5:=gem hj2
   obtain⟨i,hii,hil⟩:=mem_plan.1 hmem
   rw [lmp] at hil
   have hLi:(ys.map (·.o))[i]?=some ys[i].o:=by rw [List.getElem?_map,gge hil];rfl
   have hLi2:(ys.map (·.o))[((planF (ys.map (·.o)) 5)[j]).toNat]?=some ys[i].o:=by rw [hii,tnc];exact hLi
   rw [dgc hj2] at ho
   have hlook:=(check_kind (ys.map (·.o)) [] (check_ok hc).2 ys[i].o (mog hLi)).2.2
   have hstep:=ones_step ho hLi2 fun e=>hlook (.inr e)
   have hdr:Below w10.heap.size w10 w10.drew:=(Below.refl _ _).drew
   have oo10:=own_ev3 oo ev10 hor9
   have om10:=own_ev3 om9 ev10 hmr9
   have r10:Rd LOp w10 ma mc ys:=(rdO om10).2
   have ro10:=(rdO oo10).2
   refine⟨fun w'=>Below w10.heap.size w10 w',hdr,?_⟩
   refine ro10.i64H (fun _ h=>h) o1 rfl hj2 fun b1 q1 e1=>?_
   rw [hii] at e1
   refine⟨_,e1,?_⟩
   refine ro10.i64H (fun _ h=>h) o1 rfl hj2 fun b2 q2 e2=>?_
   rw [hii] at e2
   have hcap:ys.length<=mc:=r10.1
   refine⟨_,e2,inR_i64 om om,om,om,(by show (i:Int)+1<=(mc:Int);omega),?_⟩
   have hi1:(i:Int).toNat=i:=by omega
   have hi2:((i:Nat)+1:Int).toNat-i=1:=by clear hstep ho hones;omega
   rw [hi1,hi2]
   have hrs:Rd LOp w10.drew (SlA ma mc i 11) (mc-i) [ys[i]]:=by
    have:=((r10.keep hdr).slice (k:=i) om).take 1
    rw [dgc hil] at this
    exact this
   have hco:(checkF [ys[i].o]).2=0:=check_sub (List.singleton_sublist.2 (mog hLi)) hc
   obtain⟨he1,he2⟩:=one_err (D:=Dq) hco
   have t10d:=t10.below hdr
   refine appQ_calls t10d om hwq hT [ys[i]] hrs (fun z hz=>by
    obtain rfl:z=ys[i]:=by simpa using hz
    exact my5 t10d.old _ (gem hil)) sm fun w11 oq2 t11 e11=>?_
   rw [show [ys[i]].map (·.o)=[ys[i].o] from rfl] at t11 |-
   rw [he2] at t11
   rw [he1]
   have ev11:=(ev10.trans (.below hdr)).trans e11
   rcases hstep with h8 | ⟨h0,gl2,put2,ho2⟩
   ·rw [h8]
    rw [if_pos (by rw [h8];decide)] at t11
    refine brn (fun _=>?_) fun h=>absurd h dc
    rw [show (!((8:Int) == 8))=false from rfl,Br_f]
    exact⟨oq2,Dq,_,t11,ev11,om,hwq,fun h=>absurd h dc⟩
   ·rw [h0]
    rw [if_neg (by rw [h0];simp)] at t11
    refine brn (fun h=>absurd rfl h) fun _=>?_
    exact⟨oq2,_,_,t11,ev11,om,one_wf' hwq _,fun _=>⟨gl2,put2,ho2⟩⟩
end
end Go.Proofs.YtnbgiacnbheonaaGreatDoor
/- UpdateOnes: a list of edits comes to the same when they are made one by one, and when two that stand beside one another in unlike phases change places. -/
namespace Go.Proofs.YtnbgiacnbheonaaGreatDoor.updateOnes
open Go.ChangeShapes Go.WideShapes Go.ChangeAt Go.RowKit Go.Joins Go.Lib Go.Vc
open Go.ChangeMaps (open_string shut_string)
set_option maxRecDepth 100000
set_option linter.unusedVariables false
set_option linter.unusedSimpArgs false
theorem own : ownKnob Tryz.prog.godebug = none := by kernel_rfl
theorem laidOut : laidOutB Tryz.prog = true := by kernel_rfl
/-- A world in which the tables are laid. -/
noncomputable def laidWorld (os : Os) : World :=
  let w0 := World.holding Tryz.prog os ⟨#[], #[], []⟩
  let put (h : Array Obj) (g : Nat) (cs : Array Value) : Array Obj := h.modify g fun
    | .cells _ t frozen => .cells cs t frozen
    | o => o
  let h1 := put w0.heap 1 (Lib.firstTab.map fun z => Value.int .u8 z).toArray
  let h2 := put h1 2 ((List.range 16).flatMap fun i => [Value.int .u8 (Lib.accLo i), Value.int .u8 (Lib.accHi i)]).toArray
  { w0 with heap := h2 }
theorem laid_met (os : Os) : laidMet Tryz.prog Rows.updateOnesUptoRow.laid ((laidWorld os).forCall (fun _ _ => 0) ⟨#[], #[.slice none 0 0, .slice none 0 0, .int .u8 0], []⟩).memory :=
  (LaidIn.of_run (l := Rows.updateOnesUptoRow.laid) [2, 1] 8 (by kernel_rfl) (by kernel_rfl) (by kernel_rfl) (by kernel_rfl)).met
theorem u8Types : U8Types Tryz.prog decRen := { decLays with }
theorem tabs_of {W : World} (h : laidMet Tryz.prog Rows.updateOnesUptoRow.laid W) : Tabs W :=
  utf8Tabs_of_readsT (ρ := decRen) u8Types ⟨by kernel_rfl, by kernel_rfl, by kernel_rfl, by kernel_rfl, by kernel_rfl, by kernel_rfl, by kernel_rfl⟩
    (by rw [← Pinned.utf8First_eq]; exact Lib.laidMet.reads h (.tail _ (.head _))) (Lib.laidMet.reads h (.head _))
theorem reads (os : Os) {H : Type} (enc : TypeId × Value → H) : ∃ places, DataW.whole enc Tryz.prog ((laidWorld os).forCall (fun _ _ => 0) ⟨#[], #[.slice none 0 0, .slice none 0 0, .int .u8 0], []⟩).memory Tryz.f5.params.toList Rows.updateOnesSpec.vars false (#[.slice none 0 0, .slice none 0 0, .int .u8 0] : Array Value).toList 8 = some ([.nil, .nil, .lit (.int .u8 0)], [], places) :=
  ⟨[], by kernel_rfl⟩
theorem lifted (os : Os) (started : os.Started) (H : Type) (enc : TypeId × Value → H) (F : Stop.Interp) :
    ReturnsInHanded {} Tryz.checked os 5 .any ((Rows.OpenSpec.upto Rows.updateOnesSpec).preRow enc Tryz.prog Tryz.f5 Rows.updateOnesUptoRow.domain false Rows.updateOnesUptoRow.laid) (((Rows.OpenSpec.upto Rows.updateOnesSpec).at F).post enc Tryz.prog Tryz.f5 false true false false) := by
  obtain ⟨places, hx⟩ := reads os enc
  refine returnsInHanded_of_row (C := Tryz.checked) (s := Rows.OpenSpec.upto Rows.updateOnesSpec) own started (by kernel_rfl) Tryz.func5
    (witness_row_at (enc := enc) (C := Tryz.checked) false (laidWorld os) #[.slice none 0 0, .slice none 0 0, .int .u8 0] rfl (by kernel_rfl) (by kernel_rfl) (by kernel_rfl)
      (OpenSpec.preRow_of_cond 8 hx (by kernel_rfl) (fun k hk => by cases hk; kernel_rfl) (by kernel_rfl) (laid_met os))) ?_
  intro W base args ds gs before hval0 hW _ hcond hsz0 hL _ _
  rw [MakeChecks.laidMetH_plain _ _ _ (by kernel_rfl)] at hL
  have hT : Tabs W := tabs_of hL
  have hk : Rows.uptoSmall H (ds ++ gs) = true := hcond _ rfl
  have hval : ∀ (j : Nat) t v, Tryz.f5.params[j]? = some t → args[j]? = some v → Value.okWide Tryz.prog W .any base t v := hval0
  have hWw : DataW.Whole enc Tryz.prog Tryz.f5.params.toList Rows.updateOnesSpec.vars false W args.toList ds gs before := hW
  clear hW
  have hW := hWw
  obtain ⟨p, q, hA0, hV, rfl, hfz, hnd⟩ := hW
  have hW' := hWw
  have hA : DataW.TrodAll enc Tryz.prog W 0 (fun _ => true) true Tryz.f5.params.toList args.toList ds p := hA0
  rw [Tryz.params5] at hA hval
  obtain ⟨v0, vs0, d0, ds0, p0, q0, hargs, rfl, rfl, h0, r0⟩ := trodAll_cons hA
  obtain ⟨v1, vs1, d1, ds1, p1, q1, rfl, rfl, rfl, h1, r1⟩ := trodAll_cons r0
  obtain ⟨v2, vs2, d2, ds2, p2, q2, rfl, rfl, rfl, h2, r2⟩ := trodAll_cons r1
  obtain ⟨rfl, rfl, rfl⟩ := trodAll_nil r2
  obtain rfl : args = #[v0, v1, v2] := by cases args; simp_all
  obtain ⟨rfl, rfl⟩ := trodVars_none hV
  have k0 := h0
  have lt0 : ∀ x ∈ p0, x.block < W.heap.size := by obtain ⟨m, hm⟩ := k0; exact DataW.trod_lt m _ _ _ hm
  have k1 := h1
  have lt1 : ∀ x ∈ p1, x.block < W.heap.size := by obtain ⟨m, hm⟩ := k1; exact DataW.trod_lt m _ _ _ hm
  have k2 := h2
  have lt2 : ∀ x ∈ p2, x.block < W.heap.size := by obtain ⟨m, hm⟩ := k2; exact DataW.trod_lt m _ _ _ hm
  clear hA0 hval0
  obtain ⟨la, ln, lc, rfl⟩ := okWide_slice Tryz.underlying57 (hval 0 57 _ rfl rfl)
  obtain ⟨lb, lm, ld, rfl⟩ := okWide_slice Tryz.underlying26 (hval 1 26 _ rfl rfl)
  obtain ⟨wh, rfl, rfl, rfl, hwf⟩ := open_int Tryz.underlying5 (hval 2 5 _ rfl rfl) h2
  have hr : 0 ≤ wh ∧ wh ≤ 255 := by simpa [Lit.wf, IntKind.min, IntKind.max, IntKind.signed, IntKind.bits] using hwf
  obtain ⟨kk, rfl⟩ := Int.eq_ofNat_of_zero_le hr.1
  obtain ⟨fl, hfl⟩ := h0
  obtain ⟨A, c, acs, hle, hR, hQ, hlen⟩ := acs_open hfl (upto_small hk (by simp))
  obtain ⟨fm, hfm⟩ := h1
  obtain ⟨A', c', xs, hlf, hR', hQ', hlen'⟩ := ops_open hfm (upto_small hk (by simp))
  simp [Value.cells] at hle hlf
  obtain ⟨rfl, rfl, rfl⟩ := hle
  obtain ⟨rfl, rfl, rfl⟩ := hlf
  refine (onesU_calls (R := fun e W' => e = .returned (.bool true) ∧ Below W.heap.size W W') acs hR hQ hlen xs hR' hQ' hlen' (kk := kk) (by omega) hT fun w' hb => ⟨rfl, hb⟩).mono fun e W' ⟨he, bel⟩ => ?_
  subst he
  exact ⟨_, rfl, _, _, _, [], _, [], hW', trodAll_mk1 (shut_bool Tryz.underlying4 _), (trodAll_cons_mk (Below.trod laidOut (by kernel_rfl) (of_decide_eq_true (by kernel_rfl)) k0 bel lt0) (trodAll_cons_mk (Below.trod laidOut (by kernel_rfl) (of_decide_eq_true (by kernel_rfl)) k1 bel lt1) (trodAll_cons_mk (Below.trod laidOut (by kernel_rfl) (of_decide_eq_true (by kernel_rfl)) k2 bel lt2) trodAll_mk0))), rfl, bel.frame _, fun h => by cases h⟩
theorem said : Rows.UpdateOnesUptoSaid :=
  OpenClaim.holds_of_cond 5 Tryz.f5 rfl rfl rfl rfl rfl rfl rfl ⟨rfl, rfl, rfl, rfl, rfl⟩ rfl rfl rfl rfl rfl (by kernel_rfl) Tryz.func5 (by kernel_rfl)
    (of_decide_eq_true (by kernel_rfl)) (by unfold Func.isWrapper; first | (rw [if_neg (of_decide_eq_false (by kernel_rfl))]; exact ⟨rfl, rfl⟩) | (rw [if_pos (of_decide_eq_true (by kernel_rfl))]; kernel_rfl))
    (fun os started H enc _ F => by rw [OpenClaim.pre_eq_preRow]; exact lifted os started H enc F)
theorem plain (f : FuncId) (fn : Func) (hf : Tryz.pinned.checked.prog.funcNamed "espalier/espalierlaw17.UpdateOnes" = some f) (hfn : Tryz.pinned.checked.prog.funcs[f]? = some fn) :
    false = Tryz.pinned.checked.prog.looks [] ∧ ∀ (j : Nat) t, fn.params[j]? = some t → Tryz.pinned.checked.prog.wantsStandIn t = false := by
  obtain rfl : f = 5 := Option.some.inj ((show Tryz.prog.funcNamed "espalier/espalierlaw17.UpdateOnes" = some 5 by kernel_rfl).symm.trans hf) |>.symm
  obtain rfl : fn = Tryz.f5 := (Option.some.inj (Tryz.func5.symm.trans hfn)).symm
  refine ⟨by kernel_rfl, fun j t ht => ?_⟩
  have hm : t ∈ Tryz.f5.params.toList := by simpa using Array.mem_of_getElem? ht
  have hall : (Tryz.f5.params.toList.all fun u => !Tryz.prog.wantsStandIn u) = true := by kernel_rfl
  exact (show Tryz.prog.wantsStandIn t = false by simpa using List.all_eq_true.1 hall t hm)
end Go.Proofs.YtnbgiacnbheonaaGreatDoor.updateOnes
namespace Go.Proofs.YtnbgiacnbheonaaGreatDoor
open Go.ChangeShapes Go.WideShapes Go.ChangeAt Go.RowKit Go.Joins Go.Lib
theorem updateOnes_holds : Rows.UpdateOnesUptoCardSaid :=
  Claim7.holds_tied_plain_at .later [] _ _ _ _ updateOnes.said (fun _ h => by cases h) (by kernel_rfl) (fun _ h => by cases h) updateOnesUpto_row_tie rfl ⟨rfl, rfl⟩ (by kernel_rfl) rfl updateOnes.plain (by kernel_rfl)
#print axioms updateOnes_holds
end Go.Proofs.YtnbgiacnbheonaaGreatDoor
