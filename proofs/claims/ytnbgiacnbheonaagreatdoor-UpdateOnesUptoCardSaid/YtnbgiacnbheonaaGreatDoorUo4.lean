/- UpdateOnes: a list of edits comes to the same when they are made one by one, and when two that stand beside one another in unlike phases change places. -/
import Derived.Test.YtnbgiacnbheonaaGreatDoorProg
import Derived.Test.YtnbgiacnbheonaaGreatDoorUo3
namespace Go.Proofs.YtnbgiacnbheonaaGreatDoor
open Go.RowKit Go.Vc
set_option linter.unusedVariables false
set_option linter.unusedSimpArgs false
set_option maxRecDepth 100000
structure RW (opn:List Nat) (w:Wd) (g:Nat) (D:Im) (vs vr:Sv) (es:List S8):Prop where
 c0:w.cell? ⟨g,0,none⟩=some (.slice vs.1 vs.2.1 vs.2.2)
 c1:w.cell? ⟨g,1,none⟩=some (.slice vr.1 vr.2.1 vr.2.2)
 en:vs.2.1=es.length
 rd:Rd LS8 w vs.1 vs.2.2 es
 len:es.length=D.sl.length
 few:D.sl.length<=4096
 el:∀(i:Nat) (s:Sl) (e:S8),D.sl[i]?=some s->es[i]?=some e->RSb w s e/\(i∉opn->RR LHn w s.kids e.kids)
 roots:RR LHn w D.roots vr
 ok:∀s∈D.sl,SlOk s
 rok:∀h∈D.roots,h<18446744073709551616
section
variable {ok ok1:Nat->Bool}{opn:List Nat}{w w1:Wd}{g:Nat}{D:Im}{vs vr:Sv}{es:List S8}{M:Nat->Prop}{R:RT}
theorem RW.sub (hs:Sub w w1) (h:RW opn w g D vs vr es):RW opn w1 g D vs vr es:=
 ⟨hs.cell h.c0,hs.cell h.c1,h.en,hs.rd h.rd,h.len,h.few,fun i s e h1 h2=>by obtain⟨a,b⟩:=h.el i s e h1 h2;exact⟨a.sub hs,fun hi=>(b hi).sub hs⟩,h.roots.sub hs,h.ok,h.rok⟩
theorem RW.keep (h:RW opn w g D vs vr es) (hb:Below w.heap.size w w1):RW opn w1 g D vs vr es:=h.sub (sub_below hb)
theorem vx_of:Sub (vx ok g vs w) w:=sub_of_only
theorem RO.re (h:RO ok opn w g D vs vr es):RW opn w g D vs vr es:=
 ⟨h.c0,h.c1,h.rd.1,h.rd.2,h.len,h.few,fun i s e h1 h2=>by obtain⟨a,b⟩:=h.el i s e h1 h2;exact⟨a.sub vx_of,fun hi=>(b hi).sub vx_of⟩,h.roots.sub vx_of,h.ok,h.rok⟩
theorem RM.re (h:RM ok w g D vs vr):∃es,RW [] w g D vs vr es:=by
 have h2:=h.rdr
 obtain⟨es,e1,e2,e3⟩:=h2.im.row
 have hl:=e3.len
 refine⟨es,h2.c0,h2.c1,e1,e2,hl,h.few,fun i s e hs he=>?_,h2.im.roots,h2.im.ok,h2.im.rok⟩
 obtain⟨hi,hs⟩:=gsi.1 hs
 obtain⟨hi',he⟩:=gsi.1 he
 have:=e3.get i hi hi'
 rw [hs,he] at this
 exact⟨⟨this.gen,this.live,this.kind,this.nm,this.text,this.parent,this.ats⟩,fun _=>this.kids⟩
theorem RW.n (h:RW opn w g D vs vr es):vs.2.1=D.sl.length:=by rw [h.en,h.len]
theorem RW.e8 (h:RW opn w g D vs vr es) {k:Nat} (hk:k<D.sl.length):∃e,es[k]?=some e:=⟨_,gge (by rw [h.len];exact hk)⟩
theorem RW.slot (h:RW opn w g D vs vr es) {i:Int}{k:Nat} (hi:i=k) (hk:k<D.sl.length) {K:Addr->Prop}
  (hK:∀b o e,es[k]?=some e->RSb w D.sl[k] e->(k∉opn->RR LHn w D.sl[k].kids e.kids)->w.cell? ⟨b,o,none⟩=some (.int .u32 (D.sl[k].gen:Nat))->w.cell? ⟨b,o+1,none⟩=some (.bool D.sl[k].live)->w.cell? ⟨b,o+2,none⟩=some (.int .i64 D.sl[k].kind) ->
   w.cell? ⟨b,o+4,none⟩=some (.slice e.ats.1 e.ats.2.1 e.ats.2.2)->w.cell? ⟨b,o+6,none⟩=some (.int .u64 (D.sl[k].parent:Nat))->w.cell? ⟨b,o+7,none⟩=some (.slice e.kids.1 e.kids.2.1 e.kids.2.2)->K ⟨b,o,none⟩):IdxA vs.1 vs.2.1 i 8 K:=by
 obtain⟨e,he⟩:=h.e8 hk
 obtain⟨b1,b2⟩:=h.el k _ e (gge hk) he
 obtain⟨hk',he'⟩:=gsi.1 he
 refine h.rd.s8 h.en hi hk' fun b o c0 c1 c2 c3 c4 c5 c6 c7=>?_
 rw [he'] at c0 c1 c2 c3 c4 c5 c6 c7
 exact hK b o e he b1 b2 (by rw [c0,b1.gen]) (by rw [c1,b1.live]) (by rw [c2,b1.kind]) c4 (by rw [c6,b1.parent]) c7
theorem RW.slotH {S:Wd->Prop} (h:RW opn w g D vs vr es) (hS:∀w1,S w1->Below w.heap.size w w1) {i:Int}{k:Nat} (hi:i=k) (hk:k<D.sl.length) {K:Addr->Prop}
  (hK:∀b o e,es[k]?=some e->RSb w D.sl[k] e->(k∉opn->RR LHn w D.sl[k].kids e.kids)->Held S ⟨b,o,none⟩ (.int .u32 (D.sl[k].gen:Nat))->Held S ⟨b,o+2,none⟩ (.int .i64 D.sl[k].kind) ->
   Held S ⟨b,o+6,none⟩ (.int .u64 (D.sl[k].parent:Nat))->Held S ⟨b,o+7,none⟩ (.slice e.kids.1 e.kids.2.1 e.kids.2.2)->K ⟨b,o,none⟩):IdxA vs.1 vs.2.1 i 8 K:=by
 subst hi
 obtain⟨e,he⟩:=h.e8 hk
 obtain⟨b1,b2⟩:=h.el k _ e (gge hk) he
 obtain⟨hk',he'⟩:=gsi.1 he
 have hen:=h.en
 refine h.rd.held hS h.en om om rfl fun b o hc=>?_
 simp only [tnc] at hc
 rw [he'] at hc
 have c0:=hc 0 _ rfl
 have c2:=hc 2 _ rfl
 have c6:=hc 6 _ rfl
 have c7:=hc 7 _ rfl
 exact hK b o e he b1 b2 (by rw [<-b1.gen];exact c0) (by rw [<-b1.kind];exact c2) (by rw [<-b1.parent];exact c6) c7
theorem handleW (h:RW opn w g D vs vr es) {i:Nat} (hi:i<D.sl.length) (hK:R (.returned (.int .u64 (hnd D.sl[i].gen i:Nat))) w):CL 125 #[.pointer (some ⟨g,0,none⟩),.int .i64 (i:Nat)] w R:=by
 have hlen:=h.few
 have hg:=(h.ok _ (gem hi)).gen
 refine ok125 (some ⟨g,0,none⟩) i ?_
 unfold F125
 simp only [NonNil_some,h.c0,lds]
 refine h.slot rfl hi fun b o e _ _ _ c0 _ _ _ _ _=>?_
 simp only [c0,lds]
 have e1:((D.sl[i].gen:Nat):Int)*(2 ^ (min ((32:Int)).toNat 64))=((D.sl[i].gen*4294967296:Nat):Int):=by simp
 have e2:(i:Int)+1=((i+1:Nat):Int):=by omega
 rw [e1,e2,bOr_hnd hg om]
 exact⟨inR_u64 om om,inR_u64 om om,inR_i64 om om,inR_u64 om om,hK⟩
theorem atW (h:RW opn w g D vs vr es) {x:Nat} (hx:x<18446744073709551616) (hK:R (.returned (.int .i64 (atI (atF D.sl x)))) w):CL 89 #[.pointer (some ⟨g,0,none⟩),.int .u64 (x:Nat)] w R:=by
 have hlen:=h.few
 have hn:=h.n
 refine ok89 (some ⟨g,0,none⟩) x ?_
 unfold F89
 have hm:(x:Int).tmod 4294967296=((x % 4294967296:Nat):Int):=by rw [Int.tmod_eq_emod_of_nonneg om];rfl
 rw [hm]
 have hlt:x % 4294967296<4294967296:=Nat.mod_lt _ dc
 unfold atF at hK
 refine⟨inR_i64 om om,inR_i64 om om,fun w'=>w=w'/\atF D.sl x=some (x % 4294967296-1)/\0<x % 4294967296,?_,?_⟩
 ·rintro _ ⟨rfl,ha,h0⟩
  unfold F89_j4
  unfold atF at ha
  rw [ha] at hK
  rw [hm,show ((x % 4294967296:Nat):Int)-1=((x % 4294967296-1:Nat):Int) by omega]
  exact hK
 ·refine brd (fun h0=>?_) (fun h0=>?_)
  ·rw [if_pos om] at hK;exact hK
  rw [if_neg om] at hK
  simp only [NonNil_some,h.c0,lds]
  have e1:((x % 4294967296:Nat):Int)-1=((x % 4294967296-1:Nat):Int):=by omega
  have hpos:0<x % 4294967296:=by omega
  refine brd (fun h1=>?_) (fun h1=>?_)
  ·rw [List.getElem?_eq_none om] at hK;exact hK
  have hk:x % 4294967296-1<D.sl.length:=by omega
  rw [gge hk] at hK
  simp only at hK
  refine h.slot e1 hk fun b o e _ _ _ c0 c1 c2 c4 c6 c7=>?_
  simp only [c1,lds]
  rw [brnot]
  refine br (fun hl=>?_) (fun hl=>?_)
  ·rw [e1]
   refine handleW h hk ⟨_,rfl,?_⟩
   refine brn (fun hne=>?_) (fun he=>?_)
   ·rw [if_neg (by rintro ⟨-,h3⟩;exact hne (by rw [h3]))] at hK
    exact hK
   ·have h3:hnd D.sl[x % 4294967296-1].gen (x % 4294967296-1)=x:=by omega
    refine⟨rfl,?_,hpos⟩
    unfold atF
    rw [if_neg om,gge hk]
    simp only
    rw [if_pos ⟨hl,h3⟩]
  ·rw [if_neg (by rintro ⟨h3,-⟩;rw [hl] at h3;cases h3)] at hK
   exact hK
theorem atF_isSome {sl:List Sl}{x:Nat}:(atF sl x).isSome=(slA sl x).isSome:=by
 cases h:slA sl x with
 | none=>rw [atF_none.2 h];rfl
 | some s=>
  obtain⟨k,h1,_⟩:=atF_slA h
  rw [h1];rfl
theorem liveW (h:RW opn w g D vs vr es) {x:Nat} (hx:x<18446744073709551616) (hK:R (.returned (.bool (slA D.sl x).isSome)) w):CL 95 #[.pointer (some ⟨g,0,none⟩),.int .u64 (x:Nat)] w R:=by
 rw [<-atF_isSome] at hK
 refine ok95 (some ⟨g,0,none⟩) x ?_
 unfold F95
 refine atW h hx ⟨_,rfl,?_⟩
 cases ha:atF D.sl x with
 | none=>rw [ha] at hK;exact hK
 | some k=>rw [ha] at hK;rw [show decide (atI (some k)≥0)=true from det (by simp [atI])];exact hK
theorem slA_get {sl:List Sl}{x:Nat}{s:Sl} (hs:slA sl x=some s):∃k,atF sl x=some k/\∃hk:k<sl.length,sl[k]=s/\x % 4294967296=k+1/\x≠0:=by
 obtain⟨k,h1,h2⟩:=atF_slA hs
 obtain⟨hk,h2⟩:=gsi.1 h2
 obtain⟨_,_,_,h3⟩:=atF_some h1
 refine⟨k,h1,hk,h2,om,fun e=>?_⟩
 subst e;rw [slA_zero] at hs;cases hs
theorem listW {w0:Wd} (h:RW opn w0 g D vs vr es) (hb0:Below w0.heap.size w0 w) {x:Nat} (hx:x<18446744073709551616) (hl:x=0\/∃s,slA D.sl x=some s/\x % 4294967296-1∉opn)
  (hK:∀v w',Below w.heap.size w w'->RR LHn w0 (lstI D x) v->(x=0->v=vr)->(∀(e:S8),x≠0->es[x % 4294967296-1]?=some e->v=e.kids)->R (.returned (.slice v.1 v.2.1 v.2.2)) w'):CL 126 #[.pointer (some ⟨g,0,none⟩),.int .u64 (x:Nat)] w R:=by
 refine ok126 (some ⟨g,0,none⟩) x ?_
 unfold F126
 have hn:=h.keep hb0
 refine bre (fun h1=>?_) (fun h1=>?_)
 ·have h0:x=0:=by omega
  subst h0
  simp only [NonNil_some,hn.c1,lds]
  exact hK vr w (.refl _ _) (by unfold lstI;rw [lstA_zero];exact h.roots) (fun _=>rfl) fun e h0=>absurd rfl h0
 ·rcases hl with rfl | ⟨s,hs,ho⟩
  ·exact absurd rfl h1
  obtain⟨k,ha,hk,hsk,hm,hx0⟩:=slA_get hs
  have hd:Below w.heap.size w w.drew:=(Below.refl _ _).drew
  refine⟨fun w'=>Below w.heap.size w w',hd,?_⟩
  rw [NonNil_some]
  refine⟨_,_,_,fun w' hb=>(hn.keep hb).c0,?_⟩
  refine atW (hn.keep hd) hx ⟨_,rfl,hd,?_⟩
  rw [ha]
  refine hn.slotH (fun w1 h1=>h1) (show atI (some k)=k from rfl) hk fun b o e he _ _ _ _ _ c7=>⟨_,_,_,c7,?_⟩
  have hkk:x % 4294967296-1=k:=by omega
  rw [hkk] at ho
  obtain⟨b1,b2⟩:=h.el k _ e (gge hk) he
  have b2:=b2 ho
  rw [hsk] at b2
  exact hK e.kids _ hd (by unfold lstI;rw [lstA_some hx0 hs];exact b2) (fun e=>absurd e hx0) fun e' _ he'=>by rw [hkk,he] at he';cases he';rfl
theorem findW {l:List Nat}{v:Sv}{x:Nat} (hv:RR LHn w l v) (hm:x∈l) (hK:R (.returned (.int .i64 (l.idxOf x:Nat))) w):CL 127 #[.slice v.1 v.2.1 v.2.2,.int .u64 (x:Nat)] w R:=by
 obtain⟨z0,z1,z2⟩:=hv
 refine ok127 v.1 v.2.1 v.2.2 x ?_
 unfold F127
 have hlt:=ioi.2 hm
 refine⟨fun i w'=>w=w'/\∃m:Nat,i=m/\m<=l.idxOf x,fun i _=>l.length-i.toNat,⟨rfl,0,rfl,Nat.zero_le _⟩,?_⟩
 rintro i _ ⟨rfl,m,rfl,hm2⟩
 unfold F127_l2
 refine brd (fun h1=>?_) (fun h1=>absurd om h1)
 have hml:m<l.length:=by omega
 refine z2.hn z1 rfl hml fun b o c=>?_
 simp only [c,lds]
 refine bre (fun h2=>?_) (fun h2=>?_)
 ·have h2:l[m]=x:=by omega
  have h3:l.idxOf x=m:=by
   have h4:¬m<l.idxOf x:=fun h5=>by
    have:=List.not_of_lt_findIdx (p:=fun y=>y == x) (xs:=l) h5
    rw [h2] at this;simp at this
   omega
  rw [<-h3];exact hK
 ·have h3:m≠l.idxOf x:=fun e=>h2 (by
   have:=List.getElem_idxOf hlt
   subst e;rw [this])
  exact⟨inR_i64 om om,⟨trivial,m+1,om,om⟩,odz⟩
theorem levelW (h:RW opn w g D vs vr es) {p c:Nat} (hc:Ch (slA D.sl) p c) (hc2:c<=64) (hp:p<18446744073709551616) (hK:∀w',Below w.heap.size w w'->R (.returned (.int .i64 ((c:Nat)-1))) w'):CL 70 #[.pointer (some ⟨g,0,none⟩),.int .u64 (p:Nat)] w R:=by
 refine ok70 (some ⟨g,0,none⟩) p ?_
 unfold F70
 refine⟨fun x i w'=>∃(q d:Nat),x=(q:Nat)/\q<18446744073709551616/\Ch (slA D.sl) q d/\d<=c/\i=(c:Nat)-1-(d:Nat)/\Below w.heap.size w w',fun x i w'=>((c:Nat)-i).toNat,⟨p,c,rfl,hp,hc,nlr _,om,.refl _ _⟩,?_⟩
 rintro x i w2 ⟨q,d,rfl,hq,hd,hdc,rfl,hb⟩
 unfold F70_l2
 have hn:=h.keep hb
 cases hd with
 | zero=>
  refine brn (fun h0=>absurd rfl h0) (fun _=>?_)
  simpa using hK w2 hb
 | @succ q d s hq0 ha h3=>
  refine brn (fun _=>?_) (fun h0=>absurd om hq0)
  obtain⟨k,k1,hk,k2,_⟩:=slA_get ha
  have hdr:Below w2.heap.size w2 w2.drew:=(Below.refl _ _).drew
  have hpar:=(h.ok _ (gem hk)).parent
  refine⟨inR_i64 om om,fun w'=>Below w2.heap.size w2 w',hdr,?_⟩
  rw [NonNil_some]
  refine⟨_,_,_,fun w' hb=>(hn.keep hb).c0,?_⟩
  refine atW (hn.keep hdr) hq ⟨_,rfl,hdr,?_⟩
  rw [k1]
  refine hn.slotH (fun w1 h1=>h1) (show atI (some k)=k from rfl) hk fun b o e he _ _ _ _ c6 _=>⟨_,c6,?_⟩
  rw [k2] at hpar |-
  exact⟨⟨s.parent,d,rfl,hpar,h3,om,om,btr hb hb.size hdr⟩,odz⟩
theorem withinW (h:RW opn w g D vs vr es) {n x c:Nat}{s:Sl} (hn:slA D.sl n=some s) (hc:Ch (slA D.sl) x c) (hc2:c<=64) (hx:x≠0) (hxl:x<18446744073709551616)
  (hK:∀w',Below w.heap.size w w'->R (.returned (.bool (wiI D n x))) w'):CL 96 #[.pointer (some ⟨g,0,none⟩),.int .u64 (x:Nat),.int .u64 (n:Nat)] w R:=by
 refine ok96 (some ⟨g,0,none⟩) x n ?_
 unfold F96
 have hn0:n≠0:=fun e=>by subst e;rw [slA_zero] at hn;cases hn
 refine⟨fun n2 w'=>Below w.heap.size w w'/\∃q:Nat,n2=(q:Nat)/\(wiI D n x=true↔q=n),?_,?_⟩
 ·rintro n2 w2 ⟨hb,q,rfl,he⟩
  unfold F96_j3
  have e:((q:Int) == (n:Int))=wiI D n x:=by
   rw [Bool.eq_iff_iff,he,beq_iff_eq];omega
  rw [e];exact hK w2 hb
 ·refine⟨fun n2 w'=>Below w.heap.size w w'/\∃q d r:Nat,n2=(q:Nat)/\q<18446744073709551616/\Ch (slA D.sl) q d/\d<r/\r<=65/\wiB (slA D.sl) r n q=wiI D n x,fun n2 w'=>cntF (slA D.sl) 65 n2.toNat,⟨.refl _ _,x,c,65,rfl,hxl,hc,om,om,rfl⟩,?_⟩
  rintro n2 w2 ⟨hb,q,d,r,rfl,hql,hq,hr,hr2,he⟩
  have hcq:=cnt_ch hq 65 om om
  unfold F96_l1
  refine⟨fun w'=>w2=w'/\q≠0/\q≠n,?_,?_⟩
  ·rintro _ ⟨rfl,hq0,hqn⟩
   unfold F96_j2
   cases hq with
   | zero=>exact absurd rfl hq0
   | @succ _ d' t h0 ha h3=>
    obtain⟨k,k1,hk,k2,_⟩:=slA_get ha
    have hdr:Below w2.heap.size w2 w2.drew:=(Below.refl _ _).drew
    have hpar:=(h.ok _ (gem hk)).parent
    have hn2:=h.keep hb
    refine⟨fun w'=>Below w2.heap.size w2 w',hdr,?_⟩
    rw [NonNil_some]
    refine⟨_,_,_,fun w' hb=>(hn2.keep hb).c0,?_⟩
    refine atW (hn2.keep hdr) hql ⟨_,rfl,hdr,?_⟩
    rw [k1]
    refine hn2.slotH (fun w1 h1=>h1) (show atI (some k)=k from rfl) hk fun b o e he _ _ _ _ c6 _=>⟨_,c6,?_⟩
    rw [k2] at hpar |-
    obtain⟨r',rfl⟩:∃r',r=r'+1:=⟨r-1,om⟩
    refine⟨⟨btr hb hb.size hdr,t.parent,d',r',rfl,hpar,h3,om,om,?_⟩,?_⟩
    ·rw [<-he,wiB,if_neg hq0,if_neg hqn,ha]
    ·show cntF (slA D.sl) 65 (Int.toNat (t.parent:Nat))<cntF (slA D.sl) 65 (Int.toNat (q:Nat))
     rw [tnc,tnc,hcq,cnt_ch h3 65 om om];omega
  ·refine brn (fun h0=>?_) (fun h0=>?_)
   ·refine brn (fun h1=>⟨rfl,om,fun e=>h1 (by rw [e])⟩) (fun h1=>?_)
    have h1:q=n:=by omega
    refine⟨hb,q,rfl,?_⟩
    obtain⟨r',rfl⟩:∃r',r=r'+1:=⟨r-1,om⟩
    rw [<-he,wiB,if_neg om,if_pos h1]
    exact⟨fun _=>h1,fun _=>rfl⟩
   ·have h0:q=0:=by omega
    refine⟨hb,q,rfl,?_⟩
    obtain⟨r',rfl⟩:∃r',r=r'+1:=⟨r-1,om⟩
    rw [<-he,wiB,if_pos h0]
    exact⟨fun e=>(by cases e),fun e=>om⟩
theorem placeW (h:RW opn w g D vs vr es) {wh:Int}{a:Nat} (ha:a<18446744073709551616)
  (hK:∀w',Below w.heap.size w w'->R (.returned (.tuple #[.int .u64 ((placeF D wh a).1:Nat),.int .i64 (placeF D wh a).2])) w'):CL 67 #[.pointer (some ⟨g,0,none⟩),.int .i64 wh,.int .u64 (a:Nat)] w R:=by
 refine ok67 (some ⟨g,0,none⟩) wh a ?_
 unfold F67
 unfold placeF at hK
 have hdr:Below w.heap.size w w.drew:=(Below.refl _ _).drew
 refine⟨fun w'=>w=w'/\¬(wh<1\/4<wh\/(a=0/\2<wh)),?_,?_⟩
 ·rintro _ ⟨rfl,hsh⟩
  rw [if_neg hsh] at hK
  unfold F67_j3
  refine⟨fun w'=>w=w'/\(a=0\/∃s,slA D.sl a=some s),?_,?_⟩
  ·rintro _ ⟨rfl,hl⟩
   unfold F67_j5
   refine brd (fun h2=>?_) (fun h2=>?_)
   ·refine⟨fun w'=>Below w.heap.size w w'/\(a=0\/∃s,slA D.sl a=some s/\s.kind≠2),?_,?_⟩
    ·rintro w2 ⟨hb,hl2⟩
     unfold F67_j8
     rcases hl2 with rfl | ⟨s,hs,hk⟩
     ·simpa using hK w2 hb
     ·have h0:a≠0:=fun e=>by subst e;rw [slA_zero] at hs;cases hs
      rw [if_neg h0,hs] at hK
      simp only [if_pos h2,if_neg hk] at hK
      exact hK w2 hb
    ·refine⟨fun w'=>Below w.heap.size w w',hdr,?_⟩
     refine brn (fun h0=>?_) (fun h0=>⟨hdr,.inl om⟩)
     rcases hl with rfl | ⟨s,hs⟩
     ·exact absurd rfl h0
     obtain⟨k,k1,hk,k2,_,hx0⟩:=slA_get hs
     rw [NonNil_some]
     refine⟨_,_,_,fun w' hb=>(h.keep hb).c0,?_⟩
     refine atW (h.keep hdr) ha ⟨_,rfl,hdr,?_⟩
     rw [k1]
     refine h.slotH (fun w1 h1=>h1) (show atI (some k)=k from rfl) hk fun b o e he _ _ _ c2 _ _=>⟨_,c2,?_⟩
     rw [k2]
     refine bre (fun h3=>?_) (fun h3=>⟨hdr,.inr ⟨s,hs,h3⟩⟩)
     rw [if_neg hx0,hs] at hK
     simp only [if_pos h2,if_pos h3] at hK
     exact hK _ hdr
   ·rcases hl with rfl | ⟨s,hs⟩
    ·exact absurd (.inr (.inr ⟨rfl,om⟩)) hsh
    obtain⟨k,k1,hk,k2,_,hx0⟩:=slA_get hs
    refine⟨fun w'=>Below w.heap.size w w',hdr,?_⟩
    rw [NonNil_some]
    refine⟨_,_,_,fun w' hb=>(h.keep hb).c0,?_⟩
    refine atW (h.keep hdr) ha ⟨_,rfl,hdr,?_⟩
    rw [k1]
    refine h.slotH (fun w1 h1=>h1) (show atI (some k)=k from rfl) hk fun b o e he _ _ _ _ c6 _=>⟨_,c6,?_⟩
    rw [k2]
    rw [if_neg hx0,hs] at hK
    simp only [if_neg h2] at hK
    exact hK _ hdr
  ·refine brn (fun h0=>?_) (fun h0=>⟨rfl,.inl om⟩)
   have h0':a≠0:=by omega
   refine liveW h ha ⟨_,rfl,?_⟩
   rw [brnot]
   refine br (fun h1=>?_) (fun h1=>?_)
   ·exact⟨rfl,.inr (Option.isSome_iff_exists.1 h1)⟩
   ·have e9:slA D.sl a=none:=by
     cases h9:slA D.sl a with
     | none=>rfl
     | some s=>rw [h9] at h1;cases h1
    rw [if_neg h0',e9] at hK
    exact hK w (.refl _ _)
 ·refine brd (fun h1=>?_) (fun h1=>?_)
  ·rw [if_pos (.inl h1)] at hK;exact hK w (.refl _ _)
  refine brd (fun h2=>?_) (fun h2=>?_)
  ·rw [if_pos (.inr (.inl h2))] at hK;exact hK w (.refl _ _)
  refine bre (fun h3=>?_) (fun h3=>⟨rfl,om⟩)
  refine brd (fun h4=>?_) (fun h4=>⟨rfl,om⟩)
  rw [if_pos (.inr (.inr ⟨om,h4⟩))] at hK;exact hK w (.refl _ _)
theorem tk_take (l:List Sl) {k:Nat} (h:k<l.length):tk (l.take (k+1))=tk (l.take k)+if l[k].live || decide (4294967295<=l[k].gen) then 1 else 0:=by
 unfold tk
 rw [tsa h,List.filter_append,lap]
 congr 1
 cases hl:(l[k].live || decide (4294967295<=l[k].gen)) <;> simp [hl]
theorem takenW (h:RW opn w g D vs vr es) (hK:R (.returned (.int .i64 (tk D.sl:Nat))) w):CL 71 #[.pointer (some ⟨g,0,none⟩)] w R:=by
 have hlen:=h.few
 have hn:=h.n
 refine ok71 (some ⟨g,0,none⟩) ?_
 unfold F71
 refine⟨fun n i w'=>∃k:Nat,i=k/\k<=D.sl.length/\w'=w/\n=(tk (D.sl.take k):Nat),fun _ i _=>D.sl.length-i.toNat,⟨0,rfl,om,rfl,by simp [tk]⟩,?_⟩
 rintro n i w' ⟨k,rfl,hk,rfl,rfl⟩
 unfold F71_l3
 simp only [NonNil_some,h.c0,lds]
 have hle2:tk (D.sl.take k)<=D.sl.length:=nlt tk_le (by rw [ltk];omega)
 refine brd (fun hlt=>?_) (fun hge=>?_)
 ·have hk2:k<D.sl.length:=by omega
  have hs:=tk_take D.sl hk2
  refine⟨fun n2 w2=>w2=w'/\n2=(tk (D.sl.take (k+1)):Nat),?_,?_⟩
  ·rintro n2 w2 ⟨rfl,rfl⟩
   unfold F71_j4
   exact⟨inR_i64 om om,⟨k+1,sm,om,rfl,rfl⟩,odz⟩
  ·have hg:=(h.ok _ (gem hk2)).gen
   refine h.slot rfl hk2 fun b o e _ _ _ c0 c1 _ _ _ _=>?_
   simp only [c1,lds]
   refine br (fun hl=>?_) (fun hl=>?_)
   ·rw [if_pos (by rw [hl];rfl)] at hs
    exact⟨inR_i64 om om,trivial,om⟩
   ·refine h.slot rfl hk2 fun b o e _ _ _ c0 c1 _ _ _ _=>?_
    simp only [c0,lds]
    refine bre (fun hw=>?_) (fun hw=>?_)
    ·rw [if_pos (by rw [hl,Bool.false_or,dete];omega)] at hs
     exact⟨inR_i64 om om,trivial,om⟩
    ·rw [if_neg (by rw [hl,Bool.false_or,dete];omega)] at hs
     exact⟨trivial,om⟩
 ·have hk2:k=D.sl.length:=by omega
  subst hk2
  rw [tkl] at *;exact hK
end
section
variable {α:Type}{L:Lay α}{w w1:Wd}{e:TypeId}{q:Nat}
theorem Own.elA {v:Sv}{xs:List α} (hO:Own L w q e (slV v) xs) {i:Int}{k:Nat} (hi:i=k) (hk:k<xs.length) {sz:Nat} (hsz:sz=L.n) {K:Addr->Prop} (hK:∀b,rowOf (slV v)=some b->K ⟨b,k*L.n,none⟩):IdxA v.1 v.2.1 i sz K:=by
 subst hi hsz
 obtain⟨g,c,rest,rfl,hrow,_⟩:=hO.row1 om
 dsimp only
 rw [IdxA_some om om]
 simp only [Addr.add_mk,nza,tnc]
 exact hK g hrow
theorem Own.stc {v:Sv}{xs:List α}{k j:Nat}{x':α}{u:Value} (hO:Own L w q e (slV v) xs) (hk:k<xs.length) (hj:j<L.n) (hx:L.cells x'=(L.cells xs[k]).set j u) {b:Nat} (hb:rowOf (slV v)=some b) {K:Wd->Prop}
  (hK:∀w1,Own L w1 q e (slV v) (xs.set k x')->Fm (fun b=>rowOf (slV v)=some b) w w1->K w1):St w ⟨b,k*L.n+j,none⟩ u K:=by
 obtain⟨g,c,rest,rfl,hrow,hq,hB,hc1,hc2,hc3⟩:=hO.row1 om
 obtain rfl:g=b:=by rw [hrow] at hb;exact osi hb
 have hall:=L.all_length xs
 have hkn:k*L.n+L.n<=xs.length*L.n:=by rw [<-Nat.succ_mul];exact Nat.mul_le_mul_right _ hk
 have hcn:xs.length*L.n<=c*L.n:=Nat.mul_le_mul_right _ hc1
 refine st_blk hB (by rw [List.size_toArray,hc3];omega) fun w1 hB1 f1=>hK w1 ?_ (f1.mono fun b _ e=>by have e:b=g:=e;rw [hrow,e])
 have hset:(L.all xs++rest).set (k*L.n+j) u=L.all (xs.set k x')++rest:=by
  rw [L.all_set xs k _ hk]
  have h1:L.all xs=(L.all xs).take (k*L.n)++(L.cells xs[k]++(L.all xs).drop ((k+1)*L.n)):=by
   have h2:=L.all_set xs k xs[k] hk
   rw [List.set_getElem_self] at h2
   exact h2
  have hl:((L.all xs).take (k*L.n)).length=k*L.n:=by rw [ltk,hall];omega
  have hlc:(L.cells xs[k]).length=L.n:=L.len _
  show _=(L.all xs).take (k*L.n)++(L.cells x'++(L.all xs).drop ((k+1)*L.n))++rest
  generalize (L.all xs).drop ((k+1)*L.n)=dd at h1 |-
  generalize hpp:(L.all xs).take (k*L.n)=pp at h1 hl |-
  rw [h1,hx]
  simp only [laa]
  rw [List.set_append_right _ _ om,hl,show k*L.n+j-k*L.n=j by omega,List.set_append_left _ _ om]
 rw [List.setIfInBounds_toArray,hset] at hB1
 have hln:(xs.set k x').length=xs.length:=List.length_set
 have hO1:=Own.ofBlk (k:=q) (c:=c) hB1 hq (by rw [hln];exact hc1) om hc2 (by rw [<-hset,List.length_set,hc3])
 rw [hln] at hO1
 exact hO1
end
section
variable {ok ok1:Nat->Bool}{opn opn1:List Nat}{w w1:Wd}{g:Nat}{D:Im}{vs vr:Sv}{es:List S8}{M:Nat->Prop}{R:RT}
def Ed (g:Nat) (vs:Sv) (b:Nat):Prop:=b=g\/rowOf (slV vs)=some b
def NewRow (w:Wd) (vs vs1:Sv):Prop:=∀b,rowOf (slV vs1)=some b->rowOf (slV vs)=some b\/w.heap.size<=b
theorem NewRow.refl (w:Wd) (vs:Sv):NewRow w vs vs:=fun _ h=>.inl h
theorem NewRow.trans {w w1:Wd}{vs vs1 vs2:Sv} (h:NewRow w vs vs1) (k:NewRow w1 vs1 vs2) (hs:w.heap.size<=w1.heap.size):NewRow w vs vs2:=fun b hb=>by
 rcases k b hb with h1 | h1
 ·exact h b h1
 ·exact .inr om
theorem Ed.trans {w w1 w2:Wd}{vs vs1:Sv} (h:Fm (Ed g vs) w w1) (hr:NewRow w vs vs1) (k:Fm (Ed g vs1) w1 w2):Fm (Ed g vs) w w2:=
 ⟨k.os.trans h.os,k.tape.trans h.tape,k.output.trans h.output,nlt h.size k.size,fun b hb hn=>by
  rw [k.block b (by have:=h.size;omega) (fun e=>?_),h.block b hb hn]
  rcases e with e | e
  ·exact hn (.inl e)
  ·rcases hr b e with e | e
   ·exact hn (.inr e)
   ·omega⟩
theorem RO.put1 (h:RO ok opn w g D vs vr es) {k:Nat}{s':Sl}{e':S8} (hk:k<D.sl.length) (hO:Own LS8 w1 0 88 (slV vs) (es.set k e')) (hf:Fm (fun b=>rowOf (slV vs)=some b) w w1)
  (hq:RSb (vx ok g vs w) s' e') (hq2:k∉opn1->RR LHn (vx ok g vs w) s'.kids e'.kids) (hopn:∀i,i≠k->i∉opn1->i∉opn) (hok:SlOk s'):RO ok opn1 w1 g { D with sl:=D.sl.set k s' } vs vr (es.set k e'):=by
 have hsub:Sub (vx ok g vs w) (vx ok g vs w1):=vx_sub hf (fun b _ hb=>.inr (.inr hb)) (fun _ _ h=>h) (fun b hb=>.inl hb)
 have hl:=h.len
 refine⟨hf.blk h.blk fun e=>h.row g e rfl,hO,h.row,by simp [h.len],by simpa using h.few,fun i s e h1 h2=>?_,h.roots.sub hsub,fun s hs=>?_,h.rok⟩
 ·have h1:(D.sl.set k s')[i]?=some s:=h1
  rw [List.getElem?_set] at h1 h2
  by_cases e:k=i
  ·subst e
   rw [if_pos rfl,if_pos om] at h1 h2
   cases h1;cases h2
   exact⟨hq.sub hsub,fun hi=>(hq2 hi).sub hsub⟩
  ·rw [if_neg e] at h1 h2
   obtain⟨a,b⟩:=h.el i _ _ h1 h2
   exact⟨a.sub hsub,fun hi=>(b (hopn i (Ne.symm e) hi)).sub hsub⟩
 ·rcases List.mem_or_eq_of_mem_set hs with hs | rfl
  ·exact h.ok s hs
  ·exact hok
theorem RO.putR (h:RO ok opn w g D vs vr es) {l:List Nat}{v:Sv} (hB:Blk w1 g #[slV vs,slV v] 85) (hf:Fm (·=g) w w1) (hv:RR LHn (vx ok g vs w) l v) (hl:∀x∈l,x<18446744073709551616):RO ok opn w1 g { D with roots:=l } vs v es:=by
 have hsub:Sub (vx ok g vs w) (vx ok g vs w1):=vx_sub hf (fun b _ hb=>.inr (.inl hb)) (fun _ _ h=>h) (fun b hb=>.inl hb)
 exact⟨hB,own_fm h.own hf fun b hb e=>h.row b hb e,h.row,h.len,h.few,fun i s e h1 h2=>by obtain⟨a,b⟩:=h.el i s e h1 h2;exact⟨a.sub hsub,fun hi=>(b hi).sub hsub⟩,hv.sub hsub,h.ok,hl⟩
theorem RO.keep (h:RO ok opn w g D vs vr es) (hb:Below w.heap.size w w1):RO ok opn w1 g D vs vr es:=by
 have hsub:Sub (vx ok g vs w) (vx ok g vs w1):=vx_sub (M:=fun _=>False) (.below hb) (fun b _ hb=>hb.elim) (fun _ _ h=>h) (fun b hb=>.inl hb)
 exact⟨h.blk.keep hb,h.own.keep hb,h.row,h.len,h.few,fun i s e h1 h2=>by obtain⟨a,b⟩:=h.el i s e h1 h2;exact⟨a.sub hsub,fun hi=>(b hi).sub hsub⟩,h.roots.sub hsub,h.ok,h.rok⟩
theorem RO.kids_cells {e:S8}{v:Sv}:LS8.cells { e with kids:=v }=(LS8.cells e).set 7 (.slice v.1 v.2.1 v.2.2):=rfl
theorem RO.par_cells {e:S8}{p:Nat}:LS8.cells { e with parent:=p }=(LS8.cells e).set 6 (.int .u64 (p:Nat)):=rfl
theorem setW (h:RO ok opn w g D vs vr es) {p:Nat}{l:List Nat}{v:Sv} (hpl:p<18446744073709551616) (hp:p=0\/∃s,slA D.sl p=some s) (hv:RR LHn (vx ok g vs w) l v) (hl:∀x∈l,x<18446744073709551616)
  (hK:∀w' vr' es',RO ok opn w' g (setI D p l) vs vr' es'->Fm (Ed g vs) w w'->R (.returned (.tuple #[])) w'):CL 128 #[.pointer (some ⟨g,0,none⟩),.int .u64 (p:Nat),.slice v.1 v.2.1 v.2.2] w R:=by
 refine ok128 (some ⟨g,0,none⟩) p v.1 v.2.1 v.2.2 ?_
 unfold F128
 refine bre (fun h0=>?_) (fun h0=>?_)
 ·have h0:p=0:=by omega
  subst h0
  rw [NonNil_some]
  simp only [Addr.add_mk,nza]
  refine st_blk h.blk sm fun w1 b1 f1=>?_
  have b1:Blk w1 g #[slV vs,slV v] 85:=b1
  refine hK w1 v es ?_ (f1.mono fun b _ hb=>.inl hb)
  unfold setI;rw [if_pos rfl]
  exact h.putR b1 f1 hv hl
 ·rcases hp with rfl | ⟨s,hs⟩
  ·exact absurd rfl h0
  obtain⟨k,k1,hk,k2,k3,hx0⟩:=slA_get hs
  have hdr:Below w.heap.size w w.drew:=(Below.refl _ _).drew
  have hn:=h.re
  refine⟨fun w'=>Below w.heap.size w w',hdr,?_⟩
  rw [NonNil_some]
  refine⟨_,_,_,fun w' hb=>(hn.keep hb).c0,?_⟩
  refine atW (hn.keep hdr) hpl ⟨_,rfl,hdr,?_⟩
  rw [k1]
  have h1:=h.keep hdr
  obtain⟨e,he⟩:=hn.e8 hk
  obtain⟨hk',he'⟩:=gsi.1 he
  obtain⟨q1,q2⟩:=h1.el k s e (by rw [<-k2];exact gge hk) he
  have hsk:=h.ok _ (gem hk)
  refine h1.own.elA (show atI (some k)=k from rfl) hk' (show 8=LS8.n from rfl) fun b hb=>?_
  simp only [Addr.add_mk]
  refine h1.own.stc hk' (x':={ es[k] with kids:=v }) dc RO.kids_cells hb fun w2 o2 f2=>?_
  have hv1:RR LHn (vx ok g vs w.drew) l v:=hv.sub (vx_sub (M:=fun _=>False) (.below hdr) (fun b _ hb=>hb.elim) (fun _ _ h=>h) (fun b hb=>.inl hb))
  rw [he'] at o2
  have h2:=h1.put1 (opn1:=opn) (s':={ s with kids:=l }) hk o2 f2 ⟨q1.gen,q1.live,q1.kind,q1.nm,q1.text,q1.parent,q1.ats⟩ (fun _=>hv1) (fun _ _ h=>h) ⟨by rw [<-k2];exact hsk.gen,by rw [<-k2];exact hsk.parent,hl⟩
  refine hK w2 vr (es.set k { e with kids:=v }) ?_ ((Fm.below hdr).trans (f2.mono fun b _ hb=>.inr hb))
  have e9:setI D p l={ D with sl:=D.sl.set k { s with kids:=l } }:=by
   unfold setI
   rw [if_neg hx0,show p % 4294967296-1=k by omega,modify_set _ _ _ s (by rw [<-k2];exact gge hk)]
  rw [e9];exact h2
end
section
variable {ok ok1:Nat->Bool}{opn opn1:List Nat}{w w1:Wd}{g:Nat}{D:Im}{vs vr:Sv}{es:List S8}{M:Nat->Prop}{R:RT}
theorem hnd_lt {sl:List Sl} (hok:∀s∈sl,SlOk s) (hf:sl.length<=4096) {x:Nat}{s:Sl} (hs:slA sl x=some s):x<18446744073709551616:=by
 obtain⟨k,k1,hk,k2,k3,_⟩:=slA_get hs
 obtain⟨_,_,h3,_⟩:=atF_some k1
 have hg:=(hok _ (gem hk)).gen
 unfold hnd at h3
 omega
theorem lst_lt (h:RO ok opn w g D vs vr es) (p:Nat):∀x∈lstI D p,x<18446744073709551616:=fun x hx=>by
 unfold lstI lstA at hx
 by_cases h0:p=0
 ·rw [if_pos h0] at hx;exact h.rok x hx
 ·rw [if_neg h0] at hx
  cases hs:slA D.sl p with
  | none=>rw [hs] at hx;simp at hx
  | some s=>
   rw [hs] at hx
   obtain⟨k,_,hk,k2,_⟩:=slA_get hs
   exact (h.ok s (by rw [<-k2];exact gem hk)).kids x hx
theorem own_vx {α:Type}{L:Lay α}{B:Nat} (h:RO ok opn w g D vs vr es) (hok:∀b,w.heap.size<=b->ok b=true) (hB:w.heap.size<=B) {e:TypeId}{A:OA}{n c:Nat}{xs:List α} (o:Own L w1 B e (.slice A n c) xs) (hl:xs.length<=1048576):RR L (vx ok g vs w1) xs (A,n,c):=by
 have ho:Own L (vx ok g vs w1) B e (.slice A n c) xs:=by
  rcases o with h1 | h1 | ⟨g',c',cur,hv,hb,hh,hn,hm,hs,ht⟩
  ·exact .inl h1
  ·exact .inr (.inl h1)
  ·refine .inr (.inr ⟨g',c',cur,hv,hb,cells_only (vx_iff.2 ⟨hok g' om,fun e=>?_,fun e=>?_⟩) hh,hn,hm,hs,ht⟩)
   ·have:=h.blk.lt;omega
   ·have:=(h.own.lt g' e).2;omega
 obtain⟨h1,h2⟩:=ho.rd
 exact⟨hl,h1,h2⟩
theorem outW (h:RO ok [] w g D vs vr es) (hok:∀b,w.heap.size<=b->ok b=true) {n:Nat}{s:Sl} (hn:slA D.sl n=some s) (hp:s.parent=0\/∃t,slA D.sl s.parent=some t) (hm:n∈lstI D s.parent) (hf:(lstI D s.parent).length<=4096)
  (hK:∀w' vr' es',RO ok [] w' g (outI D n) vs vr' es'->Fm (Ed g vs) w w'->R (.returned (.tuple #[])) w'):CL 98 #[.pointer (some ⟨g,0,none⟩),.int .u64 (n:Nat)] w R:=by
 have hnl:=hnd_lt h.ok h.few hn
 refine ok98 (some ⟨g,0,none⟩) n ?_
 unfold F98
 have hdr:Below w.heap.size w w.drew:=(Below.refl _ _).drew
 obtain⟨k,k1,hk,k2,k3,hx0⟩:=slA_get hn
 have hr:=h.re
 have hsk:=h.ok _ (gem hk)
 rw [k2] at hsk
 refine⟨fun w'=>Below w.heap.size w w',hdr,?_⟩
 rw [NonNil_some]
 refine⟨_,_,_,fun w' hb=>(hr.keep hb).c0,?_⟩
 refine atW (hr.keep hdr) hnl ⟨_,rfl,hdr,?_⟩
 rw [k1]
 refine hr.slotH (fun w1 h1=>h1) (show atI (some k)=k from rfl) hk fun b o e he _ _ _ _ c6 _=>⟨_,c6,?_⟩
 rw [k2]
 refine listW hr hdr hsk.parent (hp.imp id fun⟨t,ht⟩=>⟨t,ht,sm⟩) fun v w2 hb2 hv _ _=>⟨_,_,_,rfl,?_⟩
 have B2:=btr hdr hdr.size hb2
 have hv2:=hv.keep B2
 refine findW hv2 hm ⟨_,rfl,fun _=>True,trivial,?_⟩
 obtain⟨z0,z1,z2⟩:=hv2
 have hidx:=ioi.2 hm
 have hcap:=z2.1
 have hd3:Below w.heap.size w w2.drew:=B2.drew
 refine⟨om,om,om,inR_i64 om om,om,om,om,?_⟩
 refine al fun ga w3 hb3 _ _=>?_
 have B3:=btr hd3 hd3.size hb3
 rw [tnc]
 have rd3:Rd LHn w3 v.1 v.2.2 (lstI D s.parent):=hv.2.2.keep B3
 refine ap (L:=LHn) (e:=42) (xs:=[]) (ys:=(lstI D s.parent).take ((lstI D s.parent).idxOf n)) (base:=w.heap.size) (.int .u64 0) 8 (by rw [ltk];omega) kr kr kr (Own.bare _ _ _ _ _) (rd3.take _) B3.size (by simp;omega) (by simp [maxLen];omega) fun A4 c4 w4 o4 g4=>⟨A4,_,c4,rfl,?_⟩
 have B4:Below w.heap.size w w4:=B3.trans g4.below
 rw [lna] at o4
 have rd4:Rd LHn w4 v.1 v.2.2 (lstI D s.parent):=hv.2.2.keep B4
 have eN:(((lstI D s.parent).idxOf n:Nat):Int)+1=(((lstI D s.parent).idxOf n+1:Nat):Int):=by omega
 rw [eN,tnc,tnc]
 refine ap (L:=LHn) (e:=42) (xs:=(lstI D s.parent).take ((lstI D s.parent).idxOf n)) (ys:=(lstI D s.parent).drop ((lstI D s.parent).idxOf n+1)) (base:=w.heap.size) (.int .u64 0) 8 (by rw [ldp];omega) kr kr kr o4 (rd4.slice om) B4.size (by simp;omega) (by simp [maxLen];omega) fun A5 c5 w5 o5 g5=>⟨A5,_,c5,rfl,?_⟩
 have B5:Below w.heap.size w w5:=B4.trans g5.below
 rw [take_drop_erase hm] at o5
 have hlen5:((lstI D s.parent).erase n).length<=4096:=nlt List.length_erase_le hf
 have h5:=h.keep B5
 refine setW h5 (v:=(A5,_,c5)) hsk.parent hp (own_vx (h.keep (Below.refl _ _)) hok (nlr _) o5 om) (fun x hx=>lst_lt h _ x (List.mem_of_mem_erase hx)) fun w6 vr6 es6 h6 f6=>⟨rfl,?_⟩
 refine hK w6 vr6 es6 ?_ ((Fm.below B5).trans f6)
 unfold outI;rw [hn];exact h6
theorem putW (h:RO ok [] w g D vs vr es) (hok:∀b,w.heap.size<=b->ok b=true) {n p a:Nat}{wh:Int}{s:Sl} (h0:slA D.sl 0=none) (hn:slA D.sl n=some s) (hpl:p<18446744073709551616) (hp:p=0\/∃t,slA D.sl p=some t) (hf:(lstI D p).length<=4096) (ha:2<wh->a∈lstI D p)
  (hK:∀w' vr' es',RO ok [] w' g (updI (putI D n p wh a) n fun s=>{ s with parent:=p }) vs vr' es'->Fm (Ed g vs) w w'->R (.returned (.tuple #[])) w'):CL 73 #[.pointer (some ⟨g,0,none⟩),.int .u64 (n:Nat),.int .u64 (p:Nat),.int .i64 wh,.int .u64 (a:Nat)] w R:=by
 have hnl:=hnd_lt h.ok h.few hn
 have hr:=h.re
 refine ok73 (some ⟨g,0,none⟩) n p wh a ?_
 unfold F73
 refine listW hr (Below.refl _ _) hpl (hp.imp id fun⟨t,ht⟩=>⟨t,ht,sm⟩) fun v w2 B2 hv _ _=>⟨_,_,_,rfl,?_⟩
 have hv2:=hv.keep B2
 obtain⟨z0,z1,z2⟩:=hv2
 have hcap:=z2.1
 have hposle:posF wh a (lstI D p)<=(lstI D p).length:=by
  unfold posF
  split
  ·omega
  ·split
   ·exact List.idxOf_le_length
   ·split
    ·have:=ioi.2 (ha om);omega
    ·omega
 refine⟨fun k w'=>w2=w'/\k=(posF wh a (lstI D p):Nat),?_,?_⟩
 ·rintro k _ ⟨rfl,rfl⟩
  unfold F73_j9
  generalize hpos:posF wh a (lstI D p)=q at hposle |-
  refine al fun ga w3 hb3 _ _=>?_
  have B3:=btr B2 B2.size hb3
  refine⟨om,om,om,?_⟩
  rw [tnc]
  have rd3:Rd LHn w3 v.1 v.2.2 (lstI D p):=hv.2.2.keep B3
  refine ap (L:=LHn) (e:=42) (xs:=[]) (ys:=(lstI D p).take q) (base:=w.heap.size) (.int .u64 0) 8 (by rw [ltk];omega) kr kr kr (Own.bare _ _ _ _ _) (rd3.take _) B3.size (by simp;omega) (by simp [maxLen];omega) fun A4 c4 w4 o4 g4=>⟨A4,_,c4,rfl,?_⟩
  have B4:Below w.heap.size w w4:=B3.trans g4.below
  rw [lna] at o4
  refine al fun gn w5 hb5 bn5 _=>?_
  have B5:=btr B4 B4.size hb5
  have o5:=o4.keep hb5
  have rn5:Rd LHn w5 (some ⟨gn,0,none⟩) 1 [n]:=by
   refine⟨sm,by simp [maxLen],fun h0=>(by cases h0),fun _=>⟨gn,0,rfl,fun j u hj=>?_⟩⟩
   rw [LHn.all_one] at hj
   rw [bn5.cell];simpa [LHn] using hj
  refine ap (L:=LHn) (e:=42) (xs:=(lstI D p).take q) (ys:=[n]) (base:=w.heap.size) (.int .u64 0) 8 rfl kr kr kr o5 rn5 B5.size (by simp;omega) (by simp [maxLen];omega) fun A6 c6 w6 o6 g6=>⟨A6,_,c6,rfl,?_⟩
  have B6:Below w.heap.size w w6:=B5.trans g6.below
  have rd6:Rd LHn w6 v.1 v.2.2 (lstI D p):=hv.2.2.keep B6
  refine⟨om,om,om,?_⟩
  rw [tnc]
  refine ap (L:=LHn) (e:=42) (xs:=(lstI D p).take q++[n]) (ys:=(lstI D p).drop q) (base:=w.heap.size) (.int .u64 0) 8 (by rw [ldp];omega) kr kr kr o6 (rd6.slice om) B6.size (by simp;omega) (by simp [maxLen];omega) fun A7 c7 w7 o7 g7=>⟨A7,_,c7,rfl,?_⟩
  have B7:Below w.heap.size w w7:=B6.trans g7.below
  have eI:(lstI D p).take q++[n]++(lstI D p).drop q=insAt (lstI D p) q n:=by unfold insAt;simp
  rw [eI] at o7
  have hlen7:(insAt (lstI D p) q n).length<=1048576:=by unfold insAt;simp;omega
  refine setW (h.keep B7) (v:=(A7,_,c7)) hpl hp (own_vx h hok (nlr _) o7 hlen7) (fun x hx=>?_) fun w8 vr8 es8 h8 f8=>⟨rfl,?_⟩
  ·rcases mem_insAt.1 hx with rfl | hx
   ·exact hnl
   ·exact lst_lt h _ x hx
  have eP:setI D p (insAt (lstI D p) q n)=putI D n p wh a:=by unfold putI;rw [hpos]
  rw [eP] at h8
  obtain⟨s8,hs8⟩:∃s8,slA (putI D n p wh a).sl n=some s8:=by
   rw [<-eP,(setI_A hp).1]
   obtain⟨t,ht,_⟩:=setA_of' (p:=p) (l:=insAt (lstI D p) q n) hn
   exact⟨t,ht⟩
  obtain⟨k,k1,hk,k2,k3,hx0⟩:=slA_get hs8
  have hr8:=h8.re
  have hd8:Below w8.heap.size w8 w8.drew:=(Below.refl _ _).drew
  refine⟨fun w'=>Below w8.heap.size w8 w',hd8,?_⟩
  rw [NonNil_some]
  refine⟨_,_,_,fun w' hb=>(hr8.keep hb).c0,?_⟩
  refine atW (hr8.keep hd8) hnl ⟨_,rfl,hd8,?_⟩
  rw [k1]
  have h9:=h8.keep hd8
  obtain⟨e,he⟩:=hr8.e8 hk
  obtain⟨hk',he'⟩:=gsi.1 he
  obtain⟨q1,q2⟩:=h9.el k s8 e (by rw [<-k2];exact gge hk) he
  have hsk:=h8.ok _ (gem hk)
  rw [k2] at hsk
  refine h9.own.elA (show atI (some k)=k from rfl) hk' (show 8=LS8.n from rfl) fun b hb=>?_
  simp only [Addr.add_mk]
  refine h9.own.stc hk' (x':={ es8[k] with parent:=p }) dc RO.par_cells hb fun w10 o10 f10=>?_
  rw [he'] at o10
  have h10:=h9.put1 (opn1:=[]) (s':={ s8 with parent:=p }) (e':={ e with parent:=p }) hk o10 f10 ⟨q1.gen,q1.live,q1.kind,q1.nm,q1.text,rfl,q1.ats⟩ (fun _=>q2 sm) (fun _ _ h=>h) ⟨hsk.gen,hpl,hsk.kids⟩
  refine hK w10 vr8 (es8.set k { e with parent:=p }) ?_ (((Fm.below B7).trans f8).trans ((Fm.below hd8).trans (f10.mono fun b _ hb=>.inr hb)))
  have e9:updI (putI D n p wh a) n (fun s=>{ s with parent:=p })={ putI D n p wh a with sl:=(putI D n p wh a).sl.set k { s8 with parent:=p } }:=by
   unfold updI
   rw [show n % 4294967296-1=k by omega,modify_set _ _ _ s8 (by rw [<-k2];exact gge hk)]
  rw [e9];exact h10
 ·unfold posF
  refine bre (fun h2=>⟨rfl,by rw [if_pos h2];omega⟩) (fun h2=>?_)
  refine bre (fun h3=>?_) (fun h3=>?_)
  ·refine findW (hv.keep B2) (ha om) ⟨_,rfl,rfl,?_⟩
   rw [if_neg h2,if_pos h3]
  refine bre (fun h4=>?_) (fun h4=>⟨rfl,by rw [if_neg h2,if_neg h3,if_neg h4];rfl⟩)
  have:=ioi.2 (ha om)
  refine findW (hv.keep B2) (ha om) ⟨_,rfl,inR_i64 om om,rfl,?_⟩
  rw [if_neg h2,if_neg h3,if_pos h4];omega
end
theorem kidsR_calls (e:E5) {w:Wd}{R:RT} (hK:∀w',Below w.heap.size w w'->R (.returned (slV (if e.kind=1 then e.kids else (none,0,0)))) w') :
  CL 123 #[.agg #[.int .i64 e.kind,.string e.nm,slV e.ats,.string e.text,slV e.kids]] w R:=by
 refine ok123 e.kind e.nm e.ats.1 e.ats.2.1 e.ats.2.2 e.text e.kids.1 e.kids.2.1 e.kids.2.2 ?_
 unfold F123
 refine al fun g4 w1 hb1 b4 hge4=>?_
 simp only [b4.cell,lds]
 refine bre (fun hk=>?_) (fun hk=>?_)
 ·rw [if_pos hk] at hK;exact hK w1 hb1
 ·rw [if_neg hk] at hK;exact hK w1 hb1
theorem own_kind {kind:Int}{nm:ByteArray}{l:List At}{t:ByteArray} (h:ownF kind nm l t=0):kind=1\/kind=2:=by
 unfold ownF at h
 by_cases h1:kind=1
 ·exact .inl h1
 ·by_cases h2:kind=2
  ·exact .inr h2
  ·simp [h1,h2] at h
theorem check_calls:∀(x:Tr) {w:Wd}{deep n:Nat}{e:E5}{R:RT},RTr w x e->n<=4096->deep<=65->1<=deep ->
  (∀w',Below w.heap.size w w'->R (.returned (.tuple #[.int .i64 ((lookF x deep n).1:Nat),.int .i64 (lookF x deep n).2])) w') ->
  CL 122 #[.agg #[.int .i64 e.kind,.string e.nm,slV e.ats,.string e.text,slV e.kids],.int .i64 (deep:Nat),.int .i64 (n:Nat)] w R:=by
 refine Tr.ind fun kind nm attrs text kids ih=>?_
 intro w deep n e R hT hn hd hd1 hK
 have hT0:=hT
 simp only [RTr] at hT
 obtain⟨t1,t2,t3,t4,t5,es,t6,t7,t8⟩:=hT
 have hel:=t8.len
 refine ok122 e.kind e.nm e.ats.1 e.ats.2.1 e.ats.2.2 e.text e.kids.1 e.kids.2.1 e.kids.2.2 (deep:Nat) (n:Nat) ?_
 unfold F122
 refine al fun g4 w1 hb1 b4 hge4=>?_
 have hlook:lookF (.mk kind nm attrs text kids) deep n=if 64<deep\/4096<=n then (n,2) else if ownF kind nm attrs text≠0 then (n,ownF kind nm attrs text) else if kind=2 then (n+1,0) else looksF kids (deep+1) (n+1):=by rw [lookF]
 refine⟨fun w'=>w1=w'/\¬(64<deep\/4096<=n),?_,?_⟩
 ·rintro _ ⟨rfl,hlim⟩
  rw [if_neg hlim] at hlook
  unfold F122_j3
  simp only [b4.cell,lds]
  refine own2_calls e.kind e.nm attrs e.ats e.text e.kids (t4.keep hb1) fun w2 hb2=>⟨_,rfl,?_⟩
  rw [t1,t2,t3]
  have b42:=b4.keep hb2
  have B2:=btr hb1 hb1.size hb2
  refine brn (fun hne=>?_) (fun heq=>?_)
  ·rw [if_pos hne] at hlook
   have:=hK w2 B2
   rw [hlook] at this;exact this
  have heq:ownF kind nm attrs text=0:=heq
  rw [if_neg (by rw [heq];simp)] at hlook
  simp only [b42.cell,lds]
  have e5:(n:Int)+1=((n+1:Nat):Int):=by omega
  rw [e5]
  refine⟨inR_i64 om om,?_⟩
  have hkk:=own_kind heq
  refine kidsR_calls e fun w3 hb3=>?_
  have B3:=btr B2 B2.size hb3
  rcases hkk with hk1 | hk2
  ·rw [if_pos om]
   rw [if_neg om] at hlook
   refine⟨_,_,_,rfl,?_⟩
   refine⟨fun n2 j w'=>∃k n':Nat,n2=n'/\j=k/\k<=kids.length/\Below w.heap.size w w'/\(looksF (kids.take k) (deep+1) (n+1)).2=0/\n'=(looksF (kids.take k) (deep+1) (n+1)).1/\n'<=4096,fun _ j _=>kids.length-j.toNat,
    ⟨0,n+1,rfl,rfl,om,B3,by simp [looksF],by simp [looksF],om⟩,?_⟩
   rintro n2 j w5 ⟨k,n5,rfl,rfl,hk5,B5,q1,q2,q4⟩
   unfold F122_l9
   have hr5:Rd LE5 w5 e.kids.1 e.kids.2.2 es:=t7.keep B5
   refine brd (fun hlt=>?_) (fun hge=>?_)
   ·have hk6:k<kids.length:=by omega
    have hk7:k<es.length:=by omega
    refine hr5.e5 t6 rfl (k:=k) hk7 fun bb oo c0 c1 c2 c3 c4=>?_
    simp only [c0,c1,c2,c3,c4,lds]
    have e8:(deep:Int)+1=((deep+1:Nat):Int):=by omega
    rw [e8]
    refine⟨inR_i64 om om,?_⟩
    have hdp:deep+1<=65:=by omega
    refine ih kids[k] (gem hk6) (n:=n5) (e:=es[k]) ((t8.get k hk6 hk7).keep B5) q4 om om fun w8 hb8=>⟨_,_,rfl,?_⟩
    have B8:=btr B5 B5.size hb8
    have hst:=looks_app (kids.take k) [kids[k]] (deep+1) (n+1)
    rw [if_neg (by rw [q1];simp),<-q2] at hst
    have hst2:looksF [kids[k]] (deep+1) n5=lookF kids[k] (deep+1) n5:=by
     rw [looksF]
     by_cases h:(lookF kids[k] (deep+1) n5).2≠0
     ·rw [if_pos h]
     ·rw [if_neg h,looksF]
      have h:(lookF kids[k] (deep+1) n5).2=0:=by simpa using h
      rw [<-h]
    rw [hst2,<-tsa hk6] at hst
    refine brn (fun hne=>?_) (fun heq=>?_)
    ·have hall:=looks_app (kids.take (k+1)) (kids.drop (k+1)) (deep+1) (n+1)
     rw [tad,hst,if_pos hne] at hall
     rw [hall] at hlook
     have:=hK w8 B8
     rw [hlook] at this;exact this
    ·obtain⟨a1,a2,a3,a4⟩:=look_ok kids[k] (deep+1) n5 heq
     refine⟨inR_i64 om om,⟨k+1,(lookF kids[k] (deep+1) n5).1,rfl,sm,om,B8,by rw [hst];exact heq,by rw [hst],om⟩,odz⟩
   ·have hk6:k=kids.length:=by omega
    subst hk6
    rw [tkl] at q1 q2
    have:=hK w5 B5
    rw [hlook,q1,<-q2] at this;exact this
  ·rw [if_neg om]
   rw [if_pos hk2] at hlook
   refine⟨none,0,0,rfl,?_⟩
   refine⟨fun n2 j w'=>n2=((n+1:Nat):Int)/\j=0/\Below w.heap.size w w',fun _ _ _=>0,⟨rfl,rfl,B3⟩,?_⟩
   rintro n2 j w5 ⟨rfl,rfl,B5⟩
   unfold F122_l9
   refine brd (fun hlt=>absurd hlt sm) (fun _=>?_)
   have:=hK w5 B5
   rw [hlook] at this;exact this
 ·have hbad:(64<deep\/4096<=n)->R (.returned (.tuple #[.int .i64 (n:Nat),.int .i64 2])) w1:=fun h=>by
   rw [if_pos h] at hlook
   have:=hK w1 hb1
   rw [hlook] at this;exact this
  refine brd (fun h=>hbad (.inl om)) (fun h=>?_)
  exact brd (fun h2=>hbad (.inr om)) (fun h2=>⟨rfl,om⟩)
theorem Check_calls (x:Tr) {w:Wd}{e:E5}{R:RT} (hT:RTr w x e) (hK:∀w',Below w.heap.size w w'->R (.returned (.int .i64 (lookF x 1 0).2)) w') :
  CL 68 #[.agg #[.int .i64 e.kind,.string e.nm,slV e.ats,.string e.text,slV e.kids]] w R:=by
 refine ok68 e.kind e.nm e.ats.1 e.ats.2.1 e.ats.2.2 e.text e.kids.1 e.kids.2.1 e.kids.2.2 ?_
 unfold F68
 refine al fun g4 w1 hb1 b4 hge4=>?_
 simp only [b4.cell,lds]
 exact check_calls x (deep:=1) (n:=0) (hT.keep hb1) om om om fun w2 hb2=>⟨_,_,rfl,hK w2 (btr hb1 hb1.size hb2)⟩
theorem okL_mem:∀{l:List Tr},okL l->∀x∈l,okT x
 | [],_,x,hx=>by simp at hx
 | y :: l,h,x,hx=>by
  simp only [okL] at h
  rcases mcn.1 hx with rfl | hx
  ·exact h.1
  ·exact okL_mem h.2 x hx
theorem sizeR_calls:∀(x:Tr) {w:Wd}{e:E5}{R:RT},RTr w x e->okT x->szT x<=4194304->dpT x<=4194304 ->
  (∀w',Below w.heap.size w w'->R (.returned (.tuple #[.int .i64 (szT x:Nat),.int .i64 (dpT x:Nat)])) w') ->
  CL 69 #[.agg #[.int .i64 e.kind,.string e.nm,slV e.ats,.string e.text,slV e.kids]] w R:=by
 refine Tr.ind fun kind nm attrs text kids ih=>?_
 intro w e R hT hok hsz hdp hK
 simp only [RTr] at hT
 obtain⟨t1,t2,t3,t4,t5,es,t6,t7,t8⟩:=hT
 have hel:=t8.len
 simp only [okT] at hok
 obtain⟨o1,o2,o3⟩:=hok
 have es1:szT (.mk kind nm attrs text kids)=if kind=2 then 1 else 1+szL kids:=by rw [szT]
 have es2:dpT (.mk kind nm attrs text kids)=if kind=2 then 1 else 1+dpL kids:=by rw [dpT]
 rw [es1] at hsz hK
 rw [es2] at hdp hK
 refine ok69 e.kind e.nm e.ats.1 e.ats.2.1 e.ats.2.2 e.text e.kids.1 e.kids.2.1 e.kids.2.2 ?_
 unfold F69
 refine al fun g4 w1 hb1 b4 hge4=>?_
 simp only [b4.cell,lds]
 refine kidsR_calls e fun w3 hb3=>?_
 have B3:=btr hb1 hb1.size hb3
 rcases o2 with hk1 | hk2
 ·rw [if_pos om]
  rw [if_neg om] at hsz hdp
  rw [if_neg om,if_neg om] at hK
  refine⟨_,_,_,rfl,?_⟩
  refine⟨fun n2 d2 j w'=>∃k:Nat,n2=((1+szL (kids.take k):Nat):Int)/\d2=((dpL (kids.take k):Nat):Int)/\j=k/\k<=kids.length/\Below w.heap.size w w',fun _ _ j _=>kids.length-j.toNat,
   ⟨0,by simp [szL],by simp [dpL],rfl,om,B3⟩,?_⟩
  rintro n2 d2 j w5 ⟨k,rfl,rfl,rfl,hk5,B5⟩
  unfold F69_l4
  have hr5:Rd LE5 w5 e.kids.1 e.kids.2.2 es:=t7.keep B5
  have z1:=szL_take (l:=kids) k
  have z2:=dpL_take (l:=kids) k
  refine brd (fun hlt=>?_) (fun hge=>?_)
  ·have hk6:k<kids.length:=by omega
   have hk7:k<es.length:=by omega
   have z3:=szL_take (l:=kids) (k+1)
   have z4:=dpL_take (l:=kids) (k+1)
   rw [tsa hk6,szL_snoc] at z3
   rw [tsa hk6,dpL_snoc] at z4
   refine⟨fun n3 d3 w'=>n3=((1+szL (kids.take (k+1)):Nat):Int)/\d3=((dpL (kids.take (k+1)):Nat):Int)/\Below w.heap.size w w',?_,?_⟩
   ·rintro n3 d3 w6 ⟨rfl,rfl,B6⟩
    unfold F69_j5
    exact⟨inR_i64 om om,⟨k+1,rfl,rfl,sm,om,B6⟩,odz⟩
   ·refine hr5.e5 t6 rfl (k:=k) hk7 fun bb oo c0 c1 c2 c3 c4=>?_
    simp only [c0,c1,c2,c3,c4,lds]
    refine ih kids[k] (gem hk6) (e:=es[k]) ((t8.get k hk6 hk7).keep B5) (okL_mem (o3 hk1) _ (gem hk6)) om om fun w8 hb8=>⟨_,_,rfl,?_⟩
    have B8:=btr B5 B5.size hb8
    have e1:((1+szL (kids.take k):Nat):Int)+(szT kids[k]:Nat)=((1+szL (kids.take (k+1)):Nat):Int):=by
     rw [tsa hk6,szL_snoc];omega
    rw [e1,tsa hk6,szL_snoc,dpL_snoc]
    refine⟨inR_i64 om om,?_⟩
    exact brd (fun h=>⟨rfl,om,B8⟩) (fun h=>⟨rfl,om,B8⟩)
  ·have hk6:k=kids.length:=by omega
   subst hk6
   rw [tkl]
   refine⟨inR_i64 om om,?_⟩
   have e2:((dpL kids:Nat):Int)+1=((1+dpL kids:Nat):Int):=by omega
   rw [e2];exact hK w5 B5
 ·rw [if_neg om]
  rw [if_pos hk2,if_pos hk2] at hK
  refine⟨none,0,0,rfl,?_⟩
  refine⟨fun n2 d2 j w'=>n2=1/\d2=0/\j=0/\Below w.heap.size w w',fun _ _ _ _=>0,⟨rfl,rfl,rfl,B3⟩,?_⟩
  rintro n2 d2 j w5 ⟨rfl,rfl,rfl,B5⟩
  unfold F69_l4
  refine brd (fun hlt=>absurd hlt sm) (fun _=>?_)
  exact⟨inR_i64 om om,hK w5 B5⟩
section
variable {α:Type}{L:Lay α}{w w1:Wd}{e:TypeId}{q:Nat}
theorem Fm.heldc {M:Nat->Prop}{b o:Nat}{v:Value} (hc:w.cell? ⟨b,o,none⟩=some v) (hm:¬M b):Held (fun w'=>Fm M w w') ⟨b,o,none⟩ v:=fun w' hf=>by
 by_cases h:b<w.heap.size
 ·unfold World.cell? at hc |-
  rw [hf.block b h hm];exact hc
 ·unfold World.cell? at hc
  rw [Array.getElem?_eq_none (show w.heap.size<=b by omega)] at hc
  simp at hc
theorem Own.elc {v:Sv}{xs:List α} (hO:Own L w q e (slV v) xs) {i:Int}{k:Nat} (hi:i=k) (hk:k<xs.length) {sz:Nat} (hsz:sz=L.n) {K:Addr->Prop}
  (hK:∀b,rowOf (slV v)=some b->(∀j u,(L.cells xs[k])[j]?=some u->w.cell? ⟨b,k*L.n+j,none⟩=some u)->K ⟨b,k*L.n,none⟩):IdxA v.1 v.2.1 i sz K:=by
 subst hi hsz
 obtain⟨A,c,hv,hr⟩:=hO.form
 obtain⟨g,c2,rest,hv2,hrow,_⟩:=hO.row1 om
 have e1:v.1=some ⟨g,0,none⟩:=by rw [hv2]
 have e2:v.2.1=xs.length:=by rw [hv2]
 have e3:v.1=A:=by rw [slv_form hv]
 rw [e1,e2,IdxA_some om om]
 simp only [Addr.add_mk,nza,tnc]
 obtain⟨b,o,hA,hc⟩:=hr.at k hk
 rw [<-e3,e1] at hA
 cases hA
 rw [nza] at hc
 exact hK g hrow hc
theorem Own.stc2 {v:Sv}{xs:List α}{k j:Nat}{a a':α}{u:Value} (hO:Own L w q e (slV v) (xs.set k a)) (hk:k<xs.length) (hj:j<L.n) (hx:L.cells a'=(L.cells a).set j u) {b:Nat} (hb:rowOf (slV v)=some b) {K:Wd->Prop}
  (hK:∀w1,Own L w1 q e (slV v) (xs.set k a')->Fm (fun b=>rowOf (slV v)=some b) w w1->K w1):St w ⟨b,k*L.n+j,none⟩ u K:=by
 refine hO.stc (by simpa using hk) hj (x':=a') ?_ hb fun w1 o f=>hK w1 ?_ f
 ·rw [List.getElem_set_self];exact hx
 ·rw [List.set_set] at o;exact o
end
theorem Own.st8 {w:Wd}{q:Nat}{v:Sv}{xs:List S8}{k:Nat} (e':S8) (hO:Own LS8 w q 88 (slV v) xs) (hk:k<xs.length) {b:Nat} (hb:rowOf (slV v)=some b) {K:Wd->Prop}
  (hK:∀w1,Own LS8 w1 q 88 (slV v) (xs.set k e')->Fm (fun b=>rowOf (slV v)=some b) w w1->K w1) :
  St w ⟨b,k*LS8.n,none⟩ (.int .u32 (e'.gen:Nat)) fun w1=>St w1 ⟨b,k*LS8.n+1,none⟩ (.bool e'.live) fun w2=>St w2 ⟨b,k*LS8.n+2,none⟩ (.int .i64 e'.kind) fun w3=>St w3 ⟨b,k*LS8.n+3,none⟩ (.string e'.nm) fun w4=>
  St w4 ⟨b,k*LS8.n+4,none⟩ (.slice e'.ats.1 e'.ats.2.1 e'.ats.2.2) fun w5=>St w5 ⟨b,k*LS8.n+5,none⟩ (.string e'.text) fun w6=>St w6 ⟨b,k*LS8.n+6,none⟩ (.int .u64 (e'.parent:Nat)) fun w7=>St w7 ⟨b,k*LS8.n+7,none⟩ (.slice e'.kids.1 e'.kids.2.1 e'.kids.2.2) K:=by
 have h8:LS8.n=8:=rfl
 have hO0:Own LS8 w q 88 (slV v) (xs.set k xs[k]):=by rw [List.set_getElem_self];exact hO
 generalize xs[k]=a0 at hO0
 refine hO0.stc2 (j:=0) (a':={ a0 with gen:=e'.gen }) hk dc rfl hb fun w1 o1 f1=>?_
 refine o1.stc2 (a':={ a0 with gen:=e'.gen,live:=e'.live }) hk dc rfl hb fun w2 o2 f2=>?_
 refine o2.stc2 (a':={ a0 with gen:=e'.gen,live:=e'.live,kind:=e'.kind }) hk dc rfl hb fun w3 o3 f3=>?_
 refine o3.stc2 (a':={ a0 with gen:=e'.gen,live:=e'.live,kind:=e'.kind,nm:=e'.nm }) hk dc rfl hb fun w4 o4 f4=>?_
 refine o4.stc2 (a':={ a0 with gen:=e'.gen,live:=e'.live,kind:=e'.kind,nm:=e'.nm,ats:=e'.ats }) hk dc rfl hb fun w5 o5 f5=>?_
 refine o5.stc2 (a':={ a0 with gen:=e'.gen,live:=e'.live,kind:=e'.kind,nm:=e'.nm,ats:=e'.ats,text:=e'.text }) hk dc rfl hb fun w6 o6 f6=>?_
 refine o6.stc2 (a':={ a0 with gen:=e'.gen,live:=e'.live,kind:=e'.kind,nm:=e'.nm,ats:=e'.ats,text:=e'.text,parent:=e'.parent }) hk dc rfl hb fun w7 o7 f7=>?_
 refine o7.stc2 (a':=e') hk dc rfl hb fun w8 o8 f8=>hK w8 o8 ?_
 exact ((((((f1.trans f2).trans f3).trans f4).trans f5).trans f6).trans f7).trans f8
section
variable {ok ok1 ok2:Nat->Bool}{opn opn1:List Nat}{w w1 w2:Wd}{g:Nat}{D:Im}{vs vr:Sv}{es:List S8}{M:Nat->Prop}{R:RT}
theorem RO.fm (h:RO ok1 opn w g D vs vr es) (hf:Fm M w w1) (hm:∀b,b<w.heap.size->M b->ok1 b=false/\b≠g/\rowOf (slV vs)≠some b) (hk:∀b,b<w.heap.size->ok1 b=true->ok2 b=true):RO ok2 opn w1 g D vs vr es:=by
 have hsub:Sub (vx ok1 g vs w) (vx ok2 g vs w1):=vx_sub hf (fun b hb h1=>.inl (hm b hb h1).1) hk (fun b hb=>.inl hb)
 exact⟨hf.blk h.blk fun e=>(hm g h.blk.lt e).2.1 rfl,own_fm h.own hf fun b hb e=>(hm b (h.own.lt b hb).2 e).2.2 hb,h.row,h.len,h.few,fun i s e h1 h2=>by obtain⟨a,b⟩:=h.el i s e h1 h2;exact⟨a.sub hsub,fun hi=>(b hi).sub hsub⟩,h.roots.sub hsub,h.ok,h.rok⟩
theorem RO.open (h:RO ok opn w g D vs vr es) (i:Nat):RO ok (i :: opn) w g D vs vr es:=
 ⟨h.blk,h.own,h.row,h.len,h.few,fun j s e h1 h2=>by obtain⟨a,b⟩:=h.el j s e h1 h2;exact⟨a,fun hi=>b fun h9=>hi (mcm _ h9)⟩,h.roots,h.ok,h.rok⟩
theorem RO.shut {i:Nat} (h:RO ok1 (i :: opn) w g D vs vr es) (hk:∀b,b<w.heap.size->ok1 b=true->ok2 b=true) (hi:∀s e,D.sl[i]?=some s->es[i]?=some e->RR LHn (vx ok2 g vs w) s.kids e.kids):RO ok2 opn w g D vs vr es:=by
 have hsub:Sub (vx ok1 g vs w) (vx ok2 g vs w):=vx_sub (M:=fun _=>False) (.below (.refl _ _)) (fun _ _ h=>h.elim) hk (fun b hb=>.inl hb)
 refine⟨h.blk,h.own,h.row,h.len,h.few,fun j s e h1 h2=>?_,h.roots.sub hsub,h.ok,h.rok⟩
 obtain⟨a,b⟩:=h.el j s e h1 h2
 refine⟨a.sub hsub,fun hj=>?_⟩
 by_cases e9:j=i
 ·subst e9;exact hi s e h1 h2
 ·exact (b fun h9=>hj ((mcn.1 h9).resolve_left e9)).sub hsub
theorem RO.newS (h:RO ok opn w g D vs vr es) {vs':Sv}{es':List S8}{sl':List Sl} (hB:Blk w2 g #[slV vs',slV vr] 85) (hO:Own LS8 w2 w.heap.size 88 (slV vs') es') (hf:Fm (·=g) w w2) (hl:es'.length=sl'.length) (hfew:sl'.length<=4096)
  (hel:∀(i:Nat) (s:Sl) (e:S8),sl'[i]?=some s->es'[i]?=some e->(D.sl[i]?=some s/\es[i]?=some e)\/∀W,RSb W s e/\RR LHn W s.kids e.kids) (hok:∀s∈sl',SlOk s):RO ok opn w2 g { D with sl:=sl' } vs' vr es':=by
 have hrow:∀b,rowOf (slV vs')=some b->w.heap.size<=b:=fun b hb=>(hO.lt b hb).1
 have hsub:Sub (vx ok g vs w) (vx ok g vs' w2):=vx_sub hf (fun b _ hb=>.inr (.inl hb)) (fun _ _ h=>h) (fun b hb=>.inr (hrow b hb))
 have hg:=h.blk.lt
 refine⟨hB,hO.rebase fun k _=>Nat.zero_le _,fun b hb=>by have:=hrow b hb;omega,hl,hfew,fun i s e h1 h2=>?_,h.roots.sub hsub,hok,h.rok⟩
 rcases hel i s e h1 h2 with ⟨a,b⟩ | a
 ·obtain⟨a,b⟩:=h.el i s e a b
  exact⟨a.sub hsub,fun hi=>(b hi).sub hsub⟩
 ·exact⟨(a _).1,fun _=>(a _).2⟩
def zS8:S8:=⟨0,false,0,noB,(none,0,0),noB,0,(none,0,0)⟩
theorem rr_none {α:Type} (L:Lay α) (W:Wd):RR L W [] (none,0,0):=⟨sm,rfl,Rd.nil L W⟩
theorem zS8_ok (W:Wd):RSb W (deadS 0) zS8/\RR LHn W (deadS 0).kids zS8.kids:=⟨⟨rfl,rfl,rfl,rfl,rfl,rfl,rr_none _ _⟩,rr_none _ _⟩
theorem freeW (h:RO ok opn w g D vs vr es) (hw:WfS D.sl) (ht:tk D.sl<4096)
  (hK:∀(w':Wd) (vs':Sv) (es':List S8),RO ok opn w' g { D with sl:=roomF D.sl } vs' vr es'->Fm (Ed g vs) w w'->NewRow w vs vs'->(∀(k:Nat) (e:S8),es[k]?=some e->es'[k]?=some e)->R (.returned (.int .i64 (freeI D.sl:Nat))) w'):CL 124 #[.pointer (some ⟨g,0,none⟩)] w R:=by
 refine ok124 (some ⟨g,0,none⟩) ?_
 unfold F124
 have hr:=h.re
 have hn:=hr.n
 have hfew:=h.few
 have hle:=freeI_le (sl:=D.sl)
 have hpred:∀k,k<freeI D.sl->∀hk:k<D.sl.length,(!D.sl[k].live && decide (D.sl[k].gen<4294967295))=false:=fun k hk hk2=>by
  have:=List.not_of_lt_findIdx (p:=fun s:Sl=>!s.live && decide (s.gen<4294967295)) (xs:=D.sl) hk
  simpa using this
 refine⟨fun i w'=>w=w'/\∃k:Nat,i=k/\k<=freeI D.sl,fun i _=>D.sl.length-i.toNat,⟨rfl,0,rfl,Nat.zero_le _⟩,?_⟩
 rintro i _ ⟨rfl,k,rfl,hk⟩
 unfold F124_l2
 simp only [NonNil_some,h.c0,lds]
 refine brd (fun hlt=>?_) (fun hge=>?_)
 ·have hk2:k<D.sl.length:=by omega
  have hg:=(h.ok _ (gem hk2)).gen
  refine⟨fun w'=>w=w'/\k<freeI D.sl,?_,?_⟩
  ·rintro _ ⟨rfl,h9⟩
   unfold F124_j3
   exact⟨inR_i64 om om,⟨by trivial,k+1,om,om⟩,odz⟩
  ·have hno:(!D.sl[k].live && decide (D.sl[k].gen<4294967295))=false->k<freeI D.sl:=fun h9=>by
    refine Nat.lt_of_le_of_ne hk fun e=>?_
    have:=freeI_lt (sl:=D.sl) om
    obtain⟨s,s1,s2,s3⟩:=this
    rw [<-e,gge hk2] at s1
    cases s1
    rw [s2,det s3] at h9;cases h9
   refine hr.slot rfl hk2 fun b o e _ _ _ c0 c1 _ _ _ _=>?_
   simp only [c1,lds]
   rw [brnot]
   refine br (fun hl=>⟨by trivial,hno (by rw [hl];rfl)⟩) (fun hl=>?_)
   refine hr.slot rfl hk2 fun b o e _ _ _ c0 c1 _ _ _ _=>?_
   simp only [c0,lds]
   have hdec:decide (((D.sl[k].gen:Nat):Int)<4294967295)=decide (D.sl[k].gen<4294967295):=by rw [decide_eq_decide];omega
   rw [hdec]
   refine br (fun h1=>?_) (fun h1=>⟨by trivial,hno (by rw [hl,h1];rfl)⟩)
   have e9:freeI D.sl=k:=by
    have h4:¬k<freeI D.sl:=fun h5=>by
     have:=hpred k h5 hk2
     rw [hl,h1] at this;cases this
    omega
   rw [e9] at hK
   have hroom:roomF D.sl=D.sl:=by unfold roomF;rw [if_pos om]
   rw [hroom] at hK
   exact hK w vs es h (.refl _ _) (.refl _ _) fun _ _ h=>h
 ·have hk2:k=D.sl.length:=by omega
  have e9:freeI D.sl=D.sl.length:=by omega
  have hroom:roomF D.sl=D.sl++[deadS 0]:=by unfold roomF;rw [if_neg om]
  have hwf:=room_wf hw ht
  rw [e9,hroom] at hK
  rw [hroom] at hwf
  obtain⟨hen,hrd⟩:=h.rd
  have hel:=h.len
  refine al fun g1 w1 hb1 _ _=>?_
  have h1:=h.keep hb1
  simp only [NonNil_some,h1.c0,lds]
  refine ap (L:=LS8) (e:=88) (xs:=[]) (ys:=es) (base:=w.heap.size) (.agg #[.int .u32 0,.bool false,.int .i64 0,eS,.slice none 0 0,eS,.int .u64 0,.slice none 0 0]) 104 hen kr kr kr (Own.bare _ _ _ _ _) (hrd.keep hb1) hb1.size (by simp only [List.length_nil,nza];omega) (by simp [maxLen];omega) fun A2 c2 w2 o2 g2=>⟨A2,_,c2,rfl,?_⟩
  rw [lna] at o2
  have B2:Below w.heap.size w w2:=hb1.trans g2.below
  refine al fun g3 w3 hb3 b3 _=>?_
  have B3:=btr B2 B2.size hb3
  have rn3:Rd LS8 w3 (some ⟨g3,0,none⟩) 1 [zS8]:=by
   refine⟨sm,by simp [maxLen],fun h0=>(by cases h0),fun _=>⟨g3,0,rfl,fun j u hj=>?_⟩⟩
   rw [LS8.all_one] at hj
   rw [b3.cell]
   simpa [LS8,S8.cells,zS8,noB] using hj
  refine ap (L:=LS8) (e:=88) (xs:=es) (ys:=[zS8]) (base:=w.heap.size) (.agg #[.int .u32 0,.bool false,.int .i64 0,eS,.slice none 0 0,eS,.int .u64 0,.slice none 0 0]) 104 rfl kr kr kr ((o2.keep hb3)) rn3 B3.size (by simp only [lcn,List.length_nil];omega) (by simp [maxLen];omega) fun A4 c4 w4 o4 g4=>⟨A4,_,c4,rfl,?_⟩
  have B4:Below w.heap.size w w4:=B3.trans g4.below
  have h4:=h.blk.keep B4
  refine st_blk h4 sm fun w5 b5 f5=>?_
  have b5:Blk w5 g #[slV (A4,es.length+[zS8].length,c4),slV vr] 85:=b5
  have hrow:∀b,rowOf (slV (A4,es.length+[zS8].length,c4))=some b->w.heap.size<=b:=fun b hb=>(o4.lt b hb).1
  have hg:=h.blk.lt
  have F5:Fm (·=g) w w5:=(Fm.below B4).trans f5
  have o5:Own LS8 w5 w.heap.size 88 (slV (A4,es.length+[zS8].length,c4)) (es++[zS8]):=own_fm o4 f5 fun b hb e=>by have e:b=g:=e;have:=hrow b hb;omega
  have h5:=h.newS (sl':=D.sl++[deadS 0]) b5 o5 F5 (by simp [hel]) hwf.few (fun i s e h1 h2=>?_) fun s hs=>?_
  ·have c5:w5.cell? ⟨g,0,none⟩=some (.slice A4 (es.length+[zS8].length) c4):=by rw [b5.cell];rfl
   simp only [NonNil_some,c5,lds]
   refine⟨inR_i64 (by simp <;> omega) (by simp <;> omega),?_⟩
   have:=hK w5 (A4,es.length+[zS8].length,c4) (es++[zS8]) h5 (F5.mono fun b _ e=>.inl e) (fun b hb=>.inr (hrow b hb)) fun k e hk=>by rw [gal (gsi.1 hk).1];exact hk
   rw [show (((es.length+[zS8].length:Nat):Int))-1=((D.sl.length:Nat):Int) by simp [hel]]
   exact this
  ·rcases Nat.lt_or_ge i D.sl.length with hi | hi
   ·rw [gal hi] at h1
    rw [gal om] at h2
    exact .inl ⟨h1,h2⟩
   ·rw [gar hi] at h1
    rw [gar om,hel] at h2
    have hi0:i-D.sl.length=0:=by
     have:=(gsi.1 h1).1;simp at this;omega
    rw [hi0] at h1 h2
    cases h1;cases h2
    exact .inr fun W=>zS8_ok W
  ·rcases List.mem_append.1 hs with hs | hs
   ·exact h.ok s hs
   ·rw [msg] at hs;subst hs
    exact⟨dc,dc,by simp [deadS]⟩
end
def okk (ok:Nat->Bool) (kv:Sv) (b:Nat):Bool:=ok b && decide (rowOf (slV kv)≠some b)
theorem okk_iff {ok:Nat->Bool}{kv:Sv}{b:Nat}:okk ok kv b=true↔ok b=true/\rowOf (slV kv)≠some b:=by
 unfold okk;rw [bae,dete]
section
variable {ok ok1 ok2:Nat->Bool}{opn opn1:List Nat}{w w1 w2:Wd}{g:Nat}{D:Im}{vs vr:Sv}{es:List S8}{M:Nat->Prop}{R:RT}
theorem own_vx2 {α:Type}{L:Lay α}{B:Nat}{e:TypeId}{v:Sv}{xs:List α} (o:Own L w B e (slV v) xs) (h1:∀b,rowOf (slV v)=some b->ok b=true/\b≠g/\rowOf (slV vs)≠some b) (hl:xs.length<=1048576):RR L (vx ok g vs w) xs v:=by
 have ho:Own L (vx ok g vs w) B e (slV v) xs:=by
  rcases o with h2 | h2 | ⟨g',c',cur,hv,hb,hh,hn,hm,hs,ht⟩
  ·exact .inl h2
  ·exact .inr (.inl h2)
  ·exact .inr (.inr ⟨g',c',cur,hv,hb,cells_only (vx_iff.2 (h1 g' (by rw [hv];rfl))) hh,hn,hm,hs,ht⟩)
 obtain⟨A,c,hv,hr⟩:=ho.form
 rw [slv_form hv]
 exact⟨hl,rfl,hr⟩
theorem live_get {sl:List Sl} (hf:sl.length<=4096) {k:Nat}{s:Sl} (hs:sl[k]?=some s) (hl:s.live=true):slA sl (hnd s.gen k)=some s:=by
 have:=(gsi.1 hs).1
 exact slA_hnd om hs hl
theorem get_live {sl:List Sl}{k:Nat} (hk:k+1<4294967296) {gn:Nat}{s:Sl} (hs:slA sl (hnd gn k)=some s):sl[k]?=some s/\s.live=true:=by
 obtain⟨j,j1,j2,j3,_⟩:=slA_iff.1 hs
 rw [hnd_mod hk] at j1
 obtain rfl:k=j:=by omega
 exact⟨j2,j3⟩
end
section
variable {g:Nat}
theorem makeR_calls:∀(x:Tr) {ok:Nat->Bool}{opn:List Nat}{w:Wd}{D:Im}{vs vr:Sv}{es:List S8}{p c:Nat}{loose:List Nat}{e:E5}{R:RT},RO ok opn w g D vs vr es->(∀b,w.heap.size<=b->ok b=true)->okT x->WfS D.sl->WfA (slA D.sl) D.roots loose->(p=0\/∃t,slA D.sl p=some t/\t.kind=1) ->
  Ch (slA D.sl) p c->c+dpT x<=64->tk D.sl+szT x<=4096->p<18446744073709551616->RTr (vx ok g vs w) x e->(∀k∈opn,∃s,D.sl[k]?=some s/\s.live=true) ->
  (∀(w':Wd) (vs':Sv) (es':List S8),RO ok opn w' g { D with sl:=makeF x p D.sl } vs' vr es'->Fm (Ed g vs) w w'->NewRow w vs vs'->(∀k∈opn,∀e:S8,es[k]?=some e->es'[k]?=some e)->R (.returned (.int .u64 (freshH D.sl:Nat))) w') ->
  CL 72 #[.pointer (some ⟨g,0,none⟩),.agg #[.int .i64 e.kind,.string e.nm,slV e.ats,.string e.text,slV e.kids],.int .u64 (p:Nat)] w R:=by
 refine Tr.ind fun kind nm attrs text kids ih=>?_
 intro ok opn w D vs vr es p c loose e R h hok hokT hw hA hpp hc hd ht hpl hT hopn hK
 have hT0:=hT
 simp only [RTr] at hT
 obtain⟨t1,t2,t3,t4,t5,et,t6,t7,t8⟩:=hT
 have hel:=t8.len
 unfold okT at hokT
 obtain⟨ok1,ok2,ok3⟩:=hokT
 unfold dpT at hd
 unfold szT at ht
 have htk:tk D.sl<4096:=by split at ht <;> omega
 have hd1:c+1<=64:=by split at hd <;> omega
 have ht1:tk D.sl+1<=4096:=by split at ht <;> omega
 have hg:=h.blk.lt
 refine ok72 (some ⟨g,0,none⟩) e.kind e.nm e.ats.1 e.ats.2.1 e.ats.2.2 e.text e.kids.1 e.kids.2.1 e.kids.2.2 (p:Nat) ?_
 unfold F72
 refine al fun g4 w1 hb1 b4 hge4=>?_
 refine freeW (h.keep hb1) hw htk fun w2 vs2 es2 h2 f2 nr2 k2=>⟨_,rfl,?_⟩
 have hrow4:∀b,rowOf (slV vs)=some b->b<w.heap.size:=fun b hb=>(h.own.lt b hb).2
 have b42:=f2.blk b4 (fun e=>by
  rcases e with e | e
  ·omega
  ·have:=hrow4 _ e;omega)
 have hgrow:∀b,rowOf (slV vs2)=some b->b≠g4:=fun b hb=>by
  have h4:=b4.lt
  rcases nr2 b hb with e | e
  ·have:=hrow4 _ e;omega
  ·omega
 have F2:Fm (Ed g vs) w w2:=(Fm.below hb1).trans f2
 have NR2:NewRow w vs vs2:=fun b hb=>(nr2 b hb).imp id fun h=>nlt hb1.size h
 have hs12:=F2.size
 obtain⟨sd,d1,d2,d3,d4⟩:=room_get hw
 have hfew2:=(room_wf hw htk).few
 have hgen:=genI_eq d1
 have hone:=fun s (hs:okSl s) (hk:s.kids=[]) (hsp:s.parent=p) (hsl:s.live=true) (hsg:s.gen=genI D.sl)=>one_wf hs hk hsp hsl hsg hw hA hpp hc hd1 ht1
 have hdead:∀t,D.sl[freeI D.sl]?=some t->t.live=false:=fun t ht=>by
  have:=room_old ht
  rw [d1] at this;cases this;exact d4
 have hfresh:freshH D.sl=hnd (genI D.sl) (freeI D.sl):=rfl
 have hmk:makeF (.mk kind nm attrs text kids) p D.sl=if kind=2 then (roomF D.sl).set (freeI D.sl) ⟨genI D.sl,true,kind,noB,[],text,p,[]⟩ else makesF kids (freshH D.sl) (freeI D.sl) ((roomF D.sl).set (freeI D.sl) ⟨genI D.sl,true,kind,nm,attrs,noB,p,[]⟩):=by rw [makeF]
 generalize hi:freeI D.sl=i at *
 generalize hgn:genI D.sl=gn at *
 obtain⟨hgl,d1'⟩:=gsi.1 d1
 have hr2:=h2.re
 have hdr2:Below w2.heap.size w2 w2.drew:=(Below.refl _ _).drew
 refine⟨fun w'=>Below w2.heap.size w2 w',hdr2,?_⟩
 rw [NonNil_some]
 refine⟨_,_,_,fun w' hb=>(hr2.keep hb).c0,?_⟩
 refine hr2.slotH (fun w1 h1=>h1) rfl hgl fun bb oo e0 he0 _ _ c0 _ _ _=>⟨_,c0,?_⟩
 have d1'' : (roomF D.sl)[i] = sd := d1'
 have egn : (((roomF D.sl)[i].gen : Nat) : Int) + 1 = ((gn : Nat) : Int) := by rw [d1'', hgen]; omega
 have egn':∀hh,((({ D with sl:=roomF D.sl }:Im).sl[i]'hh).gen:Int)+1=(gn:Int):=fun _=>egn
 rw [egn']
 refine⟨⟨by simp [IntKind.min,IntKind.signed,IntKind.bits],by simp [IntKind.max,IntKind.signed,IntKind.bits];omega⟩,?_⟩
 refine⟨_,fun w' hb=>by rw [(b42.keep hb).cell];rfl,?_⟩
 refine al fun gs w4 hb4 bs4 hges=>?_
 have B4:Below w2.heap.size w2 w4:=btr hdr2 hdr2.size hb4
 refine⟨B4,?_⟩
 have hs4:w2.heap.size<=gs:=nlt hdr2.size hges
 have hne4:g4≠gs:=by have:=b42.lt;omega
 simp only [Addr.add_mk,nza]
 refine st_blk bs4 sm fun u1 s1 f1=>st_blk s1 sm fun u2 s2 f2=>st_blk s2 sm fun u3 s3 f3=>st_blk s3 sm fun u4 s4 f4=>st_blk s4 sm fun u5 s5 f5=>st_blk s5 sm fun u6 s6 f6=>st_blk s6 sm fun u7 s7 f7=>st_blk s7 sm fun w12 s8 f8=>?_
 simp only [sls] at s8
 have FS:Fm (·=gs) w4 w12:=((((((f1.trans f2).trans f3).trans f4).trans f5).trans f6).trans f7).trans f8
 clear s1 s2 s3 s4 s5 s6 s7 f1 f2 f3 f4 f5 f6 f7 f8
 have B12:Below w2.heap.size w2 w12:=B4.trans (FS.toBelow B4.size fun b hb e=>by have e:b=gs:=e;omega)
 obtain⟨s7,hs7⟩:∃s7:Sl,s7=if kind=2 then ⟨gn,true,kind,noB,[],text,p,[]⟩ else ⟨gn,true,kind,nm,attrs,noB,p,[]⟩:=⟨_,rfl⟩
 have q7:s7.gen=gn/\s7.live=true/\s7.kind=kind/\s7.parent=p/\s7.kids=[]:=by rw [hs7];split <;> exact⟨rfl,rfl,rfl,rfl,rfl⟩
 have b12:=FS.blk (b42.keep B4) (fun e=>hne4 e)
 refine⟨fun w'=>∃a:Sv,Below w2.heap.size w2 w'/\Blk w' gs #[.int .u32 (s7.gen:Nat),.bool true,.int .i64 s7.kind,.string s7.nm,slV a,.string s7.text,.int .u64 (p:Nat),.slice none 0 0] 88/\RR LAt (vx ok g vs2 w') s7.attrs a,?_,?_⟩
 rotate_left
 ·simp only [b12.cell,lds]
  refine bre (fun hk=>?_) (fun hk=>?_)
  ·refine st_blk s8 sm fun w13 s9 f9=>?_
   simp only [sls] at s9
   have e7:s7=⟨gn,true,kind,noB,[],text,p,[]⟩:=by rw [hs7,if_pos om]
   refine⟨(none,0,0),B12.trans (f9.toBelow B12.size fun b hb e=>by have e:b=gs:=e;omega),?_,by rw [e7];exact rr_none _ _⟩
   rw [e7,<-t1,<-t3];exact s9
  ·have e7:s7=⟨gn,true,kind,nm,attrs,noB,p,[]⟩:=by rw [hs7,if_neg om]
   have hdr:Below w12.heap.size w12 w12.drew:=(Below.refl _ _).drew
   refine⟨fun w'=>Below w12.heap.size w12 w',hdr,?_⟩
   refine⟨_,fun w' hb=>by rw [(b12.keep hb).cell];rfl,?_⟩
   refine⟨_,_,_,fun w' hb=>by rw [(b12.keep hb).cell];rfl,?_⟩
   refine al fun g6 w13 hb13 _ _=>?_
   have B13:Below w12.heap.size w12 w13:=btr hdr hdr.size hb13
   refine⟨B13,?_⟩
   have hsub:Sub (vx ok g vs w) (vx ok g vs2 w13):=vx_sub ((F2.trans (.below B12)).trans (.below B13)) (fun b _ hb=>.inr hb) (fun _ _ h=>h) NR2
   have ht4:RR LAt w13 attrs e.ats:=(t4.sub hsub).sub vx_of
   obtain⟨z0,z1,z2⟩:=ht4
   have hm:attrs.length*32<=1048576*32:=Nat.mul_le_mul z0 (nlr _)
   refine ap (L:=LAt) (e:=145) (xs:=[]) (ys:=attrs) (base:=w12.heap.size) (.agg #[.string ⟨#[]⟩,.string ⟨#[]⟩]) 32 z1 kr kr kr (Own.bare _ _ _ _ _) z2 B13.size (by simp only [List.length_nil,nza];omega) (by simp [maxLen];omega) fun A' c' w14 o14 g14=>⟨A',_,c',rfl,?_⟩
   rw [lna] at o14
   have B14:Below w12.heap.size w12 w14:=B13.trans g14.below
   refine⟨B14,?_⟩
   refine st_blk (s8.keep B14) sm fun w15 s9 f9=>st_blk s9 sm fun w16 s10 f10=>?_
   simp only [sls] at s10
   have F16:Fm (·=gs) w14 w16:=f9.trans f10
   have hgs12:=s8.lt
   have o16:=own_fm o14 F16 fun b hb e=>by have e:b=gs:=e;have:=(o14.lt b hb).1;omega
   have B12':=B12.size
   refine⟨(A',([]:List At).length+attrs.length,c'),(B12.trans (B14.mono B12.size)).trans (F16.toBelow (nlt B12.size B14.size) fun b hb e=>by have e:b=gs:=e;omega),?_,?_⟩
   ·rw [e7,<-t1,<-t2];exact s10
   ·rw [e7]
    exact own_vx h2 (fun b hb=>hok b om) B12.size o16 z0
 rintro w15 ⟨a,B15,bs15,ha⟩
 unfold F72_j6
 have hdr:Below w15.heap.size w15 w15.drew:=(Below.refl _ _).drew
 have B15d:Below w2.heap.size w2 w15.drew:=btr B15 B15.size hdr
 have h15:=h2.keep B15d
 have hr15:=h2.keep B15
 refine⟨fun w'=>Below w15.heap.size w15 w',hdr,?_⟩
 simp only [nds]
 refine⟨_,_,_,fun w' hb=>(hr15.re.keep hb).c0,?_⟩
 refine⟨_,fun w' hb=>by rw [(bs15.keep hb).cell];rfl,?_⟩
 refine⟨_,fun w' hb=>by rw [(bs15.keep hb).cell];rfl,?_⟩
 refine⟨_,fun w' hb=>by rw [(bs15.keep hb).cell];rfl,?_⟩
 refine⟨_,fun w' hb=>by rw [(bs15.keep hb).cell];rfl,?_⟩
 refine⟨_,_,_,fun w' hb=>by rw [(bs15.keep hb).cell];rfl,?_⟩
 refine⟨_,fun w' hb=>by rw [(bs15.keep hb).cell];rfl,?_⟩
 refine⟨_,fun w' hb=>by rw [(bs15.keep hb).cell];rfl,?_⟩
 refine⟨_,_,_,fun w' hb=>by rw [(bs15.keep hb).cell];rfl,?_⟩
 have hl2:=h2.len
 have hie:i<es2.length:=by rw [hl2];exact hgl
 refine h15.own.elA rfl hie (show 8=LS8.n from rfl) fun bw hbw=>?_
 simp only [Addr.add_mk]
 refine Own.st8 ⟨s7.gen,true,s7.kind,s7.nm,a,s7.text,p,(none,0,0)⟩ h15.own hie hbw fun w16 o16 f16=>?_
 have hsub15:Sub (vx ok g vs2 w15) (vx ok g vs2 w15.drew):=vx_sub (M:=fun _=>False) (.below hdr) (fun b _ hb=>hb.elim) (fun _ _ h=>h) (fun b hb=>.inl hb)
 have hgn32:gn<4294967296:=by rw [hgen];omega
 have h16:=h15.put1 (opn1:=opn) (s':=s7) (e':=⟨s7.gen,true,s7.kind,s7.nm,a,s7.text,p,(none,0,0)⟩) hgl o16 f16 ⟨rfl,q7.2.1.symm,rfl,rfl,rfl,q7.2.2.2.1.symm,ha.sub hsub15⟩ (fun _=>by rw [q7.2.2.2.2];exact rr_none _ _) (fun _ _ h=>h) ⟨by rw [q7.1];exact hgn32,by rw [q7.2.2.2.1];exact hpl,by rw [q7.2.2.2.2];simp⟩
 have h16:RO ok opn w16 g { D with sl:=(roomF D.sl).set i s7 } vs2 vr (es2.set i ⟨s7.gen,true,s7.kind,s7.nm,a,s7.text,p,(none,0,0)⟩):=h16
 have hilt:i<((roomF D.sl).set i s7).length:=by simpa using hgl
 have hget7:((roomF D.sl).set i s7)[i]=s7:=List.getElem_set_self ..
 refine handleW h16.re (i:=i) hilt ⟨_,rfl,?_⟩
 have eh:∀hh,hnd (({ D with sl:=(roomF D.sl).set i s7 }:Im).sl[i]'hh).gen i=freshH D.sl:=fun _=>by
  show hnd (((roomF D.sl).set i s7)[i]).gen i=_
  rw [hget7,q7.1,hfresh]
 rw [eh]
 have F16:Fm (Ed g vs) w w16:=Ed.trans F2 NR2 ((Fm.below B15d).trans (f16.mono fun b _ hb=>.inr hb))
 have b416:Blk w16 g4 _ 48:=f16.blk ((b42.keep B15).keep hdr) (fun e=>hgrow _ e rfl)
 simp only [b416.cell,lds]
 refine kidsR_calls e fun w17 hb17=>?_
 have h17:=h16.keep hb17
 have F17:Fm (Ed g vs) w w17:=F16.tr hb17
 have keep7:∀k∈opn,∀e9:S8,es[k]?=some e9->(es2.set i ⟨s7.gen,true,s7.kind,s7.nm,a,s7.text,p,(none,0,0)⟩)[k]?=some e9:=fun k hk e9 he=>by
  obtain⟨s,u1,u2⟩:=hopn k hk
  have:i≠k:=fun e=>by subst e;have:=hdead s u1;rw [u2] at this;cases this
  rw [gsn this]
  exact k2 k e9 he
 rw [hmk] at hK
 rcases ok2 with hk1 | hk2
 rotate_left
 ·-- a text
  rw [if_neg om]
  rw [if_pos hk2] at hK
  have e7:s7=⟨gn,true,kind,noB,[],text,p,[]⟩:=by rw [hs7,if_pos hk2]
  rw [<-e7] at hK
  refine⟨none,0,0,rfl,?_⟩
  refine⟨fun j w'=>j=0/\w'=w17,fun _ _=>0,⟨rfl,rfl⟩,?_⟩
  rintro j _ ⟨rfl,rfl⟩
  unfold F72_l10
  refine brd (fun hlt=>absurd hlt sm) (fun _=>?_)
  exact hK _ vs2 _ h17 F17 NR2 keep7
 have hk2:kind≠2:=by omega
 rw [if_pos om]
 rw [if_neg hk2] at hK hd ht
 have e7:s7=⟨gn,true,kind,nm,attrs,noB,p,[]⟩:=by rw [hs7,if_neg hk2]
 rw [<-e7] at hK
 have hok7:okSl s7:=by rw [e7,hk1];exact⟨by rw [hk1] at ok1;unfold ownF at ok1 |-;exact ok1,.inl ⟨rfl,rfl⟩⟩
 obtain⟨M7,hs70⟩:=hone s7 hok7 q7.2.2.2.2 q7.2.2.2.1 q7.2.1 q7.1
 have k7:s7.kind=1:=by rw [q7.2.2.1,hk1]
 have hkd7:=q7.2.2.2.2
 have hl7:=q7.2.1
 have hg7:=q7.1
 have hp7:=q7.2.2.2.1
 clear hs7 e7 hone s8 bs15 b12 ha hsub15 o16 f16 h15 hr15 h16 hmk egn egn'
 generalize hsl7:(roomF D.sl).set i s7=sl7 at *
 generalize hee7:es2.set i ⟨s7.gen,true,s7.kind,s7.nm,a,s7.text,p,(none,0,0)⟩=es7 at *
 have hei7:es7[i]?=some ⟨s7.gen,true,s7.kind,s7.nm,a,s7.text,p,(none,0,0)⟩:=by rw [<-hee7];simp [hie]
 have hh:freshH D.sl % 4294967296=i+1:=by rw [hfresh];exact hnd_mod om
 have hne:freshH D.sl≠0:=by rw [hfresh];unfold hnd;omega
 have hh64:freshH D.sl<18446744073709551616:=by rw [hfresh];unfold hnd;omega
 generalize hH:freshH D.sl=hh0 at *
 have hc7:Ch (slA sl7) hh0 (c+1):=.succ hne hs70 (by rw [hp7];exact hc.mono fun y t hy=>⟨t,M7.ext y t hy,rfl⟩)
 have mt7:=M7.tk
 have WK:∀k,k<=kids.length->WfS (makesF (kids.take k) hh0 i sl7)/\WfA (slA (makesF (kids.take k) hh0 i sl7)) D.roots (hh0 :: loose)/\(∃ks,slA (makesF (kids.take k) hh0 i sl7) hh0=some { s7 with kids:=s7.kids++ks })/\tk (makesF (kids.take k) hh0 i sl7)=tk sl7+szL (kids.take k)/\(∀y t,slA D.sl y=some t->slA (makesF (kids.take k) hh0 i sl7) y=some t):=fun k hk=>by
  have ht2:=szL_take kids k
  have hd2:=dpL_take kids k
  obtain⟨r1,r2,r3,r4,r5,r6⟩:=makes_wf (kids.take k) (fun x hx {sl loose p c}=>make_wf x (roots:=D.roots)) (sl:=sl7) (loose:=hh0 :: loose) (h:=hh0) (c:=c+1) (i:=i) (okL_take _ _ (ok3 hk1)) M7.wfs M7.wf hh hs70 k7 hc7 om om
  refine⟨r1,r2,r4,r5,fun y t hy=>r3 y t ?_ (M7.ext y t hy)⟩
  rintro rfl
  have:=M7.new
  rw [this] at hy;cases hy
 refine⟨_,_,_,rfl,?_⟩
 refine⟨fun j w'=>∃(k:Nat) (vs5 kv:Sv) (es5:List S8) (e9:S8) (ks:List Nat),j=k/\k<=kids.length/\RO (okk ok kv) (i :: opn) w' g { D with sl:=makesF (kids.take k) hh0 i sl7 } vs5 vr es5/\es5[i]?=some e9/\e9.kids=kv/\slA (makesF (kids.take k) hh0 i sl7) hh0=some { s7 with kids:=ks } /\
   Own LHn w' w.heap.size 42 (slV kv) ks/\Fm (Ed g vs) w w'/\NewRow w vs vs5/\(∀k∈opn,∀e:S8,es[k]?=some e->es5[k]?=some e)/\(∀b,rowOf (slV kv)=some b->rowOf (slV vs5)≠some b),fun j _=>kids.length-j.toNat,
  ⟨0,vs2,(none,0,0),es7,_,[],rfl,om,?_,hei7,rfl,?_,.inl ⟨rfl,rfl⟩,F17,NR2,keep7,fun b hb=>by cases hb⟩,?_⟩
 ·refine RO.fm (M:=fun _=>False) (RO.open ?_ i) (.below (.refl _ _)) (fun _ _ h=>h.elim) (fun b _ hb=>okk_iff.2 ⟨hb,fun e=>by cases e⟩)
  simpa [makesF] using h17
 ·simp only [List.take_zero,makesF]
  rw [hs70]
  congr 1
  cases s7
  simp only at hkd7
  rw [hkd7]
 rintro j w5 ⟨k,vs5,kv,es5,e9,ks,rfl,hk5,h5,hei5,hek5,hs5,ov5,F5,NR5,keep5,hrk5⟩
 unfold F72_l10
 obtain⟨r1,r2,-,r5,r6⟩:=WK k hk5
 have hkvB:∀b,rowOf (slV kv)=some b->w.heap.size<=b/\b<w5.heap.size:=fun b hb=>ov5.lt b hb
 have hks4:ks.length<=4096:=nlt (live_few (fun x hx=>by
  obtain⟨_,t,ht,_⟩:=(r2.kid hh0 _ hs5).2 x hx
  exact⟨t,ht⟩) (r2.kid hh0 _ hs5).1) r1.few
 have hsub5:Sub (vx ok g vs w) (vx (okk ok kv) g vs5 w5):=vx_sub F5 (fun b _ hb=>.inr hb) (fun b hb h1=>okk_iff.2 ⟨h1,fun e=>by have:=(hkvB b e).1;omega⟩) NR5
 have hs5size:=F5.size
 refine brd (fun hlt8=>?_) (fun hge8=>?_)
 rotate_left
 ·have hk9:k=kids.length:=by omega
  subst hk9
  rw [tkl] at h5 hs5
  obtain ⟨k', _, hk', hk'', hkm, _⟩ := slA_get hs5
  obtain rfl:i=k':=by omega
  refine hK w5 vs5 es5 (h5.shut (fun b _ hb=>(okk_iff.1 hb).1) fun s e' hs he=>?_) F5 NR5 keep5
  have hs:(makesF kids hh0 i sl7)[i]?=some s:=hs
  rw [gge hk', hk''] at hs
  cases hs
  rw [hei5] at he;cases he
  rw [hek5]
  exact own_vx2 ov5 (fun b hb=>⟨hok b (hkvB b hb).1,by have:=(hkvB b hb).1;omega,hrk5 b hb⟩) (show ks.length<=1048576 by omega)
 ·have hk9:k<kids.length:=by omega
  have hk10:k<et.length:=by omega
  have hr5:Rd LE5 w5 e.kids.1 e.kids.2.2 et:=vx_of.rd (hsub5.rd t7)
  refine hr5.e5 t6 rfl (k:=k) hk10 fun bb oo c0 c1 c2 c3 c4=>?_
  simp only [c0,c1,c2,c3,c4,lds]
  have hdk:=dpL_get kids k hk9
  have hzk:=szL_get kids k hk9
  have hsnoc:=makesF_snoc (x:=kids[k]) (h:=hh0) (i:=i) (kids.take k) sl7
  generalize hslk:makesF (kids.take k) hh0 i sl7=slk at *
  have hck:Ch (slA slk) hh0 (c+1):=.succ hne hs5 (by show Ch (slA slk) s7.parent c;rw [hp7];exact hc.mono fun y t hy=>⟨t,r6 y t hy,rfl⟩)
  have om1:c+1+dpT kids[k]<=64:=by omega
  have om2:tk slk+szT kids[k]<=4096:=by omega
  have hslki:slk[i]?=some { s7 with kids:=ks }:=by
   obtain ⟨k', _, hk', hk'', hkm, _⟩ := slA_get hs5
   obtain rfl:i=k':=by omega
   rw [gge hk', hk'']
  have hDl:D.sl.length<=4096:=hw.few
  refine ih kids[k] (gem hk9) (D:={ D with sl:=slk }) (p:=hh0) (c:=c+1) (loose:=hh0 :: loose) (e:=et[k]) h5 (fun b hb=>okk_iff.2 ⟨hok b om,fun e=>by have:=(hkvB b e).2;omega⟩) (okL_get kids k hk9 (ok3 hk1)) r1 r2 (.inr ⟨_,hs5,k7⟩) hck om1 om2 hh64 (RTr.sub hsub5 _ _ (t8.get k hk9 hk10)) (fun q hq=>?_) fun w6 vs6 es6 h6 f6 nr6 keep6=>⟨_,rfl,?_⟩
  ·rcases mcn.1 hq with rfl | hq
   ·exact⟨_,hslki,hl7⟩
   ·obtain⟨s,u1,u2⟩:=hopn q hq
    have u3:=r6 _ _ (live_get hDl u1 u2)
    have:=(gsi.1 u1).1
    exact⟨s,(get_live om u3).1,u2⟩
  have Mk:=make_wf kids[k] (okL_get kids k hk9 (ok3 hk1)) r1 r2 (.inr ⟨_,hs5,k7⟩) hck om1 om2
  have hs6:slA (makeF kids[k] hh0 slk) hh0=some { s7 with kids:=ks }:=Mk.ext _ _ hs5
  obtain ⟨k', k1', hk', hk'', hkm, _⟩ := slA_get hs6
  obtain rfl:i=k':=by omega
  have ov6:Own LHn w6 w.heap.size 42 (slV kv) ks:=own_fm ov5 f6 fun b hb e=>by
   rcases e with e | e
   ·have:=(hkvB b hb).1;omega
   ·exact hrk5 b hb e
  have hrk6:∀b,rowOf (slV kv)=some b->rowOf (slV vs6)≠some b:=fun b hb e=>by
   rcases nr6 b e with e | e
   ·exact hrk5 b hb e
   ·have:=(hkvB b hb).2;omega
  have hei6:es6[i]?=some e9:=keep6 i (List.mem_cons_self ..) e9 hei5
  obtain⟨hi6,hei6'⟩:=gsi.1 hei6
  have hdr6:Below w6.heap.size w6 w6.drew:=(Below.refl _ _).drew
  have hgk:rowOf (slV kv)≠some g:=fun e=>by have:=(hkvB g e).1;omega
  refine⟨fun w'=>Fm (fun b=>rowOf (slV kv)=some b) w6 w',.below hdr6,?_⟩
  rw [NonNil_some]
  refine⟨_,_,_,Fm.heldc h6.c0 hgk,⟨_,_,_,Fm.heldc h6.c0 hgk,?_⟩⟩
  refine h6.own.elc rfl hi6 (show 8=LS8.n from rfl) fun bw hbw hcw=>?_
  have hc7w:=hcw 7 (.slice e9.kids.1 e9.kids.2.1 e9.kids.2.2) (by rw [hei6'];rfl)
  simp only [Addr.add_mk]
  refine⟨_,_,_,Fm.heldc hc7w (fun e=>hrk6 bw e hbw),?_⟩
  refine al fun g81 w7 hb7 b7 _=>?_
  have D7:Below w6.heap.size w6 w7:=btr hdr6 hdr6.size hb7
  refine⟨.below D7,?_⟩
  rw [hek5]
  have hD6few:=h6.few
  refine ap (L:=LHn) (e:=42) (xs:=ks) (ys:=[freshH slk]) (base:=w.heap.size) (v:=slV kv) (.int .u64 0) 8 rfl kr kr kr (ov6.keep D7) ?_ (by have:=f6.size;have:=D7.size;omega) (by simp;omega) (by simp [maxLen];omega) fun A' c' w8 o8 g8=>⟨A',_,c',rfl,?_⟩
  ·refine⟨sm,by simp [maxLen],fun h0=>(by cases h0),fun _=>⟨g81,0,rfl,fun j u hj=>?_⟩⟩
   rw [LHn.all_one] at hj
   rw [b7.cell];simpa [LHn] using hj
  have F68:Fm (fun b=>rowOf (slV kv)=some b) w6 w8:=(Fm.below D7).trans (Fm.grown g8.grown fun x hx=>hx)
  refine⟨F68,?_⟩
  have hrow8:∀b,rowOf (slV (A',ks.length+[freshH slk].length,c'))=some b->rowOf (slV kv)=some b\/w6.heap.size<=b:=fun b hb=>by
   rcases g8.row with e | e | ⟨g,e,hge⟩
   ·left;rw [<-e];exact hb
   ·rw [show rowOf (slV (A',ks.length+[freshH slk].length,c'))=none from e] at hb;cases hb
   ·right
    rw [show rowOf (slV (A',ks.length+[freshH slk].length,c'))=some g from e] at hb;cases hb
    have:=D7.size;omega
  have own8:Own LS8 w8 0 88 (slV vs6) es6:=own_fm h6.own F68 fun b hb e=>hrk6 b e hb
  have h8:RO (okk ok (A',ks.length+[freshH slk].length,c')) (i :: opn) w8 g { D with sl:=makeF kids[k] hh0 slk } vs6 vr es6:=h6.fm F68 (fun b _ hb=>⟨by
   cases h9:okk ok kv b with
   | false=>rfl
   | true=>exact absurd hb (okk_iff.1 h9).2,fun e=>by subst e;exact hgk hb,fun e=>hrk6 b hb e⟩) (fun b hb h9=>okk_iff.2 ⟨(okk_iff.1 h9).1,fun e=>by
   rcases hrow8 b e with e | e
   ·exact (okk_iff.1 h9).2 e
   ·omega⟩)
  refine own8.elA rfl hi6 (show 8=LS8.n from rfl) fun bw2 hbw2=>?_
  simp only [Addr.add_mk]
  refine own8.stc hi6 (x':={ es6[i] with kids:=(A',ks.length+[freshH slk].length,c') }) dc RO.kids_cells hbw2 fun w9 o9 f9=>?_
  rw [hei6'] at o9
  have hDi:({ D with sl:=makeF kids[k] hh0 slk }:Im).sl[i]?=some { s7 with kids:=ks }:=by
   show (makeF kids[k] hh0 slk)[i]?=_
   rw [gge hk', hk'']
  obtain⟨q1,-⟩:=h8.el i _ e9 hDi hei6
  have hso:=h6.ok _ (mog hDi)
  obtain⟨st,hst,hstp⟩:=Mk.top
  have hfl:=hnd_lt (sl:=makeF kids[k] hh0 slk) h6.ok h6.few hst
  have h9:=h8.put1 (opn1:=i :: opn) (s':={ s7 with kids:=ks++[freshH slk] }) (e':={ e9 with kids:=(A',ks.length+[freshH slk].length,c') }) hk' o9 f9 ⟨q1.gen,q1.live,q1.kind,q1.nm,q1.text,q1.parent,q1.ats⟩ (fun h9=>absurd (List.mem_cons_self ..) h9) (fun _ _ h=>h) ⟨hso.gen,hso.parent,fun x hx=>by
   rcases List.mem_append.1 hx with hx | hx
   ·exact hso.kids x hx
   ·rw [msg] at hx;subst hx;exact hfl⟩
  have eD:makesF (kids.take (k+1)) hh0 i sl7=(makeF kids[k] hh0 slk).set i { s7 with kids:=ks++[freshH slk] }:=by
   rw [tsa hk9,hsnoc]
   exact modify_set _ _ _ _ hDi
  have h9:RO (okk ok (A',ks.length+[freshH slk].length,c')) (i :: opn) w9 g { D with sl:=(makeF kids[k] hh0 slk).set i { s7 with kids:=ks++[freshH slk] } } vs6 vr (es6.set i { e9 with kids:=(A',ks.length+[freshH slk].length,c') }):=h9
  rw [<-eD] at h9
  have hF6:=f6.size
  have hw6:w.heap.size<=w6.heap.size:=by omega
  refine⟨inR_i64 om om,⟨k+1,vs6,(A',ks.length+[freshH slk].length,c'),_,_,ks++[freshH slk],sm,om,h9,by rw [List.getElem?_set_self hi6],rfl,?_,?_,?_,?_,?_,?_⟩,odz⟩
  ·rw [eD]
   exact slA_iff.2 ⟨i,hh,by rw [List.getElem?_set_self hk'],hl7,by show hnd s7.gen i=hh0;rw [hg7];exact hfresh.symm⟩
  ·exact own_fm o8 f9 fun b hb e=>by
    rcases hrow8 b hb with e2 | e2
    ·exact hrk6 b e2 e
    ·have:=(h6.own.lt b e).2;omega
  ·have F56:Fm (Ed g vs) w w6:=Ed.trans F5 NR5 f6
   have F58:Fm (Ed g vs) w w8:=Fm.trans' F56 F68 fun b hb e=>by have:=(hkvB b e).1;omega
   exact Ed.trans F58 (NR5.trans nr6 hs5size) (f9.mono fun b _ hb=>.inr hb)
  ·exact NR5.trans nr6 hs5size
  ·intro q hq e' he'
   obtain⟨s,u1,u2⟩:=hopn q hq
   have:i≠q:=fun e=>by subst e;have:=hdead s u1;rw [u2] at this;cases this
   rw [gsn this]
   exact keep6 q (mcm _ hq) e' (keep5 q hq e' he')
  ·intro b hb e
   rcases hrow8 b hb with e2 | e2
   ·exact hrk6 b e2 e
   ·have:=(h6.own.lt b e).2;omega
end
theorem lst_liveD {D:Im}{loose:List Nat} (hA:WfA (slA D.sl) D.roots loose) (p:Nat):∀x∈lstI D p,∃t,slA D.sl x=some t:=fun x hx=>by
 obtain⟨_,t,ht,_⟩:=(hA.lst p).2 x hx
 exact⟨t,ht⟩
theorem lst_fewD {D:Im}{loose:List Nat} (hw:WfS D.sl) (hA:WfA (slA D.sl) D.roots loose) (p:Nat):(lstI D p).length<=4096:=
 nlt (live_few (lst_liveD hA p) (hA.lst p).1) hw.few
abbrev vw (ok:Nat->Bool) (g:Nat) (w:Wd):Wd:=wOnly (fun b=>ok b && !(Nat.beq b g)) w
section
variable {ok:Nat->Bool}{w w1:Wd}{g:Nat}{D:Im}{vs vr:Sv}{R:RT}
theorem vw_vx {vs1:Sv} (hf:Fm (·=g) w w1) (hr:∀b,rowOf (slV vs1)=some b->w.heap.size<=b):Sub (vw ok g w) (vx ok g vs1 w1):=
 sub_only (fun b hb hh=>by
  rw [bae] at hh
  refine vx_iff.2 ⟨hh.1,fun e=>?_,fun e=>?_⟩
  ·subst e;rw [show Nat.beq b b=true from Nat.beq_refl b] at hh;cases hh.2
  ·have:=hr b e;omega) fun b hb hh=>hf.block b hb fun e=>by
  have e:b=g:=e
  subst e;rw [bae,show Nat.beq b b=true from Nat.beq_refl b] at hh;cases hh.2
theorem vw_sub (hf:Fm (·=g) w w1):Sub (vw ok g w) (vw ok g w1):=
 sub_only (fun b _ h=>h) fun b hb hh=>hf.block b hb fun e=>by
  have e:b=g:=e
  subst e;rw [bae,show Nat.beq b b=true from Nat.beq_refl b] at hh;cases hh.2
theorem RM.fm (h:RM ok w g D vs vr) {M:Nat->Prop} (hf:Fm M w w1) (hm:∀b,b<w.heap.size->M b->ok b=false/\b≠g):RM ok w1 g D vs vr:=
 ⟨hf.blk h.blk fun e=>(hm g h.blk.lt e).2 rfl,h.im.sub (sub_only (fun b _ h=>h) fun b hb hh=>hf.block b hb fun e=>by
  have:=(hm b hb e).1
  rw [bae,this] at hh;cases hh.1),h.few⟩
theorem RM.keep (h:RM ok w g D vs vr) (hb:Below w.heap.size w w1):RM ok w1 g D vs vr:=h.fm (M:=fun _=>False) (.below hb) fun _ _ h=>h.elim
theorem Ed.only {w0:Wd}{vs1:Sv} (h:Fm (·=g) w0 w) (hr:∀b,rowOf (slV vs1)=some b->w0.heap.size<=b) (k:Fm (Ed g vs1) w w1):Fm (·=g) w0 w1:=
 ⟨k.os.trans h.os,k.tape.trans h.tape,k.output.trans h.output,nlt h.size k.size,fun b hb hn=>by
  rw [k.block b (by have:=h.size;omega) (fun e=>?_),h.block b hb hn]
  rcases e with e | e
  ·exact hn e
  ·have:=hr b e;omega⟩
theorem place_lt (hok:∀s∈D.sl,SlOk s) {wh:Int}{a:Nat} (ha:a<18446744073709551616):(placeF D wh a).1<18446744073709551616:=by
 unfold placeF
 split
 ·show 0<_;omega
 ·split
  ·show 0<_;omega
  ·cases hs:slA D.sl a with
   | none=>show 0<_;omega
   | some s=>
    dsimp only
    obtain⟨k,_,hk,k2,_⟩:=slA_get hs
    have:=(hok s (by rw [<-k2];exact gem hk)).parent
    split
    ·split
     ·show 0<_;omega
     ·exact ha
    ·exact this
theorem insertR_calls (h:RM ok w g D vs vr) (hok:∀b,w.heap.size<=b->ok b=true) (hw:Wf D) {x:Tr}{e:E5} (hx:RTr (vw ok g w) x e) {wh:Int}{a:Nat} (ha:a<18446744073709551616)
  (hK:∀w' vs' vr',RM ok w' g (insF D wh a x).1 vs' vr'->Fm (·=g) w w'->R (.returned (.tuple #[.int .u64 ((insF D wh a x).2.1:Nat),.int .i64 (insF D wh a x).2.2])) w') :
  CL 27 #[.pointer (some ⟨g,0,none⟩),.int .i64 wh,.int .u64 (a:Nat),.agg #[.int .i64 e.kind,.string e.nm,slV e.ats,.string e.text,slV e.kids]] w R:=by
 refine ok27 (some ⟨g,0,none⟩) wh a e.kind e.nm e.ats.1 e.ats.2.1 e.ats.2.2 e.text e.kids.1 e.kids.2.1 e.kids.2.2 ?_
 unfold F27
 obtain⟨es,hr⟩:=h.re
 refine al fun g7 w1 hb1 b7 hge7=>?_
 have hpl:=place_lt hr.ok (wh:=wh) ha
 refine placeW (hr.keep hb1) ha fun w2 hb2=>⟨_,_,rfl,?_⟩
 have B2:=btr hb1 hb1.size hb2
 have b72:=b7.keep hb2
 refine bre (fun h1=>?_) (fun h1=>?_)
 ·have e1:insF D wh a x=(D,0,1):=by unfold insF;rw [if_pos h1]
  rw [e1] at hK
  rw [h1];exact hK w2 vs vr (h.keep B2) (.below B2)
 simp only [b72.cell,lds]
 have hxw:RTr w x e:=RTr.sub sub_of_only _ _ hx
 refine Check_calls x (hxw.keep B2) fun w3 hb3=>⟨_,rfl,?_⟩
 have B3:=btr B2 B2.size hb3
 have b73:=b72.keep hb3
 refine brn (fun h2=>?_) (fun h2=>?_)
 ·have e1:insF D wh a x=(D,0,(lookF x 1 0).2):=by unfold insF;rw [if_neg h1,if_pos h2]
  rw [e1] at hK
  exact hK w3 vs vr (h.keep B3) (.below B3)
 have h2:(lookF x 1 0).2=0:=h2
 obtain⟨k1,k2,k3,k4⟩:=look_ok x 1 0 h2
 refine brn (fun h3=>?_) (fun h3=>?_)
 ·have e1:insF D wh a x=(D,0,(placeF D wh a).2):=by unfold insF;rw [if_neg h1,if_neg (by rw [h2];simp),if_pos h3]
  rw [e1] at hK
  exact hK w3 vs vr (h.keep B3) (.below B3)
 have h3:(placeF D wh a).2=0:=h3
 obtain⟨p1,p2,p3,p4,p5,p6⟩:=place_ok hw h3
 obtain⟨c1,c2⟩:=hw.cnt (p1.imp id fun⟨t,h,_⟩=>⟨t,h⟩)
 have hins:insF D wh a x=if 64<cntI D (placeF D wh a).1+dpT x then (D,0,32) else if 4096<tk D.sl+szT x then (D,0,33) else
   (putI { D with sl:=makeF x (placeF D wh a).1 D.sl } (freshH D.sl) (placeF D wh a).1 wh a,freshH D.sl,0):=by
  unfold insF;rw [if_neg h1,if_neg (by rw [h2];simp),if_neg (by rw [h3];simp)]
 have hmem:2<wh->a∈lstI D (placeF D wh a).1:=fun h2=>by
  obtain⟨s,s1,s2⟩:=p4 h2
  have:=hw.a.mem a s s1 sm
  rw [s2] at this;exact this
 rw [hins] at hK
 generalize placeF D wh a=pr at *
 obtain⟨p,pe⟩:=pr
 dsimp only at *
 simp only [b73.cell,lds]
 refine sizeR_calls x (hxw.keep B3) k1 om om fun w4 hb4=>⟨_,_,rfl,?_⟩
 have B4:=btr B3 B3.size hb4
 refine levelW (hr.keep B4) c2 c1 hpl fun w5 hb5=>⟨_,rfl,?_⟩
 have B5:=btr B4 B4.size hb5
 refine⟨inR_i64 om om,inR_i64 om om,?_⟩
 refine brd (fun h4=>?_) (fun h4=>?_)
 ·rw [if_pos om] at hK
  exact hK w5 vs vr (h.keep B5) (.below B5)
 rw [if_neg om] at hK
 have htk:=nlt (tk_le (sl:=D.sl)) h.few
 refine takenW (hr.keep B5) ⟨_,rfl,inR_i64 om om,?_⟩
 refine brd (fun h5=>?_) (fun h5=>?_)
 ·rw [if_pos om] at hK
  exact hK w5 vs vr (h.keep B5) (.below B5)
 rw [if_neg om] at hK
 have M:=make_wf x k1 hw.s hw.a p1 c2 om om
 obtain⟨st,st1,st2⟩:=M.top
 refine al fun g5 w7 hb7 _ _=>?_
 have B7:=btr B5 B5.size hb7
 simp only [NonNil_some,(hr.keep B7).c0,lds]
 refine h.copy B7 fun w9 vs9 es9 h9 f9 f79 hrow9=>?_
 have b74:=(b73.keep hb4).keep hb5
 have hg:=h.blk.lt
 have b79:=f79.blk (b74.keep hb7) (fun e=>by have e:g7=g:=e;omega)
 simp only [b79.cell,lds]
 have hwE9:=f9.size
 refine makeR_calls x (e:=e) h9 (fun b hb=>hok b om) k1 hw.s hw.a p1 c2 om om hpl (RTr.sub (vw_vx f9 hrow9) _ _ hx) (fun _ h=>by simp at h) fun w10 vs10 es10 h10 f10 nr10 _=>⟨_,rfl,?_⟩
 have F10:=Ed.only f9 hrow9 f10
 have hrow10:∀b,rowOf (slV vs10)=some b->w.heap.size<=b:=fun b hb=>by
  rcases nr10 b hb with e | e
  ·exact hrow9 b e
  ·omega
 have hpe:p=0\/∃t,slA (makeF x p D.sl) p=some t:=p1.imp id fun⟨t,ht,_⟩=>⟨t,M.ext _ _ ht⟩
 have hlst:lstI { D with sl:=makeF x p D.sl } p=lstI D p:=by
  unfold lstI lstA
  by_cases h0:p=0
  ·rw [if_pos h0,if_pos h0]
  ·rw [if_neg h0,if_neg h0]
   obtain⟨t,ht,_⟩:=p1.resolve_left h0
   rw [ht]
   dsimp only
   rw [M.ext _ _ ht]
 have hs10:=F10.size
 refine putW h10 (fun b hb=>hok b om) (n:=freshH D.sl) (p:=p) (a:=a) (wh:=wh) (M.wf.zero) st1 hpl hpe (lst_fewD (D:={ D with sl:=makeF x p D.sl }) M.wfs M.wf p) (fun h2=>by rw [hlst];exact hmem h2) fun w11 vr11 es11 h11 f11=>⟨rfl,?_⟩
 have hne0:freshH D.sl≠0:=by unfold freshH hnd;omega
 have hnp:freshH D.sl≠p:=fun e=>by
  rcases p1 with e1 | ⟨t,ht,_⟩
  ·exact hne0 (e.trans e1)
  ·rw [<-e,M.new] at ht;cases ht
 have hput:updI (putI { D with sl:=makeF x p D.sl } (freshH D.sl) p wh a) (freshH D.sl) (fun s=>{ s with parent:=p })=putI { D with sl:=makeF x p D.sl } (freshH D.sl) p wh a:=by
  have e4:slA (putI { D with sl:=makeF x p D.sl } (freshH D.sl) p wh a).sl (freshH D.sl)=some st:=by
   unfold putI
   rw [(setI_A (D:={ D with sl:=makeF x p D.sl }) (l:=insAt (lstI { D with sl:=makeF x p D.sl } p) (posF wh a (lstI { D with sl:=makeF x p D.sl } p)) (freshH D.sl)) hpe).1]
   dsimp only
   rw [setA_of st1,if_neg (fun e=>hnp e.1)]
  refine upd_same e4 ?_
  cases st
  simp only at st2
  simp only [st2]
 rw [hput] at h11
 have F11:=Ed.only F10 hrow10 f11
 exact hK w11 vs10 vr11 (h11.close fun b hb=>hok b (hrow10 b hb)) F11
end
def trF (A:Nat->Option Sl):Nat->Nat->Tr
 | 0,_=>.mk 2 noB [] noB []
 | r+1,x=>match A x with
  | some s=>.mk s.kind s.nm s.attrs s.text (s.kids.map (trF A r))
  | none=>.mk 2 noB [] noB []
theorem trF_some {A:Nat->Option Sl}{r x:Nat}{s:Sl} (h:A x=some s):trF A (r+1) x=.mk s.kind s.nm s.attrs s.text (s.kids.map (trF A r)):=by rw [trF,h]
theorem okL_map {f:Nat->Tr}:∀{l:List Nat},(∀y∈l,okT (f y))->okL (l.map f)
 | [],_=>by simp [okL]
 | y :: l,h=>by
  simp only [List.map_cons,okL]
  exact⟨h y sm,okL_map fun z hz=>h z (by simp [hz])⟩
theorem dpL_map {f:Nat->Tr}{h:Nat->Nat}:∀{l:List Nat} (a:Nat),(∀y∈l,dpT (f y)=h y)->(l.map h).foldl max a=max a (dpL (l.map f))
 | [],a,_=>by simp [dpL]
 | y :: l,a,k=>by
  simp only [List.map_cons,List.foldl_cons,dpL]
  rw [dpL_map (f:=f) _ fun z hz=>k z (by simp [hz]),k y sm]
  omega
theorem szL_map {f:Nat->Tr}{h:Nat->List Nat}:∀{l:List Nat},(∀y∈l,szT (f y)=(h y).length)->szL (l.map f)=(l.flatMap h).length
 | [],_=>by simp [szL]
 | y :: l,k=>by
  simp only [List.map_cons,szL,fmc,lap]
  rw [k y sm,szL_map fun z hz=>k z (by simp [hz])]
theorem tr_facts {A:Nat->Option Sl}{roots loose:List Nat} (hA:WfA A roots loose):∀(r x c:Nat) {s:Sl},A x=some s->Ch A x c->65<=c+r->okT (trF A r x)/\dpT (trF A r x)=dpA A r x/\szT (trF A r x)=(allA A r x).length:=by
 intro r
 induction r with
 | zero=>
  intro x c s hx hc hr
  obtain⟨c',h1,h2⟩:=hA.chain x s hx
  have:=hc.fn h2
  omega
 | succ r ih=>
  intro x c s hx hc hr
  obtain⟨o1,o2⟩:=hA.ok x s hx
  have hk:∀y∈s.kids,okT (trF A r y)/\dpT (trF A r y)=dpA A r y/\szT (trF A r y)=(allA A r y).length:=fun y hy=>by
   obtain⟨t,t1,t2⟩:=((hA.kid x s hx).2 y hy).2
   exact ih y (c+1) t1 (.succ (hA.ne0 t1) t1 (by rw [t2];exact hc)) om
  rw [trF_some hx,dpA_some hx,allA_some hx]
  have d:=dpL_map (f:=trF A r) (h:=dpA A r) (l:=s.kids) 0 fun y hy=>(hk y hy).2.1
  have z:=szL_map (f:=trF A r) (h:=allA A r) (l:=s.kids) fun y hy=>(hk y hy).2.2
  refine⟨?_,?_,?_⟩
  ·unfold okT
   refine⟨o1,?_,fun _=>okL_map fun y hy=>(hk y hy).1⟩
   rcases o2 with h | h
   ·exact .inl h.1
   ·exact .inr h.1
  ·unfold dpT
   rcases o2 with h | h
   ·rw [if_neg om];omega
   ·rw [if_pos h.1,h.2.2.2];simp
  ·unfold szT
   rw [lcn]
   rcases o2 with h | h
   ·rw [if_neg om];omega
   ·rw [if_pos h.1,h.2.2.2];simp
def nvB (ok:Nat->Bool) (k g4 g6:Nat) (kv:Sv) (b:Nat):Bool:=ok b || decide (k<=b/\b≠g4/\b≠g6/\rowOf (slV kv)≠some b)
theorem nvB_iff {ok:Nat->Bool}{k g4 g6:Nat}{kv:Sv}{b:Nat}:nvB ok k g4 g6 kv b=true↔ok b=true\/(k<=b/\b≠g4/\b≠g6/\rowOf (slV kv)≠some b):=by
 unfold nvB;rw [Bool.or_eq_true,dete]
theorem newOr_iff {ok:Nat->Bool}{k b:Nat}:(ok b || Nat.ble k b)=true↔ok b=true\/k<=b:=by
 rw [Bool.or_eq_true]
 exact⟨fun h=>h.imp id nbl,fun h=>h.imp id Nat.ble_eq_true_of_le⟩
section
variable {ok:Nat->Bool}{opn:List Nat}{w w1 w0:Wd}{g:Nat}{D:Im}{vs vr:Sv}{es:List S8}{R:RT}
theorem getR_calls (h:RW opn w0 g D vs vr es) (hb0:Below w0.heap.size w0 w) {x:Nat}{s:Sl} (hx:slA D.sl x=some s)
  (hK:∀w' e,Below w.heap.size w w'->es[x % 4294967296-1]?=some e->R (.returned (.tuple #[.agg #[.int .i64 s.kind,.string s.nm,slV e.ats,.string s.text,.slice none 0 0],.int .i64 0])) w') :
  CL 153 #[.pointer (some ⟨g,0,none⟩),.int .u64 (x:Nat)] w R:=by
 have hxl:=hnd_lt h.ok h.few hx
 obtain⟨k,k1,hk,k2,k3,hx0⟩:=slA_get hx
 refine ok153 (some ⟨g,0,none⟩) x ?_
 unfold F153
 refine al fun g4 w1 hb1 b4 hge4=>?_
 have B1:=btr hb0 hb0.size hb1
 have h1:=h.keep B1
 refine atW h1 hxl ⟨_,rfl,?_⟩
 rw [k1]
 refine brd (fun h9=>absurd h9 (by simp [atI])) (fun _=>?_)
 simp only [NonNil_some,h1.c0,lds]
 obtain⟨e,he⟩:=h1.e8 hk
 obtain⟨b1,b2⟩:=h1.el k _ e (gge hk) he
 obtain⟨hk',he'⟩:=gsi.1 he
 refine h1.rd.s8 h1.en (show atI (some k)=k from rfl) hk' fun b o c0 c1 c2 c3 c4 c5 c6 c7=>?_
 rw [he'] at c0 c1 c2 c3 c4 c5 c6 c7
 simp only [c0,c1,c2,c3,c4,c5,c6,c7,lds]
 refine al fun gs w2 hb2 bs hges=>?_
 refine st_blk bs sm fun u1 q1 f1=>st_blk q1 sm fun u2 q2 f2=>st_blk q2 sm fun u3 q3 f3=>st_blk q3 sm fun u4 q4 f4=>st_blk q4 sm fun u5 q5 f5=>st_blk q5 sm fun u6 q6 f6=>st_blk q6 sm fun u7 q7 f7=>st_blk q7 sm fun w3 q8 f8=>?_
 simp only [sls] at q8
 have F3:Fm (·=gs) w2 w3:=((((((f1.trans f2).trans f3).trans f4).trans f5).trans f6).trans f7).trans f8
 have D3:Below w1.heap.size w1 w3:=hb2.trans (F3.toBelow hb2.size fun b hb e=>by have e:b=gs:=e;omega)
 simp only [q8.cell,lds]
 refine st_blk (b4.keep D3) sm fun v1 p1 r1=>st_blk p1 sm fun v2 p2 r2=>st_blk p2 sm fun v3 p3 r3=>st_blk p3 sm fun v4 p4 r4=>st_blk p4 sm fun w4 p5 r5=>?_
 simp only [sls] at p5
 have F4:Fm (·=g4) w3 w4:=(((r1.trans r2).trans r3).trans r4).trans r5
 simp only [p5.cell,lds]
 have hs1:=hb1.size
 have D13:Below w.heap.size w w3:=hb1.trans (D3.mono hs1)
 have:=hK w4 e (D13.trans (F4.toBelow D13.size fun b hb e=>by have e:b=g4:=e;omega)) (by rw [show x % 4294967296-1=k by omega];exact he)
 rw [<-k2,<-b1.kind,<-b1.nm,<-b1.text] at this
 exact this
theorem subtreeR_calls (h:RW [] w0 g D vs vr es) (hats:∀(i:Nat) (s:Sl) (e:S8),D.sl[i]?=some s->es[i]?=some e->RR LAt (wOnly ok w0) s.attrs e.ats) (hlt:∀b,ok b=true->b<w0.heap.size) {loose:List Nat} (hS:WfS D.sl) (hA:WfA (slA D.sl) D.roots loose) :
  ∀(r x c:Nat) {s:Sl}{w:Wd}{R:RT},slA D.sl x=some s->Ch (slA D.sl) x c->65<=c+r->Below w0.heap.size w0 w ->
  (∀w' (a kv:Sv),Below w.heap.size w w'->RTr (newOr ok w.heap.size w') (trF (slA D.sl) r x) ⟨s.kind,s.nm,a,s.text,kv⟩->R (.returned (.tuple #[.agg #[.int .i64 s.kind,.string s.nm,slV a,.string s.text,slV kv],.int .i64 0])) w') ->
  CL 97 #[.pointer (some ⟨g,0,none⟩),.int .u64 (x:Nat)] w R:=by
 intro r
 induction r with
 | zero=>
  intro x c s w R hx hc hr
  obtain⟨c',h1,h2⟩:=hA.chain x s hx
  have:=hc.fn h2
  omega
 | succ r ih=>
  intro x c s w R hx hc hr hb0 hK
  have hxl:=hnd_lt h.ok h.few hx
  obtain⟨k,k1,hk,k2,k3,hx0⟩:=slA_get hx
  have hs0:=hb0.size
  refine ok97 (some ⟨g,0,none⟩) x ?_
  unfold F97
  refine al fun g4 w1 hb1 b4 hge4=>?_
  have B1:=btr hb0 hb0.size hb1
  refine getR_calls h B1 hx fun w2 e hb2 he=>⟨_,_,_,_,_,_,_,_,_,_,rfl,?_⟩
  have B2:=btr B1 B1.size hb2
  refine al fun g6 w3 hb3 b6 hge6=>?_
  refine st_blk b6 sm fun u1 q1 f1=>st_blk q1 sm fun u2 q2 f2=>st_blk q2 sm fun u3 q3 f3=>st_blk q3 sm fun u4 q4 f4=>st_blk q4 sm fun w4 q5 f5=>?_
  simp only [sls] at q5
  have F4:Fm (·=g6) w3 w4:=(((f1.trans f2).trans f3).trans f4).trans f5
  have D4:Below w2.heap.size w2 w4:=hb3.trans (F4.toBelow hb3.size fun b hb e=>by have e:b=g6:=e;omega)
  have B4:=btr B2 B2.size D4
  refine brn (fun h9=>absurd rfl h9) (fun _=>?_)
  refine listW h B4 hxl (.inr ⟨s,hx,sm⟩) fun lv w5 hb5 hlv _ _=>⟨_,_,_,rfl,?_⟩
  have B5:=btr B4 B4.size hb5
  have hlst:lstI D x=s.kids:=by unfold lstI;exact lstA_some hx0 hx
  rw [hlst] at hlv
  have b45:=((b4.keep hb2).keep D4).keep hb5
  have b65:=q5.keep hb5
  have hkk:x % 4294967296-1=k:=by omega
  rw [hkk] at he
  have hat:=hats k s e (by rw [<-k2];exact gge hk) he
  have hkid:∀y∈s.kids,∃t,slA D.sl y=some t/\t.parent=x:=fun y hy=>((hA.kid x s hx).2 y hy).2
  have hfewk:s.kids.length<=4096:=nlt (live_few (fun y hy=>by obtain⟨t,t1,_⟩:=hkid y hy;exact⟨t,t1⟩) (hA.kid x s hx).1) hS.few
  have C5:Below w.heap.size w w5:=((hb1.trans (hb2.mono hb1.size)).trans (D4.mono (nlt hb1.size hb2.size))).trans (hb5.mono (nlt (nlt hb1.size hb2.size) D4.size))
  have hg4lt:g4<w2.heap.size:=(b4.keep hb2).lt
  have hg6lt:g6<w5.heap.size:=b65.lt
  have hne46:g4≠g6:=by omega
  obtain⟨z0,z1,z2⟩:=hlv
  have hw25:w2.heap.size<=w5.heap.size:=nlt D4.size hb5.size
  have hw1:=hb1.size
  have hw2:=hb2.size
  refine⟨fun j w'=>∃(m:Nat) (kv:Sv) (es5:List E5),j=m/\m<=s.kids.length/\Below w.heap.size w w'/\w5.heap.size<=w'.heap.size/\Blk w' g4 #[.int .i64 0,eS,.slice none 0 0,eS,.slice none 0 0] 48/\Blk w' g6 #[.int .i64 s.kind,.string s.nm,slV e.ats,.string s.text,slV kv] 48 /\
    Own LE5 w' w5.heap.size 48 (slV kv) es5/\RTl (wOnly (nvB ok w.heap.size g4 g6 kv) w') ((s.kids.take m).map (trF (slA D.sl) r)) es5,fun j _=>s.kids.length-j.toNat,
   ⟨0,(none,0,0),[],rfl,om,C5,nlr _,b45,b65,.inl ⟨rfl,rfl⟩,by simp [RTl]⟩,?_⟩
  rintro j w6 ⟨m,kv,es5,rfl,hm,C6,hsz6,b46,b66,ov,hrt⟩
  unfold F97_l6
  have B6:=btr hb0 hb0.size C6
  have hkv:∀b,rowOf (slV kv)=some b->w5.heap.size<=b/\b<w6.heap.size:=fun b hb=>ov.lt b hb
  have hel:=hrt.len
  rw [lmp,ltk] at hel
  refine brd (fun hlt1=>?_) (fun hge1=>?_)
  ·have hm2:m<s.kids.length:=by omega
   refine (z2.keep B6).hn z1 rfl hm2 fun bb oo cc=>?_
   simp only [cc,lds]
   obtain⟨t,t1,t2⟩:=hkid s.kids[m] (gem hm2)
   refine ih s.kids[m] (c+1) t1 (.succ (hA.ne0 t1) t1 (by rw [t2];exact hc)) om B6 fun w7 a7 kv7 hb7 hrt7=>⟨_,_,_,_,_,_,_,_,_,_,rfl,?_⟩
   refine al fun gk w8 hb8 bk hgek=>?_
   refine st_blk bk sm fun u1 q1 f1=>st_blk q1 sm fun u2 q2 f2=>st_blk q2 sm fun u3 q3 f3=>st_blk q3 sm fun u4 q4 f4=>st_blk q4 sm fun w9 q5 f5=>?_
   simp only [sls] at q5
   have F9:Fm (·=gk) w8 w9:=(((f1.trans f2).trans f3).trans f4).trans f5
   have D9:Below w7.heap.size w7 w9:=hb8.trans (F9.toBelow hb8.size fun b hb e=>by have e:b=gk:=e;omega)
   have D69:Below w6.heap.size w6 w9:=btr hb7 hb7.size D9
   have b69:=b66.keep D69
   simp only [b69.cell,q5.cell,lds]
   simp only [slV,lds]
   refine al fun g43 w10 hb10 b10 hge10=>?_
   have D610:Below w6.heap.size w6 w10:=btr D69 D69.size hb10
   have r1:Rd LE5 w10 (some ⟨g43,0,none⟩) 1 [⟨t.kind,t.nm,a7,t.text,kv7⟩]:=by
    refine⟨sm,by simp [maxLen],fun h0=>(by cases h0),fun _=>⟨g43,0,rfl,fun j u hj=>?_⟩⟩
    rw [LE5.all_one] at hj
    rw [b10.cell];simpa [LE5,E5.cells] using hj
   refine ap (L:=LE5) (e:=48) (xs:=es5) (ys:=[⟨t.kind,t.nm,a7,t.text,kv7⟩]) (base:=w5.heap.size) (v:=slV kv) (.agg #[.int .i64 0,eS,.slice none 0 0,eS,.slice none 0 0]) 88 rfl kr kr kr (ov.keep D610) r1 (by have:=D610.size;omega) (by simp;omega) (by simp [maxLen];omega) fun A' c' w11 o11 g11=>⟨A',_,c',rfl,?_⟩
   have F11:Fm (fun b=>rowOf (slV kv)=some b) w6 w11:=(Fm.below D610).trans (Fm.grown g11.grown fun x hx=>hx)
   have hn6:rowOf (slV kv)≠some g6:=fun e=>by have:=(hkv g6 e).1;omega
   have hn4:rowOf (slV kv)≠some g4:=fun e=>by have:=(hkv g4 e).1;omega
   have b611:=F11.blk b66 hn6
   refine st_blk b611 sm fun w12 b612 f12=>?_
   have b612:Blk w12 g6 #[.int .i64 s.kind,.string s.nm,slV e.ats,.string s.text,slV (A',es5.length+([⟨t.kind,t.nm,a7,t.text,kv7⟩]:List E5).length,c')] 48:=b612
   have hrow:∀b,rowOf (slV (A',es5.length+([⟨t.kind,t.nm,a7,t.text,kv7⟩]:List E5).length,c'))=some b->rowOf (slV kv)=some b\/w10.heap.size<=b:=fun b hb=>by
    rcases g11.row with e | e | ⟨g,e,hge⟩
    ·left;rw [<-e];exact hb
    ·rw [show rowOf (slV (A',es5.length+([⟨t.kind,t.nm,a7,t.text,kv7⟩]:List E5).length,c'))=none from e] at hb;cases hb
    ·right
     rw [show rowOf (slV (A',es5.length+([⟨t.kind,t.nm,a7,t.text,kv7⟩]:List E5).length,c'))=some g from e] at hb;cases hb
     exact hge
   have hs610:=D610.size
   have hs611:=F11.size
   have hs7:=hb7.size
   have hs710:w7.heap.size<=w10.heap.size:=nlt D9.size hb10.size
   have C12:Below w.heap.size w w12:=(C6.trans (F11.toBelow C6.size fun b hb e=>by have:=(hkv b e).1;have:=C5.size;omega)).trans (f12.toBelow (by have:=C6.size;omega) fun b hb e=>by have e:b=g6:=e;omega)
   generalize hkv':(A',es5.length+([⟨t.kind,t.nm,a7,t.text,kv7⟩]:List E5).length,c')=kv' at *
   have o11:Own LE5 w11 w5.heap.size 48 (slV kv') (es5++[⟨t.kind,t.nm,a7,t.text,kv7⟩]):=by rw [<-hkv'];exact o11
   refine⟨inR_i64 om om,⟨m+1,kv',_,sm,om,C12,by have:=f12.size;omega,f12.blk (F11.blk b46 hn4) (fun e=>hne46 e),b612,own_fm o11 f12 fun b hb e=>?_,?_⟩,odz⟩
   ·have e:b=g6:=e
    subst e
    rcases hrow b hb with e | e
    ·exact hn6 e
    ·omega
   ·rw [tsa hm2,List.map_append]
    refine RTl.snoc (RTr.sub ?_ _ _ hrt7) (RTl.sub ?_ _ _ hrt)
    ·refine sub_only (fun b hb h9=>nvB_iff.2 ?_) fun b hb h9=>?_
     ·rcases newOr_iff.1 h9 with h9 | h9
      ·exact .inl h9
      ·refine .inr ⟨by have:=C6.size;omega,om,om,fun e=>?_⟩
       rcases hrow b e with e | e
       ·have:=(hkv b e).2;omega
       ·omega
     ·have hbk:w11.heap[b]?=w7.heap[b]?:=by
       have h1:w11.heap[b]?=w10.heap[b]?:=by
        refine g11.grown.block b om fun e=>?_
        rcases newOr_iff.1 h9 with h9 | h9
        ·have:=hlt b h9;have:=(hkv b e.symm).1;have:=C5.size;omega
        ·have:=(hkv b e.symm).2;omega
       rw [h1,hb10.block b (by have:=D9.size;omega),D9.block b hb]
      have:=g11.lt
      rw [f12.block b om (fun e=>?_),hbk]
      have e:b=g6:=e
      rcases newOr_iff.1 h9 with h9 | h9
      ·have:=hlt b h9;omega
      ·omega
    ·refine sub_only (fun b hb h9=>nvB_iff.2 ?_) fun b hb h9=>?_
     ·rcases nvB_iff.1 h9 with h9 | ⟨h1,h2,h3,h4⟩
      ·exact .inl h9
      ·refine .inr ⟨h1,h2,h3,fun e=>?_⟩
       rcases hrow b e with e | e
       ·exact h4 e
       ·omega
     ·have y1:b≠g6:=fun e=>by
       rcases nvB_iff.1 h9 with h9 | ⟨h1,h2,h3,h4⟩
       ·have:=hlt b h9;omega
       ·exact h3 e
      rw [f12.block b om y1,F11.block b hb fun e=>?_]
      ·rcases nvB_iff.1 h9 with h9 | ⟨h1,h2,h3,h4⟩
       ·have:=hlt b h9;have:=(hkv b e).1;have:=C5.size;omega
       ·exact h4 e
  ·have hm2:m=s.kids.length:=by omega
   subst hm2
   rw [tkl] at hrt
   simp only [b66.cell,lds]
   simp only [slV,lds]
   refine st_blk b46 sm fun v1 p1 r1=>st_blk p1 sm fun v2 p2 r2=>st_blk p2 sm fun v3 p3 r3=>st_blk p3 sm fun v4 p4 r4=>st_blk p4 sm fun w7 p5 r5=>?_
   simp only [sls] at p5
   have F7:Fm (·=g4) w6 w7:=(((r1.trans r2).trans r3).trans r4).trans r5
   simp only [p5.cell,lds]
   have C7:Below w.heap.size w w7:=C6.trans (F7.toBelow C6.size fun b hb e=>by have e:b=g4:=e;omega)
   have B7:=btr hb0 hb0.size C7
   refine hK w7 e.ats kv C7 ?_
   rw [trF_some hx]
   simp only [RTr]
   have o7:=own_fm ov F7 fun b hb e=>by have e:b=g4:=e;have:=(hkv b hb).1;omega
   have o8:Own LE5 (newOr ok w.heap.size w7) w5.heap.size 48 (slV kv) es5:=by
    rcases o7 with h2 | h2 | ⟨g',c',cur,hv,hb,hh,hn,hm,hs,ht⟩
    ·exact .inl h2
    ·exact .inr (.inl h2)
    ·exact .inr (.inr ⟨g',c',cur,hv,hb,cells_only (newOr_iff.2 (.inr (by have:=C5.size;omega))) hh,hn,hm,hs,ht⟩)
   obtain⟨A,c9,hv,hr9⟩:=o8.form
   have e1:=slv_form hv
   refine⟨trivial,trivial,trivial,hat.sub (sub_only (fun b _ h9=>newOr_iff.2 (.inl h9)) fun b hb _=>B7.block b hb),by rw [lmp];omega,es5,by rw [e1],by rw [e1];exact hr9,?_⟩
   refine RTl.sub (sub_only (fun b hb h9=>newOr_iff.2 ?_) fun b hb h9=>F7.block b hb fun e=>?_) _ _ hrt
   ·rcases nvB_iff.1 h9 with h9 | ⟨h1,_⟩
    ·exact .inl h9
    ·exact .inr h1
   ·have e:b=g4:=e
    rcases nvB_iff.1 h9 with h9 | ⟨h1,h2,h3,h4⟩
    ·have:=hlt b h9;omega
    ·exact h2 e
end
def allI (D:Im) (n:Nat):List Nat:=if n=0 then D.roots.flatMap (allA (slA D.sl) 65) else allA (slA D.sl) 65 n
section
variable {opn:List Nat}{w w1 w0:Wd}{g:Nat}{D:Im}{vs vr:Sv}{es:List S8}{R:RT}{loose:List Nat}
theorem all_few (hS:WfS D.sl) (hA:WfA (slA D.sl) D.roots []) {r x:Nat} (hx:∃s,slA D.sl x=some s):(allA (slA D.sl) r x).length<=4096:=
 nlt (live_few (fun y hy=>all_live hA hx (fun z hz=>by simp at hz) hy) (all_nodup hA r x hx fun z hz=>by simp at hz)) hS.few
theorem flat_le {f:Nat->List Nat}{k:Nat}:∀(l:List Nat),(∀x∈l,(f x).length<=k)->(l.flatMap f).length<=l.length*k
 | [],_=>by simp
 | x :: l,h=>by
  rw [fmc,lap,lcn,Nat.add_mul]
  have h1:=h x sm
  have h2:=flat_le l fun y hy=>h y (by simp [hy])
  omega
theorem allI_len (hw:Wf D) (n:Nat) (hn:n=0\/∃s,slA D.sl n=some s):(allI D n).length<=16777216:=by
 unfold allI
 split
 ·have h1:=flat_le (f:=allA (slA D.sl) 65) (k:=4096) D.roots fun x hx=>by
   obtain⟨_,t,ht,_⟩:=hw.a.root.2 x hx
   exact all_few hw.s hw.a ⟨t,ht⟩
  have h2:=lst_fewD hw.s hw.a 0
  unfold lstI at h2;rw [lstA_zero] at h2
  have:=Nat.mul_le_mul_right 4096 h2
  omega
 ·have:=all_few (r:=65) hw.s hw.a (hn.resolve_left (by assumption));omega
theorem allW_loop {f:Nat->List Nat}{l:List Nat}{v:Sv} (hv:RR LHn w0 l v) {w1:Wd}{A1:OA}{n1 c1:Nat}{xs:List Nat} (hb1:Below w0.heap.size w0 w1) (ho1:Own LHn w1 w0.heap.size 42 (.slice A1 n1 c1) xs) (hlen:xs.length+(l.flatMap f).length<=4398046511104)
  (hstep:∀x∈l,∀{w:Wd}{A:OA}{n c:Nat}{ys:List Nat}{R:RT},Below w0.heap.size w0 w->Own LHn w w0.heap.size 42 (.slice A n c) ys->ys.length+(f x).length<=4398046511104 ->
   (∀A' n' c' w',Below w0.heap.size w0 w'->Own LHn w' w0.heap.size 42 (.slice A' n' c') (ys++f x)->R (.returned (.slice A' n' c')) w') ->
   CL 103 #[.pointer (some ⟨g,0,none⟩),.int .u64 (x:Nat),.slice A n c] w R)
  (hK:∀A' n' c' w',Below w0.heap.size w0 w'->Own LHn w' w0.heap.size 42 (.slice A' n' c') (xs++l.flatMap f)->R (.returned (.slice A' n' c')) w') :
  ∃(I:OA->Nat->Nat->Int->Wd->Prop) (m:OA->Nat->Nat->Int->Wd->Nat),I A1 n1 c1 (0:Int) w1 /\
   ∀(l3:OA) (lN3:Nat) (lC3:Nat) (i:Int) (w1_2:Wd),I l3 lN3 lC3 i w1_2->F103_l5 (some ⟨g,0,none⟩) v.1 v.2.1 (fun l3' lN3' lC3' i' w2=>I l3' lN3' lC3' i' w2/\m l3' lN3' lC3' i' w2<m l3 lN3 lC3 i w1_2) l3 lN3 lC3 i w1_2 R:=by
 obtain⟨z0,z1,z2⟩:=hv
 refine⟨fun l3 lN3 lC3 i w'=>∃m:Nat,i=m/\m<=l.length/\Below w0.heap.size w0 w'/\Own LHn w' w0.heap.size 42 (.slice l3 lN3 lC3) (xs++(l.take m).flatMap f),fun _ _ _ i _=>l.length-i.toNat,
  ⟨0,rfl,om,hb1,by simpa using ho1⟩,?_⟩
 rintro l3 lN3 lC3 i w3 ⟨m,rfl,hm,hb3,ho3⟩
 unfold F103_l5
 refine brd (fun hlt=>?_) (fun hge=>?_)
 ·have hm2:m<l.length:=by omega
  refine (z2.keep hb3).hn z1 rfl (k:=m) hm2 fun b o c0=>?_
  simp only [c0,lds]
  have hst:(l.take (m+1)).flatMap f=(l.take m).flatMap f++f l[m]:=by
   rw [tsa hm2,fma];simp
  have hle:((l.take (m+1)).flatMap f).length<=(l.flatMap f).length:=by
   have e:l.flatMap f=(l.take (m+1)).flatMap f++(l.drop (m+1)).flatMap f:=by rw [<-fma,tad]
   rw [e,lap];omega
  rw [hst,lap] at hle
  refine hstep l[m] (gem hm2) hb3 ho3 (by simp only [lap];omega) fun A4 n4 c4 w4 hb4 ho4=>⟨_,_,_,rfl,inR_i64 om om,⟨m+1,sm,om,hb4,?_⟩,odz⟩
  rw [hst,<-laa];exact ho4
 ·have hm2:m=l.length:=by omega
  subst hm2
  rw [tkl] at ho3
  exact hK l3 lN3 lC3 w3 hb3 ho3
theorem allW (h:RW [] w0 g D vs vr es) (hA:WfA (slA D.sl) D.roots loose):∀(r x c:Nat) {s:Sl},slA D.sl x=some s->Ch (slA D.sl) x c->65<=c+r->∀{w:Wd}{A:OA}{n c:Nat}{xs:List Nat}{R:RT},
  Below w0.heap.size w0 w->Own LHn w w0.heap.size 42 (.slice A n c) xs->xs.length+(allA (slA D.sl) r x).length<=4398046511104 ->
  (∀A' n' c' w',Below w0.heap.size w0 w'->Own LHn w' w0.heap.size 42 (.slice A' n' c') (xs++allA (slA D.sl) r x)->R (.returned (.slice A' n' c')) w') ->
  CL 103 #[.pointer (some ⟨g,0,none⟩),.int .u64 (x:Nat),.slice A n c] w R:=by
 intro r
 induction r with
 | zero=>
  intro x c s hx hc hr
  obtain⟨c',h1,h2⟩:=hA.chain x s hx
  have:=hc.fn h2
  omega
 | succ r ih=>
  intro x c s hx hc hr w A n cc xs R hb ho hlen hK
  have hxl:=hnd_lt h.ok h.few hx
  have hx0:=hA.ne0 hx
  rw [allA_some hx,lcn] at hlen
  rw [allA_some hx] at hK
  refine ok103 (some ⟨g,0,none⟩) x A n cc ?_
  unfold F103
  refine⟨fun A1 n1 c1 w1=>Below w0.heap.size w0 w1/\Own LHn w1 w0.heap.size 42 (.slice A1 n1 c1) (xs++[x]),?_,?_⟩
  ·rintro A1 n1 c1 w1 ⟨hb1,ho1⟩
   unfold F103_j3
   refine listW h hb1 hxl (.inr ⟨s,hx,sm⟩) fun v w2 hb2 hv _ _=>⟨_,_,_,rfl,?_⟩
   have B2:=btr hb1 hb1.size hb2
   have hlst:lstI D x=s.kids:=by unfold lstI;exact lstA_some hx0 hx
   rw [hlst] at hv
   refine allW_loop (f:=allA (slA D.sl) r) hv B2 (ho1.keep hb2) (by simp only [lap,List.length_singleton];omega) (fun y hy=>?_) fun A4 n4 c4 w4 hb4 ho4=>?_
   ·obtain⟨t,t1,t2⟩:=((hA.kid x s hx).2 y hy).2
    intro w A n c' ys R hb ho hl hK
    exact ih y (c+1) t1 (.succ (hA.ne0 t1) t1 (by rw [t2];exact hc)) om hb ho hl hK
   ·rw [laa,List.singleton_append] at ho4
    exact hK A4 n4 c4 w4 hb4 ho4
  ·refine brn (fun _=>?_) (fun h0=>absurd h0 om)
   refine ap1 (L:=LHn) (x:=x) (.int .u64 0) 8 rfl kr kr kr ho hb.size om (by simp [maxLen];omega) fun A' c' w1 o1 g1=>⟨_,_,_,rfl,hb.trans g1.below,o1⟩
theorem AllW (h:RW [] w g D vs vr es) (hw:Wf D) {n:Nat} (hn:n<18446744073709551616)
  (hK:∀v w',Below w.heap.size w w'->(n=0\/(∃s,slA D.sl n=some s)->Own LHn w' w.heap.size 42 (slV v) (allI D n))->(n≠0->slA D.sl n=none->v=(none,0,0))->R (.returned (.tuple #[slV v,.int .i64 (if n=0\/(slA D.sl n).isSome=true then 0 else 8)])) w') :
  CL 55 #[.pointer (some ⟨g,0,none⟩),.int .u64 (n:Nat)] w R:=by
 refine ok55 (some ⟨g,0,none⟩) n ?_
 unfold F55
 refine⟨fun w'=>w=w'/\(n=0\/∃s,slA D.sl n=some s),?_,?_⟩
 ·rintro _ ⟨rfl,hl⟩
  unfold F55_j3
  refine al fun g16 w1 hb1 b1 hge1=>?_
  have hfin:∀A' n' c' w',Below w.heap.size w w'->Own LHn w' w.heap.size 42 (.slice A' n' c') (allI D n)->R (.returned (.tuple #[.slice A' n' c',.int .i64 0])) w':=fun A' n' c' w' hb ho=>by
   have:=hK (A',n',c') w' hb (fun _=>ho) (fun h0 h1=>by
    rcases hl with e | ⟨s,hs⟩
    ·exact absurd e h0
    ·rw [hs] at h1;cases h1)
   rw [if_pos (by
    rcases hl with e | ⟨s,hs⟩
    ·exact .inl e
    ·exact .inr (by rw [hs];rfl))] at this
   exact this
  rcases hl with rfl | ⟨s,hs⟩
  ·refine ok103 (some ⟨g,0,none⟩) 0 (some ⟨g16,0,none⟩) 0 0 ?_
   unfold F103
   refine⟨fun A1 n1 c1 w2=>w1=w2/\A1=some ⟨g16,0,none⟩/\n1=0/\c1=0,?_,brn (fun h0=>absurd rfl h0) fun _=>⟨rfl,rfl,rfl,rfl⟩⟩
   rintro _ _ _ _ ⟨rfl,rfl,rfl,rfl⟩
   unfold F103_j3
   have hlen:=allI_len hw 0 (.inl rfl)
   unfold allI at hlen hfin
   rw [if_pos rfl] at hlen hfin
   refine listW (x:=0) h hb1 om (.inl rfl) fun v w2 hb2 hv _ _=>⟨_,_,_,rfl,?_⟩
   have hlst:lstI D 0=D.roots:=by unfold lstI;exact lstA_zero
   rw [hlst] at hv
   refine allW_loop (f:=allA (slA D.sl) 65) (xs:=[]) hv (btr hb1 hb1.size hb2) (Own.bare _ _ _ _ _) (by simp only [List.length_nil];omega) (fun y hy=>?_) fun A4 n4 c4 w4 hb4 ho4=>⟨_,_,_,rfl,?_⟩
   ·obtain⟨_,t,t1,t2⟩:=hw.a.root.2 y hy
    intro w A n c' ys R hb ho hl hK
    exact allW h hw.a 65 y 1 t1 (.succ (hw.a.ne0 t1) t1 (by rw [t2];exact .zero)) om hb ho hl hK
   ·exact hfin A4 n4 c4 w4 hb4 (by simpa using ho4)
  ·have hn0:=hw.a.ne0 hs
   have hlen:=allI_len hw n (.inr ⟨s,hs⟩)
   unfold allI at hlen hfin
   rw [if_neg hn0] at hlen hfin
   obtain⟨c,c1,c2⟩:=hw.a.chain n s hs
   refine allW (xs:=[]) h hw.a 65 n c hs c2 om hb1 (Own.bare _ _ _ _ _) (by simp only [List.length_nil];omega) fun A4 n4 c4 w4 hb4 ho4=>⟨_,_,_,rfl,?_⟩
   exact hfin A4 n4 c4 w4 hb4 (by simpa using ho4)
 ·refine brn (fun h0=>?_) (fun h0=>⟨rfl,.inl om⟩)
  refine liveW h hn ⟨_,rfl,?_⟩
  rw [brnot]
  refine br (fun h1=>⟨rfl,.inr (Option.isSome_iff_exists.1 h1)⟩) (fun h1=>?_)
  have e9:slA D.sl n=none:=by
   cases h9:slA D.sl n with
   | none=>rfl
   | some s=>rw [h9] at h1;cases h1
  have:=hK (none,0,0) w (.refl _ _) (fun hl=>by
   rcases hl with e | ⟨s,hs⟩
   ·omega
   ·rw [hs] at e9;cases e9) (fun _ _=>rfl)
  rw [if_neg (by
   rw [e9]
   rintro (h | h)
   ·omega
   ·cases h)] at this
  exact this
end
section
variable {ok:Nat->Bool}{opn:List Nat}{w w1 w0:Wd}{g:Nat}{D:Im}{vs vr:Sv}{es:List S8}{R:RT}{loose:List Nat}
theorem RM.re2 (h:RM ok w g D vs vr):∃es,RW [] w g D vs vr es/\∀(i:Nat) (s:Sl) (e:S8),D.sl[i]?=some s->es[i]?=some e->RR LAt (vw ok g w) s.attrs e.ats:=by
 obtain⟨es,e1,e2,e3⟩:=h.im.row
 have h2:=h.rdr
 have hl:=e3.len
 have key:∀(i:Nat) (s:Sl) (e:S8),D.sl[i]?=some s->es[i]?=some e->RSl (vw ok g w) s e:=fun i s e hs he=>by
  obtain⟨hi,hs⟩:=gsi.1 hs
  obtain⟨hi',he⟩:=gsi.1 he
  have:=e3.get i hi hi'
  rw [hs,he] at this;exact this
 refine⟨es,⟨h2.c0,h2.c1,e1,sub_of_only.rd e2,hl,h.few,fun i s e hs he=>?_,h2.im.roots,h2.im.ok,h2.im.rok⟩,fun i s e hs he=>(key i s e hs he).ats⟩
 have:=(key i s e hs he).sub sub_of_only
 exact⟨⟨this.gen,this.live,this.kind,this.nm,this.text,this.parent,this.ats⟩,fun _=>this.kids⟩
mutual
theorem dpT_le:∀x:Tr,dpT x<=szT x
 | .mk kind nm attrs text kids=>by
  have:=dpL_le kids
  unfold dpT szT;split <;> omega
theorem dpL_le:∀l:List Tr,dpL l<=szL l
 | []=>by simp [dpL]
 | x :: l=>by
  have h1:=dpT_le x
  have h2:=dpL_le l
  simp only [dpL,szL];omega
end
theorem depthR_calls (h:RM ok w g D vs vr) (hw:Wf D) {n:Nat}{s:Sl} (hs:slA D.sl n=some s) (hb:Below w.heap.size w w1)
  (hK:∀w' (a kv:Sv),Below w1.heap.size w1 w'->RTr w' (trF (slA D.sl) 65 n) ⟨s.kind,s.nm,a,s.text,kv⟩->R (.returned (.tuple #[.agg #[.int .i64 s.kind,.string s.nm,slV a,.string s.text,slV kv],.int .i64 0])) w') :
  CL 97 #[.pointer (some ⟨g,0,none⟩),.int .u64 (n:Nat)] w1 R:=by
 obtain⟨es,r1,r2⟩:=h.re2
 obtain⟨c,c1,c2⟩:=hw.a.chain n s hs
 have hsub:Sub (vw ok g w) (wOnly (fun b=>(ok b && !(Nat.beq b g)) && decide (b<w.heap.size)) w):=sub_only (fun b hb h=>by rw [h,det hb];rfl) fun _ _ _=>rfl
 refine subtreeR_calls (ok:=fun b=>(ok b && !(Nat.beq b g)) && decide (b<w.heap.size)) r1 (fun i s e h1 h2=>(r2 i s e h1 h2).sub hsub) (fun b hb=>by rw [bae,dete] at hb;exact hb.2) hw.s hw.a 65 n c hs c2 om hb fun w' a kv hb' hT=>hK w' a kv hb' (RTr.sub sub_of_only _ _ hT)
theorem place_live {wh:Int}{a:Nat} (h1:(placeF D wh a).2≠1) (h8:(placeF D wh a).2≠8):a=0\/∃s,slA D.sl a=some s:=by
 unfold placeF at h1 h8
 by_cases h9:wh<1\/4<wh\/(a=0/\2<wh)
 ·rw [if_pos h9] at h1;exact absurd rfl h1
 ·rw [if_neg h9] at h8
  by_cases h0:a=0
  ·exact .inl h0
  ·rw [if_neg h0] at h8
   cases hs:slA D.sl a with
   | none=>rw [hs] at h8;exact absurd rfl h8
   | some s=>exact .inr ⟨s,rfl⟩
theorem moveR_calls (h:RM ok w g D vs vr) (hok:∀b,w.heap.size<=b->ok b=true) (hw:Wf D) {n a:Nat}{wh:Int} (hn:n<18446744073709551616) (ha:a<18446744073709551616)
  (hK:∀w' vs' vr',RM ok w' g (movF D n wh a).1 vs' vr'->Fm (·=g) w w'->R (.returned (.int .i64 (movF D n wh a).2)) w') :
  CL 45 #[.pointer (some ⟨g,0,none⟩),.int .u64 (n:Nat),.int .i64 wh,.int .u64 (a:Nat)] w R:=by
 refine ok45 (some ⟨g,0,none⟩) n wh a ?_
 unfold F45
 obtain⟨es,hr⟩:=h.re
 have hpl:=place_lt hr.ok (wh:=wh) ha
 refine placeW hr ha fun w1 B1=>⟨_,_,rfl,?_⟩
 refine bre (fun h1=>?_) (fun h1=>?_)
 ·have e1:movF D n wh a=(D,1):=by unfold movF;rw [if_pos h1]
  rw [e1] at hK
  rw [h1];exact hK w1 vs vr (h.keep B1) (.below B1)
 have h1:(placeF D wh a).2≠1:=h1
 refine⟨fun w'=>w1=w'/\(∃s,slA D.sl n=some s)/\(placeF D wh a).2≠8,?_,?_⟩
 rotate_left
 ·refine liveW (hr.keep B1) hn ⟨_,rfl,?_⟩
  have hbad:(slA D.sl n=none\/(placeF D wh a).2=8)->R (.returned (.int .i64 8)) w1:=fun h2=>by
   have e1:movF D n wh a=(D,8):=by unfold movF;rw [if_neg h1,if_pos h2]
   rw [e1] at hK
   exact hK w1 vs vr (h.keep B1) (.below B1)
  rw [brnot]
  refine br (fun hl=>?_) (fun hl=>hbad (.inl ?_))
  ·exact bre (fun h8=>hbad (.inr h8)) (fun h8=>⟨rfl,Option.isSome_iff_exists.1 hl,h8⟩)
  ·cases h9:slA D.sl n with
   | none=>rfl
   | some s=>rw [h9] at hl;cases hl
 rintro _ ⟨rfl,⟨s,hs⟩,h8⟩
 unfold F45_j6
 have hal:=place_live h1 h8
 have n0:=hw.a.ne0 hs
 have hno8:¬(slA D.sl n=none\/(placeF D wh a).2=8):=by
  rintro (e | e)
  ·rw [hs] at e;cases e
  ·exact h8 e
 refine⟨fun w'=>Below w.heap.size w w'/\¬(a≠0/\wiI D n a=true),?_,?_⟩
 rotate_left
 ·refine brn (fun h0=>?_) (fun h0=>⟨B1,fun e=>by omega⟩)
  have h0:a≠0:=by omega
  obtain⟨t,ht⟩:=hal.resolve_left h0
  obtain⟨c,c1,c2⟩:=hw.a.chain a t ht
  refine withinW (hr.keep B1) hs c2 c1 h0 ha fun w2 hb2=>⟨_,rfl,?_⟩
  have B2:=btr B1 B1.size hb2
  refine br (fun hwi=>?_) (fun hwi=>⟨B2,fun e=>by rw [hwi] at e;cases e.2⟩)
  have e1:movF D n wh a=(D,34):=by unfold movF;rw [if_neg h1,if_neg hno8,if_pos ⟨h0,hwi⟩]
  rw [e1] at hK
  exact hK w2 vs vr (h.keep B2) (.below B2)
 rintro w2 ⟨B2,hnw⟩
 unfold F45_j8
 refine brn (fun h3=>?_) (fun h3=>?_)
 ·have e1:movF D n wh a=(D,(placeF D wh a).2):=by unfold movF;rw [if_neg h1,if_neg hno8,if_neg hnw,if_pos h3]
  rw [e1] at hK
  exact hK w2 vs vr (h.keep B2) (.below B2)
 have h3:(placeF D wh a).2=0:=h3
 obtain⟨p1,p2,p3,p4,p5,p6⟩:=place_ok hw h3
 obtain⟨m1,m2,m3,m4⟩:=mov_facts hw hs hnw h3
 obtain⟨c1,c2⟩:=hw.cnt (p1.imp id fun⟨t,h,_⟩=>⟨t,h⟩)
 have hmov:movF D n wh a=if 64<cntI D (placeF D wh a).1+dpA (slA D.sl) 65 n then (D,32) else
   (updI (putI (outI D n) n (placeF D wh a).1 wh a) n fun s=>{ s with parent:=(placeF D wh a).1 },0):=by
  unfold movF;rw [if_neg h1,if_neg hno8,if_neg hnw,if_neg (by rw [h3];simp)]
 rw [hmov] at hK
 generalize placeF D wh a=pr at *
 obtain⟨p,pe⟩:=pr
 dsimp only at *
 have hrB:=hr.keep B2
 refine depthR_calls h hw hs B2 fun w3 at' kv hb3 hT=>⟨_,_,_,_,_,_,_,_,_,_,rfl,?_⟩
 have B3:=btr B2 B2.size hb3
 obtain⟨cn,cn1,cn2⟩:=hw.a.chain n s hs
 obtain⟨f1,f2,f3⟩:=tr_facts hw.a 65 n cn hs cn2 om
 have hsz:=all_few (r:=65) hw.s hw.a ⟨s,hs⟩
 rw [<-f3] at hsz
 have hdsz:=dpT_le (trF (slA D.sl) 65 n)
 refine al fun gt w4 hb4 bt hget=>?_
 refine st_blk bt sm fun u1 q1 g1=>st_blk q1 sm fun u2 q2 g2=>st_blk q2 sm fun u3 q3 g3=>st_blk q3 sm fun u4 q4 g4=>st_blk q4 sm fun w5 q5 g5=>?_
 simp only [sls] at q5
 have F5:Fm (·=gt) w4 w5:=(((g1.trans g2).trans g3).trans g4).trans g5
 have D5:Below w3.heap.size w3 w5:=hb4.trans (F5.toBelow hb4.size fun b hb e=>by have e:b=gt:=e;omega)
 have B5:=btr B3 B3.size D5
 simp only [q5.cell,lds]
 refine sizeR_calls (trF (slA D.sl) 65 n) (e:=⟨s.kind,s.nm,at',s.text,kv⟩) (hT.keep D5) f1 om om fun w6 hb6=>⟨_,_,rfl,?_⟩
 have B6:=btr B5 B5.size hb6
 rw [f2]
 rw [f2] at hdsz
 refine levelW (hr.keep B6) c2 c1 hpl fun w7 hb7=>⟨_,rfl,?_⟩
 have B7:=btr B6 B6.size hb7
 refine⟨inR_i64 om om,inR_i64 om om,?_⟩
 refine brd (fun h4=>?_) (fun h4=>?_)
 ·rw [if_pos om] at hK
  exact hK w7 vs vr (h.keep B7) (.below B7)
 rw [if_neg om] at hK
 refine al fun g5 w8 hb8 _ _=>?_
 have B8:=btr B7 B7.size hb8
 simp only [NonNil_some,(hr.keep B8).c0,lds]
 refine h.copy B8 fun w9 vs9 es9 h9 f9 _ hrow9=>?_
 have hs9:=f9.size
 obtain⟨o1,o2,o3,o4⟩:=out_wf hw hs
 have hpar:=(hw.a.par n s hs).imp id (fun⟨t,ht,_⟩=>(⟨t,ht⟩:∃t,slA D.sl s.parent=some t))
 refine outW h9 (fun b hb=>hok b om) hs hpar (hw.a.mem n s hs sm) (lst_fewD hw.s hw.a _) fun w10 vr10 es10 h10 f10=>⟨rfl,?_⟩
 have F10:=Ed.only f9 hrow9 f10
 have hs10:=F10.size
 have hs1:slA (outI D n).sl n=some s:=by rw [o3,setA_of hs,if_neg (fun e=>m3 e.1)]
 have pe1:p=0\/∃t,slA (outI D n).sl p=some t:=by
  rcases p1 with e | ⟨t,ht,_⟩
  ·exact .inl e
  ·rw [o3]
   obtain⟨u,u1,_⟩:=setA_of' (p:=s.parent) (l:=(lstI D s.parent).erase n) ht
   exact .inr ⟨u,u1⟩
 have hlst:∀q,(q=0\/∃t,slA D.sl q=some t)->lstI (outI D n) q=if q=s.parent then (lstI D s.parent).erase n else lstI D q:=fun q hq=>by
  unfold lstI at o3 o4 |-
  rw [o3,o4]
  exact lst_setA hq hw.a.zero
 refine putW h10 (fun b hb=>hok b om) (p:=p) (a:=a) (wh:=wh) (slA_zero _) hs1 hpl pe1 (lst_fewD o1 o2 p) (fun h2'=>?_) fun w11 vr11 es11 h11 f11=>⟨rfl,?_⟩
 ·obtain⟨t,t1,t2⟩:=p4 h2'
  have hmem:=hw.a.mem a t t1 sm
  rw [t2] at hmem
  rw [hlst p (p1.imp id fun⟨t,h,_⟩=>⟨t,h⟩)]
  split
  ·rename_i e
   rw [<-e]
   exact (List.mem_erase_of_ne (Ne.symm m4)).2 hmem
  ·exact hmem
 exact hK w11 vs9 vr11 (h11.close fun b hb=>hok b (hrow9 b hb)) (Ed.only F10 hrow9 f11)
theorem deleteR_calls (h:RM ok w g D vs vr) (hok:∀b,w.heap.size<=b->ok b=true) (hw:Wf D) {n:Nat} (hn:n<18446744073709551616)
  (hK:∀w' vs' vr',RM ok w' g (delF D n).1 vs' vr'->Fm (·=g) w w'->R (.returned (.int .i64 (delF D n).2)) w') :
  CL 46 #[.pointer (some ⟨g,0,none⟩),.int .u64 (n:Nat)] w R:=by
 refine ok46 (some ⟨g,0,none⟩) n ?_
 unfold F46
 obtain⟨es,hr⟩:=h.re
 refine liveW hr hn ⟨_,rfl,?_⟩
 rw [brnot]
 unfold delF at hK
 cases hs:slA D.sl n with
 | none=>
  rw [hs] at hK
  exact br (fun hl=>by cases hl) (fun _=>hK w vs vr h (.refl _ _))
 | some s=>
 rw [hs] at hK
 dsimp only at hK
 refine br (fun _=>?_) (fun hl=>by cases hl)
 have n0:=hw.a.ne0 hs
 refine AllW hr hw hn fun v w1 B1 hv _=>⟨_,_,_,_,rfl,?_⟩
 have hv:=hv (.inr ⟨s,hs⟩)
 have hall:allI D n=allA (slA D.sl) 65 n:=by unfold allI;rw [if_neg n0]
 rw [hall] at hv
 have hl0:∀z,z∈([]:List Nat)->z=n\/¬Wi (slA D.sl) n z:=fun z hz=>by simp at hz
 have hnd:=all_nodup hw.a 65 n ⟨s,hs⟩ hl0
 have hfew:=all_few (r:=65) hw.s hw.a ⟨s,hs⟩
 have hlive:∀x∈allA (slA D.sl) 65 n,∃t,slA D.sl x=some t:=fun x hx=>all_live hw.a ⟨s,hs⟩ hl0 hx
 generalize allA (slA D.sl) 65 n=L at *
 refine al fun g5 w2 hb2 _ _=>?_
 have B2:=btr B1 B1.size hb2
 simp only [NonNil_some,(hr.keep B2).c0,lds]
 have hk2:=h.keep B2
 refine hk2.copy (Below.refl _ _) fun w3 vs3 es3 h3 f3 _ hrow3=>?_
 have hs3:=f3.size
 have hsB:=B2.size
 obtain⟨o1,o2,o3,o4⟩:=out_wf hw hs
 have hpar:=(hw.a.par n s hs).imp id (fun⟨t,ht,_⟩=>(⟨t,ht⟩:∃t,slA D.sl s.parent=some t))
 have hg:=h.blk.lt
 have hv2:=hv.keep hb2
 have hvg:∀b,rowOf (slV v)=some b->b≠g:=fun b hb e=>by have:=(hv.lt b hb).1;omega
 have hv3:Own LHn w3 w.heap.size 42 (slV v) L:=own_fm hv2 f3 fun b hb e=>hvg b hb e
 have hvr3:∀b,rowOf (slV v)=some b->rowOf (slV vs3)≠some b:=fun b hb e=>by
  have:=hrow3 b e
  have:=(hv2.lt b hb).2
  omega
 refine outW h3 (fun b hb=>hok b om) hs hpar (hw.a.mem n s hs sm) (lst_fewD hw.s hw.a _) fun w4 vr4 es4 h4 f4=>⟨rfl,?_⟩
 have F4:=Ed.only f3 hrow3 f4
 have hv4:Own LHn w4 w.heap.size 42 (slV v) L:=own_fm hv3 f4 fun b hb e=>by
  rcases e with e | e
  ·exact hvg b hb e
  ·exact hvr3 b hb e
 have hpa:∀x t,slA D.sl x=some t->∃u,slA (outI D n).sl x=some u/\u.parent=t.parent:=by rw [o3];exact setA_pa
 have hlv2:∀x∈L,∃t,slA (outI D n).sl x=some t:=fun x hx=>by
  obtain⟨t,ht⟩:=hlive x hx
  obtain⟨u,hu,_⟩:=hpa x t ht
  exact⟨u,hu⟩
 have hv1:v.2.1=L.length:=by
  obtain⟨A,c,hv,_⟩:=hv.form
  rw [slv_form hv]
 refine⟨fun j w'=>∃(m:Nat) (es5:List S8),j=m/\m<=L.length/\RO ok [] w' g { outI D n with sl:=killF (outI D n).sl (L.take m) } vs3 vr4 es5/\Fm (·=g) w2 w'/\Own LHn w' w.heap.size 42 (slV v) L,fun j _=>L.length-j.toNat,
  ⟨0,es4,rfl,om,by simpa [killF] using h4,F4,hv4⟩,?_⟩
 rintro j w5 ⟨m,es5,rfl,hm,h5,F5,hv5⟩
 unfold F46_l7
 have hs5:=F5.size
 refine brd (fun hlt=>?_) (fun hge=>?_)
 ·have hm2:m<L.length:=by omega
  obtain⟨A,c,hvf,hrd⟩:=hv5.form
  have e1:v.1=A:=by rw [slv_form hvf]
  rw [<-e1] at hrd
  refine hrd.hn hv1 rfl hm2 fun bb oo cc=>?_
  simp only [cc,lds]
  obtain⟨kf1,kf2⟩:=killF_A (L.take m) (outI D n).sl o1 (hnd.sublist (List.take_sublist _ _)) fun x hx=>hlv2 x (List.mem_of_mem_take hx)
  have hnm:L[m]∉L.take m:=fun hx=>by
   have h9:(L.take m++L.drop m).Nodup:=by rw [tad];exact hnd
   refine (List.nodup_append.1 h9).2.2 _ hx L[m] ?_ rfl
   rw [dgc hm2];exact List.mem_cons_self ..
  obtain⟨t,ht⟩:=hlv2 L[m] (gem hm2)
  have ht5:slA (killF (outI D n).sl (L.take m)) L[m]=some t:=by rw [kf2,if_neg hnm];exact ht
  have hxl:=hnd_lt h5.ok h5.few ht5
  obtain⟨k,k1,hk,k2,k3,hx0⟩:=slA_get ht5
  have hr5:=h5.re
  refine atW hr5 hxl ⟨_,rfl,?_⟩
  have k1':atF ({ outI D n with sl:=killF (outI D n).sl (L.take m) }:Im).sl L[m]=some k:=k1
  rw [k1']
  have hdr:Below w5.heap.size w5 w5.drew:=(Below.refl _ _).drew
  refine⟨fun w'=>Below w5.heap.size w5 w',hdr,?_⟩
  rw [NonNil_some]
  refine⟨_,_,_,fun w' hb=>(hr5.keep hb).c0,?_⟩
  refine⟨_,_,_,fun w' hb=>(hr5.keep hb).c0,?_⟩
  refine hr5.slotH (fun w1 h1=>h1) (show atI (some k)=k from rfl) hk fun b o e he q1 _ c0 _ _ _=>⟨_,c0,?_⟩
  have h6:=h5.keep hdr
  have hie:k<es5.length:=by rw [h5.len];exact hk
  refine h6.own.elA (show atI (some k)=k from rfl) hie (show 8=LS8.n from rfl) fun bw hbw=>?_
  simp only [Addr.add_mk]
  have hgen:({ outI D n with sl:=killF (outI D n).sl (L.take m) }:Im).sl[k].gen=t.gen:=by
   show (killF (outI D n).sl (L.take m))[k].gen=_
   rw [k2]
  rw [hgen]
  refine Own.st8 ⟨t.gen,false,0,ByteArray.mk #[],(none,0,0),ByteArray.mk #[],0,(none,0,0)⟩ h6.own hie hbw fun w7 o7 f7=>?_
  have hgl:t.gen<4294967296:=by
   have:=(h5.ok _ (gem hk)).gen
   rw [hgen] at this;exact this
  have h7:=h6.put1 (opn1:=[]) (s':=deadS t.gen) (e':=⟨t.gen,false,0,ByteArray.mk #[],(none,0,0),ByteArray.mk #[],0,(none,0,0)⟩) hk o7 f7 ⟨rfl,rfl,rfl,rfl,rfl,rfl,rr_none _ _⟩ (fun _=>rr_none _ _) (fun _ _ h=>h) ⟨hgl,show 0<18446744073709551616 by decide,by simp [deadS]⟩
  have eK:killF (outI D n).sl (L.take (m+1))=(killF (outI D n).sl (L.take m)).set k (deadS t.gen):=by
   rw [tsa hm2,killF_app,killF_one k3 (by rw [gge hk,k2])]
  have h7:RO ok [] w7 g { outI D n with sl:=(killF (outI D n).sl (L.take m)).set k (deadS t.gen) } vs3 vr4 (es5.set k ⟨t.gen,false,0,ByteArray.mk #[],(none,0,0),ByteArray.mk #[],0,(none,0,0)⟩):=h7
  rw [<-eK] at h7
  have f57:Fm (Ed g vs3) w5 w7:=(Fm.below hdr).trans (f7.mono fun b _ hb=>.inr hb)
  exact⟨inR_i64 om om,⟨m+1,_,sm,om,h7,Ed.only F5 hrow3 f57,own_fm hv5 f57 fun b hb e=>by
   rcases e with e | e
   ·exact hvg b hb e
   ·exact hvr3 b hb e⟩,odz⟩
 ·have hm2:m=L.length:=by omega
  subst hm2
  rw [tkl] at h5
  exact hK w5 vs3 vr4 (h5.close fun b hb=>hok b (by have:=hrow3 b hb;omega)) ((Fm.below B2).trans F5)
end
set_option maxRecDepth 100000
section
variable {ok:Nat->Bool}{opn:List Nat}{w w1 w0:Wd}{g:Nat}{D:Im}{vs vr:Sv}{es:List S8}{R:RT}{loose:List Nat}
theorem changeR_calls (h:RM ok w g D vs vr) {n:Nat} (hn:n<18446744073709551616) (kind:Int)
  (hbad:chgF D n kind≠0->R (.returned (.tuple #[.int .i64 0,.int .i64 (chgF D n kind)])) w)
  (hgood:chgF D n kind=0->∀(s:Sl) (k:Nat),slA D.sl n=some s->s.kind=kind->n % 4294967296=k+1->D.sl[k]?=some s->∀(w':Wd) (vs':Sv) (es:List S8),RO ok [] w' g D vs' vr es->Fm (·=g) w w'->(∀b,rowOf (slV vs')=some b->w.heap.size<=b)->R (.returned (.tuple #[.int .i64 (k:Nat),.int .i64 0])) w') :
  CL 99 #[.pointer (some ⟨g,0,none⟩),.int .u64 (n:Nat),.int .i64 kind] w R:=by
 refine ok99 (some ⟨g,0,none⟩) n kind ?_
 unfold F99
 obtain⟨es,hr⟩:=h.re
 refine atW hr hn ⟨_,rfl,?_⟩
 cases hs:slA D.sl n with
 | none=>
  have e1:chgF D n kind=8:=by unfold chgF;rw [hs]
  rw [e1] at hbad
  rw [atF_none.2 hs]
  exact brd (fun _=>hbad dc) (fun h9=>absurd (by simp [atI]) h9)
 | some s=>
  obtain⟨k,k1,hk,k2,k3,hx0⟩:=slA_get hs
  rw [k1]
  refine brd (fun h9=>absurd h9 (by simp [atI])) (fun _=>?_)
  simp only [NonNil_some,hr.c0,lds]
  refine hr.slot (show atI (some k)=k from rfl) hk fun b o e _ _ _ _ _ c2 _ _ _=>?_
  rw [k2] at c2
  simp only [c2,lds]
  refine brn (fun hne=>?_) (fun he=>?_)
  ·have e1:chgF D n kind=30:=by unfold chgF;rw [hs];dsimp only;rw [if_neg hne]
   rw [e1] at hbad
   exact hbad dc
  ·have he:s.kind=kind:=he
   have e1:chgF D n kind=0:=by unfold chgF;rw [hs];dsimp only;rw [if_pos he]
   refine al fun g5 w2 B2 _ _=>?_
   simp only [NonNil_some,(hr.keep B2).c0,lds]
   refine h.copy B2 fun w3 vs3 es3 h3 f3 _ hrow3=>?_
   exact hgood e1 s k hs he k3 (by rw [<-k2];exact gge hk) w3 vs3 es3 h3 f3 hrow3
theorem RO.poke (h:RO ok [] w g D vs vr es) {k j:Nat}{s s':Sl}{u:Value} (f:S8->S8) (hs:D.sl[k]?=some s) (hj:j<8) (hc:∀e,LS8.cells (f e)=(LS8.cells e).set j u) (hq:∀e,RSb (vx ok g vs w) s e->RSb (vx ok g vs w) s' (f e)) (hk:∀e,(f e).kids=e.kids) (hk':s'.kids=s.kids) (hok:SlOk s') {K:Wd->Prop}
  (hK:∀w' es',RO ok [] w' g { D with sl:=D.sl.set k s' } vs vr es'->Fm (Ed g vs) w w'->K w'):IdxA vs.1 vs.2.1 (k:Nat) 8 fun q=>St w (q.add j) u K:=by
 obtain⟨hi,hs'⟩:=gsi.1 hs
 have hie:k<es.length:=by rw [h.len];exact hi
 refine h.own.elA rfl hie (show 8=LS8.n from rfl) fun bw hbw=>?_
 simp only [Addr.add_mk]
 refine h.own.stc hie (x':=f es[k]) hj (hc _) hbw fun w1 o1 f1=>?_
 obtain⟨q1,q2⟩:=h.el k s es[k] hs (gge hie)
 exact hK w1 _ (h.put1 (opn1:=[]) hi o1 f1 (hq _ q1) (fun _=>by rw [hk,hk'];exact q2 sm) (fun _ _ h=>h) hok) (f1.mono fun b _ hb=>.inr hb)
theorem updI_set {n k:Nat}{s:Sl} (hm:n % 4294967296=k+1) (hs:D.sl[k]?=some s) (f:Sl->Sl):updI D n f={ D with sl:=D.sl.set k (f s) }:=by
 unfold updI
 rw [show n % 4294967296-1=k by omega,modify_set _ _ _ s hs]
theorem RM.slok (h:RM ok w g D vs vr) {k:Nat}{s:Sl} (hs:D.sl[k]?=some s):SlOk s:=h.im.ok _ (mog hs)
theorem setNameR_calls (h:RM ok w g D vs vr) (hok:∀b,w.heap.size<=b->ok b=true) {n:Nat} (hn:n<18446744073709551616) {nm:ByteArray}
  (hK:∀w' vs' vr',RM ok w' g (setNameF D n nm).1 vs' vr'->Fm (·=g) w w'->R (.returned (.int .i64 (setNameF D n nm).2)) w') :
  CL 47 #[.pointer (some ⟨g,0,none⟩),.int .u64 (n:Nat),.string nm] w R:=by
 refine ok47 (some ⟨g,0,none⟩) n nm ?_
 unfold F47
 unfold setNameF at hK
 refine changeR_calls h hn 1 (fun hne=>⟨_,_,rfl,?_⟩) fun he s k hs hk hm hsk w3 vs3 es3 h3 f3 hrow3=>⟨_,_,rfl,?_⟩
 ·rw [if_pos hne] at hK
  exact brn (fun _=>hK w vs vr h (.refl _ _)) (fun e=>absurd e hne)
 rw [if_neg (by rw [he];simp)] at hK
 refine brn (fun e=>absurd rfl e) (fun _=>?_)
 refine name2_calls ⟨_,rfl,?_⟩
 rw [brnot]
 refine br (fun hN=>?_) (fun hN=>?_)
 ·rw [if_pos hN,updI_set hm hsk] at hK
  simp only [NonNil_some,h3.c0,lds]
  have ho:=h.slok hsk
  refine h3.poke (s':={ s with nm:=nm }) (fun e=>{ e with nm:=nm }) hsk om (fun _=>rfl) (fun e q=>⟨q.gen,q.live,q.kind,rfl,q.text,q.parent,q.ats⟩) (fun _=>rfl) rfl ⟨ho.gen,ho.parent,ho.kids⟩ fun w4 es4 h4 f4=>?_
  exact hK w4 vs3 vr (h4.close fun b hb=>hok b (hrow3 b hb)) (Ed.only f3 hrow3 f4)
 ·rw [if_neg (by rw [hN];decide)] at hK
  exact hK w3 vs3 vr (h3.close fun b hb=>hok b (hrow3 b hb)) f3
theorem setTextR_calls (h:RM ok w g D vs vr) (hok:∀b,w.heap.size<=b->ok b=true) {n:Nat} (hn:n<18446744073709551616) {t:ByteArray}
  (hK:∀w' vs' vr',RM ok w' g (setTextF D n t).1 vs' vr'->Fm (·=g) w w'->R (.returned (.int .i64 (setTextF D n t).2)) w') :
  CL 48 #[.pointer (some ⟨g,0,none⟩),.int .u64 (n:Nat),.string t] w R:=by
 refine ok48 (some ⟨g,0,none⟩) n t ?_
 unfold F48
 unfold setTextF at hK
 refine changeR_calls h hn 2 (fun hne=>⟨_,_,rfl,?_⟩) fun he s k hs hk hm hsk w3 vs3 es3 h3 f3 hrow3=>⟨_,_,rfl,?_⟩
 ·rw [if_pos hne] at hK
  exact brn (fun _=>hK w vs vr h (.refl _ _)) (fun e=>absurd e hne)
 rw [if_neg (by rw [he];simp)] at hK
 refine brn (fun e=>absurd rfl e) (fun _=>?_)
 refine refText_calls t fun w4 hb4=>⟨_,_,rfl,?_⟩
 have h4:=h3.keep hb4
 have F4:Fm (·=g) w w4:=f3.tr hb4
 refine brn (fun hne=>?_) (fun he2=>?_)
 ·rw [if_neg om] at hK
  exact hK w4 vs3 vr (h4.close fun b hb=>hok b (hrow3 b hb)) F4
 ·rw [if_pos om,updI_set hm hsk] at hK
  simp only [NonNil_some,h4.c0,lds]
  have ho:=h.slok hsk
  refine h4.poke (s':={ s with text:=t }) (fun e=>{ e with text:=t }) hsk om (fun _=>rfl) (fun e q=>⟨q.gen,q.live,q.kind,q.nm,rfl,q.parent,q.ats⟩) (fun _=>rfl) rfl ⟨ho.gen,ho.parent,ho.kids⟩ fun w5 es5 h5 f5=>?_
  exact hK w5 vs3 vr (h5.close fun b hb=>hok b (hrow3 b hb)) (Ed.only F4 hrow3 f5)
theorem posA_at_eq {l:List At}{nm:ByteArray} (h:okA l) {k:Nat} (hk:k<l.length) (he:l[k].nm=nm):posA l nm=k/\thereA l nm=true:=by
 have e:posA l nm=k:=posA_eq om (fun j hj hl=>by
  have:=pwi.1 h.2 j k hl hk hj
  rw [he] at this;exact this) fun hl=>by rw [he];exact blt_irr nm
 refine⟨e,?_⟩
 unfold thereA
 rw [e,gge hk]
 simpa using he
theorem dropAttrR_calls (h:RM ok w g D vs vr) (hok:∀b,w.heap.size<=b->ok b=true) (hw:Wf D) {n:Nat} (hn:n<18446744073709551616) {nm:ByteArray}
  (hK:∀w' vs' vr',RM ok w' g (dropAttrF D n nm).1 vs' vr'->Fm (·=g) w w'->R (.returned (.int .i64 (dropAttrF D n nm).2)) w') :
  CL 50 #[.pointer (some ⟨g,0,none⟩),.int .u64 (n:Nat),.string nm] w R:=by
 refine ok50 (some ⟨g,0,none⟩) n nm ?_
 unfold F50
 unfold dropAttrF at hK
 refine changeR_calls h hn 1 (fun hne=>⟨_,_,rfl,?_⟩) fun he s k hs hk hm hsk w3 vs3 es3 h3 f3 hrow3=>⟨_,_,rfl,?_⟩
 ·rw [if_pos hne] at hK
  exact brn (fun _=>hK w vs vr h (.refl _ _)) (fun e=>absurd e hne)
 rw [if_neg (by rw [he];simp)] at hK
 obtain⟨a1,a2⟩:=okS_ats (hw.a.ok n s hs) hk
 rw [ats_some hs] at hK
 refine brn (fun e=>absurd rfl e) (fun _=>?_)
 simp only [NonNil_some,h3.c0,lds]
 obtain⟨hki,hki'⟩:=gsi.1 hsk
 have hr3:=h3.re
 refine hr3.slot rfl hki fun b o e he8 q1 _ _ _ _ c4 _ _=>?_
 simp only [c4,lds]
 have hatv:=(h3.el k s e hsk he8).1.ats
 obtain⟨z0,z1,z2⟩:=(hatv.sub vx_of:RR LAt w3 s.attrs e.ats)
 have hzc:=z2.1
 refine⟨fun j w'=>w3=w'/\∃m:Nat,j=m/\m<=s.attrs.length/\∀i,i<m->∀hi:i<s.attrs.length,s.attrs[i].nm≠nm,fun j _=>s.attrs.length-j.toNat,⟨rfl,0,rfl,Nat.zero_le _,by intro i hi;omega⟩,?_⟩
 rintro j _ ⟨rfl,m,rfl,hm4,hno⟩
 unfold F50_l6
 refine brd (fun hlt=>?_) (fun hge=>?_)
 ·have hm2:m<s.attrs.length:=by omega
  refine z2.at2 z1 rfl hm2 fun bb oo c0 c1=>?_
  simp only [c0,lds]
  refine br (fun heq=>?_) (fun hne=>?_)
  ·have heq:s.attrs[m].nm=nm:=toList_inj (by simpa using heq)
   obtain⟨p1,p2⟩:=posA_at_eq a2 hm2 heq
   rw [if_pos p2,updI_set hm hsk,p1] at hK
   have hdr:Below w3.heap.size w3 w3.drew:=(Below.refl _ _).drew
   refine⟨fun w'=>Below w3.heap.size w3 w',hdr,?_⟩
   rw [NonNil_some]
   refine⟨_,_,_,fun w' hb=>(hr3.keep hb).c0,?_⟩
   have eN:(m:Int)+1=((m+1:Nat):Int):=by omega
   rw [eN]
   refine⟨om,om,om,inR_i64 om om,om,om,om,?_⟩
   refine al fun ga w4 hb4 _ _=>?_
   have B4:=btr hdr hdr.size hb4
   refine⟨B4,?_⟩
   rw [tnc,tnc,tnc]
   refine ap (L:=LAt) (e:=145) (xs:=[]) (ys:=s.attrs.take m) (base:=w3.heap.size) (.agg #[.string ⟨#[]⟩,.string ⟨#[]⟩]) 32 (by rw [ltk];omega) kr kr kr (Own.bare _ _ _ _ _) ((z2.keep B4).take _) B4.size (by simp;omega) (by simp [maxLen];omega) fun A5 c5 w5 o5 g5=>⟨A5,_,c5,rfl,?_⟩
   have B5:Below w3.heap.size w3 w5:=B4.trans g5.below
   rw [lna] at o5
   refine⟨B5,?_⟩
   refine ap (L:=LAt) (e:=145) (xs:=s.attrs.take m) (ys:=s.attrs.drop (m+1)) (base:=w3.heap.size) (.agg #[.string ⟨#[]⟩,.string ⟨#[]⟩]) 32 (by rw [ldp];omega) kr kr kr o5 ((z2.keep B5).slice om) B5.size (by simp;omega) (by simp [maxLen];omega) fun A6 c6 w6 o6 g6=>⟨A6,_,c6,rfl,?_⟩
   have B6:Below w3.heap.size w3 w6:=B5.trans g6.below
   refine⟨B6,?_⟩
   have h6:=h3.keep B6
   have ho:=h.slok hsk
   have hsz:=f3.size
   have hra:=own_vx (L:=LAt) h3 (fun b hb=>hok b om) (nlr _) o6 (by simp;omega)
   refine h6.poke (s':={ s with attrs:=s.attrs.take m++s.attrs.drop (m+1) }) (fun e=>{ e with ats:=(A6,_,c6) }) hsk om (fun _=>rfl) (fun e q=>⟨q.gen,q.live,q.kind,q.nm,q.text,q.parent,hra⟩) (fun _=>rfl) rfl ⟨ho.gen,ho.parent,ho.kids⟩ fun w7 es7 h7 f7=>?_
   exact hK w7 vs3 vr (h7.close fun b hb=>hok b (hrow3 b hb)) (Ed.only (f3.tr B6) hrow3 f7)
  ·have hne:s.attrs[m].nm≠nm:=fun e=>by rw [e] at hne;simp at hne
   refine⟨inR_i64 om om,⟨by trivial,m+1,om,om,fun i hi hil=>?_⟩,odz⟩
   by_cases e:i=m
   ·subst e;exact hne
   ·exact hno i om hil
 ·have hth:¬thereA s.attrs nm=true:=fun ht=>by
   obtain⟨p1,p2⟩:=posA_there ht
   exact hno _ om p1 p2
  rw [if_neg hth] at hK
  exact hK _ vs3 vr (h3.close fun b hb=>hok b (hrow3 b hb)) f3
theorem setAttrR_calls (h:RM ok w g D vs vr) (hok:∀b,w.heap.size<=b->ok b=true) (hw:Wf D) {n:Nat} (hn:n<18446744073709551616) {nm v:ByteArray}
  (hK:∀w' vs' vr',RM ok w' g (setAttrF D n nm v).1 vs' vr'->Fm (·=g) w w'->R (.returned (.int .i64 (setAttrF D n nm v).2)) w') :
  CL 49 #[.pointer (some ⟨g,0,none⟩),.int .u64 (n:Nat),.string nm,.string v] w R:=by
 refine ok49 (some ⟨g,0,none⟩) n nm v ?_
 unfold F49
 unfold setAttrF at hK
 refine changeR_calls h hn 1 (fun hne=>⟨_,_,rfl,?_⟩) fun he s k hs hk hm hsk w3 vs3 es3 h3 f3 hrow3=>⟨_,_,rfl,?_⟩
 ·rw [if_pos hne] at hK
  exact brn (fun _=>hK w vs vr h (.refl _ _)) (fun e=>absurd e hne)
 rw [if_neg (by rw [he];simp)] at hK
 obtain⟨a1,a2⟩:=okS_ats (hw.a.ok n s hs) hk
 rw [ats_some hs] at hK
 refine brn (fun e=>absurd rfl e) (fun _=>?_)
 refine name2_calls ⟨_,rfl,?_⟩
 rw [brnot]
 refine br (fun hN=>?_) (fun hN=>?_)
 rotate_left
 ·rw [if_pos (by rw [hN];decide)] at hK
  exact hK w3 vs3 vr (h3.close fun b hb=>hok b (hrow3 b hb)) f3
 rw [if_neg (by rw [hN];simp)] at hK
 refine refText_calls v fun w4 hb4=>⟨_,_,rfl,?_⟩
 have h4:=h3.keep hb4
 have F4:Fm (·=g) w w4:=f3.tr hb4
 refine brn (fun hne=>?_) (fun he2=>?_)
 ·rw [if_pos om] at hK
  exact hK w4 vs3 vr (h4.close fun b hb=>hok b (hrow3 b hb)) F4
 rw [if_neg om] at hK
 simp only [NonNil_some,h4.c0,lds]
 obtain⟨hki,hki'⟩:=gsi.1 hsk
 have hr4:=h4.re
 refine hr4.slot rfl hki fun b o e he8 q1 _ _ _ _ c4 _ _=>?_
 simp only [c4,lds]
 have hatv:=(h4.el k s e hsk he8).1.ats
 obtain⟨z0,z1,z2⟩:=(hatv.sub vx_of:RR LAt w4 s.attrs e.ats)
 have hzc:=z2.1
 refine al fun g43 w5 hb5 _ _=>?_
 have z25:=z2.keep hb5
 have hple:=posA_le s.attrs nm
 refine⟨fun j w'=>w5=w'/\j=(posA s.attrs nm:Nat),?_,?_⟩
 rotate_left
 ·refine⟨fun j w'=>w5=w'/\∃m:Nat,j=m/\m<=s.attrs.length/\∀i,i<m->∀hi:i<s.attrs.length,blt s.attrs[i].nm nm=true,fun j _=>s.attrs.length-j.toNat,⟨rfl,0,rfl,Nat.zero_le _,by intro i hi;omega⟩,?_⟩
  rintro j _ ⟨rfl,m,rfl,hm4,hyes⟩
  unfold F49_l10
  refine⟨fun w'=>w5=w'/\∃hi:m<s.attrs.length,blt s.attrs[m].nm nm=true,?_,?_⟩
  ·rintro _ ⟨rfl,hi,hb⟩
   unfold F49_j11
   refine⟨inR_i64 om om,⟨by trivial,m+1,om,om,fun i hi2 hil=>?_⟩,odz⟩
   by_cases e:i=m
   ·subst e;exact hb
   ·exact hyes i om hil
  ·refine brd (fun hlt=>?_) (fun hge=>⟨by trivial,?_⟩)
   ·have hm2:m<s.attrs.length:=by omega
    refine z25.at2 z1 rfl hm2 fun bb oo c0 c1=>?_
    simp only [c0,lds]
    refine br (fun hb=>⟨by trivial,hm2,hb⟩) (fun hb=>⟨by trivial,?_⟩)
    rw [posA_eq (i:=m) hm4 hyes fun _=>hb]
   ·rw [posA_eq (i:=m) hm4 hyes fun hl=>absurd hl om]
 rintro j _ ⟨rfl,rfl⟩
 unfold F49_j12
 generalize hpp:posA s.attrs nm=m at *
 refine⟨fun t w'=>w5=w'/\t=thereA s.attrs nm,?_,?_⟩
 rotate_left
 ·unfold thereA
  rw [hpp]
  refine brd (fun hlt=>?_) (fun hge=>⟨by trivial,by rw [List.getElem?_eq_none om]⟩)
  have hm2:m<s.attrs.length:=by omega
  refine z25.at2 z1 rfl hm2 fun bb oo c0 c1=>?_
  simp only [c0,lds]
  refine⟨by trivial,?_⟩
  rw [gge hm2,Bool.eq_iff_iff,beq_iff_eq]
  dsimp only
  rw [dete]
  exact⟨toList_inj,fun e=>by rw [e]⟩
 rintro there _ ⟨rfl,rfl⟩
 unfold F49_j13
 refine⟨fun w'=>w5=w'/\¬(thereA s.attrs nm=false/\32<=s.attrs.length),?_,?_⟩
 rotate_left
 ·rw [brnot]
  refine br (fun ht=>⟨by trivial,by rw [ht];simp⟩) (fun ht=>?_)
  refine brd (fun hlen=>?_) (fun hlen=>⟨by trivial,om⟩)
  rw [if_pos ⟨ht,om⟩] at hK
  exact hK _ vs3 vr ((h4.keep hb5).close fun b hb=>hok b (hrow3 b hb)) (F4.tr hb5)
 rintro _ ⟨rfl,hroom⟩
 rw [if_neg hroom,updI_set hm hsk] at hK
 unfold F49_j15
 rw [tnc]
 refine⟨om,om,om,?_⟩
 refine ap (L:=LAt) (e:=145) (xs:=[]) (ys:=s.attrs.take m) (base:=w4.heap.size) (.agg #[.string ⟨#[]⟩,.string ⟨#[]⟩]) 32 (by rw [ltk];omega) kr kr kr (Own.bare _ _ _ _ _) (z25.take _) hb5.size (by simp;omega) (by simp [maxLen];omega) fun A6 c6 w6 o6 g6=>⟨A6,_,c6,rfl,?_⟩
 have B6:Below w4.heap.size w4 w6:=hb5.trans g6.below
 rw [lna] at o6
 refine al fun g7 w7 hb7 b7 _=>?_
 have B7:=btr B6 B6.size hb7
 have r7:Rd LAt w7 (some ⟨g7,0,none⟩) 1 [⟨nm,v⟩]:=by
  refine⟨sm,by simp [maxLen],fun h0=>(by cases h0),fun _=>⟨g7,0,rfl,fun j u hj=>?_⟩⟩
  rw [LAt.all_one] at hj
  rw [b7.cell];simpa [LAt] using hj
 refine ap (L:=LAt) (e:=145) (xs:=s.attrs.take m) (ys:=[⟨nm,v⟩]) (base:=w4.heap.size) (.agg #[.string ⟨#[]⟩,.string ⟨#[]⟩]) 32 rfl kr kr kr (o6.keep hb7) r7 B7.size (by simp;omega) (by simp [maxLen];omega) fun A8 c8 w8 o8 g8=>⟨A8,_,c8,rfl,?_⟩
 have B8:Below w4.heap.size w4 w8:=B7.trans g8.below
 have hset:setA' s.attrs nm v=s.attrs.take m++[⟨nm,v⟩]++s.attrs.drop (if thereA s.attrs nm=true then m+1 else m):=by
  unfold setA'
  rw [hpp]
  by_cases ht:thereA s.attrs nm=true
  ·rw [if_pos ht,if_pos ht]
   obtain⟨p1,p2⟩:=posA_there ht
   rw [hpp] at p1
   rw [List.set_eq_take_append_cons_drop,if_pos p1];simp
  ·rw [if_neg ht,if_neg ht];simp
 have hm3:(if thereA s.attrs nm=true then m+1 else m)<=s.attrs.length:=by
  split
  ·rename_i ht
   obtain⟨p1,p2⟩:=posA_there ht
   omega
  ·exact hple
 refine⟨fun k2 w'=>w8=w'/\k2=((if thereA s.attrs nm=true then m+1 else m:Nat):Int),?_,?_⟩
 rotate_left
 ·refine br (fun ht=>?_) (fun ht=>?_)
  ·rw [if_pos ht]
   exact⟨inR_i64 om om,by trivial,om⟩
  ·rw [if_neg (by rw [ht];decide)]
   exact⟨by trivial,rfl⟩
 rintro k2 _ ⟨rfl,rfl⟩
 generalize (if thereA s.attrs nm=true then m+1 else m)=m3 at *
 unfold F49_j18
 have hd8:Below w8.heap.size w8 w8.drew:=(Below.refl _ _).drew
 have B8d:Below w4.heap.size w4 w8.drew:=btr B8 B8.size hd8
 refine⟨fun w'=>Below w4.heap.size w4 w',B8d,?_⟩
 rw [NonNil_some]
 refine⟨_,_,_,fun w' hb=>(hr4.keep hb).c0,?_⟩
 refine⟨om,om,om,?_⟩
 rw [tnc,tnc]
 refine ap (L:=LAt) (e:=145) (xs:=s.attrs.take m++[⟨nm,v⟩]) (ys:=s.attrs.drop m3) (base:=w4.heap.size) (.agg #[.string ⟨#[]⟩,.string ⟨#[]⟩]) 32 (by rw [ldp];omega) kr kr kr (o8.keep hd8) ((z2.keep B8d).slice hm3) B8d.size (by simp;omega) (by simp [maxLen];omega) fun A9 c9 w9 o9 g9=>⟨A9,_,c9,rfl,?_⟩
 have B9:Below w4.heap.size w4 w9:=B8d.trans g9.below
 refine⟨B9,?_⟩
 rw [<-hset] at o9
 have h9:=h4.keep B9
 have ho:=h.slok hsk
 have hsz:=F4.size
 have hlen9:(setA' s.attrs nm v).length<=1048576:=by rw [hset];simp;omega
 have hra:=own_vx (L:=LAt) h4 (fun b hb=>hok b om) (nlr _) o9 hlen9
 refine h9.poke (s':={ s with attrs:=setA' s.attrs nm v }) (fun e=>{ e with ats:=(A9,_,c9) }) hsk om (fun _=>rfl) (fun e q=>⟨q.gen,q.live,q.kind,q.nm,q.text,q.parent,hra⟩) (fun _=>rfl) rfl ⟨ho.gen,ho.parent,ho.kids⟩ fun w10 es10 h10 f10=>?_
 exact hK w10 vs3 vr (h10.close fun b hb=>hok b (hrow3 b hb)) (Ed.only (F4.tr B9) hrow3 f10)
end
end Go.Proofs.YtnbgiacnbheonaaGreatDoor
set_option linter.unusedVariables false
namespace Go.Proofs.YtnbgiacnbheonaaGreatDoor
open Go.Vc
def F51_l4 (g1 g2:Addr)(L4:OA->Nat->Nat->Int->Wd->Prop)(l:OA)(lN lC:Nat)(i:Int)(va:Wd)(R:RT):Prop:=LdSl (va.cell? (g1.add 4)) fun ua ta ka=>Br (decide (i<(ta:Int))) (LdSl (va.cell? (g1.add 4)) fun za ra na=>IdxA za ra i 5 fun ya=>LdI .i64 (va.cell? ya) fun s=>LdStr (va.cell? (ya.add 1)) fun p=>LdSl (va.cell? (ya.add 2)) fun ha b m=>LdStr (va.cell? (ya.add 3)) fun y=>LdSl (va.cell? (ya.add 4)) fun ba k e=>CL 51 #[.agg #[.int .i64 s,.string p,.slice ha b m,.string y,.slice ba k e]] va (post R fun v2 ja=>∃v ia fa a c t q h j,v2=(.agg #[.int .i64 v,.string ia,.slice fa a c,.string t,.slice q h j])/\Al ja #[.int .i64 v,.string ia,.slice fa a c,.string t,.slice q h j] 48 fun g25 ma=>Raw P0 (Builtin.append_ #[46,46] 46 #[.slice l lN lC,(.slice (some g25) 1 1)]) ma fun v3 qa=>∃ab pa sa,v3=(.slice ab pa sa)/\InR .i64 (i+(1:Int))/\L4 ab pa sa (i+(1:Int)) qa)) (St va (g1.add 4) (.slice l lN lC) fun ja=>LdI .i64 (ja.cell? g1) fun r=>LdStr (ja.cell? (g1.add 1)) fun z=>LdSl (ja.cell? (g1.add 2)) fun ga g n=>LdStr (ja.cell? (g1.add 3)) fun ca=>LdSl (ja.cell? (g1.add 4)) fun u d f=>St ja g2 (.int .i64 r) fun ma=>St ma (g2.add 1) (.string z) fun qa=>St qa (g2.add 2) (.slice ga g n) fun ea=>St ea (g2.add 3) (.string ca) fun da=>St da (g2.add 4) (.slice u d f) fun aa=>LdI .i64 (aa.cell? g2) fun res0_0=>LdStr (aa.cell? (g2.add 1)) fun res0_1=>LdSl (aa.cell? (g2.add 2)) fun res0_2 res0_2N res0_2C=>LdStr (aa.cell? (g2.add 3)) fun res0_3=>LdSl (aa.cell? (g2.add 4)) fun res0_4 res0_4N res0_4C=>R (.returned (.agg #[.int .i64 res0_0,.string res0_1,.slice res0_2 res0_2N res0_2C,.string res0_3,.slice res0_4 res0_4N res0_4C])) aa)
def F51 (r:Int)(s:ByteArray)(t:OA)(u y:Nat)(z:ByteArray)(aa:OA)(ab ac:Nat)(p:Wd)(R:RT):Prop:=Al p #[.int .i64 r,.string s,.slice t u y,.string z,.slice aa ab ac] 48 fun g1 w1=>Al w1 #[.int .i64 0,eS,.slice none 0 0,eS,.slice none 0 0] 48 fun g2 e=>Al e #[] 145 fun g5 a=>LdSl (a.cell? (g1.add 2)) fun q k g=>Raw P0 (Builtin.append_ #[45,45] 45 #[(.slice (some g5) 0 0),.slice q k g]) a fun v b=>∃n h j,v=(.slice n h j)/\St b (g1.add 2) (.slice n h j) fun f=>Al f #[] 48 fun g10 c=>∃(I:OA->Nat->Nat->Int->Wd->Prop)(m:OA->Nat->Nat->Int->Wd->Nat),I (some g10) 0 0 (0:Int) c/\∀l lN lC i d,I l lN lC i d->F51_l4 g1 g2 (fun l' lN' lC' i' w2=>I l' lN' lC' i' w2/\m l' lN' lC' i' w2<m l lN lC i d) l lN lC i d R
theorem ok51 (a:Int)(b:ByteArray)(c:OA)(d e:Nat)(f:ByteArray)(g:OA)(i j:Nat){w:Wd}{R:RT} (h:F51 a b c d e f g i j w R):CL 51 #[.agg #[.int .i64 a,.string b,.slice c d e,.string f,.slice g i j]] w R:=
 vk ⟨30,⟨[]⟩,[],[(4,⟨[(3,(.s .slice)),(4,(.s (.int .i64)))],[(3,27)]⟩)]⟩ Tryz.func51 h
def F54 (p:Value)(d:OA)(ag ah:Int)(ai:Bool)(aj ak:Int)(am an:ByteArray)(aq:Int)(ar:ByteArray)(au:OA)(av ay:Nat)(az:ByteArray)(bg:OA)(bh bi:Nat)(w_:Wd)(R:RT):Prop:=Al w_ #[.int .i64 ag,.int .i64 ah,.bool ai,.int .u64 aj,.int .u64 ak,.string am,.string an,.int .i64 aq,.string ar,.slice au av ay,.string az,.slice bg bh bi] 116 fun a w1=>LdI .i64 (w1.cell? a) fun hc=>LdI .i64 (w1.cell? (a.add 1)) fun yc=>LdB (w1.cell? (a.add 2)) fun tc=>LdI .u64 (w1.cell? (a.add 3)) fun pb=>LdI .u64 (w1.cell? (a.add 4)) fun ub=>LdStr (w1.cell? (a.add 5)) fun fb=>LdStr (w1.cell? (a.add 6)) fun dd=>LdI .i64 (w1.cell? (a.add 7)) fun kb=>LdStr (w1.cell? (a.add 8)) fun gc=>LdSl (w1.cell? (a.add 9)) fun ad r u=>LdStr (w1.cell? (a.add 10)) fun ga=>LdSl (w1.cell? (a.add 11)) fun s b c=>CL 102 #[.pointer d,.agg #[.int .i64 hc,.int .i64 yc,.bool tc,.int .u64 pb,.int .u64 ub,.string fb,.string dd,.int .i64 kb,.string gc,.slice ad r u,.string ga,.slice s b c]] w1 (post R fun v me=>∃kd kc dc rc fc ib cd fd mc cb ma z ca da f e,v=(.agg #[.int .i64 kd,.int .i64 kc,.bool dc,.int .u64 rc,.int .u64 fc,.string ib,.string cd,.int .i64 fd,.string mc,.slice cb ma z,.string ca,.slice da f e])/\St me a (.int .i64 kd) fun te=>St te (a.add 1) (.int .i64 kc) fun je=>St je (a.add 2) (.bool dc) fun qd=>St qd (a.add 3) (.int .u64 rc) fun ke=>St ke (a.add 4) (.int .u64 fc) fun qe=>St qe (a.add 5) (.string ib) fun zd=>St zd (a.add 6) (.string cd) fun sd=>St sd (a.add 7) (.int .i64 fd) fun ec=>St ec (a.add 8) (.string mc) fun cc=>St cc (a.add 9) (.slice cb ma z) fun ed=>St ed (a.add 10) (.string ca) fun qb=>St qb (a.add 11) (.slice da f e) fun pc=>LdI .i64 (pc.cell? a) fun df=>Br (df==(0:Int)) (LdI .i64 (pc.cell? (a.add 7)) fun sc=>LdStr (pc.cell? ((a.add 7).add 1)) fun qc=>LdSl (pc.cell? ((a.add 7).add 2)) fun nb g pa=>LdStr (pc.cell? ((a.add 7).add 3)) fun md=>LdSl (pc.cell? ((a.add 7).add 4)) fun zc fa n=>CL 51 #[.agg #[.int .i64 sc,.string qc,.slice nb g pa,.string md,.slice zc fa n]] pc (post R fun v2 uc=>∃gb ua sa t ka ab zb ia ha,v2=(.agg #[.int .i64 gb,.string ua,.slice sa t ka,.string ab,.slice zb ia ha])/\Al uc #[.int .i64 0,eS,.slice none 0 0,eS,.slice none 0 0] 48 fun g7 bc=>St bc g7 (.int .i64 gb) fun db=>St db (g7.add 1) (.string ua) fun gd=>St gd (g7.add 2) (.slice sa t ka) fun tb=>St tb (g7.add 3) (.string ab) fun za=>St za (g7.add 4) (.slice zb ia ha) fun ac=>LdI .i64 (ac.cell? (a.add 1)) fun uf=>LdI .u64 (ac.cell? (a.add 4)) fun bf=>LdI .i64 (ac.cell? g7) fun hd=>LdStr (ac.cell? (g7.add 1)) fun bd=>LdSl (ac.cell? (g7.add 2)) fun mb ja h=>LdStr (ac.cell? (g7.add 3)) fun eb=>LdSl (ac.cell? (g7.add 4)) fun ra m ba=>CallM P0 p "Insert" #[.int .i64 uf, (.int .u64 bf), (.agg #[.int .i64 hd, (.string bd), (.slice mb ja h), (.string eb), (.slice ra m ba)])] ac R (fun v3 bb=>∃jb ic,v3=(.tuple #[.int .u64 jb,.int .i64 ic])/\LdI .i64 (bb.cell? (a.add 1)) fun pf=>LdI .u64 (bb.cell? (a.add 4)) fun ef=>LdI .i64 (bb.cell? (a.add 7)) fun va=>LdStr (bb.cell? ((a.add 7).add 1)) fun jd=>LdSl (bb.cell? ((a.add 7).add 2)) fun ta ea k=>LdStr (bb.cell? ((a.add 7).add 3)) fun id=>LdSl (bb.cell? ((a.add 7).add 4)) fun rb j na=>CL 27 #[.pointer d,.int .i64 pf,.int .u64 ef,.agg #[.int .i64 va,.string jd,.slice ta ea k,.string id,.slice rb j na]] bb (post R fun v4 vb=>∃hb sb,v4=(.tuple #[.int .u64 hb,.int .i64 sb])/\LdI .i64 (vb.cell? g7) fun vc=>LdStr (vb.cell? (g7.add 1)) fun qa=>LdSl (vb.cell? (g7.add 2)) fun yb q i=>LdStr (vb.cell? (g7.add 3)) fun nc=>LdSl (vb.cell? (g7.add 4)) fun jc aa y=>CL 60 #[.agg #[.int .i64 vc,.string qa,.slice yb q i,.string nc,.slice jc aa y]] vb (post R fun v5 ya=>v5=(.tuple #[])/\Br (jb==hb) (R (.returned (.bool (ic==sb))) ya) (R (.returned (.bool false)) ya)))))) (Br (df==(1:Int)) (∃ S : Wd->Prop, S pc.drew/\∃kf,Held S (a.add 3) (.int .u64 kf)/\∃af,Held S (a.add 1) (.int .i64 af)/\∃nf,Held S (a.add 4) (.int .u64 nf)/\∃jf,Held S (a.add 3) (.int .u64 jf)/\∃ye,Held S (a.add 1) (.int .i64 ye)/\∃yf,Held S (a.add 4) (.int .u64 yf)/\CallM P0 p "Move" #[.int .u64 kf, (.int .i64 af), (.int .u64 nf)] pc.drew R (fun v2 bc=>∃hf,v2=(.int .i64 hf)/\S bc/\CL 45 #[.pointer d,.int .u64 jf,.int .i64 ye,.int .u64 yf] bc (post R fun v3 db=>∃sf,v3=(.int .i64 sf)/\R (.returned (.bool (hf==sf))) db))) (Br (df==(2:Int)) (∃ S : Wd->Prop, S pc.drew/\∃ff,Held S (a.add 3) (.int .u64 ff)/\∃gf,Held S (a.add 3) (.int .u64 gf)/\CallM P0 p "Delete" #[.int .u64 ff] pc.drew R (fun v2 bc=>∃vf,v2=(.int .i64 vf)/\S bc/\CL 46 #[.pointer d,.int .u64 gf] bc (post R fun v3 db=>∃ve,v3=(.int .i64 ve)/\R (.returned (.bool (vf==ve))) db))) (Br (df==(3:Int)) (∃ S : Wd->Prop, S pc.drew/\∃qf,Held S (a.add 3) (.int .u64 qf)/\∃ze,Held S (a.add 5) (.string ze)/\∃mf,Held S (a.add 3) (.int .u64 mf)/\∃cf,Held S (a.add 5) (.string cf)/\CallM P0 p "SetName" #[.int .u64 qf, (.string ze)] pc.drew R (fun v2 bc=>∃rf,v2=(.int .i64 rf)/\S bc/\CL 47 #[.pointer d,.int .u64 mf,.string cf] bc (post R fun v3 db=>∃tf,v3=(.int .i64 tf)/\R (.returned (.bool (rf==tf))) db))) (Br (df==(4:Int)) (∃ S : Wd->Prop, S pc.drew/\∃ud,Held S (a.add 3) (.int .u64 ud)/\∃ue,Held S (a.add 6) (.string ue)/\∃pd,Held S (a.add 3) (.int .u64 pd)/\∃ae,Held S (a.add 6) (.string ae)/\CallM P0 p "SetText" #[.int .u64 ud, (.string ue)] pc.drew R (fun v2 bc=>∃ce,v2=(.int .i64 ce)/\S bc/\CL 48 #[.pointer d,.int .u64 pd,.string ae] bc (post R fun v3 db=>∃ie,v3=(.int .i64 ie)/\R (.returned (.bool (ce==ie))) db))) (Br (df==(5:Int)) (∃ S : Wd->Prop, S pc.drew/\∃se,Held S (a.add 3) (.int .u64 se)/\∃rd,Held S (a.add 5) (.string rd)/\∃pe,Held S (a.add 6) (.string pe)/\∃ee,Held S (a.add 3) (.int .u64 ee)/\∃nd,Held S (a.add 5) (.string nd)/\∃fe,Held S (a.add 6) (.string fe)/\CallM P0 p "SetAttr" #[.int .u64 se, (.string rd), (.string pe)] pc.drew R (fun v2 bc=>∃td,v2=(.int .i64 td)/\S bc/\CL 49 #[.pointer d,.int .u64 ee,.string nd,.string fe] bc (post R fun v3 db=>∃de,v3=(.int .i64 de)/\R (.returned (.bool (td==de))) db))) (Br (df==(6:Int)) (∃ S : Wd->Prop, S pc.drew/\∃yd,Held S (a.add 3) (.int .u64 yd)/\∃vd,Held S (a.add 5) (.string vd)/\∃he,Held S (a.add 3) (.int .u64 he)/\∃re,Held S (a.add 5) (.string re)/\CallM P0 p "DropAttr" #[.int .u64 yd, (.string vd)] pc.drew R (fun v2 bc=>∃be,v2=(.int .i64 be)/\S bc/\CL 50 #[.pointer d,.int .u64 he,.string re] bc (post R fun v3 db=>∃ne,v3=(.int .i64 ne)/\R (.returned (.bool (be==ne))) db))) (R (.returned (.bool true)) pc))))))))
theorem ok54 (p:Value)(d:OA)(a b:Int)(c:Bool)(e f:Int)(g i:ByteArray)(j:Int)(k:ByteArray)(m:OA)(n q:Nat)(r:ByteArray)(s:OA)(t u:Nat){w:Wd}{R:RT} (h:F54 p d a b c e f g i j k m n q r s t u w R):CL 54 #[p,.pointer d,.agg #[.int .i64 a,.int .i64 b,.bool c,.int .u64 e,.int .u64 f,.string g,.string i,.int .i64 j,.string k,.slice m n q,.string r,.slice s t u]] w R:=
 vk ⟨147,⟨[]⟩,[],[]⟩ Tryz.func54 h
def F25_l4 (a:OA)(aN:Nat)(b:OA)(bN:Nat)(L4:Int->Wd->Prop)(i:Int)(g:Wd)(R:RT):Prop:=Br (decide (i<(aN:Int))) (Dr g fun w1=>IdxA a aN i 1 fun d=>LdI .u64 (w1.cell? d) fun f=>IdxA b bN i 1 fun c=>LdI .u64 (w1.cell? c) fun e=>Br (f != e) (R (.returned (.bool false)) w1) (InR .i64 (i+(1:Int))/\L4 (i+(1:Int)) w1)) (R (.returned (.bool true)) g)
def F25 (a:OA)(aN aC:Nat)(b:OA)(bN bC:Nat)(c:Wd)(R:RT):Prop:=Br ((aN:Int) != (bN:Int)) (R (.returned (.bool false)) c) (∃(I:Int->Wd->Prop)(m:Int->Wd->Nat),I (0:Int) c/\∀i w1,I i w1->F25_l4 a aN b bN (fun i' w2=>I i' w2/\m i' w2<m i w1) i w1 R)
theorem ok25 (a:OA)(c d:Nat)(b:OA)(e f:Nat){w:Wd}{R:RT} (h:F25 a c d b e f w R):CL 25 #[.slice a c d,.slice b e f] w R:=
 vk ⟨26,⟨[]⟩,[],[(4,⟨[(5,(.s (.int .i64)))],[(4,26)]⟩)]⟩ Tryz.func25 h
def F102_j12 (a g4:Addr)(ha:Wd)(R:RT):Prop:=LdI .i64 (ha.cell? a) fun k=>LdI .i64 (ha.cell? (a.add 1)) fun t=>LdB (ha.cell? (a.add 2)) fun r=>LdI .u64 (ha.cell? (a.add 3)) fun p=>LdI .u64 (ha.cell? (a.add 4)) fun z=>LdStr (ha.cell? (a.add 5)) fun ba=>LdStr (ha.cell? (a.add 6)) fun s=>LdI .i64 (ha.cell? (a.add 7)) fun m=>LdStr (ha.cell? (a.add 8)) fun j=>LdSl (ha.cell? (a.add 9)) fun i e f=>LdStr (ha.cell? (a.add 10)) fun g=>LdSl (ha.cell? (a.add 11)) fun d c b=>St ha g4 (.int .i64 k) fun da=>St da (g4.add 1) (.int .i64 t) fun fa=>St fa (g4.add 2) (.bool r) fun ca=>St ca (g4.add 3) (.int .u64 p) fun ea=>St ea (g4.add 4) (.int .u64 z) fun ga=>St ga (g4.add 5) (.string ba) fun aa=>St aa (g4.add 6) (.string s) fun y=>St y (g4.add 7) (.int .i64 m) fun q=>St q (g4.add 8) (.string j) fun n=>St n (g4.add 9) (.slice i e f) fun u=>St u (g4.add 10) (.string g) fun h=>St h (g4.add 11) (.slice d c b) fun v=>LdI .i64 (v.cell? g4) fun res0_0=>LdI .i64 (v.cell? (g4.add 1)) fun res0_1=>LdB (v.cell? (g4.add 2)) fun res0_2=>LdI .u64 (v.cell? (g4.add 3)) fun res0_3=>LdI .u64 (v.cell? (g4.add 4)) fun res0_4=>LdStr (v.cell? (g4.add 5)) fun res0_5=>LdStr (v.cell? (g4.add 6)) fun res0_6=>LdI .i64 (v.cell? (g4.add 7)) fun res0_7=>LdStr (v.cell? (g4.add 8)) fun res0_8=>LdSl (v.cell? (g4.add 9)) fun res0_9 res0_9N res0_9C=>LdStr (v.cell? (g4.add 10)) fun res0_10=>LdSl (v.cell? (g4.add 11)) fun res0_11 res0_11N res0_11C=>R (.returned (.agg #[.int .i64 res0_0,.int .i64 res0_1,.bool res0_2,.int .u64 res0_3,.int .u64 res0_4,.string res0_5,.string res0_6,.int .i64 res0_7,.string res0_8,.slice res0_9 res0_9N res0_9C,.string res0_10,.slice res0_11 res0_11N res0_11C])) v
def F102 (d:OA)(ac ad:Int)(ae:Bool)(af ag:Int)(ah ai:ByteArray)(aj:Int)(ak:ByteArray)(am:OA)(an aq:Nat)(ar:ByteArray)(au:OA)(av ay:Nat)(w_:Wd)(R:RT):Prop:=Al w_ #[.int .i64 ac,.int .i64 ad,.bool ae,.int .u64 af,.int .u64 ag,.string ah,.string ai,.int .i64 aj,.string ak,.slice am an aq,.string ar,.slice au av ay] 116 fun a w1=>Al w1 #[.int .i64 0,.int .i64 0,.bool false,.int .u64 0,.int .u64 0,eS,eS,.int .i64 0,eS,.slice none 0 0,eS,.slice none 0 0] 116 fun g4 pa=>CL 55 #[.pointer d,.int .u64 0] pa (post R fun v qa=>∃p j f ga,v=(.tuple #[.slice p j f,.int .i64 ga])/\LdB (qa.cell? (a.add 2)) fun ab=>Br (!ab) (LdI .i64 (qa.cell? a) fun q=>LdI .i64 (qa.cell? (a.add 1)) fun t=>LdB (qa.cell? (a.add 2)) fun ea=>LdI .u64 (qa.cell? (a.add 3)) fun z=>LdI .u64 (qa.cell? (a.add 4)) fun ba=>LdStr (qa.cell? (a.add 5)) fun n=>LdStr (qa.cell? (a.add 6)) fun aa=>LdI .i64 (qa.cell? (a.add 7)) fun r=>LdStr (qa.cell? (a.add 8)) fun m=>LdSl (qa.cell? (a.add 9)) fun da g i=>LdStr (qa.cell? (a.add 10)) fun e=>LdSl (qa.cell? (a.add 11)) fun h b c=>St qa g4 (.int .i64 q) fun ka=>St ka (g4.add 1) (.int .i64 t) fun ia=>St ia (g4.add 2) (.bool ea) fun ma=>St ma (g4.add 3) (.int .u64 z) fun ha=>St ha (g4.add 4) (.int .u64 ba) fun ja=>St ja (g4.add 5) (.string n) fun na=>St na (g4.add 6) (.string aa) fun fa=>St fa (g4.add 7) (.int .i64 r) fun ca=>St ca (g4.add 8) (.string m) fun u=>St u (g4.add 9) (.slice da g i) fun s=>St s (g4.add 10) (.string e) fun y=>St y (g4.add 11) (.slice h b c) fun k=>LdI .i64 (k.cell? g4) fun res0_0=>LdI .i64 (k.cell? (g4.add 1)) fun res0_1=>LdB (k.cell? (g4.add 2)) fun res0_2=>LdI .u64 (k.cell? (g4.add 3)) fun res0_3=>LdI .u64 (k.cell? (g4.add 4)) fun res0_4=>LdStr (k.cell? (g4.add 5)) fun res0_5=>LdStr (k.cell? (g4.add 6)) fun res0_6=>LdI .i64 (k.cell? (g4.add 7)) fun res0_7=>LdStr (k.cell? (g4.add 8)) fun res0_8=>LdSl (k.cell? (g4.add 9)) fun res0_9 res0_9N res0_9C=>LdStr (k.cell? (g4.add 10)) fun res0_10=>LdSl (k.cell? (g4.add 11)) fun res0_11 res0_11N res0_11C=>R (.returned (.agg #[.int .i64 res0_0,.int .i64 res0_1,.bool res0_2,.int .u64 res0_3,.int .u64 res0_4,.string res0_5,.string res0_6,.int .i64 res0_7,.string res0_8,.slice res0_9 res0_9N res0_9C,.string res0_10,.slice res0_11 res0_11N res0_11C])) k) (St qa (a.add 2) (.bool false) fun ka=>∃J12:Wd->Prop,(∀ia,J12 ia->F102_j12 a g4 ia R)/\(InR .u64 ((j:Int))/\Br (decide (((j:Int)) > (0:Int))) (LdI .u64 (ka.cell? (a.add 3)) fun va=>((j:Int))≠0/\IdxA p j (va.tmod ((j:Int))) 1 fun ta=>LdI .u64 (ka.cell? ta) fun ya=>St ka (a.add 3) (.int .u64 ya) fun ia=>LdI .u64 (ia.cell? (a.add 4)) fun sa=>InR .u64 (((j:Int))+(1:Int))/\(((j:Int))+(1:Int))≠0/\Br ((sa.tmod (((j:Int))+(1:Int)))==((j:Int))) (St ia (a.add 4) (.int .u64 0) fun ma=>J12 ma) (LdI .u64 (ia.cell? (a.add 4)) fun za=>InR .u64 (((j:Int))+(1:Int))/\(((j:Int))+(1:Int))≠0/\IdxA p j (za.tmod (((j:Int))+(1:Int))) 1 fun ua=>LdI .u64 (ia.cell? ua) fun ra=>St ia (a.add 4) (.int .u64 ra) fun ma=>J12 ma)) (St ka (a.add 4) (.int .u64 0) fun ia=>J12 ia))))
theorem ok102 (d:OA)(a b:Int)(c:Bool)(e f:Int)(g i:ByteArray)(j:Int)(k:ByteArray)(m:OA)(n p:Nat)(q:ByteArray)(r:OA)(s t:Nat){w:Wd}{R:RT} (h:F102 d a b c e f g i j k m n p q r s t w R):CL 102 #[.pointer d,.agg #[.int .i64 a,.int .i64 b,.bool c,.int .u64 e,.int .u64 f,.string g,.string i,.int .i64 j,.string k,.slice m n p,.string q,.slice r s t]] w R:=
 vk ⟨50,⟨[]⟩,[(12,⟨[],[(7,49)]⟩)],[]⟩ Tryz.func102 h
def F60_l6 (g1:Addr)(L6:Int->Wd->Prop)(i2:Int)(ba:Wd)(R:RT):Prop:=LdSl (ba.cell? (g1.add 4)) fun ca u r=>Br (decide (i2<(u:Int))) (LdSl (ba.cell? (g1.add 4)) fun fa q k=>IdxA fa q i2 5 fun da=>LdI .i64 (ba.cell? da) fun i=>LdStr (ba.cell? (da.add 1)) fun f=>LdSl (ba.cell? (da.add 2)) fun e c a=>LdStr (ba.cell? (da.add 3)) fun g=>LdSl (ba.cell? (da.add 4)) fun h b d=>CL 60 #[.agg #[.int .i64 i,.string f,.slice e c a,.string g,.slice h b d]] ba (post R fun v y=>v=(.tuple #[])/\LdSl (y.cell? (g1.add 4)) fun aa n t=>IdxA aa n i2 5 fun ea=>St y ea (.int .i64 99) fun z=>St z (ea.add 1) eS fun p=>St p (ea.add 2) (.slice none 0 0) fun m=>St m (ea.add 3) eS fun s=>St s (ea.add 4) (.slice none 0 0) fun j=>InR .i64 (i2+(1:Int))/\L6 (i2+(1:Int)) j)) (R (.returned (.tuple #[])) ba)
def F60_l2 (g1:Addr)(L2:Int->Wd->Prop)(i:Int)(j:Wd)(R:RT):Prop:=LdSl (j.cell? (g1.add 2)) fun k f e=>Br (decide (i<(f:Int))) (LdSl (j.cell? (g1.add 2)) fun g b c=>IdxA g b i 2 fun h=>St j h (.string (ByteArray.mk #[115,112,111,105,108,116])) fun d=>St d (h.add 1) eS fun a=>InR .i64 (i+(1:Int))/\L2 (i+(1:Int)) a) (∃(I:Int->Wd->Prop)(m:Int->Wd->Nat),I (0:Int) j/\∀i2 d,I i2 d->F60_l6 g1 (fun i2' w2=>I i2' w2/\m i2' w2<m i2 d) i2 d R)
def F60 (c:Int)(d:ByteArray)(e:OA)(f g:Nat)(h:ByteArray)(j:OA)(k n:Nat)(b:Wd)(R:RT):Prop:=Al b #[.int .i64 c,.string d,.slice e f g,.string h,.slice j k n] 48 fun g1 w1=>∃(I:Int->Wd->Prop)(m:Int->Wd->Nat),I (0:Int) w1/\∀i a,I i a->F60_l2 g1 (fun i' w2=>I i' w2/\m i' w2<m i a) i a R
theorem ok60 (a:Int)(b:ByteArray)(c:OA)(d e:Nat)(f:ByteArray)(g:OA)(i j:Nat){w:Wd}{R:RT} (h:F60 a b c d e f g i j w R):CL 60 #[.agg #[.int .i64 a,.string b,.slice c d e,.string f,.slice g i j]] w R:=
 vk ⟨34,⟨[]⟩,[],[(2,⟨[(2,(.s (.int .i64)))],[(2,16)]⟩),(6,⟨[(3,(.s (.int .i64)))],[(3,34)]⟩)]⟩ Tryz.func60 h
end Go.Proofs.YtnbgiacnbheonaaGreatDoor
namespace Go.Proofs.YtnbgiacnbheonaaGreatDoor
open Go.RowKit Go.Vc
set_option linter.unusedSimpArgs false
mutual
def OTr (w:Wd):Tr->E5->Nat->Nat->Prop
 | .mk kind nm attrs text ks,e,lo,hi=>e.kind=kind/\e.nm=nm/\e.text=text/\attrs.length<=1048576/\ks.length<=1048576/\Own LAt w 0 145 (slV e.ats) attrs/\∃mid es,lo<=mid/\mid<=hi/\(∀b,rowOf (slV e.ats)=some b->lo<=b/\b<mid) /\
   Own LE5 w 0 48 (slV e.kids) es/\(∀b,rowOf (slV e.kids)=some b->mid<=b/\b<hi)/\OTl w ks es mid hi (rowOf (slV e.kids))
def OTl (w:Wd):List Tr->List E5->Nat->Nat->Option Nat->Prop
 | [],es,_,_,_=>es=[]
 | t :: ts,es,lo,hi,x=>∃e es' a b,es=e :: es'/\lo<=a/\a<=b/\b<=hi/\(∀r,x=some r->¬(a<=r/\r<b))/\OTr w t e a b/\OTl w ts es' b hi x
end
mutual
theorem OTr.fm {w w1:Wd}{M:Nat->Prop} (hf:Fm M w w1):∀(t:Tr) (e:E5) (lo hi:Nat),(∀b,lo<=b->b<hi->¬M b)->OTr w t e lo hi->OTr w1 t e lo hi
 | .mk kind nm attrs text ks,e,lo,hi,hm,h=>by
  simp only [OTr] at h |-
  obtain⟨h1,h2,h3,h4,h5,h6,mid,es,h7,h8,h9,h10,h11,h12⟩:=h
  exact⟨h1,h2,h3,h4,h5,own_fm h6 hf fun b hb=>by have:=h9 b hb;exact hm b this.1 om,mid,es,h7,h8,h9,own_fm h10 hf fun b hb=>by have:=h11 b hb;exact hm b om this.2,h11,OTl.fm hf ks es mid hi _ (fun b h1 h2 _=>hm b om h2) h12⟩
theorem OTl.fm {w w1:Wd}{M:Nat->Prop} (hf:Fm M w w1):∀(ts:List Tr) (es:List E5) (lo hi:Nat) (x:Option Nat),(∀b,lo<=b->b<hi->x≠some b->¬M b)->OTl w ts es lo hi x->OTl w1 ts es lo hi x
 | [],es,lo,hi,x,hm,h=>by simp only [OTl] at h |-;exact h
 | t :: ts,es,lo,hi,x,hm,h=>by
  simp only [OTl] at h |-
  obtain⟨e,es',a,b,h1,h2,h3,h4,h5,h6,h7⟩:=h
  exact⟨e,es',a,b,h1,h2,h3,h4,h5,OTr.fm hf t e a b (fun c h8 h9=>hm c om om fun e=>h5 c e ⟨h8,h9⟩) h6,OTl.fm hf ts es' b hi x (fun c h8 h9 h10=>hm c om h9 h10) h7⟩
end
theorem OTl.len {w:Wd}:∀{ts:List Tr}{es:List E5}{lo hi:Nat}{x:Option Nat},OTl w ts es lo hi x->es.length=ts.length
 | [],es,_,_,_,h=>by simp only [OTl] at h;subst h;rfl
 | t :: ts,es,_,_,_,h=>by
  simp only [OTl] at h
  obtain⟨e,es',a,b,rfl,_,_,_,_,_,h7⟩:=h
  simp [h7.len]
theorem OTl.snoc {w:Wd}{t:Tr}{e:E5}{a b hi':Nat}{x:Option Nat} (ht:OTr w t e a b) (hab:a<=b) (hb:b<=hi') (hx:∀r,x=some r->¬(a<=r/\r<b)):∀{ts:List Tr}{es:List E5}{lo hi:Nat},OTl w ts es lo hi x->lo<=a->hi<=a->OTl w (ts++[t]) (es++[e]) lo hi' x
 | [],es,lo,hi,h,h0,h1=>by
  simp only [OTl] at h
  subst h
  simp only [lna,OTl]
  exact⟨e,[],a,b,rfl,h0,hab,hb,hx,ht,rfl⟩
 | u :: ts,es,lo,hi,h,h0,h1=>by
  simp only [OTl] at h
  obtain⟨e',es',a',b',rfl,h2,h3,h4,h5,h6,h7⟩:=h
  simp only [List.cons_append,OTl]
  exact⟨e',_,a',b',rfl,h2,h3,om,h5,h6,OTl.snoc ht hab hb hx h7 om h1⟩
theorem OTl.other {w:Wd}{x x':Option Nat}:∀{ts:List Tr}{es:List E5}{lo hi:Nat},OTl w ts es lo hi x->(∀r,x'=some r->x=some r\/hi<=r)->OTl w ts es lo hi x'
 | [],es,lo,hi,h,_=>by simp only [OTl] at h |-;exact h
 | u :: ts,es,lo,hi,h,hx=>by
  simp only [OTl] at h |-
  obtain⟨e',es',a',b',rfl,h2,h3,h4,h5,h6,h7⟩:=h
  refine⟨e',es',a',b',rfl,h2,h3,h4,fun r hr=>?_,h6,h7.other hx⟩
  rcases hx r hr with e | e
  ·exact h5 r e
  ·omega
theorem OTl.wide {w:Wd}{x:Option Nat}{hi':Nat}:∀{ts:List Tr}{es:List E5}{lo hi:Nat},OTl w ts es lo hi x->hi<=hi'->OTl w ts es lo hi' x
 | [],es,lo,hi,h,_=>by simp only [OTl] at h |-;exact h
 | u :: ts,es,lo,hi,h,hx=>by
  simp only [OTl] at h |-
  obtain⟨e',es',a',b',rfl,h2,h3,h4,h5,h6,h7⟩:=h
  exact⟨e',es',a',b',rfl,h2,h3,om,h5,h6,h7.wide hx⟩
theorem own_rr {α:Type}{L:Lay α}{w:Wd}{ok:Nat->Bool}{q:Nat}{e:TypeId}{v:Sv}{xs:List α} (o:Own L w q e (slV v) xs) (h1:∀b,rowOf (slV v)=some b->ok b=true) (hl:xs.length<=1048576):RR L (wOnly ok w) xs v:=by
 have ho:Own L (wOnly ok w) q e (slV v) xs:=by
  rcases o with h2 | h2 | ⟨g',c',cur,hv,hb,hh,hn,hm,hs,ht⟩
  ·exact .inl h2
  ·exact .inr (.inl h2)
  ·exact .inr (.inr ⟨g',c',cur,hv,hb,cells_only (h1 g' (by rw [hv];rfl)) hh,hn,hm,hs,ht⟩)
 obtain⟨A,c,hv,hr⟩:=ho.form
 rw [slv_form hv]
 exact⟨hl,rfl,hr⟩
mutual
theorem OTr.rtr {w:Wd}{ok:Nat->Bool}:∀(t:Tr) (e:E5) (lo hi:Nat),(∀b,lo<=b->b<hi->ok b=true)->OTr w t e lo hi->RTr (wOnly ok w) t e
 | .mk kind nm attrs text ks,e,lo,hi,hm,h=>by
  simp only [OTr] at h
  obtain⟨h1,h2,h3,h4,h5,h6,mid,es,h7,h8,h9,h10,h11,h12⟩:=h
  simp only [RTr]
  have hl:=h12.len
  obtain⟨z0,z1,z2⟩:=own_rr h10 (ok:=ok) (fun b hb=>by have:=h11 b hb;exact hm b om this.2) om
  exact⟨h1,h2,h3,own_rr h6 (fun b hb=>by have:=h9 b hb;exact hm b this.1 om) h4,h5,es,z1,z2,OTl.rtl ks es mid hi _ (fun b h1 h2=>hm b om h2) h12⟩
theorem OTl.rtl {w:Wd}{ok:Nat->Bool}:∀(ts:List Tr) (es:List E5) (lo hi:Nat) (x:Option Nat),(∀b,lo<=b->b<hi->ok b=true)->OTl w ts es lo hi x->RTl (wOnly ok w) ts es
 | [],es,lo,hi,x,hm,h=>by simp only [OTl] at h;simp only [RTl];exact h
 | t :: ts,es,lo,hi,x,hm,h=>by
  simp only [OTl] at h
  simp only [RTl]
  obtain⟨e,es',a,b,h1,h2,h3,h4,h5,h6,h7⟩:=h
  exact⟨e,es',h1,OTr.rtr t e a b (fun c h8 h9=>hm c om om) h6,OTl.rtl ts es' b hi x (fun c h8 h9=>hm c om h9) h7⟩
end
theorem copied_calls:∀(x:Tr) {w:Wd}{e:E5}{R:RT},RTr w x e ->
  (∀w' e',Below w.heap.size w w'->OTr w' x e' w.heap.size w'.heap.size->R (.returned (.agg #[.int .i64 e'.kind,.string e'.nm,slV e'.ats,.string e'.text,slV e'.kids])) w') ->
  CL 51 #[.agg #[.int .i64 e.kind,.string e.nm,slV e.ats,.string e.text,slV e.kids]] w R:=by
 refine Tr.ind fun kind nm attrs text kids ih=>?_
 intro w e R hT hK
 simp only [RTr] at hT
 obtain⟨t1,t2,t3,⟨y0,y1,y2⟩,t5,et,t6,t7,t8⟩:=hT
 have hel:=t8.len
 refine ok51 e.kind e.nm e.ats.1 e.ats.2.1 e.ats.2.2 e.text e.kids.1 e.kids.2.1 e.kids.2.2 ?_
 unfold F51
 refine al fun g1 w1 hb1 b1 hge1=>al fun g2 w2 hb2 b2 hge2=>al fun g5 w3 hb3 b5 hge5=>?_
 have B2:=btr hb1 hb1.size hb2
 have B3:=btr B2 B2.size hb3
 have b13:=(b1.keep hb2).keep hb3
 simp only [b13.cell,lds]
 have hm32:attrs.length*32<=1048576*32:=Nat.mul_le_mul y0 (nlr _)
 have hg1:=b1.lt
 have hg2:=b2.lt
 have hs1:=hb1.size
 have hs2:=hb2.size
 have hs3:=hb3.size
 refine ap (L:=LAt) (e:=145) (xs:=[]) (ys:=attrs) (base:=w3.heap.size) (.agg #[.string ⟨#[]⟩,.string ⟨#[]⟩]) 32 y1 kr kr kr (Own.bare _ _ _ _ _) (y2.keep B3) (nlr _) (by simp only [List.length_nil,nza];omega) (by simp [maxLen];omega) fun A4 c4 w4 o4 g4=>⟨A4,_,c4,rfl,?_⟩
 rw [lna] at o4
 have B4:Below w.heap.size w w4:=B3.trans (g4.below.mono om)
 have hs4:=g4.lt
 generalize hav:(A4,([]:List At).length+attrs.length,c4)=av at *
 have hav':Value.slice A4 (([]:List At).length+attrs.length) c4=slV av:=by rw [<-hav];rfl
 rw [hav'] at o4 |-
 refine st_blk (b13.keep g4.below) sm fun w5 b15 f5=>?_
 simp only [sls] at b15
 have hs5:=f5.size
 refine al fun g10 w6 hb6 b10 hge10=>?_
 have hs6:=hb6.size
 have b16:=b15.keep hb6
 have b26:Blk w6 g2 _ 48:=(f5.blk ((b2.keep hb3).keep g4.below) (fun e=>by have e:g2=g1:=e;omega)).keep hb6
 have B6:Below w.heap.size w w6:=(B4.trans (f5.toBelow om fun b hb e=>by have e:b=g1:=e;omega)).trans (hb6.mono om)
 have o6:Own LAt w6 w3.heap.size 145 (slV av) attrs:=(own_fm o4 f5 fun b hb e=>by have e:b=g1:=e;have:=(o4.lt b hb).1;omega).keep hb6
 have hatr:∀b,rowOf (slV av)=some b->w3.heap.size<=b/\b<w6.heap.size:=fun b hb=>o6.lt b hb
 refine⟨fun l lN lC j w'=>∃(k:Nat) (es':List E5),j=k/\k<=kids.length/\Below w.heap.size w w'/\w6.heap.size<=w'.heap.size/\Blk w' g1 #[.int .i64 e.kind,.string e.nm,slV av,.string e.text,slV e.kids] 48/\Blk w' g2 #[.int .i64 0,eS,.slice none 0 0,eS,.slice none 0 0] 48 /\
   Own LAt w' w3.heap.size 145 (slV av) attrs/\Own LE5 w' w6.heap.size 48 (.slice l lN lC) es'/\OTl w' (kids.take k) es' w6.heap.size w'.heap.size (rowOf (.slice l lN lC)),fun _ _ _ j _=>kids.length-j.toNat,
  ⟨0,[],rfl,om,B6,nlr _,b16,b26,o6,Own.bare _ _ _ _ _,by simp [OTl]⟩,?_⟩
 rintro l lN lC j w7 ⟨k,es7,rfl,hk7,B7,hs7,b17,b27,o7,ol,hot⟩
 unfold F51_l4
 have hel7:=hot.len
 rw [ltk] at hel7
 have hlr:∀b,rowOf (.slice l lN lC)=some b->w6.heap.size<=b/\b<w7.heap.size:=fun b hb=>ol.lt b hb
 simp only [b17.cell,lds]
 simp only [slV,lds]
 refine brd (fun hlt=>?_) (fun hge=>?_)
 ·have hk2:k<kids.length:=by omega
  have hk3:k<et.length:=by omega
  refine (t7.keep B7).e5 t6 rfl hk3 fun bb oo c0 c1 c2 c3 c4=>?_
  simp only [c0,c1,c2,c3,c4,lds]
  refine ih kids[k] (gem hk2) (e:=et[k]) ((t8.get k hk2 hk3).keep B7) fun w8 e8 hb8 hot8=>⟨_,_,_,_,_,_,_,_,_,rfl,?_⟩
  have hs8:=hb8.size
  refine al fun g25 w9 hb9 b9 hge9=>?_
  have hs9:=hb9.size
  have r9:Rd LE5 w9 (some ⟨g25,0,none⟩) 1 [e8]:=by
   refine⟨sm,by simp [maxLen],fun h0=>(by cases h0),fun _=>⟨g25,0,rfl,fun j u hj=>?_⟩⟩
   rw [LE5.all_one] at hj
   rw [b9.cell];simpa [LE5,E5.cells,slV] using hj
  have D9:Below w7.heap.size w7 w9:=btr hb8 hb8.size hb9
  refine ap (L:=LE5) (e:=48) (xs:=es7) (ys:=[e8]) (base:=w6.heap.size) (v:=.slice l lN lC) (.agg #[.int .i64 0,eS,.slice none 0 0,eS,.slice none 0 0]) 88 rfl kr kr kr (ol.keep D9) r9 om (by simp;omega) (by simp [maxLen];omega) fun A' c' w10 o10 g10'=>⟨A',_,c',rfl,?_⟩
  have F10:Fm (fun b=>rowOf (.slice l lN lC)=some b) w9 w10:=Fm.grown g10'.grown fun x hx=>hx
  have hs10:=F10.size
  have hrow:∀b,rowOf (.slice A' (es7.length+[e8].length) c')=some b->rowOf (.slice l lN lC)=some b\/w9.heap.size<=b:=fun b hb=>by
   rcases g10'.row with e | e | ⟨g,e,hge⟩
   ·left;rw [<-e];exact hb
   ·rw [e] at hb;cases hb
   ·right;rw [e] at hb;cases hb;exact hge
  refine⟨inR_i64 om om,⟨k+1,es7++[e8],sm,om,(B7.trans (D9.mono om)).trans (F10.toBelow om fun b hb e=>by have:=(hlr b e).1;omega),om,F10.blk (b17.keep D9) (fun e=>by have:=(hlr _ e).1;omega),F10.blk (b27.keep D9) (fun e=>by have:=(hlr _ e).1;omega),own_fm (o7.keep D9) F10 (fun b hb e=>by have:=(hlr b e).1;have:=(hatr b hb).2;omega),o10,?_⟩,odz⟩
  rw [tsa hk2]
  refine OTl.snoc (a:=w7.heap.size) (b:=w8.heap.size) ?_ om om (fun r hr h9=>?_) (hi:=w7.heap.size) ?_ om (nlr _)
  ·exact OTr.fm ((Fm.below (M:=fun b=>rowOf (.slice l lN lC)=some b) hb9).trans F10) _ _ _ _ (fun b h1 h2 e=>by have:=(hlr b e).2;omega) hot8
  ·rcases hrow r hr with e | e
   ·have:=(hlr r e).2;omega
   ·omega
  ·refine OTl.other (OTl.fm ((Fm.below (M:=fun b=>rowOf (.slice l lN lC)=some b) D9).trans F10) _ _ _ _ _ (fun b _ _ h1 h2=>h1 h2) hot) fun r hr=>?_
   rcases hrow r hr with e | e
   ·exact .inl e
   ·right;omega
 ·have hk2:k=kids.length:=by omega
  subst hk2
  rw [tkl] at hot
  refine st_blk b17 sm fun w8 b18 f8=>?_
  simp only [sls] at b18
  simp only [b18.cell,lds]
  simp only [slV,lds]
  have b28:=f8.blk b27 (fun e=>by have e:g2=g1:=e;omega)
  refine st_blk b28 sm fun v1 p1 r1=>st_blk p1 sm fun v2 p2 r2=>st_blk p2 sm fun v3 p3 r3=>st_blk p3 sm fun v4 p4 r4=>st_blk p4 sm fun w9 p5 r5=>?_
  simp only [sls] at p5
  have F9:Fm (·=g2) w8 w9:=(((r1.trans r2).trans r3).trans r4).trans r5
  simp only [p5.cell,lds]
  have FF:Fm (fun b=>b=g1\/b=g2) w7 w9:=(f8.mono fun b _ e=>.inl e).trans (F9.mono fun b _ e=>.inr e)
  have hs9:=FF.size
  have hkl:lN=es7.length:=by
   obtain⟨A,c,hv,_⟩:=ol.form
   cases hv;rfl
  have:=hK w9 ⟨e.kind,e.nm,av,e.text,(l,lN,lC)⟩ (B7.trans (FF.toBelow om fun b hb e=>by rcases e with e | e <;> omega)) ?_
  ·exact this
  ·simp only [OTr]
   refine⟨t1,t2,t3,y0,t5,(own_fm o7 FF fun b hb e=>by have:=(hatr b hb).1;rcases e with e | e <;> omega).rebase fun k _=>Nat.zero_le _,w6.heap.size,es7,om,om,fun b hb=>?_,(own_fm ol FF fun b hb e=>by have:=(hlr b hb).1;rcases e with e | e <;> omega).rebase fun k _=>Nat.zero_le _,fun b hb=>?_,?_⟩
   ·have:=hatr b hb;omega
   ·have:=hlr b hb;omega
   ·exact (OTl.fm FF _ _ _ _ _ (fun b h1 h2 h3 h4=>by rcases h4 with e | e <;> omega) hot).wide hs9
structure O1 where
 kind:Int
 node:Nat
 at_:Nat
 wh:Int
 nm:ByteArray
 val:ByteArray
 t:Tr
structure E11 where
 o:O1
 e:E5
def E11.cells (x:E11):List Value:=[.int .i64 x.o.kind,.int .u64 (x.o.node:Nat),.int .u64 (x.o.at_:Nat),.int .i64 x.o.wh,.string x.o.nm,.string x.o.val,.int .i64 x.e.kind,.string x.e.nm,.slice x.e.ats.1 x.e.ats.2.1 x.e.ats.2.2,.string x.e.text,.slice x.e.kids.1 x.e.kids.2.1 x.e.kids.2.2]
def LOp:Lay E11:=⟨11,E11.cells,fun _=>rfl,fun _=>by simp [E11.cells,Value.oneCell'],dc⟩
def sgB (k:Int):Bool:=decide (k=2) || (decide (k=4) || (decide (k=5) || decide (k=8)))
def atK (k:Int):Bool:=decide (k=6) || decide (k=7)
def cfB (a b:O1):Bool:=decide (a.node=b.node) && ((decide (a.kind=b.kind) && sgB a.kind) || ((atK a.kind && atK b.kind) && decide (a.nm=b.nm)))
def badO (pre:List O1) (o:O1):Int:=if o.kind<1\/8<o.kind then 170 else if (o.kind=1\/o.kind=8)/\(lookF o.t 1 0).2≠0 then (lookF o.t 1 0).2 else if (pre.any fun a=>cfB a o)=true then 171 else 0
def chkF (pre:List O1):List O1->Nat × Int
 | []=>(0,0)
 | o :: l=>if badO pre o≠0 then (pre.length,badO pre o) else chkF (pre++[o]) l
def checkF (l:List O1):Nat × Int:=if 4096<l.length then (0,2) else chkF [] l
def ahE (pre:List E11) (n:Nat):List E11:=pre.filter fun a=>decide (a.o.node=n) && (sgB a.o.kind || atK a.o.kind)
theorem any_ah (pre:List E11) (o:O1):((pre.map (·.o)).any fun a=>cfB a o)=(ahE pre o.node).any fun a=>cfB a.o o:=by
 unfold ahE
 rw [List.any_filter,List.any_map]
 congr 1
 funext a
 simp only [Function.comp_apply]
 unfold cfB
 cases decide (a.o.node=o.node) <;> cases sgB a.o.kind <;> cases atK a.o.kind <;> simp
theorem chk_step {l:List O1}{k:Nat} (hk:k<l.length):chkF (l.take k) (l.drop k)=if badO (l.take k) l[k]≠0 then (k,badO (l.take k) l[k]) else chkF (l.take (k+1)) (l.drop (k+1)):=by
 rw [dgc hk,chkF,tsa hk,ltk,Nat.min_eq_left om]
theorem ahE_app (pre:List E11) (x:E11) (n:Nat):ahE (pre++[x]) n=ahE pre n++(if (decide (x.o.node=n) && (sgB x.o.kind || atK x.o.kind))=true then [x] else []):=by
 unfold ahE
 rw [List.filter_append,List.filter_cons]
 rfl
theorem ahE_len (pre:List E11) (n:Nat):(ahE pre n).length<=pre.length:=List.length_filter_le _ _
def phF (k:Int):Int:=if k=1 then 1 else if k=2 then 2 else if k=8 then 3 else if k=3 then 4 else 0
def phsF (l:List O1) (p:Int) (k:Nat):List Int:=((List.range k).filter fun i:Nat=>decide ((l[i]?.map fun o=>phF o.kind)=some p)).map fun i:Nat=>(i:Int)
def planF (l:List O1) (p:Nat):List Int:=(List.range p).flatMap fun q=>phsF l (q:Nat) l.length
theorem phs_zero (l:List O1) (p:Int):phsF l p 0=[]:=rfl
theorem phs_step {l:List O1}{p:Int}{k:Nat} (hk:k<l.length):phsF l p (k+1)=phsF l p k++(if phF l[k].kind=p then [(k:Int)] else []):=by
 unfold phsF
 rw [List.range_succ,List.filter_append,List.map_append]
 congr 1
 rw [List.filter_cons,gge hk,oms]
 by_cases e:phF l[k].kind=p
 ·rw [if_pos (by simpa using e),if_pos e];rfl
 ·rw [if_neg (by simpa using e),if_neg e];rfl
theorem phs_len (l:List O1) (p:Int) (k:Nat):(phsF l p k).length<=k:=by
 unfold phsF
 rw [lmp]
 exact nlt (List.length_filter_le _ _) sm
theorem plan_zero (l:List O1):planF l 0=[]:=rfl
theorem plan_step (l:List O1) (p:Nat):planF l (p+1)=planF l p++phsF l (p:Nat) l.length:=by
 unfold planF
 rw [List.range_succ,fma];simp
theorem plan_len (l:List O1):∀p,(planF l p).length<=p*l.length
 | 0=>by simp [plan_zero]
 | p+1=>by
  have:=plan_len l p
  have:=phs_len l (p:Nat) l.length
  rw [plan_step,lap,Nat.add_mul];omega
end Go.Proofs.YtnbgiacnbheonaaGreatDoor
namespace Go.Proofs.YtnbgiacnbheonaaGreatDoor
open Go.Vc
def F161_l5 (m_:OA)(n:Int)(b:OA)(a:Nat)(L5:Int->Wd->Prop)(e:Int)(g:Wd)(R:RT):Prop:=Br (decide (e<(a:Int))) (IdxA b a e 1 fun d=>LdI .u64 (g.cell? d) fun i=>NonNil m_ fun p31=>LdM (g.cell? (p31.add 1)) fun j=>Raw P0 (Instr.mapUpdate 122 (.map j) (.int .u64 i) (.bool true)) g fun _ c=>InR .i64 (e+(1:Int))/\L5 (e+(1:Int)) c) (NonNil m_ fun p37=>LdP (g.cell? p37) fun h=>CL 192 #[.pointer h,.int .u64 n] g (post R fun v2 c=>∃f,v2=(.int .i64 f)/\R (.returned (.int .i64 f)) c))
def F161_j4 (m_:OA)(n:Int)(b:OA)(a:Nat)(e:Wd)(R:RT):Prop:=∃(I:Int->Wd->Prop)(m:Int->Wd->Nat),I (0:Int) e/\∀d c,I d c->F161_l5 m_ n b a (fun d' w2=>I d' w2/\m d' w2<m d c) d c R
def F161 (m_:OA)(n:Int)(g:Wd)(R:RT):Prop:=NonNil m_ fun p11=>LdP (g.cell? p11) fun f=>CL 90 #[.pointer f,.int .u64 n] g (post R fun v w1=>∃c a b d,v=(.tuple #[.slice c a b,.int .i64 d])/\∃J4:Wd->Prop,(∀e,J4 e->F161_j4 m_ n c a e R)/\(Br (d != (0:Int)) (R (.returned (.int .i64 8)) w1) (Br (n==(0:Int)) (R (.returned (.int .i64 8)) w1) (J4 w1))))
theorem ok161 (a:OA)(n:Int){w:Wd}{R:RT} (h:F161 a n w R):CL 161 #[.pointer a,.int .u64 n] w R:=
 vk ⟨42,⟨[]⟩,[(4,⟨[],[(4,5),(18,24)]⟩)],[(5,⟨[(26,(.s (.int .i64)))],[(8,9),(26,36)]⟩)]⟩ Tryz.func161 h
def F104_j3 (m_:OA)(op:Addr)(eb:Wd)(R:RT):Prop:=LdI .i64 (eb.cell? op) fun na=>Br (na==(4:Int)) (∃S:Wd->Prop,S eb.drew/\NonNil m_ fun p25=>∃pa,Held S p25 (.pointer pa)/\∃nb,Held S (op.add 1) (.int .u64 nb)/\∃pb,Held S (op.add 4) (.string pb)/\CL 156 #[.pointer pa,.int .u64 nb,.string pb] eb.drew (post R fun v ia=>∃ka,v=(.int .i64 ka)/\R (.returned (.tuple #[.int .u64 0,.int .i64 ka])) ia)) (Br (na==(5:Int)) (∃S:Wd->Prop,S eb.drew/\NonNil m_ fun p36=>∃ra,Held S p36 (.pointer ra)/\∃ua,Held S (op.add 1) (.int .u64 ua)/\∃hb,Held S (op.add 5) (.string hb)/\CL 157 #[.pointer ra,.int .u64 ua,.string hb] eb.drew (post R fun v ia=>∃jb,v=(.int .i64 jb)/\R (.returned (.tuple #[.int .u64 0,.int .i64 jb])) ia)) (Br (na==(6:Int)) (∃S:Wd->Prop,S eb.drew/\NonNil m_ fun p47=>∃db,Held S p47 (.pointer db)/\∃cb,Held S (op.add 1) (.int .u64 cb)/\∃va,Held S (op.add 4) (.string va)/\∃qb,Held S (op.add 5) (.string qb)/\CL 158 #[.pointer db,.int .u64 cb,.string va,.string qb] eb.drew (post R fun v ia=>∃ma,v=(.int .i64 ma)/\R (.returned (.tuple #[.int .u64 0,.int .i64 ma])) ia)) (Br (na==(7:Int)) (∃S:Wd->Prop,S eb.drew/\NonNil m_ fun p60=>∃qa,Held S p60 (.pointer qa)/\∃gb,Held S (op.add 1) (.int .u64 gb)/\∃mb,Held S (op.add 4) (.string mb)/\CL 159 #[.pointer qa,.int .u64 gb,.string mb] eb.drew (post R fun v ia=>∃za,v=(.int .i64 za)/\R (.returned (.tuple #[.int .u64 0,.int .i64 za])) ia)) (Br (na==(1:Int)) (∃S:Wd->Prop,S eb.drew/\NonNil m_ fun p71=>∃ib,Held S p71 (.pointer ib)/\∃fb,Held S (op.add 3) (.int .i64 fb)/\∃kb,Held S (op.add 2) (.int .u64 kb)/\∃u,Held S (op.add 6) (.int .i64 u)/\∃r,Held S ((op.add 6).add 1) (.string r)/\∃z n m,Held S ((op.add 6).add 2) (.slice z n m)/\∃y,Held S ((op.add 6).add 3) (.string y)/\∃s p h,Held S ((op.add 6).add 4) (.slice s p h)/\CL 64 #[.pointer ib,.int .i64 fb,.int .u64 kb,.agg #[.int .i64 u,.string r,.slice z n m,.string y,.slice s p h]] eb.drew (post R fun v ia=>∃t aa,v=(.tuple #[.int .u64 t,.int .i64 aa])/\R (.returned (.tuple #[.int .u64 t,.int .i64 aa])) ia)) (Br (na==(2:Int)) (∃S:Wd->Prop,S eb.drew/\NonNil m_ fun p86=>∃bb,Held S p86 (.pointer bb)/\∃sa,Held S (op.add 1) (.int .u64 sa)/\∃ta,Held S (op.add 3) (.int .i64 ta)/\∃ab,Held S (op.add 2) (.int .u64 ab)/\CL 160 #[.pointer bb,.int .u64 sa,.int .i64 ta,.int .u64 ab] eb.drew (post R fun v ia=>∃ya,v=(.int .i64 ya)/\R (.returned (.tuple #[.int .u64 0,.int .i64 ya])) ia)) (Br (na==(3:Int)) (LdI .u64 (eb.cell? (op.add 1)) fun ba=>CL 161 #[.pointer m_,.int .u64 ba] eb (post R fun v ha=>∃fa,v=(.int .i64 fa)/\R (.returned (.tuple #[.int .u64 0,.int .i64 fa])) ha)) (∃S:Wd->Prop,S eb.drew/\NonNil m_ fun p104=>∃ca,Held S p104 (.pointer ca)/\∃da,Held S (op.add 1) (.int .u64 da)/\∃f,Held S (op.add 6) (.int .i64 f)/\∃k,Held S ((op.add 6).add 1) (.string k)/\∃q d b,Held S ((op.add 6).add 2) (.slice q d b)/\∃j,Held S ((op.add 6).add 3) (.string j)/\∃e a c,Held S ((op.add 6).add 4) (.slice e a c)/\CL 64 #[.pointer ca,.int .i64 3,.int .u64 da,.agg #[.int .i64 f,.string k,.slice q d b,.string j,.slice e a c]] eb.drew (post R fun v ia=>∃i g,v=(.tuple #[.int .u64 i,.int .i64 g])/\Br (g != (0:Int)) (R (.returned (.tuple #[.int .u64 0,.int .i64 g])) ia) (LdI .u64 (ia.cell? (op.add 1)) fun ea=>CL 161 #[.pointer m_,.int .u64 ea] ia (post R fun v2 ga=>∃ja,v2=(.int .i64 ja)/\R (.returned (.tuple #[.int .u64 i,.int .i64 ja])) ga))))))))))
def F104 (m_:OA)(h i j k:Int)(m n:ByteArray)(p:Int)(q:ByteArray)(r:OA)(s t:Nat)(u:ByteArray)(y:OA)(z aa:Nat)(f:Wd)(R:RT):Prop:=Al f #[.int .i64 h,.int .u64 i,.int .u64 j,.int .i64 k,.string m,.string n,.int .i64 p,.string q,.slice r s t,.string u,.slice y z aa] 50 fun op w1=>∃J3:Wd->Prop,(∀b,J3 b->F104_j3 m_ op b R)/\(∃S:Wd->Prop,S w1.drew/\∃g,Held S op (.int .i64 g)/\Br (g != (1:Int)) (NonNil m_ fun p13=>∃c,Held S (p13.add 1) (.map c)/\∃e,Held S (op.add 1) (.int .u64 e)/\Raw P0 (Instr.lookup 122 (.map c) (.int .u64 e) false) w1.drew fun v a=>∃d,v=(.bool d)/\Br d (R (.returned (.tuple #[.int .u64 0,.int .i64 0])) a) (J3 a)) (J3 w1.drew))
theorem ok104 (a:OA)(b c d e:Int)(f g:ByteArray)(i:Int)(j:ByteArray)(k:OA)(m n:Nat)(p:ByteArray)(q:OA)(r s:Nat){w:Wd}{R:RT} (h:F104 a b c d e f g i j k m n p q r s w R):CL 104 #[.pointer a,.agg #[.int .i64 b,.int .u64 c,.int .u64 d,.int .i64 e,.string f,.string g,.int .i64 i,.string j,.slice k m n,.string p,.slice q r s]] w R:=
 vk ⟨122,⟨[]⟩,[(3,⟨[],[(4,20)]⟩)],[]⟩ Tryz.func104 h
def F24_j9 (L8:OA->Nat->Nat->Int->Wd->Prop)(i:Int)(b:OA)(c d:Nat)(a:Wd)(R:RT):Prop:=InR .i64 (i+(1:Int))/\L8 b c d (i+(1:Int)) a
def F24_j15 (m:OA)(e:Nat)(c ab:OA)(ac:Nat)(ad:OA)(ae af:Nat)(i:Int)(J9:OA->Nat->Nat->Wd->Prop)(op:Addr)(ag:OA)(ah ai:Nat)(fa:Wd)(R:RT):Prop:=LdI .i64 (fa.cell? op) fun p=>LdI .u64 (fa.cell? (op.add 1)) fun y=>LdI .u64 (fa.cell? (op.add 2)) fun h=>LdI .i64 (fa.cell? (op.add 3)) fun q=>LdStr (fa.cell? (op.add 4)) fun r=>LdStr (fa.cell? (op.add 5)) fun v=>LdI .i64 (fa.cell? (op.add 6)) fun j=>LdStr (fa.cell? (op.add 7)) fun t=>LdSl (fa.cell? (op.add 8)) fun z f d=>LdStr (fa.cell? (op.add 9)) fun s=>LdSl (fa.cell? (op.add 10)) fun g a b=>CL 63 #[.pointer c,.agg #[.int .i64 p,.int .u64 y,.int .u64 h,.int .i64 q,.string r,.string v,.int .i64 j,.string t,.slice z f d,.string s,.slice g a b]] fa (post R fun v3 ba=>∃ca k,v3=(.tuple #[.int .u64 ca,.int .i64 k])/\Br (k != (0:Int)) (Dr ba fun u=>IdxA m e i 1 fun ka=>LdI .i64 (u.cell? ka) fun ha=>R (.returned (.tuple #[.pointer none,.slice none 0 0,.int .i64 ha,.int .i64 k])) u) (IdxA m e i 1 fun ja=>LdI .i64 (ba.cell? ja) fun ia=>IdxA ab ac ia 1 fun ga=>St ba ga (.int .u64 ca) fun u=>Raw P0 (Builtin.append_ #[23,23] 23 #[.slice ad ae af,.slice ag ah ai]) u fun v4 n=>∃ea aa da,v4=(.slice ea aa da)/\J9 ea aa da n))
def F24_j12 (e:OA)(d:Nat)(c q:OA)(r:Nat)(s:OA)(t u:Nat)(i:Int)(J9:OA->Nat->Nat->Wd->Prop)(op:Addr)(k:Wd)(R:RT):Prop:=Al k #[] 42 fun g64 h=>∃J15:OA->Nat->Nat->Wd->Prop,(∀taken takenN takenC f,J15 taken takenN takenC f->F24_j15 e d c q r s t u i J9 op taken takenN takenC f R)/\(LdI .i64 (h.cell? op) fun p=>Br (p==(3:Int)) (LdI .u64 (h.cell? (op.add 1)) fun n=>CL 55 #[.pointer c,.int .u64 n] h (post R fun v3 f=>∃j b a g,v3=(.tuple #[.slice j b a,.int .i64 g])/\J15 j b a f)) (LdI .i64 (h.cell? op) fun m=>Br (m==(8:Int)) (LdI .u64 (h.cell? (op.add 1)) fun n=>CL 55 #[.pointer c,.int .u64 n] h (post R fun v3 f=>∃j b a g,v3=(.tuple #[.slice j b a,.int .i64 g])/\J15 j b a f)) (J15 (some g64) 0 0 h)))
def F24_j23 (b:OA->Nat->Nat->Int->Wd->Prop)(i2:Int)(r2:OA)(c d:Nat)(a:Wd)(R:RT):Prop:=InR .i64 (i2+(1:Int))/\b r2 c d (i2+(1:Int)) a
def F24_l22 (l:OA)(lN:Nat)(c s:OA)(t:Nat)(u:OA->Nat->Nat->Int->Wd->Prop)(r:OA)(rN rC:Nat)(i2:Int)(q:Wd)(R:RT):Prop:=Br (decide (i2<(lN:Int))) (∃J23:OA->Nat->Nat->Wd->Prop,(∀r2 rN2 rC2 p,J23 r2 rN2 rC2 p->F24_j23 u i2 r2 rN2 rC2 p R)/\(IdxA l lN i2 11 fun g=>LdI .i64 (q.cell? g) fun n=>Br (n==(1:Int)) (IdxA s t i2 1 fun h=>LdI .u64 (q.cell? h) fun k=>Al q #[.int .u64 k] 42 fun g136 p=>Raw P0 (Builtin.append_ #[23,23] 23 #[.slice r rN rC,(.slice (some g136) 1 1)]) p fun v3 m=>∃f a b,v3=(.slice f a b)/\J23 f a b m) (IdxA l lN i2 11 fun e=>LdI .i64 (q.cell? e) fun j=>Br (j==(8:Int)) (IdxA s t i2 1 fun d=>LdI .u64 (q.cell? d) fun i=>Br (i != (0:Int)) (IdxA s t i2 1 fun h=>LdI .u64 (q.cell? h) fun k=>Al q #[.int .u64 k] 42 fun g136 p=>Raw P0 (Builtin.append_ #[23,23] 23 #[.slice r rN rC,(.slice (some g136) 1 1)]) p fun v3 m=>∃f a b,v3=(.slice f a b)/\J23 f a b m) (J23 r rN rC q)) (J23 r rN rC q)))) (R (.returned (.tuple #[.pointer c,.slice r rN rC,.int .i64 0,.int .i64 0])) q)
def F24_l8 (l:OA)(lN:Nat)(p:OA)(e:Nat)(c ab:OA)(ac:Nat)(L8:OA->Nat->Nat->Int->Wd->Prop)(ad:OA)(ae af:Nat)(i:Int)(qa:Wd)(R:RT):Prop:=Br (decide (i<(e:Int))) (∃J9:OA->Nat->Nat->Wd->Prop,(∀gone2 goneN2 goneC2 ja,J9 gone2 goneN2 goneC2 ja->F24_j9 L8 i gone2 goneN2 goneC2 ja R)/\(IdxA p e i 1 fun ra=>LdI .i64 (qa.cell? ra) fun sa=>IdxA l lN sa 11 fun ta=>LdI .i64 (qa.cell? ta) fun ba=>LdI .u64 (qa.cell? (ta.add 1)) fun y=>LdI .u64 (qa.cell? (ta.add 2)) fun k=>LdI .i64 (qa.cell? (ta.add 3)) fun h=>LdStr (qa.cell? (ta.add 4)) fun n=>LdStr (qa.cell? (ta.add 5)) fun t=>LdI .i64 (qa.cell? (ta.add 6)) fun u=>LdStr (qa.cell? (ta.add 7)) fun q=>LdSl (qa.cell? (ta.add 8)) fun da g d=>LdStr (qa.cell? (ta.add 9)) fun aa=>LdSl (qa.cell? (ta.add 10)) fun f a b=>Al qa #[.int .i64 0,.int .u64 0,.int .u64 0,.int .i64 0,eS,eS,.int .i64 0,eS,.slice none 0 0,eS,.slice none 0 0] 50 fun op ja=>St ja op (.int .i64 ba) fun ha=>St ha (op.add 1) (.int .u64 y) fun ka=>St ka (op.add 2) (.int .u64 k) fun ga=>St ga (op.add 3) (.int .i64 h) fun ia=>St ia (op.add 4) (.string n) fun ma=>St ma (op.add 5) (.string t) fun fa=>St fa (op.add 6) (.int .i64 u) fun ea=>St ea (op.add 7) (.string q) fun v=>St v (op.add 8) (.slice da g d) fun s=>St s (op.add 9) (.string aa) fun z=>St z (op.add 10) (.slice f a b) fun j=>∃J12:Wd->Prop,(∀ca,J12 ca->F24_j12 p e c ab ac ad ae af i J9 op ca R)/\(LdI .i64 (j.cell? op) fun na=>Br (na != (1:Int)) (LdI .u64 (j.cell? (op.add 1)) fun ua=>CL 62 #[.slice ad ae af,.int .u64 ua] j (post R fun v3 ca=>∃pa,v3=(.bool pa)/\Br pa (J9 ad ae af ca) (J12 ca))) (J12 j)))) (Al qa #[] 42 fun g103 ja=>∃(I:OA->Nat->Nat->Int->Wd->Prop)(m:OA->Nat->Nat->Int->Wd->Nat),I (some g103) 0 0 (0:Int) ja/\∀r rN rC i2 ha,I r rN rC i2 ha->F24_l22 l lN c ab ac (fun r' rN' rC' i2' w2=>I r' rN' rC' i2' w2/\m r' rN' rC' i2' w2<m r rN rC i2 ha) r rN rC i2 ha R)
def F24_j6 (l:OA)(lN:Nat)(b:OA)(a:Nat)(c g:OA)(h j:Nat)(f:Wd)(R:RT):Prop:=Al f #[] 42 fun g41 d=>∃(I:OA->Nat->Nat->Int->Wd->Prop)(m:OA->Nat->Nat->Int->Wd->Nat),I (some g41) 0 0 (0:Int) d/\∀gone goneN goneC i e,I gone goneN goneC i e->F24_l8 l lN b a c g h (fun gone' goneN' goneC' i' w2=>I gone' goneN' goneC' i' w2/\m gone' goneN' goneC' i' w2<m gone goneN goneC i e) gone goneN goneC i e R
def F24 (d l:OA)(lN lC:Nat)(p:Wd)(R:RT):Prop:=CL 61 #[.slice l lN lC] p (post R fun v w1=>∃e h,v=(.tuple #[.int .i64 e,.int .i64 h])/\Br (h != (0:Int)) (R (.returned (.tuple #[.pointer none,.slice none 0 0,.int .i64 e,.int .i64 h])) w1) (CL 32 #[.slice l lN lC] w1 (post R fun v2 k=>∃f a b g,v2=(.tuple #[.slice f a b,.int .i64 g])/\∃J6:OA->OA->Nat->Nat->Wd->Prop,(∀c given givenN givenC i,J6 c given givenN givenC i->F24_j6 l lN f a c given givenN givenC i R)/\(∃S:Wd->Prop,S k.drew/\(CL 12 #[.pointer d] k.drew (post R fun v3 j=>∃n,v3=(.pointer n)/\0<=(lN:Int)/\(lN:Int)<=(lN:Int)/\((8:Nat):Int)*(lN:Int)<=281474976710656/\Al j (zrow #[.int .u64 0] (((lN:Int)).toNat*1)) 42 fun g40 m=>J6 n (some g40) ((lN:Int)).toNat ((lN:Int)).toNat m))/\(0<=(lN:Int)/\(lN:Int)<=(lN:Int)/\((8:Nat):Int)*(lN:Int)<=281474976710656/\Al k.drew (zrow #[.int .u64 0] (((lN:Int)).toNat*1)) 42 fun g40 j=>CL 12 #[.pointer d] j (post R fun v3 m=>∃n,v3=(.pointer n)/\J6 n (some g40) ((lN:Int)).toNat ((lN:Int)).toNat m))))))
theorem ok24 (d l:OA)(a b:Nat){w:Wd}{R:RT} (h:F24 d l a b w R):CL 24 #[.pointer d,.slice l a b] w R:=
 vk ⟨140,⟨[]⟩,[(15,⟨[(17,(.s .slice))],[(17,80)]⟩),(12,⟨[],[(55,64)]⟩),(9,⟨[(14,(.s .slice))],[(4,8),(14,15),(16,103)]⟩),(23,⟨[(20,(.s .slice))],[(20,21),(110,138)]⟩),(6,⟨[(12,(.s .ptr)),(13,(.s .slice))],[(12,41)]⟩)],[(8,⟨[(14,(.s .slice)),(15,(.s (.int .i64)))],[(4,8),(14,103)]⟩),(22,⟨[(20,(.s .slice)),(21,(.s (.int .i64)))],[(20,138)]⟩)]⟩ Tryz.func24 h
def F61_l14 (l:OA)(lN:Nat)(L4:Int->Wd->Prop)(i:Int)(op:Addr)(ab:Int->Wd->Prop)(k:Int)(na:Wd)(R:RT):Prop:=Br (decide (k<i)) (∃S:Wd->Prop,S na.drew/\IdxA l lN k 11 fun pa=>∃ma,Held S pa (.int .i64 ma)/\∃ca,Held S (pa.add 1) (.int .u64 ca)/\∃ea,Held S (pa.add 2) (.int .u64 ea)/\∃u,Held S (pa.add 3) (.int .i64 u)/\∃aa,Held S (pa.add 4) (.string aa)/\∃ia,Held S (pa.add 5) (.string ia)/\∃s,Held S (pa.add 6) (.int .i64 s)/\∃q,Held S (pa.add 7) (.string q)/\∃ha e j,Held S (pa.add 8) (.slice ha e j)/\∃da,Held S (pa.add 9) (.string da)/\∃m a d,Held S (pa.add 10) (.slice m a d)/\∃ja,Held S op (.int .i64 ja)/\∃ba,Held S (op.add 1) (.int .u64 ba)/\∃p,Held S (op.add 2) (.int .u64 p)/\∃n,Held S (op.add 3) (.int .i64 n)/\∃r,Held S (op.add 4) (.string r)/\∃y,Held S (op.add 5) (.string y)/\∃z,Held S (op.add 6) (.int .i64 z)/\∃t,Held S (op.add 7) (.string t)/\∃ka h f,Held S (op.add 8) (.slice ka h f)/\∃ga,Held S (op.add 9) (.string ga)/\∃g b c,Held S (op.add 10) (.slice g b c)/\CL 111 #[.agg #[.int .i64 ma,.int .u64 ca,.int .u64 ea,.int .i64 u,.string aa,.string ia,.int .i64 s,.string q,.slice ha e j,.string da,.slice m a d],.agg #[.int .i64 ja,.int .u64 ba,.int .u64 p,.int .i64 n,.string r,.string y,.int .i64 z,.string t,.slice ka h f,.string ga,.slice g b c]] na.drew (post R fun v fa=>∃qa,v=(.bool qa)/\Br qa (R (.returned (.tuple #[.int .i64 i,.int .i64 171])) fa) (InR .i64 (k+(1:Int))/\ab (k+(1:Int)) fa))) (InR .i64 (i+(1:Int))/\L4 (i+(1:Int)) na)
def F61_j13 (l:OA)(lN:Nat)(L4:Int->Wd->Prop)(i:Int)(op:Addr)(b:Wd)(R:RT):Prop:=∃(I:Int->Wd->Prop)(m:Int->Wd->Nat),I (0:Int) b/\∀k a,I k a->F61_l14 l lN L4 i op (fun k' w2=>I k' w2/\m k' w2<m k a) k a R
def F61_j9 (l:OA)(lN:Nat)(L4:Int->Wd->Prop)(i:Int)(op:Addr)(q:Wd)(R:RT):Prop:=∃J13:Wd->Prop,(∀g,J13 g->F61_j13 l lN L4 i op g R)/\(LdI .i64 (q.cell? op) fun m=>Br (m==(1:Int)) (LdI .i64 (q.cell? (op.add 6)) fun h=>LdStr (q.cell? ((op.add 6).add 1)) fun e=>LdSl (q.cell? ((op.add 6).add 2)) fun j d c=>LdStr (q.cell? ((op.add 6).add 3)) fun k=>LdSl (q.cell? ((op.add 6).add 4)) fun f b a=>CL 68 #[.agg #[.int .i64 h,.string e,.slice j d c,.string k,.slice f b a]] q (post R fun v g=>∃p,v=(.int .i64 p)/\Br (p != (0:Int)) (R (.returned (.tuple #[.int .i64 i,.int .i64 p])) g) (J13 g))) (LdI .i64 (q.cell? op) fun n=>Br (n==(8:Int)) (LdI .i64 (q.cell? (op.add 6)) fun h=>LdStr (q.cell? ((op.add 6).add 1)) fun e=>LdSl (q.cell? ((op.add 6).add 2)) fun j d c=>LdStr (q.cell? ((op.add 6).add 3)) fun k=>LdSl (q.cell? ((op.add 6).add 4)) fun f b a=>CL 68 #[.agg #[.int .i64 h,.string e,.slice j d c,.string k,.slice f b a]] q (post R fun v g=>∃p,v=(.int .i64 p)/\Br (p != (0:Int)) (R (.returned (.tuple #[.int .i64 i,.int .i64 p])) g) (J13 g))) (J13 q)))
def F61_l4 (l:OA)(lN:Nat)(L4:Int->Wd->Prop)(i:Int)(ga:Wd)(R:RT):Prop:=Br (decide (i<(lN:Int))) (IdxA l lN i 11 fun ha=>LdI .i64 (ga.cell? ha) fun q=>LdI .u64 (ga.cell? (ha.add 1)) fun n=>LdI .u64 (ga.cell? (ha.add 2)) fun j=>LdI .i64 (ga.cell? (ha.add 3)) fun s=>LdStr (ga.cell? (ha.add 4)) fun g=>LdStr (ga.cell? (ha.add 5)) fun u=>LdI .i64 (ga.cell? (ha.add 6)) fun f=>LdStr (ga.cell? (ha.add 7)) fun h=>LdSl (ga.cell? (ha.add 8)) fun v e c=>LdStr (ga.cell? (ha.add 9)) fun p=>LdSl (ga.cell? (ha.add 10)) fun d b a=>Al ga #[.int .i64 0,.int .u64 0,.int .u64 0,.int .i64 0,eS,eS,.int .i64 0,eS,.slice none 0 0,eS,.slice none 0 0] 50 fun op w1=>St w1 op (.int .i64 q) fun ea=>St ea (op.add 1) (.int .u64 n) fun fa=>St fa (op.add 2) (.int .u64 j) fun ba=>St ba (op.add 3) (.int .i64 s) fun z=>St z (op.add 4) (.string g) fun ca=>St ca (op.add 5) (.string u) fun y=>St y (op.add 6) (.int .i64 f) fun aa=>St aa (op.add 7) (.string h) fun da=>St da (op.add 8) (.slice v e c) fun t=>St t (op.add 9) (.string p) fun r=>St r (op.add 10) (.slice d b a) fun m=>∃J9:Wd->Prop,(∀k,J9 k->F61_j9 l lN L4 i op k R)/\(LdI .i64 (m.cell? op) fun ja=>Br (decide (ja<(1:Int))) (R (.returned (.tuple #[.int .i64 i,.int .i64 170])) m) (LdI .i64 (m.cell? op) fun ia=>Br (decide (ia > (8:Int))) (R (.returned (.tuple #[.int .i64 i,.int .i64 170])) m) (J9 m)))) (R (.returned (.tuple #[.int .i64 0,.int .i64 0])) ga)
def F61 (l:OA)(lN lC:Nat)(a:Wd)(R:RT):Prop:=Br (decide ((lN:Int) > (4096:Int))) (R (.returned (.tuple #[.int .i64 0,.int .i64 2])) a) (∃(I:Int->Wd->Prop)(m:Int->Wd->Nat),I (0:Int) a/\∀i w1,I i w1->F61_l4 l lN (fun i' w2=>I i' w2/\m i' w2<m i w1) i w1 R)
theorem ok61 (l:OA)(a b:Nat){w:Wd}{R:RT} (h:F61 l a b w R):CL 61 #[.slice l a b] w R:=
 vk ⟨57,⟨[]⟩,[(13,⟨[],[(2,4),(6,45)]⟩),(9,⟨[],[(2,4),(21,30)]⟩)],[(14,⟨[(7,(.s (.int .i64)))],[(2,4),(7,57)]⟩),(4,⟨[(4,(.s (.int .i64)))],[(2,57)]⟩)]⟩ Tryz.func61 h
def F32_j10 (L9:OA->Nat->Nat->Int->Wd->Prop)(i:Int)(r3:OA)(b c:Nat)(a:Wd)(R:RT):Prop:=InR .i64 (i+(1:Int))/\L9 r3 b c (i+(1:Int)) a
def F32_l9 (l:OA)(lN:Nat)(L6:OA->Nat->Nat->Int->Wd->Prop)(p:Int)(L9:OA->Nat->Nat->Int->Wd->Prop)(r2:OA)(m n:Nat)(i:Int)(h:Wd)(R:RT):Prop:=Br (decide (i<(lN:Int))) (∃J10:OA->Nat->Nat->Wd->Prop,(∀r3 rN3 rC3 a,J10 r3 rN3 rC3 a->F32_j10 L9 i r3 rN3 rC3 a R)/\(IdxA l lN i 11 fun g=>LdI .i64 (h.cell? g) fun f=>CL 81 #[.int .i64 f] h (post R fun v2 a=>∃k,v2=(.int .i64 k)/\Br (k==p) (Al a #[.int .i64 i] 3 fun g38 c=>Raw P0 (Builtin.append_ #[71,71] 71 #[.slice r2 m n,(.slice (some g38) 1 1)]) c fun v3 e=>∃j b d,v3=(.slice j b d)/\J10 j b d e) (J10 r2 m n a)))) (InR .i64 (p+(1:Int))/\L6 r2 m n (p+(1:Int)) h)
def F32_l6 (l:OA)(lN:Nat)(L6:OA->Nat->Nat->Int->Wd->Prop)(r:OA)(rN rC:Nat)(p:Int)(b:Wd)(R:RT):Prop:=Br (decide (p<(5:Int))) (∃(I:OA->Nat->Nat->Int->Wd->Prop)(m:OA->Nat->Nat->Int->Wd->Nat),I r rN rC (0:Int) b/\∀r2 rN2 rC2 i a,I r2 rN2 rC2 i a->F32_l9 l lN L6 p (fun r2' rN2' rC2' i' w2=>I r2' rN2' rC2' i' w2/\m r2' rN2' rC2' i' w2<m r2 rN2 rC2 i a) r2 rN2 rC2 i a R) (R (.returned (.tuple #[.slice r rN rC,.int .i64 0])) b)
def F32 (l:OA)(lN lC:Nat)(e:Wd)(R:RT):Prop:=CL 61 #[.slice l lN lC] e (post R fun v w1=>∃b a,v=(.tuple #[.int .i64 b,.int .i64 a])/\Br (a != (0:Int)) (R (.returned (.tuple #[.slice none 0 0,.int .i64 a])) w1) (Al w1 #[] 3 fun g17 d=>∃(I:OA->Nat->Nat->Int->Wd->Prop)(m:OA->Nat->Nat->Int->Wd->Nat),I (some g17) 0 0 (0:Int) d/\∀r rN rC p c,I r rN rC p c->F32_l6 l lN (fun r' rN' rC' p' w2=>I r' rN' rC' p' w2/\m r' rN' rC' p' w2<m r rN rC p c) r rN rC p c R))
theorem ok32 (l:OA)(a b:Nat){w:Wd}{R:RT} (h:F32 l a b w R):CL 32 #[.slice l a b] w R:=
 vk ⟨41,⟨[]⟩,[(10,⟨[(6,(.s .slice))],[(6,7),(28,40)]⟩)],[(9,⟨[(6,(.s .slice)),(8,(.s (.int .i64)))],[(6,7),(8,40)]⟩),(6,⟨[(6,(.s .slice)),(7,(.s (.int .i64)))],[(6,40)]⟩)]⟩ Tryz.func32 h
def F111_j5 (a b:Addr)(f g:Bool)(d:Wd)(R:RT):Prop:=Br g (R (.returned (.bool true)) d) (Br f (LdStr (d.cell? (a.add 4)) fun e=>LdStr (d.cell? (b.add 4)) fun c=>R (.returned (.bool (e.toList==c.toList))) d) (R (.returned (.bool false)) d))
def F111_j4 (a b:Addr)(k:Bool)(i:Wd)(R:RT):Prop:=∃J5:Bool->Wd->Prop,(∀one c,J5 one c->F111_j5 a b k one c R)/\(LdI .i64 (i.cell? a) fun e=>LdI .i64 (i.cell? b) fun j=>Br (e==j) (LdI .i64 (i.cell? a) fun h=>Br (h==(2:Int)) (J5 true i) (LdI .i64 (i.cell? a) fun g=>Br (g==(4:Int)) (J5 true i) (LdI .i64 (i.cell? a) fun d=>Br (d==(5:Int)) (J5 true i) (LdI .i64 (i.cell? a) fun f=>J5 (f==(8:Int)) i)))) (J5 false i))
def F111 (m n p q:Int)(r s:ByteArray)(t:Int)(u:ByteArray)(v:OA)(y z:Nat)(aa:ByteArray)(ab:OA)(ac ad:Nat)(ae af ag ah:Int)(ai aj:ByteArray)(ak:Int)(am:ByteArray)(an:OA)(aq ar:Nat)(au:ByteArray)(av:OA)(ay az:Nat)(k:Wd)(R:RT):Prop:=Al k #[.int .i64 m,.int .u64 n,.int .u64 p,.int .i64 q,.string r,.string s,.int .i64 t,.string u,.slice v y z,.string aa,.slice ab ac ad] 50 fun a w1=>Al w1 #[.int .i64 ae,.int .u64 af,.int .u64 ag,.int .i64 ah,.string ai,.string aj,.int .i64 ak,.string am,.slice an aq ar,.string au,.slice av ay az] 50 fun b d=>LdI .u64 (d.cell? (a.add 1)) fun j=>LdI .u64 (d.cell? (b.add 1)) fun h=>Br (j != h) (R (.returned (.bool false)) d) (∃J4:Bool->Wd->Prop,(∀attr c,J4 attr c->F111_j4 a b attr c R)/\(LdI .i64 (d.cell? a) fun f=>Br (f==(6:Int)) (LdI .i64 (d.cell? b) fun i=>Br (i==(6:Int)) (J4 true d) (LdI .i64 (d.cell? b) fun g=>J4 (g==(7:Int)) d)) (LdI .i64 (d.cell? a) fun e=>Br (e==(7:Int)) (LdI .i64 (d.cell? b) fun i=>Br (i==(6:Int)) (J4 true d) (LdI .i64 (d.cell? b) fun g=>J4 (g==(7:Int)) d)) (J4 false d))))
theorem ok111 (a b c d:Int)(e f:ByteArray)(g:Int)(i:ByteArray)(j:OA)(k m:Nat)(n:ByteArray)(p:OA)(q r:Nat)(t u v y:Int)(z aa:ByteArray)(ab:Int)(ac:ByteArray)(ad:OA)(ae af:Nat)(ag:ByteArray)(ah:OA)(ai aj:Nat){w:Wd}{R:RT} (h:F111 a b c d e f g i j k m n p q r t u v y z aa ab ac ad ae af ag ah ai aj w R):CL 111 #[.agg #[.int .i64 a,.int .u64 b,.int .u64 c,.int .i64 d,.string e,.string f,.int .i64 g,.string i,.slice j k m,.string n,.slice p q r],.agg #[.int .i64 t,.int .u64 u,.int .u64 v,.int .i64 y,.string z,.string aa,.int .i64 ab,.string ac,.slice ad ae af,.string ag,.slice ah ai aj]] w R:=
 vk ⟨66,⟨[]⟩,[(5,⟨[(6,(.s .bool))],[(6,55)]⟩),(4,⟨[(5,(.s .bool))],[(5,30)]⟩)],[]⟩ Tryz.func111 h
def F62_l2 (l:OA)(lN:Nat)(h_:Int)(L2:Int->Wd->Prop)(i:Int)(a:Wd)(R:RT):Prop:=Br (decide (i<(lN:Int))) (IdxA l lN i 1 fun b=>LdI .u64 (a.cell? b) fun c=>Br (c==h_) (R (.returned (.bool true)) a) (InR .i64 (i+(1:Int))/\L2 (i+(1:Int)) a)) (R (.returned (.bool false)) a)
def F62 (l:OA)(lN lC:Nat)(h_:Int)(a:Wd)(R:RT):Prop:=∃(I:Int->Wd->Prop)(m:Int->Wd->Nat),I (0:Int) a/\∀i w1,I i w1->F62_l2 l lN h_ (fun i' w2=>I i' w2/\m i' w2<m i w1) i w1 R
theorem ok62 (l:OA)(a b:Nat)(c:Int){w:Wd}{R:RT} (h:F62 l a b c w R):CL 62 #[.slice l a b,.int .u64 c] w R:=
 vk ⟨18,⟨[]⟩,[],[(2,⟨[(5,(.s (.int .i64)))],[(4,18)]⟩)]⟩ Tryz.func62 h
def F63 (d:OA)(ac ad ae af:Int)(ag ah:ByteArray)(ai:Int)(aj:ByteArray)(ak:OA)(am an:Nat)(aq:ByteArray)(ar:OA)(au av:Nat)(w_:Wd)(R:RT):Prop:=Al w_ #[.int .i64 ac,.int .u64 ad,.int .u64 ae,.int .i64 af,.string ag,.string ah,.int .i64 ai,.string aj,.slice ak am an,.string aq,.slice ar au av] 50 fun op w1=>LdI .i64 (w1.cell? op) fun x9=>Br (x9==(1:Int)) (LdI .i64 (w1.cell? (op.add 3)) fun eb=>LdI .u64 (w1.cell? (op.add 2)) fun ia=>LdI .i64 (w1.cell? (op.add 6)) fun ba=>LdStr (w1.cell? ((op.add 6).add 1)) fun q=>LdSl (w1.cell? ((op.add 6).add 2)) fun k g h=>LdStr (w1.cell? ((op.add 6).add 3)) fun u=>LdSl (w1.cell? ((op.add 6).add 4)) fun j e f=>CL 27 #[.pointer d,.int .i64 eb,.int .u64 ia,.agg #[.int .i64 ba,.string q,.slice k g h,.string u,.slice j e f]] w1 (post R fun v ca=>∃z n,v=(.tuple #[.int .u64 z,.int .i64 n])/\R (.returned (.tuple #[.int .u64 z,.int .i64 n])) ca)) (Br (x9==(2:Int)) (LdI .u64 (w1.cell? (op.add 1)) fun cb=>LdI .i64 (w1.cell? (op.add 3)) fun db=>LdI .u64 (w1.cell? (op.add 2)) fun ea=>CL 45 #[.pointer d,.int .u64 cb,.int .i64 db,.int .u64 ea] w1 (post R fun v ca=>∃ab,v=(.int .i64 ab)/\R (.returned (.tuple #[.int .u64 0,.int .i64 ab])) ca)) (Br (x9==(3:Int)) (LdI .u64 (w1.cell? (op.add 1)) fun fb=>CL 46 #[.pointer d,.int .u64 fb] w1 (post R fun v ca=>∃na,v=(.int .i64 na)/\R (.returned (.tuple #[.int .u64 0,.int .i64 na])) ca)) (Br (x9==(4:Int)) (LdI .u64 (w1.cell? (op.add 1)) fun ta=>LdStr (w1.cell? (op.add 4)) fun ja=>CL 47 #[.pointer d,.int .u64 ta,.string ja] w1 (post R fun v ca=>∃va,v=(.int .i64 va)/\R (.returned (.tuple #[.int .u64 0,.int .i64 va])) ca)) (Br (x9==(5:Int)) (LdI .u64 (w1.cell? (op.add 1)) fun za=>LdStr (w1.cell? (op.add 5)) fun ra=>CL 48 #[.pointer d,.int .u64 za,.string ra] w1 (post R fun v ca=>∃ka,v=(.int .i64 ka)/\R (.returned (.tuple #[.int .u64 0,.int .i64 ka])) ca)) (Br (x9==(6:Int)) (LdI .u64 (w1.cell? (op.add 1)) fun ma=>LdStr (w1.cell? (op.add 4)) fun fa=>LdStr (w1.cell? (op.add 5)) fun ha=>CL 49 #[.pointer d,.int .u64 ma,.string fa,.string ha] w1 (post R fun v ca=>∃ya,v=(.int .i64 ya)/\R (.returned (.tuple #[.int .u64 0,.int .i64 ya])) ca)) (Br (x9==(7:Int)) (LdI .u64 (w1.cell? (op.add 1)) fun bb=>LdStr (w1.cell? (op.add 4)) fun qa=>CL 50 #[.pointer d,.int .u64 bb,.string qa] w1 (post R fun v ca=>∃ua,v=(.int .i64 ua)/\R (.returned (.tuple #[.int .u64 0,.int .i64 ua])) ca)) (LdI .u64 (w1.cell? (op.add 1)) fun sa=>LdI .i64 (w1.cell? (op.add 6)) fun r=>LdStr (w1.cell? ((op.add 6).add 1)) fun s=>LdSl (w1.cell? ((op.add 6).add 2)) fun aa b c=>LdStr (w1.cell? ((op.add 6).add 3)) fun t=>LdSl (w1.cell? ((op.add 6).add 4)) fun p i a=>CL 27 #[.pointer d,.int .i64 3,.int .u64 sa,.agg #[.int .i64 r,.string s,.slice aa b c,.string t,.slice p i a]] w1 (post R fun v ca=>∃m y,v=(.tuple #[.int .u64 m,.int .i64 y])/\Br (y != (0:Int)) (R (.returned (.tuple #[.int .u64 0,.int .i64 y])) ca) (LdI .u64 (ca.cell? (op.add 1)) fun ga=>CL 46 #[.pointer d,.int .u64 ga] ca (post R fun v2 da=>∃pa,v2=(.int .i64 pa)/\R (.returned (.tuple #[.int .u64 m,.int .i64 pa])) da))))))))))
theorem ok63 (d:OA)(a b c e:Int)(f g:ByteArray)(i:Int)(j:ByteArray)(k:OA)(m n:Nat)(p:ByteArray)(q:OA)(r s:Nat){w:Wd}{R:RT} (h:F63 d a b c e f g i j k m n p q r s w R):CL 63 #[.pointer d,.agg #[.int .i64 a,.int .u64 b,.int .u64 c,.int .i64 e,.string f,.string g,.int .i64 i,.string j,.slice k m n,.string p,.slice q r s]] w R:=
 vk ⟨89,⟨[]⟩,[],[]⟩ Tryz.func63 h
def F81 (b:Int)(a:Wd)(R:RT):Prop:=Br (b==(1:Int)) (R (.returned (.int .i64 1)) a) (Br (b==(2:Int)) (R (.returned (.int .i64 2)) a) (Br (b==(8:Int)) (R (.returned (.int .i64 3)) a) (Br (b==(3:Int)) (R (.returned (.int .i64 4)) a) (R (.returned (.int .i64 0)) a))))
theorem ok81 (a:Int){w:Wd}{R:RT} (h:F81 a w R):CL 81 #[.int .i64 a] w R:=
 vk ⟨12,⟨[]⟩,[],[]⟩ Tryz.func81 h
def F22_l7 (d l:OA)(lN:Nat)(y:OA)(f h:Nat)(r:OA)(g ab:Nat)(L7:Int->Wd->Prop)(da:Int)(ca:Wd)(R:RT):Prop:=Br (decide (da<(g:Int))) (IdxA r g da 1 fun ea=>LdI .i64 (ca.cell? ea) fun aa=>IdxA l lN aa 11 fun ba=>LdI .i64 (ca.cell? ba) fun t=>LdI .u64 (ca.cell? (ba.add 1)) fun s=>LdI .u64 (ca.cell? (ba.add 2)) fun p=>LdI .i64 (ca.cell? (ba.add 3)) fun j=>LdStr (ca.cell? (ba.add 4)) fun u=>LdStr (ca.cell? (ba.add 5)) fun q=>LdI .i64 (ca.cell? (ba.add 6)) fun v=>LdStr (ca.cell? (ba.add 7)) fun n=>LdSl (ca.cell? (ba.add 8)) fun k e i=>LdStr (ca.cell? (ba.add 9)) fun m=>LdSl (ca.cell? (ba.add 10)) fun c a b=>CL 59 #[(.iface 58 (.pointer d)),(.func (.func 30) #[.pointer d] #[]),(.map (some ab)),.agg #[.int .i64 t,.int .u64 s,.int .u64 p,.int .i64 j,.string u,.string q,.int .i64 v,.string n,.slice k e i,.string m,.slice c a b]] ca (post R fun v3 z=>v3=(.tuple #[])/\InR .i64 (da+(1:Int))/\L7 (da+(1:Int)) z)) (R (.returned (.tuple #[.slice y f h,.int .i64 0,.int .i64 0])) ca)
def F22 (d l:OA)(lN lC:Nat)(r:Wd)(R:RT):Prop:=CL 20 #[.pointer d,.slice l lN lC] r (post R fun v w1=>∃j a e h g,v=(.tuple #[.slice j a e,.int .i64 h,.int .i64 g])/\Br (g != (0:Int)) (R (.returned (.tuple #[.slice none 0 0,.int .i64 h,.int .i64 g])) w1) (CL 29 #[.slice l lN lC] w1 (post R fun v2 p=>∃i b c f,v2=(.tuple #[.slice i b c,.int .i64 f])/\AlM p fun r31 k=>∃(I:Int->Wd->Prop)(m:Int->Wd->Nat),I (0:Int) k/\∀q n,I q n->F22_l7 d l lN j a e i b r31 (fun q' w2=>I q' w2/\m q' w2<m q n) q n R)))
theorem ok22 (d l:OA)(a b:Nat){w:Wd}{R:RT} (h:F22 d l a b w R):CL 22 #[.pointer d,.slice l a b] w R:=
 vk ⟨50,⟨[]⟩,[],[(7,⟨[(34,(.s (.int .i64)))],[(14,15),(34,49)]⟩)]⟩ Tryz.func22 h
def F74_j21 (L5:Int->Wd->Prop)(b:Int)(a:Wd)(R:RT):Prop:=InR .i64 (b+(1:Int))/\L5 (b+(1:Int)) a
def F74_l14 (ae:Nat)(rc:Int)(af:Wd->Prop)(op:Addr)(nc:OA)(kc:Nat)(ag:Int->Wd->Prop)(ad:Int)(qc:Wd)(R:RT):Prop:=Br (decide (ad<(kc:Int))) (IdxA nc kc ad 11 fun yc=>LdI .i64 (qc.cell? yc) fun ka=>LdI .u64 (qc.cell? (yc.add 1)) fun ea=>LdI .u64 (qc.cell? (yc.add 2)) fun za=>LdI .i64 (qc.cell? (yc.add 3)) fun aa=>LdStr (qc.cell? (yc.add 4)) fun va=>LdStr (qc.cell? (yc.add 5)) fun tb=>LdI .i64 (qc.cell? (yc.add 6)) fun ac=>LdStr (qc.cell? (yc.add 7)) fun yb=>LdSl (qc.cell? (yc.add 8)) fun ha i k=>LdStr (qc.cell? (yc.add 9)) fun ya=>LdSl (qc.cell? (yc.add 10)) fun s b d=>Al qc #[.int .i64 0,.int .u64 0,.int .u64 0,.int .i64 0,eS,eS,.int .i64 0,eS,.slice none 0 0,eS,.slice none 0 0] 50 fun o ub=>St ub o (.int .i64 ka) fun cb=>St cb (o.add 1) (.int .u64 ea) fun ia=>St ia (o.add 2) (.int .u64 za) fun dc=>St dc (o.add 3) (.int .i64 aa) fun ra=>St ra (o.add 4) (.string va) fun ca=>St ca (o.add 5) (.string tb) fun bb=>St bb (o.add 6) (.int .i64 ac) fun da=>St da (o.add 7) (.string yb) fun ua=>St ua (o.add 8) (.slice ha i k) fun ba=>St ba (o.add 9) (.string ya) fun ec=>St ec (o.add 10) (.slice s b d) fun rb=>LdI .i64 (rb.cell? o) fun sb=>LdI .u64 (rb.cell? (o.add 1)) fun pb=>LdI .u64 (rb.cell? (o.add 2)) fun vb=>LdI .i64 (rb.cell? (o.add 3)) fun ma=>LdStr (rb.cell? (o.add 4)) fun z=>LdStr (rb.cell? (o.add 5)) fun mb=>LdI .i64 (rb.cell? (o.add 6)) fun nb=>LdStr (rb.cell? (o.add 7)) fun bc=>LdSl (rb.cell? (o.add 8)) fun db r p=>LdStr (rb.cell? (o.add 9)) fun ab=>LdSl (rb.cell? (o.add 10)) fun j f h=>LdI .i64 (rb.cell? op) fun ja=>LdI .u64 (rb.cell? (op.add 1)) fun eb=>LdI .u64 (rb.cell? (op.add 2)) fun gc=>LdI .i64 (rb.cell? (op.add 3)) fun ga=>LdStr (rb.cell? (op.add 4)) fun qa=>LdStr (rb.cell? (op.add 5)) fun y=>LdI .i64 (rb.cell? (op.add 6)) fun fc=>LdStr (rb.cell? (op.add 7)) fun sa=>LdSl (rb.cell? (op.add 8)) fun jb q m=>LdStr (rb.cell? (op.add 9)) fun na=>LdSl (rb.cell? (op.add 10)) fun u c a=>CL 130 #[.agg #[.int .i64 sb,.int .u64 pb,.int .u64 vb,.int .i64 ma,.string z,.string mb,.int .i64 nb,.string bc,.slice db r p,.string ab,.slice j f h],.agg #[.int .i64 ja,.int .u64 eb,.int .u64 gc,.int .i64 ga,.string qa,.string y,.int .i64 fc,.string sa,.slice jb q m,.string na,.slice u c a]] rb (post R fun v2 pa=>∃uc,v2=(.bool uc)/\Br uc (R (.returned (.tuple #[.int .i64 rc,.int .i64 171])) pa) (InR .i64 (ad+(1:Int))/\ag (ad+(1:Int)) pa))) (LdI .i64 (qc.cell? op) fun tc=>CL 131 #[.int .i64 tc] qc (post R fun v2 ub=>∃bd,v2=(.bool bd)/\Br bd (∃S:Wd->Prop,S ub.drew/\∃dd,Held S (op.add 1) (.int .u64 dd)/\∃zc,Held S (op.add 1) (.int .u64 zc)/\∃cc,Held S op (.int .i64 cc)/\∃fb,Held S (op.add 1) (.int .u64 fb)/\∃ib,Held S (op.add 2) (.int .u64 ib)/\∃fa,Held S (op.add 3) (.int .i64 fa)/\∃gb,Held S (op.add 4) (.string gb)/\∃zb,Held S (op.add 5) (.string zb)/\∃ta,Held S (op.add 6) (.int .i64 ta)/\∃kb,Held S (op.add 7) (.string kb)/\∃hb n t,Held S (op.add 8) (.slice hb n t)/\∃qb,Held S (op.add 9) (.string qb)/\∃v g e,Held S (op.add 10) (.slice v g e)/\(Raw P0 (Instr.lookup 223 (.map (some ae)) (.int .u64 zc) false) ub.drew fun v3 ia=>∃pc hc jc,v3=(.slice pc hc jc)/\S ia/\Al ia #[.int .i64 cc,.int .u64 fb,.int .u64 ib,.int .i64 fa,.string gb,.string zb,.int .i64 ta,.string kb,.slice hb n t,.string qb,.slice v g e] 50 fun g75 dc=>S dc/\Raw P0 (Builtin.append_ #[26,26] 26 #[.slice pc hc jc,(.slice (some g75) 1 1)]) dc fun v4 ra=>∃sc ic mc,v4=(.slice sc ic mc)/\S ra/\Raw P0 (Instr.mapUpdate 223 (.map (some ae)) (.int .u64 dd) (.slice sc ic mc)) ra fun _ ca=>af ca)/\(Al ub.drew #[.int .i64 cc,.int .u64 fb,.int .u64 ib,.int .i64 fa,.string gb,.string zb,.int .i64 ta,.string kb,.slice hb n t,.string qb,.slice v g e] 50 fun g75 ia=>S ia/\Raw P0 (Instr.lookup 223 (.map (some ae)) (.int .u64 zc) false) ia fun v3 dc=>∃pc hc jc,v3=(.slice pc hc jc)/\S dc/\Raw P0 (Builtin.append_ #[26,26] 26 #[.slice pc hc jc,(.slice (some g75) 1 1)]) dc fun v4 ra=>∃sc ic mc,v4=(.slice sc ic mc)/\S ra/\Raw P0 (Instr.mapUpdate 223 (.map (some ae)) (.int .u64 dd) (.slice sc ic mc)) ra fun _ ca=>af ca)) (LdI .i64 (ub.cell? op) fun cd=>CL 132 #[.int .i64 cd] ub (post R fun v3 cb=>∃vc,v3=(.bool vc)/\Br vc (∃S:Wd->Prop,S cb.drew/\∃dd,Held S (op.add 1) (.int .u64 dd)/\∃zc,Held S (op.add 1) (.int .u64 zc)/\∃cc,Held S op (.int .i64 cc)/\∃fb,Held S (op.add 1) (.int .u64 fb)/\∃ib,Held S (op.add 2) (.int .u64 ib)/\∃fa,Held S (op.add 3) (.int .i64 fa)/\∃gb,Held S (op.add 4) (.string gb)/\∃zb,Held S (op.add 5) (.string zb)/\∃ta,Held S (op.add 6) (.int .i64 ta)/\∃kb,Held S (op.add 7) (.string kb)/\∃hb n t,Held S (op.add 8) (.slice hb n t)/\∃qb,Held S (op.add 9) (.string qb)/\∃v g e,Held S (op.add 10) (.slice v g e)/\(Raw P0 (Instr.lookup 223 (.map (some ae)) (.int .u64 zc) false) cb.drew fun v4 dc=>∃pc hc jc,v4=(.slice pc hc jc)/\S dc/\Al dc #[.int .i64 cc,.int .u64 fb,.int .u64 ib,.int .i64 fa,.string gb,.string zb,.int .i64 ta,.string kb,.slice hb n t,.string qb,.slice v g e] 50 fun g75 ra=>S ra/\Raw P0 (Builtin.append_ #[26,26] 26 #[.slice pc hc jc,(.slice (some g75) 1 1)]) ra fun v5 ca=>∃sc ic mc,v5=(.slice sc ic mc)/\S ca/\Raw P0 (Instr.mapUpdate 223 (.map (some ae)) (.int .u64 dd) (.slice sc ic mc)) ca fun _ bb=>af bb)/\(Al cb.drew #[.int .i64 cc,.int .u64 fb,.int .u64 ib,.int .i64 fa,.string gb,.string zb,.int .i64 ta,.string kb,.slice hb n t,.string qb,.slice v g e] 50 fun g75 dc=>S dc/\Raw P0 (Instr.lookup 223 (.map (some ae)) (.int .u64 zc) false) dc fun v4 ra=>∃pc hc jc,v4=(.slice pc hc jc)/\S ra/\Raw P0 (Builtin.append_ #[26,26] 26 #[.slice pc hc jc,(.slice (some g75) 1 1)]) ra fun v5 ca=>∃sc ic mc,v5=(.slice sc ic mc)/\S ca/\Raw P0 (Instr.mapUpdate 223 (.map (some ae)) (.int .u64 dd) (.slice sc ic mc)) ca fun _ bb=>af bb)) (af cb)))))
def F74_j13 (j:Nat)(i:Int)(k:Wd->Prop)(op:Addr)(e:Wd)(R:RT):Prop:=LdI .u64 (e.cell? (op.add 1)) fun f=>Raw P0 (Instr.lookup 223 (.map (some j)) (.int .u64 f) false) e fun v b=>∃h d c,v=(.slice h d c)/\∃(I:Int->Wd->Prop)(m:Int->Wd->Nat),I (0:Int) b/\∀g a,I g a->F74_l14 j i k op h d (fun g' w2=>I g' w2/\m g' w2<m g a) g a R
def F74_j9 (r:Nat)(p:Int)(s:Wd->Prop)(op:Addr)(q:Wd)(R:RT):Prop:=∃J13:Wd->Prop,(∀i,J13 i->F74_j13 r p s op i R)/\(LdI .i64 (q.cell? op) fun k=>Br (k==(1:Int)) (LdI .i64 (q.cell? (op.add 6)) fun h=>LdStr (q.cell? ((op.add 6).add 1)) fun e=>LdSl (q.cell? ((op.add 6).add 2)) fun g d c=>LdStr (q.cell? ((op.add 6).add 3)) fun j=>LdSl (q.cell? ((op.add 6).add 4)) fun f b a=>CL 129 #[.agg #[.int .i64 h,.string e,.slice g d c,.string j,.slice f b a]] q (post R fun v i=>∃n,v=(.int .i64 n)/\Br (n != (0:Int)) (R (.returned (.tuple #[.int .i64 p,.int .i64 n])) i) (J13 i))) (LdI .i64 (q.cell? op) fun m=>Br (m==(8:Int)) (LdI .i64 (q.cell? (op.add 6)) fun h=>LdStr (q.cell? ((op.add 6).add 1)) fun e=>LdSl (q.cell? ((op.add 6).add 2)) fun g d c=>LdStr (q.cell? ((op.add 6).add 3)) fun j=>LdSl (q.cell? ((op.add 6).add 4)) fun f b a=>CL 129 #[.agg #[.int .i64 h,.string e,.slice g d c,.string j,.slice f b a]] q (post R fun v i=>∃n,v=(.int .i64 n)/\Br (n != (0:Int)) (R (.returned (.tuple #[.int .i64 p,.int .i64 n])) i) (J13 i))) (J13 q)))
def F74_l5 (l:OA)(lN ab:Nat)(L5:Int->Wd->Prop)(ga:Int)(ha:Wd)(R:RT):Prop:=Br (decide (ga<(lN:Int))) (∃J21:Wd->Prop,(∀ea,J21 ea->F74_j21 L5 ga ea R)/\(IdxA l lN ga 11 fun ia=>LdI .i64 (ha.cell? ia) fun q=>LdI .u64 (ha.cell? (ia.add 1)) fun m=>LdI .u64 (ha.cell? (ia.add 2)) fun i=>LdI .i64 (ha.cell? (ia.add 3)) fun s=>LdStr (ha.cell? (ia.add 4)) fun g=>LdStr (ha.cell? (ia.add 5)) fun u=>LdI .i64 (ha.cell? (ia.add 6)) fun f=>LdStr (ha.cell? (ia.add 7)) fun h=>LdSl (ha.cell? (ia.add 8)) fun v e c=>LdStr (ha.cell? (ia.add 9)) fun n=>LdSl (ha.cell? (ia.add 10)) fun d b a=>Al ha #[.int .i64 0,.int .u64 0,.int .u64 0,.int .i64 0,eS,eS,.int .i64 0,eS,.slice none 0 0,eS,.slice none 0 0] 50 fun op ea=>St ea op (.int .i64 q) fun fa=>St fa (op.add 1) (.int .u64 m) fun ba=>St ba (op.add 2) (.int .u64 i) fun z=>St z (op.add 3) (.int .i64 s) fun ca=>St ca (op.add 4) (.string g) fun y=>St y (op.add 5) (.string u) fun aa=>St aa (op.add 6) (.int .i64 f) fun da=>St da (op.add 7) (.string h) fun t=>St t (op.add 8) (.slice v e c) fun r=>St r (op.add 9) (.string n) fun k=>St k (op.add 10) (.slice d b a) fun j=>∃J9:Wd->Prop,(∀p,J9 p->F74_j9 ab ga J21 op p R)/\(LdI .i64 (j.cell? op) fun ka=>Br (decide (ka<(1:Int))) (R (.returned (.tuple #[.int .i64 ga,.int .i64 170])) j) (LdI .i64 (j.cell? op) fun ja=>Br (decide (ja > (8:Int))) (R (.returned (.tuple #[.int .i64 ga,.int .i64 170])) j) (J9 j))))) (R (.returned (.tuple #[.int .i64 0,.int .i64 0])) ha)
def F74 (l:OA)(lN lC:Nat)(c:Wd)(R:RT):Prop:=Br (decide ((lN:Int) > (4096:Int))) (R (.returned (.tuple #[.int .i64 0,.int .i64 2])) c) (AlM c fun r13 w1=>∃(I:Int->Wd->Prop)(m:Int->Wd->Nat),I (0:Int) w1/\∀b a,I b a->F74_l5 l lN r13 (fun b' w2=>I b' w2/\m b' w2<m b a) b a R)
theorem ok74 (l:OA)(a b:Nat){w:Wd}{R:RT} (h:F74 l a b w R):CL 74 #[.slice l a b] w R:=
 vk ⟨78,⟨[]⟩,[(13,⟨[],[(2,4),(7,8),(30,45)]⟩),(9,⟨[],[(2,4),(21,30)]⟩),(21,⟨[],[(2,4),(5,10),(18,77)]⟩)],[(14,⟨[(50,(.s (.int .i64)))],[(2,4),(9,10),(50,59)]⟩),(5,⟨[(16,(.s (.int .i64)))],[(2,4),(5,10),(16,78)]⟩)]⟩ Tryz.func74 h
def F29_j13 (L9:OA->Nat->Nat->Int->Wd->Prop)(b:Int)(c:OA)(d e:Nat)(a:Wd)(R:RT):Prop:=InR .i64 (b+(1:Int))/\L9 c d e (b+(1:Int)) a
def F29_l9 (l:OA)(lN:Nat)(L6:OA->Nat->Nat->Int->Wd->Prop)(ma:Int)(L9:OA->Nat->Nat->Int->Wd->Prop)(ab:OA)(ac ad:Nat)(sa:Int)(na:Wd)(R:RT):Prop:=Br (decide (sa<(lN:Int))) (∃J13:OA->Nat->Nat->Wd->Prop,(∀out3 outN3 outC3 ja,J13 out3 outN3 outC3 ja->F29_j13 L9 sa out3 outN3 outC3 ja R)/\(IdxA l lN sa 11 fun pa=>LdI .i64 (na.cell? pa) fun k=>LdI .u64 (na.cell? (pa.add 1)) fun i=>LdI .u64 (na.cell? (pa.add 2)) fun j=>LdI .i64 (na.cell? (pa.add 3)) fun t=>LdStr (na.cell? (pa.add 4)) fun g=>LdStr (na.cell? (pa.add 5)) fun v=>LdI .i64 (na.cell? (pa.add 6)) fun s=>LdStr (na.cell? (pa.add 7)) fun m=>LdSl (na.cell? (pa.add 8)) fun h c e=>LdStr (na.cell? (pa.add 9)) fun p=>LdSl (na.cell? (pa.add 10)) fun d a b=>Al na #[.int .i64 0,.int .u64 0,.int .u64 0,.int .i64 0,eS,eS,.int .i64 0,eS,.slice none 0 0,eS,.slice none 0 0] 50 fun op ja=>St ja op (.int .i64 k) fun ea=>St ea (op.add 1) (.int .u64 i) fun ca=>St ca (op.add 2) (.int .u64 j) fun ga=>St ga (op.add 3) (.int .i64 t) fun ba=>St ba (op.add 4) (.string g) fun da=>St da (op.add 5) (.string v) fun ha=>St ha (op.add 6) (.int .i64 s) fun aa=>St aa (op.add 7) (.string m) fun z=>St z (op.add 8) (.slice h c e) fun q=>St q (op.add 9) (.string p) fun n=>St n (op.add 10) (.slice d a b) fun r=>LdI .i64 (r.cell? op) fun ka=>CL 75 #[.int .i64 ka] r (post R fun v2 f=>∃ra,v2=(.int .i64 ra)/\Br (ra==ma) (Al f #[.int .i64 sa] 3 fun g38 y=>Raw P0 (Builtin.append_ #[71,71] 71 #[.slice ab ac ad,(.slice (some g38) 1 1)]) y fun v3 u=>∃qa ia fa,v3=(.slice qa ia fa)/\J13 qa ia fa u) (J13 ab ac ad f)))) (InR .i64 (ma+(1:Int))/\L6 ab ac ad (ma+(1:Int)) na)
def F29_l6 (l:OA)(lN:Nat)(L6:OA->Nat->Nat->Int->Wd->Prop)(e:OA)(f g:Nat)(b:Int)(c:Wd)(R:RT):Prop:=Br (decide (b<(5:Int))) (∃(I:OA->Nat->Nat->Int->Wd->Prop)(m:OA->Nat->Nat->Int->Wd->Nat),I e f g (0:Int) c/\∀out2 outN2 outC2 d a,I out2 outN2 outC2 d a->F29_l9 l lN L6 b (fun out2' outN2' outC2' d' w2=>I out2' outN2' outC2' d' w2/\m out2' outN2' outC2' d' w2<m out2 outN2 outC2 d a) out2 outN2 outC2 d a R) (R (.returned (.tuple #[.slice e f g,.int .i64 0])) c)
def F29 (l:OA)(lN lC:Nat)(f:Wd)(R:RT):Prop:=CL 74 #[.slice l lN lC] f (post R fun v w1=>∃b a,v=(.tuple #[.int .i64 b,.int .i64 a])/\Br (a != (0:Int)) (R (.returned (.tuple #[.slice none 0 0,.int .i64 a])) w1) (0<=(0:Int)/\(0:Int)<=(lN:Int)/\((8:Nat):Int)*(lN:Int)<=281474976710656/\Al w1 (zrow #[.int .i64 0] (((lN:Int)).toNat*1)) 3 fun g20 d=>∃(I:OA->Nat->Nat->Int->Wd->Prop)(m:OA->Nat->Nat->Int->Wd->Nat),I (some g20) ((0:Int)).toNat ((lN:Int)).toNat (0:Int) d/\∀out outN outC e c,I out outN outC e c->F29_l6 l lN (fun out' outN' outC' e' w2=>I out' outN' outC' e' w2/\m out' outN' outC' e' w2<m out outN outC e c) out outN outC e c R))
theorem ok29 (l:OA)(a b:Nat){w:Wd}{R:RT} (h:F29 l a b w R):CL 29 #[.slice l a b] w R:=
 vk ⟨43,⟨[]⟩,[(13,⟨[(6,(.s .slice))],[(6,7),(8,10),(28,40)]⟩)],[(9,⟨[(6,(.s .slice)),(26,(.s (.int .i64)))],[(6,7),(8,10),(26,41)]⟩),(6,⟨[(6,(.s .slice)),(21,(.s (.int .i64)))],[(6,42)]⟩)]⟩ Tryz.func29 h
def F20 (d l:OA)(lN lC:Nat)(i:Wd)(R:RT):Prop:=Br (d).isNone (R (.returned (.tuple #[.slice none 0 0,.int .i64 0,.int .i64 1])) i) (CL 30 #[.pointer d] i (post R fun v w1=>∃h,v=(.pointer h)/\CL 56 #[.pointer h,.slice l lN lC] w1 (post R fun v2 g=>∃e a b c f,v2=(.tuple #[.slice e a b,.int .i64 c,.int .i64 f])/\R (.returned (.tuple #[.slice e a b,.int .i64 c,.int .i64 f])) g)))
theorem ok20 (d l:OA)(a b:Nat){w:Wd}{R:RT} (h:F20 d l a b w R):CL 20 #[.pointer d,.slice l a b] w R:=
 vk ⟨16,⟨[]⟩,[],[]⟩ Tryz.func20 h
def F132 (b:Int)(a:Wd)(R:RT):Prop:=Br (b==(6:Int)) (R (.returned (.bool true)) a) (R (.returned (.bool (b==(7:Int)))) a)
theorem ok132 (a:Int){w:Wd}{R:RT} (h:F132 a w R):CL 132 #[.int .i64 a] w R:=
 vk ⟨9,⟨[]⟩,[],[]⟩ Tryz.func132 h
def F130_j5 (a b:Addr)(j:Wd)(R:RT):Prop:=LdI .i64 (j.cell? a) fun k=>CL 132 #[.int .i64 k] j (post R fun v c=>∃h,v=(.bool h)/\Br h (LdI .i64 (c.cell? b) fun f=>CL 132 #[.int .i64 f] c (post R fun v2 d=>∃i,v2=(.bool i)/\Br i (LdStr (d.cell? (a.add 4)) fun e=>LdStr (d.cell? (b.add 4)) fun g=>R (.returned (.bool (e.toList==g.toList))) d) (R (.returned (.bool false)) d))) (R (.returned (.bool false)) c))
def F130 (m n p q:Int)(r s:ByteArray)(t:Int)(u:ByteArray)(y:OA)(z aa:Nat)(ab:ByteArray)(ac:OA)(ad ae:Nat)(af ag ah ai:Int)(aj ak:ByteArray)(am:Int)(an:ByteArray)(aq:OA)(ar au:Nat)(av:ByteArray)(ay:OA)(az ba:Nat)(i:Wd)(R:RT):Prop:=Al i #[.int .i64 m,.int .u64 n,.int .u64 p,.int .i64 q,.string r,.string s,.int .i64 t,.string u,.slice y z aa,.string ab,.slice ac ad ae] 50 fun a w1=>Al w1 #[.int .i64 af,.int .u64 ag,.int .u64 ah,.int .i64 ai,.string aj,.string ak,.int .i64 am,.string an,.slice aq ar au,.string av,.slice ay az ba] 50 fun b d=>∃J5:Wd->Prop,(∀c,J5 c->F130_j5 a b c R)/\(LdI .u64 (d.cell? (a.add 1)) fun j=>LdI .u64 (d.cell? (b.add 1)) fun k=>Br (j != k) (R (.returned (.bool false)) d) (LdI .i64 (d.cell? a) fun f=>LdI .i64 (d.cell? b) fun g=>Br (f==g) (LdI .i64 (d.cell? a) fun e=>CL 131 #[.int .i64 e] d (post R fun v c=>∃h,v=(.bool h)/\Br h (R (.returned (.bool true)) c) (J5 c))) (J5 d)))
theorem ok130 (a b c d:Int)(e f:ByteArray)(g:Int)(i:ByteArray)(j:OA)(k m:Nat)(n:ByteArray)(p:OA)(q r:Nat)(s t u v:Int)(y z:ByteArray)(aa:Int)(ab:ByteArray)(ac:OA)(ad ae:Nat)(af:ByteArray)(ag:OA)(ah ai:Nat){w:Wd}{R:RT} (h:F130 a b c d e f g i j k m n p q r s t u v y z aa ab ac ad ae af ag ah ai w R):CL 130 #[.agg #[.int .i64 a,.int .u64 b,.int .u64 c,.int .i64 d,.string e,.string f,.int .i64 g,.string i,.slice j k m,.string n,.slice p q r],.agg #[.int .i64 s,.int .u64 t,.int .u64 u,.int .i64 v,.string y,.string z,.int .i64 aa,.string ab,.slice ac ad ae,.string af,.slice ag ah ai]] w R:=
 vk ⟨37,⟨[]⟩,[(5,⟨[],[(4,22)]⟩)],[]⟩ Tryz.func130 h
def F59_l7 (d:Value)(k:Option Nat)(op:Addr)(b:OA)(a:Nat)(L7:Int->Wd->Prop)(f:Int)(e:Wd)(R:RT):Prop:=Br (decide (f<(a:Int))) (IdxA b a f 1 fun g=>LdI .u64 (e.cell? g) fun h=>Raw P0 (Instr.mapUpdate 122 (.map k) (.int .u64 h) (.bool true)) e fun _ c=>InR .i64 (f+(1:Int))/\L7 (f+(1:Int)) c) (LdI .u64 (e.cell? (op.add 1)) fun i=>CallM P0 d "Delete" #[.int .u64 i] e R (fun v3 c=>∃j,v3=(.int .i64 j)/\R (.returned (.tuple #[])) c))
def F59_j5 (d p:Value)(q:Option Nat)(op:Addr)(k:Wd)(R:RT):Prop:=∃S:Wd->Prop,S k.drew/\∃n,Held S (op.add 1) (.int .u64 n)/\CallV P0 p #[] k.drew R (fun v f=>∃j,v=(.pointer j)/\S f/\CL 90 #[.pointer j,.int .u64 n] f (post R fun v2 g=>∃c a b e,v2=(.tuple #[.slice c a b,.int .i64 e])/\∃(I:Int->Wd->Prop)(m:Int->Wd->Nat),I (0:Int) g/\∀i h,I i h->F59_l7 d q op c a (fun i' w2=>I i' w2/\m i' w2<m i h) i h R))
def F59_j2 (d ac:Value)(ad:Option Nat)(op:Addr)(qa:Wd)(R:RT):Prop:=LdI .i64 (qa.cell? op) fun db=>Br (db==(4:Int)) (LdI .u64 (qa.cell? (op.add 1)) fun pa=>LdStr (qa.cell? (op.add 4)) fun va=>CallM P0 d "SetName" #[.int .u64 pa, (.string va)] qa R (fun v ga=>∃cb,v=(.int .i64 cb)/\R (.returned (.tuple #[])) ga)) (Br (db==(5:Int)) (LdI .u64 (qa.cell? (op.add 1)) fun ka=>LdStr (qa.cell? (op.add 5)) fun ja=>CallM P0 d "SetText" #[.int .u64 ka, (.string ja)] qa R (fun v ga=>∃za,v=(.int .i64 za)/\R (.returned (.tuple #[])) ga)) (Br (db==(6:Int)) (LdI .u64 (qa.cell? (op.add 1)) fun sa=>LdStr (qa.cell? (op.add 4)) fun ra=>LdStr (qa.cell? (op.add 5)) fun ua=>CallM P0 d "SetAttr" #[.int .u64 sa, (.string ra), (.string ua)] qa R (fun v ga=>∃ab,v=(.int .i64 ab)/\R (.returned (.tuple #[])) ga)) (Br (db==(7:Int)) (LdI .u64 (qa.cell? (op.add 1)) fun ma=>LdStr (qa.cell? (op.add 4)) fun na=>CallM P0 d "DropAttr" #[.int .u64 ma, (.string na)] qa R (fun v ga=>∃ia,v=(.int .i64 ia)/\R (.returned (.tuple #[])) ga)) (Br (db==(1:Int)) (LdI .i64 (qa.cell? (op.add 3)) fun ha=>LdI .u64 (qa.cell? (op.add 2)) fun ya=>LdI .i64 (qa.cell? (op.add 6)) fun ba=>LdStr (qa.cell? ((op.add 6).add 1)) fun u=>LdSl (qa.cell? ((op.add 6).add 2)) fun p g a=>LdStr (qa.cell? ((op.add 6).add 3)) fun y=>LdSl (qa.cell? ((op.add 6).add 4)) fun s f i=>CallM P0 d "Insert" #[.int .i64 ha, (.int .u64 ya), (.agg #[.int .i64 ba, (.string u), (.slice p g a), (.string y), (.slice s f i)])] qa R (fun v ga=>∃z k,v=(.tuple #[.int .u64 z,.int .i64 k])/\R (.returned (.tuple #[])) ga)) (Br (db==(2:Int)) (LdI .u64 (qa.cell? (op.add 1)) fun ea=>LdI .i64 (qa.cell? (op.add 3)) fun ca=>LdI .u64 (qa.cell? (op.add 2)) fun fa=>CallM P0 d "Move" #[.int .u64 ea, (.int .i64 ca), (.int .u64 fa)] qa R (fun v ga=>∃da,v=(.int .i64 da)/\R (.returned (.tuple #[])) ga)) (∃J5:Wd->Prop,(∀ga,J5 ga->F59_j5 d ac ad op ga R)/\(LdI .i64 (qa.cell? op) fun ta=>Br (ta==(8:Int)) (LdI .u64 (qa.cell? (op.add 1)) fun bb=>LdI .i64 (qa.cell? (op.add 6)) fun q=>LdStr (qa.cell? ((op.add 6).add 1)) fun n=>LdSl (qa.cell? ((op.add 6).add 2)) fun r b e=>LdStr (qa.cell? ((op.add 6).add 3)) fun t=>LdSl (qa.cell? ((op.add 6).add 4)) fun m h c=>CallM P0 d "Insert" #[.int .i64 3, (.int .u64 bb), (.agg #[.int .i64 q, (.string n), (.slice r b e), (.string t), (.slice m h c)])] qa R (fun v ga=>∃aa j,v=(.tuple #[.int .u64 aa,.int .i64 j])/\J5 ga)) (J5 qa))))))))
def F59 (d g:Value)(h:Option Nat)(i j k m:Int)(n p:ByteArray)(q:Int)(r:ByteArray)(s:OA)(t u:Nat)(y:ByteArray)(z:OA)(aa ab:Nat)(f:Wd)(R:RT):Prop:=Al f #[.int .i64 i,.int .u64 j,.int .u64 k,.int .i64 m,.string n,.string p,.int .i64 q,.string r,.slice s t u,.string y,.slice z aa ab] 50 fun op w1=>∃J2:Wd->Prop,(∀a,J2 a->F59_j2 d g h op a R)/\(LdI .i64 (w1.cell? op) fun c=>Br (c != (1:Int)) (LdI .u64 (w1.cell? (op.add 1)) fun e=>Raw P0 (Instr.lookup 122 (.map h) (.int .u64 e) false) w1 fun v a=>∃b,v=(.bool b)/\Br b (R (.returned (.tuple #[])) a) (J2 a)) (J2 w1))
theorem ok59 (d a:Value)(b:Option Nat)(c e f g:Int)(i j:ByteArray)(k:Int)(m:ByteArray)(n:OA)(p q:Nat)(r:ByteArray)(t:OA)(u v:Nat){w:Wd}{R:RT} (h:F59 d a b c e f g i j k m n p q r t u v w R):CL 59 #[d,a,.map b,.agg #[.int .i64 c,.int .u64 e,.int .u64 f,.int .i64 g,.string i,.string j,.int .i64 k,.string m,.slice n p q,.string r,.slice t u v]] w R:=
 vk ⟨107,⟨[]⟩,[(5,⟨[],[(23,32)]⟩),(2,⟨[],[(12,21)]⟩)],[(7,⟨[(42,(.s (.int .i64)))],[(11,12),(42,49)]⟩)]⟩ Tryz.func59 h
def F75 (b:Int)(a:Wd)(R:RT):Prop:=Br (b==(1:Int)) (R (.returned (.int .i64 1)) a) (Br (b==(2:Int)) (R (.returned (.int .i64 2)) a) (Br (b==(8:Int)) (R (.returned (.int .i64 3)) a) (Br (b==(3:Int)) (R (.returned (.int .i64 4)) a) (R (.returned (.int .i64 0)) a))))
theorem ok75 (a:Int){w:Wd}{R:RT} (h:F75 a w R):CL 75 #[.int .i64 a] w R:=
 vk ⟨12,⟨[]⟩,[],[]⟩ Tryz.func75 h
def F131 (b:Int)(a:Wd)(R:RT):Prop:=Br (b==(2:Int)) (R (.returned (.bool true)) a) (Br (b==(4:Int)) (R (.returned (.bool true)) a) (Br (b==(5:Int)) (R (.returned (.bool true)) a) (R (.returned (.bool (b==(8:Int)))) a)))
theorem ok131 (a:Int){w:Wd}{R:RT} (h:F131 a w R):CL 131 #[.int .i64 a] w R:=
 vk ⟨17,⟨[]⟩,[],[]⟩ Tryz.func131 h
def F56_j15 (L8:Int->Wd->Prop)(b:Int)(a:Wd)(R:RT):Prop:=InR .i64 (b+(1:Int))/\L8 (b+(1:Int)) a
def F56_j23 (c:OA->Nat->Nat->Int->Wd->Prop)(b:Int)(d:OA)(e f:Nat)(a:Wd)(R:RT):Prop:=InR .i64 (b+(1:Int))/\c d e f (b+(1:Int)) a
def F56_l18 (lN k:Nat)(m:OA->Nat->Nat->Int->Wd->Prop)(n:OA)(p q:Nat)(i:Int)(j:Wd)(R:RT):Prop:=Br (decide (i<(lN:Int))) (∃J23:OA->Nat->Nat->Wd->Prop,(∀out2 outN2 outC2 g,J23 out2 outN2 outC2 g->F56_j23 m i out2 outN2 outC2 g R)/\(Raw P0 (Instr.lookup 188 (.map (some k)) (.int .i64 i) true) j fun v3 g=>∃a b,v3=(.tuple #[.int .u64 a,.bool b])/\Br b (Al g #[.int .u64 a] 42 fun g79 f=>Raw P0 (Builtin.append_ #[23,23] 23 #[.slice n p q,(.slice (some g79) 1 1)]) f fun v4 c=>∃h e d,v4=(.slice h e d)/\J23 h e d c) (J23 n p q g))) (R (.returned (.tuple #[.slice n p q,.int .i64 0,.int .i64 0])) j)
def F56_l8 (l:OA)(lN:Nat)(q:OA)(e:Nat)(ab:Addr)(ac:Nat)(L8:Int->Wd->Prop)(da:Int)(ba:Wd)(R:RT):Prop:=Br (decide (da<(e:Int))) (∃J15:Wd->Prop,(∀z,J15 z->F56_j15 L8 da z R)/\(IdxA q e da 1 fun fa=>LdI .i64 (ba.cell? fa) fun ea=>IdxA l lN ea 11 fun ca=>LdI .i64 (ba.cell? ca) fun t=>LdI .u64 (ba.cell? (ca.add 1)) fun s=>LdI .u64 (ba.cell? (ca.add 2)) fun u=>LdI .i64 (ba.cell? (ca.add 3)) fun j=>LdStr (ba.cell? (ca.add 4)) fun n=>LdStr (ba.cell? (ca.add 5)) fun g=>LdI .i64 (ba.cell? (ca.add 6)) fun v=>LdStr (ba.cell? (ca.add 7)) fun p=>LdSl (ba.cell? (ca.add 8)) fun i f c=>LdStr (ba.cell? (ca.add 9)) fun k=>LdSl (ba.cell? (ca.add 10)) fun d a b=>CL 104 #[(.pointer (some ab)),.agg #[.int .i64 t,.int .u64 s,.int .u64 u,.int .i64 j,.string n,.string g,.int .i64 v,.string p,.slice i f c,.string k,.slice d a b]] ba (post R fun v3 z=>∃r h,v3=(.tuple #[.int .u64 r,.int .i64 h])/\Br (h != (0:Int)) (R (.returned (.tuple #[.slice none 0 0,.int .i64 ea,.int .i64 h])) z) (Br (r != (0:Int)) (Raw P0 (Instr.mapUpdate 188 (.map (some ac)) (.int .i64 ea) (.int .u64 r)) z fun _ y=>J15 y) (J15 z))))) (∃(I:OA->Nat->Nat->Int->Wd->Prop)(m:OA->Nat->Nat->Int->Wd->Nat),I none 0 0 (0:Int) ba/\∀out outN outC aa z,I out outN outC aa z->F56_l18 lN ac (fun out' outN' outC' aa' w2=>I out' outN' outC' aa' w2/\m out' outN' outC' aa' w2<m out outN outC aa z) out outN outC aa z R)
def F56 (d l:OA)(lN lC:Nat)(q:Wd)(R:RT):Prop:=CL 74 #[.slice l lN lC] q (post R fun v w1=>∃f c,v=(.tuple #[.int .i64 f,.int .i64 c])/\Br (c != (0:Int)) (R (.returned (.tuple #[.slice none 0 0,.int .i64 f,.int .i64 c])) w1) (CL 29 #[.slice l lN lC] w1 (post R fun v2 k=>∃g a b e,v2=(.tuple #[.slice g a b,.int .i64 e])/\AlM k fun r36 h=>Al h #[.pointer d,(.map (some r36))] 187 fun g38 i=>AlM i fun r39 n=>∃(I:Int->Wd->Prop)(m:Int->Wd->Nat),I (0:Int) n/\∀p j,I p j->F56_l8 l lN g a g38 r39 (fun p' w2=>I p' w2/\m p' w2<m p j) p j R)))
theorem ok56 (d l:OA)(a b:Nat){w:Wd}{R:RT} (h:F56 d l a b w R):CL 56 #[.pointer d,.slice l a b] w R:=
 vk ⟨83,⟨[]⟩,[(15,⟨[],[(4,7),(14,17),(44,64)]⟩),(23,⟨[(17,(.s .slice))],[(17,21),(69,81)]⟩)],[(8,⟨[(42,(.s (.int .i64)))],[(4,7),(14,17),(42,65)]⟩),(18,⟨[(17,(.s .slice)),(67,(.s (.int .i64)))],[(17,21),(67,82)]⟩)]⟩ Tryz.func56 h
end Go.Proofs.YtnbgiacnbheonaaGreatDoor
