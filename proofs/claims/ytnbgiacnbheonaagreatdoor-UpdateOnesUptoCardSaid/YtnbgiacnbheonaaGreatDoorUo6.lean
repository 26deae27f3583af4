/- UpdateOnes: a list of edits comes to the same when they are made one by one, and when two that stand beside one another in unlike phases change places. -/
import Derived.Test.YtnbgiacnbheonaaGreatDoorProg
import Derived.Test.YtnbgiacnbheonaaGreatDoorUo5
namespace Go.Proofs.YtnbgiacnbheonaaGreatDoor
open Go.RowKit Go.Vc
set_option linter.unusedVariables false
set_option linter.unusedSimpArgs false
set_option maxRecDepth 100000
theorem er_at {l:List Nat} (i j:Nat):(l.eraseIdx i)[j]?=if j<i then l[j]? else l[j+1]?:=List.getElem?_eraseIdx
theorem er_mem {l:List Nat}{i x:Nat} (hx:x∈l.eraseIdx i):x∈l:=(List.eraseIdx_sublist l i).subset hx
theorem er_nd {l:List Nat}{i:Nat} (h:l.Nodup):(l.eraseIdx i).Nodup:=h.sublist (List.eraseIdx_sublist l i)
theorem er_len {l:List Nat}{i:Nat} (h:i<l.length):(l.eraseIdx i).length+1=l.length:=by rw [List.length_eraseIdx,if_pos h];omega
theorem mpT_del {bs nms:List Nat}{i x:Nat} (hn:nms.Nodup) (hx:nms[i]?=some x) (hl:bs.length=nms.length):mpT (bs.eraseIdx i) (nms.eraseIdx i)=upd (mpT bs nms) x none:=by
 have hn':=er_nd (i:=i) hn
 have hni:x∉nms.eraseIdx i:=fun h=>by
  obtain⟨j,hj⟩:=List.mem_iff_getElem?.1 h
  rw [er_at] at hj
  split at hj
  ·have:=nd_get hn hj hx;omega
  ·have:=nd_get hn hj hx;omega
 funext k
 unfold upd
 by_cases hk:k=(x:Int)
 ·rw [if_pos hk,hk];exact mpT_none hni
 ·rw [if_neg hk]
  by_cases hm:0<=k/\k.toNat∈nms
  ·obtain⟨hk0,hkm⟩:=hm
   obtain⟨a,rfl⟩:∃a:Nat,k=a:=⟨k.toNat,om⟩
   rw [tnc] at hkm
   obtain⟨j,hj⟩:=List.mem_iff_getElem?.1 hkm
   have hjl:=(gsi.1 hj).1
   obtain⟨b,hb⟩:∃b,bs[j]?=some b:=⟨_,gge om⟩
   have hji:j≠i:=fun e=>by subst e;rw [hx] at hj;cases hj;exact hk rfl
   rw [mpT_some hn hj hb]
   rcases Nat.lt_or_ge j i with h1 | h1
   ·exact mpT_some hn' (by rw [er_at,if_pos h1];exact hj) (by rw [er_at,if_pos h1];exact hb)
   ·exact mpT_some (i:=j-1) hn' (by rw [er_at,if_neg om,show j-1+1=j by omega];exact hj) (by rw [er_at,if_neg om,show j-1+1=j by omega];exact hb)
  ·unfold mpT
   rw [if_neg hm,if_neg]
   rintro ⟨h0,h1⟩
   exact hm ⟨h0,er_mem h1⟩
theorem TgI.del {nms lbs:List Nat}{gv i:Nat} (h:TgI nms lbs gv) (hi:1<=i) (hl:i<nms.length):TgI (nms.eraseIdx i) (lbs.eraseIdx i) gv:=by
 have hlen:=h.len
 have e1:=er_len hl
 have e2:=er_len (l:=lbs) (i:=i) om
 exact⟨om,by rw [er_at,if_pos om];exact h.h0,by rw [er_at,if_pos om];exact h.l0,er_nd h.nd,fun x hx=>h.le x (er_mem hx),h.up.sublist (List.eraseIdx_sublist _ _),fun x hx=>h.mx x (er_mem hx),by have:=h.few;omega⟩
theorem TgR.del {w w1:Wd}{o:Nat->Nat}{bs nms lbs:List Nat}{mb i b:Nat} (h:TgR w o bs nms lbs mb) (hlen:bs.length=nms.length) (hlen2:lbs.length=nms.length) (hi:1<=i) (hil:i<bs.length) (hb:bs[i-1]?=some b)
  (h1:Blk w1 b #[.int .u64 (nms.getD (i-1) 0:Nat),.int .u64 (lbs.getD (i-1) 0:Nat),pB (pvB bs (i-1)),pB (nxB bs i)] 257)
  (h3:∀c,bs[i+1]?=some c->Blk w1 c #[.int .u64 (nms.getD (i+1) 0:Nat),.int .u64 (lbs.getD (i+1) 0:Nat),pB (some b),pB (nxB bs (i+1))] 257)
  (h4:∀j c,bs[j]?=some c->j≠i-1->j≠i->j≠i+1->Blk w1 c (tgC bs nms lbs j) 257) (hm:Mp .u64 w1 mb (mpT (bs.eraseIdx i) (nms.eraseIdx i))) :
  TgR w1 o (bs.eraseIdx i) (nms.eraseIdx i) (lbs.eraseIdx i) mb:=by
 have gd:∀(l:List Nat) (j:Nat),(l.eraseIdx i).getD j 0=if j<i then l.getD j 0 else l.getD (j+1) 0:=fun l j=>by
  rw [gdd,er_at]
  split
  ·rw [gdd]
  ·rw [gdd]
 refine⟨fun j c hc=>?_,fun c hc=>h.col c (er_mem hc),er_nd h.nd,hm,h.mcol⟩
 rw [er_at] at hc
 unfold tgC pvB nxB
 rw [gd,gd,er_at,er_at]
 by_cases c1:j<i
 ·rw [if_pos c1] at hc
  rw [if_pos c1,if_pos c1]
  have e:(if j=0 then none else if j-1<i then bs[j-1]? else bs[j-1+1]?)=pvB bs j:=by
   unfold pvB
   split
   ·rfl
   ·rw [if_pos om]
  rw [e]
  by_cases c2:j=i-1
  ·subst c2
   rw [hb] at hc;cases hc
   rw [if_neg om,show i-1+1+1=i+1 by omega]
   exact h1
  ·rw [if_pos om]
   exact h4 j c hc c2 om om
 ·rw [if_neg c1] at hc
  rw [if_neg c1,if_neg c1,if_neg (show ¬j=0 by omega),if_neg (show ¬j+1<i by omega)]
  by_cases c2:j=i
  ·subst c2
   rw [if_pos om,hb]
   exact h3 c hc
  ·rw [if_neg (show ¬j-1<i by omega),show j-1+1=j by omega]
   have:=h4 (j+1) c hc om om om
   unfold tgC pvB nxB at this
   rw [if_neg om,show j+1-1=j by omega] at this
   exact this
section
variable {w w1 w2:Wd}{o o1 o2:Nat->Nat}{g:Nat}{f:Fr}{bs nms lbs:List Nat}{mb gv:Nat}{wr:Int}{M:Nat->Prop}{R:RT}
theorem Drop_calls (h:TgD w o g f bs nms lbs mb gv wr) {i x:Nat} (hx:nms[i]?=some x) (hi:1<=i) (hx0:x≠0)
  (hK:∀w',TgD w' o g f (bs.eraseIdx i) (nms.eraseIdx i) (lbs.eraseIdx i) mb gv wr->EvT w o w' o->R (.returned (.int .i64 0)) w') :
  CL 220 #[.pointer (some ⟨g,5,none⟩),.int .u64 (x:Nat)] w R:=by
 refine ok220 (some ⟨g,5,none⟩) x ?_
 unfold F220
 have hxl:=(gsi.1 hx).1
 obtain⟨b,hb⟩:∃b,bs[i]?=some b:=⟨_,gge (by rw [h.len];exact hxl)⟩
 obtain⟨p,hp⟩:∃p,bs[i-1]?=some p:=⟨_,gge (by rw [h.len];omega)⟩
 have hbm:=mog hb
 have hpm:=mog hp
 refine find_some h hx hb ⟨_,_,rfl,fun w'=>w=w',?_,?_⟩
 rotate_left
 ·exact brn (fun e=>absurd rfl e) fun _=>bre (fun e=>absurd om hx0) fun _=>rfl
 rintro _ rfl
 unfold F220_j4
 obtain⟨x1,l1,t1,t2,tB⟩:=h.tag hb
 obtain⟨xp,lp,tp1,tp2,tBp⟩:=h.tag hp
 have hpv:pvB bs i=some p:=by unfold pvB;rw [if_neg om];exact hp
 have hnp:nxB bs (i-1)=some b:=by unfold nxB;rw [show i-1+1=i by omega];exact hb
 rw [hpv] at tB
 have hdr:Below w.heap.size w w.drew:=(Below.refl _ _).drew
 refine⟨fun w'=>Below w.heap.size w w',hdr,?_⟩
 simp only [nds,oms,Nat.reduceAdd]
 refine⟨_,fun w' hw=>by rw [(tB.keep hw).cell];rfl,?_⟩
 refine⟨(nxB bs i).map fun b=>(⟨b,0,none⟩:Addr),fun w' hw=>by rw [(tB.keep hw).cell];rfl,?_⟩
 simp only [nds,oms,Nat.reduceAdd]
 obtain⟨hbg,hbmb⟩:=h.gne hbm
 obtain⟨hpg,hpmb⟩:=h.gne hpm
 have hbp:b≠p:=fun e=>by subst e;have:=nd_get h.r.nd hb hp;omega
 refine st_blk (tBp.keep hdr) sm fun w1 tBp1 f1=>?_
 simp only [sls] at tBp1
 have F1:Fm (·=p) w w1:=(Fm.below hdr).trans f1
 have tB1:=F1.blk tB hbp
 have hne1:∀c,bs[i+1]?=some c->c≠b/\c≠p/\c≠g/\c≠mb:=fun c hc=>by
  have hcm:=mog hc
  refine⟨fun e=>?_,fun e=>?_,(h.gne hcm).1,(h.gne hcm).2⟩
  ·subst e;have:=nd_get h.r.nd hc hb;omega
  ·subst e;have:=nd_get h.r.nd hc hp;omega
 refine⟨fun w'=>Fm (fun c=>bs[i+1]?=some c) w1 w'/\∀c,bs[i+1]?=some c->Blk w' c #[.int .u64 (nms.getD (i+1) 0:Nat),.int .u64 (lbs.getD (i+1) 0:Nat),pB (some p),pB (nxB bs (i+1))] 257,?_,?_⟩
 rotate_left
 ·simp only [pB,NonNil_some,Nat.reduceAdd,tB1.cell,lds]
  cases hn:bs[i+1]? with
  | none=>
   have e:nxB bs i=none:=hn
   rw [e]
   simp only [Option.map_none,Option.isNone_none,Bool.not_true,Br_f]
   exact⟨.refl _ _,fun c hc=>by cases hc⟩
  | some c=>
   have e:nxB bs i=some c:=hn
   rw [e] at tB1 |-
   simp only [oms,oin,Bool.not_false,Br_t]
   have hd1:Below w1.heap.size w1 w1.drew:=(Below.refl _ _).drew
   refine⟨fun w'=>Below w1.heap.size w1 w',hd1,?_⟩
   refine⟨_,fun w' hw=>by rw [(tB1.keep hw).cell];rfl,?_⟩
   refine⟨_,fun w' hw=>by rw [(tB1.keep hw).cell];rfl,?_⟩
   simp only [nds,oms,Nat.reduceAdd]
   have hc1:=F1.blk (h.r.blk (i+1) c hn) (hne1 c hn).2.1
   unfold tgC at hc1
   refine st_blk (hc1.keep hd1) sm fun w4 b4 f4=>?_
   simp only [sls] at b4
   exact⟨(Fm.below hd1).trans (f4.mono fun y _ e=>by rw [e]),fun c' hc'=>by cases hc';exact b4⟩
 rintro w2 ⟨f2,hc2⟩
 unfold F220_j7
 have mcol:=h.r.mcol
 have bD2:=f2.blk (F1.blk h.blk (fun e=>hpg e.symm)) (fun e=>(hne1 g e).2.2.1 rfl)
 unfold dkC at bD2
 simp only [NonNil_some,Nat.reduceAdd,bD2.cell,lds]
 have mp2:Mp .u64 w2 mb (mpT bs nms):=(h.r.mp.fm F1 (fun e=>hpmb e.symm)).fm f2 (fun e=>(hne1 mb e).2.2.2 rfl)
 refine mp2.del mapType keyType (x:Nat) fun w3 mp3 f3=>?_
 rw [<-mpT_del h.nn hx h.len] at mp3
 have F03:Fm (fun c=>c=p\/c=mb\/bs[i+1]?=some c) w w3:=((F1.mono fun c _ e=>.inl e).trans (f2.mono fun c _ e=>.inr (.inr e))).trans (f3.mono fun c _ e=>.inr (.inl e))
 have hgdp1:nms.getD (i-1) 0=xp:=by rw [gdd,tp1];rfl
 have hgdp2:lbs.getD (i-1) 0=lp:=by rw [gdd,tp2];rfl
 have hil:i<bs.length:=by rw [h.len];exact hxl
 have hR:=h.r.del (w1:=w3) h.len h.len2 hi hil hp (by rw [hgdp1,hgdp2];exact f3.blk (f2.blk tBp1 (fun e=>(hne1 p e).2.1 rfl)) hpmb)
  (fun c hc=>f3.blk (hc2 c hc) (hne1 c hc).2.2.2)
  (fun j c hc hj1 hj2 hj3=>F03.blk (h.r.blk j c hc) (fun e=>by
   have hcm:=mog hc
   rcases e with e | e | e
   ·subst e;exact hj1 (nd_get h.r.nd hc hp)
   ·exact (h.gne hcm).2 e
   ·exact hj3 (nd_get h.r.nd hc e))) mp3
 have e1:=er_len hxl
 have e2:=er_len (l:=bs) hil
 have e3:=er_len (l:=lbs) (i:=i) (by rw [h.len2];exact hxl)
 have hl1:=h.len
 have hl2:=h.len2
 refine hK w3 ⟨?_,h.gcol,hR,om,om,om,er_nd h.nn,fun c hc=>nll (h.lt c hc) F03.size⟩ ⟨F03.mono fun c hc e=>?_,fun _ _=>rfl,fun _ _ h=>h,fun _ h=>.inl h⟩
 ·have:=f3.blk bD2 (fun e=>by have e:g=mb:=e;rw [<-e,h.gcol] at mcol;omega)
  unfold dkC
  rw [er_at,if_pos om]
  exact this
 ·rcases e with e | e | e
  ·rw [e];exact .inr (.inl (h.r.col p hpm))
  ·rw [e];exact .inr (.inr mcol)
  ·exact .inr (.inl (h.r.col c (mog e)))
end
def mpE (E:Nat->Option (Nat × Nat)) (k:Int):Option Value:=if 0<=k then (E k.toNat).map (fun p=>.agg #[.int .u64 (p.1:Nat),.int .u64 (p.2:Nat)]) else none
def tlL (mb hd:Option Nat) (gv:Nat) (wr:Int) (em:Option Nat):List Value:=[.map mb,pB hd,.int .u64 (gv:Nat),.int .u64 wr,.map em]
def EndR (w:Wd) (o:Nat->Nat) (em:Option Nat) (E:Nat->Option (Nat × Nat)):Prop:=match em with
 | none=>∀y,E y=none
 | some eb=>o eb=6/\Mp .u64 w eb (mpE E)
structure LM (w:Wd) (o:Nat->Nat) (g:Nat) (ty:TypeId) (S:PS) (bs nms lbs:List Nat) (mb gv:Nat) (wr:Int) (em:Option Nat) (E:Nat->Option (Nat × Nat)):Prop where
 pm:PM w o ⟨g,ty,tlL (some mb) bs[0]? gv wr em⟩ S
 r:TgR w o bs nms lbs mb
 i:TgI nms lbs gv
 len:bs.length=nms.length
 e:EndR w o em E
structure LZ (w:Wd) (o:Nat->Nat) (g:Nat) (ty:TypeId) (S:PS):Prop where
 pm:∃em,PM w o ⟨g,ty,tlL none none 0 0 em⟩ S/\EndR w o em fun _=>none
structure EvL (w:Wd) (o:Nat->Nat) (w1:Wd) (o1:Nat->Nat):Prop where
 fm:Fm (fun b=>o b=1\/o b=4\/o b=5\/o b=6) w w1
 same:∀b,o b≠0->o1 b=o b
 old:∀b,b<w.heap.size->o b=0->o1 b=0
 new:∀b,o1 b≠0->o b≠0\/o1 b=4\/o1 b=5\/o1 b=6
section
variable {w w1 w2:Wd}{o o1 o2:Nat->Nat}{g:Nat}{ty:TypeId}{S:PS}{bs nms lbs:List Nat}{mb gv:Nat}{wr:Int}{em:Option Nat}{E:Nat->Option (Nat × Nat)}{M:Nat->Prop}{R:RT}{θ:Th}
theorem EvL.refl:EvL w o w o:=⟨.refl _ _,fun _ _=>rfl,fun _ _ h=>h,fun _ h=>.inl h⟩
theorem EvL.trans (h:EvL w o w1 o1) (k:EvL w1 o1 w2 o2):EvL w o w2 o2:=by
 refine⟨⟨k.fm.os.trans h.fm.os,k.fm.tape.trans h.fm.tape,k.fm.output.trans h.fm.output,nlt h.fm.size k.fm.size,fun b hb hm=>?_⟩,fun b hb=>?_,fun b hb h1=>k.old b (nll hb h.fm.size) (h.old b hb h1),fun b hb=>?_⟩
 ·rw [k.fm.block b (nll hb h.fm.size) fun e=>?_]
  ·exact h.fm.block b hb hm
  ·by_cases h1:o b=0
   ·have:=h.old b hb h1;omega
   ·rw [h.same b h1] at e;exact hm e
 ·rw [k.same b (by rw [h.same b hb];exact hb)];exact h.same b hb
 ·rcases k.new b hb with e | e
  ·rcases h.new b e with e2 | e2
   ·exact .inl e2
   ·rw [k.same b e];exact .inr e2
  ·exact .inr e
theorem EvT.l (h:EvT w o w1 o1):EvL w o w1 o1:=⟨h.fm.mono fun b _ e=>by rcases e with e | e | e <;> simp [e],h.same,h.old,fun b hb=>by rcases h.new b hb with e | e | e <;> simp [e]⟩
theorem EvL.below (hb:Below w.heap.size w w1):EvL w o w1 o:=⟨.below hb,fun _ _=>rfl,fun _ _ h=>h,fun _ h=>.inl h⟩
theorem PM.tail (h:PM w o θ S) {tl:List Value} (hf:Fm M w w1) (hm:∀b,pc (o b)->o b≠1->¬M b) (hB:∀nv rv,Blk w θ.g (docC nv rv S.lv S.wn S.lo θ.tl) θ.t->Blk w1 θ.g (docC nv rv S.lv S.wn S.lo tl) θ.t) (ho:∀b,o b≠0->o1 b=o b) (hl:∀b,o1 b≠0->b<w1.heap.size) :
  PM w1 o1 { θ with tl:=tl } S:=by
 have hg:=h.col
 have hn:∀b c,o b=c->c≠1->pc c->¬M b:=fun b c hb hc hp hM=>by
  exact hm b (by rw [hb];exact hp) om hM
 have p2:pc 2:=.inr (.inl rfl)
 have p3:pc 3:=.inr (.inr (.inl rfl))
 obtain⟨nv,rv,hd⟩:=h.doc
 refine⟨by show o1 θ.g=1;rw [ho _ (by rw [hg];decide)];exact hg,hl,h.len,h.few,fun i b hb=>?_,⟨nv,rv,⟨hB nv rv hd.blk,own_fm hd.n1 hf fun x hx=>hn x 2 (hd.n2 x hx) dc p2,fun x hx=>?_,own_fm hd.r1 hf fun x hx=>hn x 3 (hd.r2 x hx) dc p3,fun x hx=>?_⟩⟩,fun i b s hb hs=>?_,h.rng,h.rts,h.cnt⟩
 ·have:=h.nc i b hb
  rw [ho b (by rw [this];omega)];exact this
 ·have:=hd.n2 x hx
  rw [ho x (by rw [this];decide)];exact this
 ·have:=hd.r2 x hx
  rw [ho x (by rw [this];decide)];exact this
 ·obtain⟨a,kv,hnd⟩:=h.nodes i b s hb hs
  obtain⟨q1,q2,q3⟩:=pc_nd i
  refine⟨a,kv,hnd.keep (h.nc i b hb) hf (fun x hx=>?_) (fun x hx=>?_)⟩
  ·rcases hx with e | e | e
   ·exact hn x _ e om q1
   ·exact hn x _ e om q2
   ·exact hn x _ e om q3
  ·exact ho x (by rcases hx with e | e <;> rw [e] <;> omega)
theorem LM.tg (h:LM w o g ty S bs nms lbs mb gv wr em E):∃f,TgD w o g f bs nms lbs mb gv wr/\f.m=.map em/\f.t=ty/\∃nv rv,f.a=slV nv/\f.b=slV rv/\f.c=.int .i64 (S.lv:Nat)/\f.d=.int .i64 (S.wn:Nat)/\f.e=.int .i64 (S.lo:Nat)/\Blk w g (docC nv rv S.lv S.wn S.lo (tlL (some mb) bs[0]? gv wr em)) ty:=by
 obtain⟨nv,rv,hd⟩:=h.pm.doc
 have hpos:=(gsi.1 h.i.h0).1
 exact⟨⟨slV nv,slV rv,.int .i64 (S.lv:Nat),.int .i64 (S.wn:Nat),.int .i64 (S.lo:Nat),.map em,ty⟩,⟨hd.blk,h.pm.col,h.r,h.len,h.i.len,hpos,h.i.nd,h.pm.lt⟩,rfl,rfl,nv,rv,rfl,rfl,rfl,rfl,rfl,hd.blk⟩
theorem blk_inj {b:Nat}{c c':Array Value}{t t':TypeId} (h:Blk w b c t) (k:Blk w b c' t'):c=c'/\t=t':=by
 unfold Blk at h k
 rw [h] at k
 simp only [Option.some.injEq,Obj.cells.injEq] at k
 exact⟨k.1,k.2.1⟩
theorem EndR.fm (h:EndR w o em E) (hf:Fm M w w1) (hm:∀b,o b=6->¬M b) (ho:∀b,o b≠0->o1 b=o b):EndR w1 o1 em E:=by
 cases em with
 | none=>exact h
 | some eb=>
  obtain⟨h1,h2⟩:=h
  exact⟨by rw [ho eb (by rw [h1];decide)];exact h1,h2.fm hf (hm eb h1)⟩
theorem LM.setTg {f:Fr}{bs' nms' lbs':List Nat}{mb' gv':Nat}{wr':Int}{hd0 mb0:Option Nat}{gv0:Nat}{wr0:Int} (hp:PM w o ⟨g,ty,tlL mb0 hd0 gv0 wr0 em⟩ S) (he:EndR w o em E)
  (hf:∃nv rv,f.a=slV nv/\f.b=slV rv/\f.c=.int .i64 (S.lv:Nat)/\f.d=.int .i64 (S.wn:Nat)/\f.e=.int .i64 (S.lo:Nat)/\Blk w g (docC nv rv S.lv S.wn S.lo (tlL mb0 hd0 gv0 wr0 em)) ty) (hm:f.m=.map em) (ht:f.t=ty)
  (h1:TgD w1 o1 g f bs' nms' lbs' mb' gv' wr') (hI:TgI nms' lbs' gv') (ev:EvT w o w1 o1):LM w1 o1 g ty S bs' nms' lbs' mb' gv' wr' em E:=by
 have hgc:o g=1:=hp.col
 refine⟨hp.tail (tl:=tlL (some mb') bs'[0]? gv' wr' em) ev.fm (fun b hb h1 hM=>by unfold pc at hb;omega) (fun nv rv hB=>?_) ev.same h1.lt,h1.r,hI,h1.len,he.fm ev.fm (fun b hb=>by omega) ev.same⟩
 ·obtain⟨nv',rv',a1,a2,a3,a4,a5,a6⟩:=hf
  have hB:Blk w g (docC nv rv S.lv S.wn S.lo (tlL mb0 hd0 gv0 wr0 em)) ty:=hB
  obtain⟨q1,-⟩:=blk_inj hB a6
  have hb1:=h1.blk
  unfold dkC at hb1
  rw [a1,a2,a3,a4,a5,hm,ht] at hb1
  have e1:docC nv rv S.lv S.wn S.lo (tlL (some mb') bs'[0]? gv' wr' em)=docC nv' rv' S.lv S.wn S.lo (tlL (some mb') bs'[0]? gv' wr' em):=by
   unfold docC at q1 |-
   simp only [Array.mk.injEq,List.cons.injEq,and_true,true_and,List.toArray_inj] at q1 |-
   exact⟨q1.1,q1.2⟩
  show Blk w1 g (docC nv rv S.lv S.wn S.lo _) ty
  rw [e1];exact hb1
end
def LB (w:Wd) (o:Nat->Nat) (g:Nat) (ty:TypeId) (S:PS) (nms:List Nat) (gv:Nat) (E:Nat->Option (Nat × Nat)):Prop:=∃bs lbs mb wr em,LM w o g ty S bs nms lbs mb gv wr em E
def LX (w:Wd) (o:Nat->Nat) (g:Nat) (ty:TypeId) (S:PS) (nms:List Nat) (gv:Nat) (E:Nat->Option (Nat × Nat)):Prop:=
 (∃bs lbs mb wr em,LM w o g ty S bs nms lbs mb gv wr em E)\/(LZ w o g ty S/\nms=[0]/\gv=0/\∀y,E y=none)
section
variable {w w1 w2:Wd}{o o1 o2:Nat->Nat}{g:Nat}{ty:TypeId}{S:PS}{bs nms lbs:List Nat}{mb gv:Nat}{wr:Int}{em:Option Nat}{E:Nat->Option (Nat × Nat)}{M:Nat->Prop}{R:RT}{θ:Th}
theorem LX.pm (h:LX w o g ty S nms gv E):∃tl,tl.length=5/\PM w o ⟨g,ty,tl⟩ S:=by
 rcases h with ⟨bs,lbs,mb,wr,em,h⟩ | ⟨h,_⟩
 ·exact⟨_,rfl,h.pm⟩
 ·obtain⟨em,hp,_⟩:=h.pm
  exact⟨_,rfl,hp⟩
theorem LX.lt (h:LX w o g ty S nms gv E):∀b,o b≠0->b<w.heap.size:=by obtain⟨tl,_,h⟩:=h.pm;exact h.lt
theorem LX.I (h:LX w o g ty S nms gv E):∃lbs,TgI nms lbs gv:=by
 rcases h with ⟨bs,lbs,mb,wr,em,h⟩ | ⟨h,rfl,rfl,_⟩
 ·exact⟨lbs,h.i⟩
 ·exact⟨_,one_I⟩
theorem LM.below (h:LM w o g ty S bs nms lbs mb gv wr em E) (hb:Below w.heap.size w w1):LM w1 o g ty S bs nms lbs mb gv wr em E:=
 ⟨h.pm.below hb,h.r.fm (M:=fun _=>False) (.below hb) (fun _ _ h=>h),h.i,h.len,h.e.fm (M:=fun _=>False) (.below hb) (fun _ _ h=>h) fun _ _=>rfl⟩
theorem LX.below (h:LX w o g ty S nms gv E) (hb:Below w.heap.size w w1):LX w1 o g ty S nms gv E:=by
 rcases h with ⟨bs,lbs,mb,wr,em,h⟩ | ⟨h,h2⟩
 ·exact .inl ⟨bs,lbs,mb,wr,em,h.below hb⟩
 ·obtain⟨em,hp,he⟩:=h.pm
  exact .inr ⟨⟨em,hp.below hb,he.fm (M:=fun _=>False) (.below hb) (fun _ _ h=>h) fun _ _=>rfl⟩,h2⟩
theorem LX.fm (h:LX w o g ty S nms gv E) (hf:Fm M w w1) (hm:∀b,b<w.heap.size->M b->o b=0):LX w1 o g ty S nms gv E:=by
 have hlt:=h.lt
 have hM:∀b,o b≠0->¬M b:=fun b hb hM=>hb (hm b (hlt b hb) hM)
 have hl:∀b,o b≠0->b<w1.heap.size:=fun b hb=>nll (hlt b hb) hf.size
 have hp:∀b,pc (o b)->¬M b:=fun b hb=>hM b fun e=>by rw [e] at hb;unfold pc at hb;omega
 rcases h with ⟨bs,lbs,mb,wr,em,h⟩ | ⟨h,h2⟩
 ·exact .inl ⟨bs,lbs,mb,wr,em,h.pm.keep hf hp (fun _ _=>rfl) hl,h.r.fm hf (fun b hb=>hM b om),h.i,h.len,h.e.fm hf (fun b hb=>hM b om) fun _ _=>rfl⟩
 ·obtain⟨em,hq,he⟩:=h.pm
  exact .inr ⟨⟨em,hq.keep hf hp (fun _ _=>rfl) hl,he.fm hf (fun b hb=>hM b om) fun _ _=>rfl⟩,h2⟩
theorem After_x (h:LX w o g ty S nms gv E) (hf:nms.length<=8192) (hgv:gv<9223372036854775808) {i x:Nat} (hx:nms[i]?=some x)
  (hK:∀w' o',LB w' o' g ty S (insAt nms (i+1) (gv+1)) (gv+1) E->EvL w o w' o'->R (.returned (.tuple #[.int .u64 (gv+1:Nat),.int .i64 0])) w') :
  CL 119 #[.pointer (some ⟨g,5,none⟩),.int .u64 (x:Nat)] w R:=by
 rcases h with ⟨bs,lbs,mb,wr,em,h⟩ | ⟨h,rfl,rfl,h2⟩
 ·obtain⟨f,t1,t2,t3,t4⟩:=h.tg
  refine After_calls t1 h.i hf hgv hx fun w' o' bs' lbs' mb' wr' q1 q2 ev=>hK w' o' ⟨bs',lbs',mb',wr',em,?_⟩ ev.l
  exact LM.setTg h.pm h.e t4 t2 t3 q1 q2 ev
 ·have hi0:i=0:=by have:=(gsi.1 hx).1;simp at this;exact this
  subst hi0
  have hx0:x=0:=by simpa using hx.symm
  subst hx0
  obtain⟨em,hp,he⟩:=h.pm
  obtain rfl:E=fun _=>none:=funext h2
  obtain⟨nv,rv,hd⟩:=hp.doc
  refine After_zero (f:=⟨slV nv,slV rv,.int .i64 (S.lv:Nat),.int .i64 (S.wn:Nat),.int .i64 (S.lo:Nat),.map em,ty⟩) ⟨hd.blk,hp.col,hp.lt⟩ fun w' o' bs' lbs' mb' wr' q1 q2 ev=>hK w' o' ⟨bs',lbs',mb',wr',em,?_⟩ ev.l
  exact LM.setTg (mb0:=none) (hd0:=none) (gv0:=0) (wr0:=0) hp he ⟨nv,rv,rfl,rfl,rfl,rfl,rfl,hd.blk⟩ rfl rfl q1 q2 ev
theorem LX.emc (h:LX w o g ty S nms gv E):∃em,w.cell? ⟨g,9,none⟩=some (.map em)/\EndR w o em E:=by
 rcases h with ⟨bs,lbs,mb,wr,em,h⟩ | ⟨h,h2,h3,h4⟩
 ·obtain⟨nv,rv,hd⟩:=h.pm.doc
  exact⟨em,by rw [hd.blk.cell];rfl,h.e⟩
 ·obtain⟨em,hp,he⟩:=h.pm
  obtain rfl:E=fun _=>none:=funext h4
  obtain⟨nv,rv,hd⟩:=hp.doc
  exact⟨em,by rw [hd.blk.cell];rfl,he⟩
theorem mapTypeE:Tryz.prog.underlying 111=some (.map 42 213):=by kernel_rfl
theorem keyTypeE:Tryz.prog.underlying 42=some (.int .u64):=by kernel_rfl
theorem zeroEnd (w:Wd):(zeroValue 213).run P0 w=.ok (.agg #[.int .u64 0,.int .u64 0]) w:=by kernel_rfl
def eN (E:Nat->Option (Nat × Nat)) (y:Nat):Nat × Nat:=(E y).getD (0,0)
theorem look_nil {P:Program}{t kt et:TypeId} (ht:P.underlying t=some (.map kt et)) (hk:P.underlying kt=some (.int .u64)) {z:Value} (hz:(zeroValue et).run P w=.ok z w) (k:Int) {K:Value->Wd->Prop} (hK:K z w):Raw P (Instr.lookup t (.map none) (.int .u64 k) false) w K:=by
 have hc:(Instr.checkKey true 10000 kt (.int .u64 k)).run P w=.ok () w:=MapKept.run_checkKey (k:=.int .u64 k) hk (by simp [MapKept.IsKey]) _ 9999
 exact⟨_,w,by simp [Instr.lookup,run_underlying ht,hc,MapKept.run_findKey hk (show Instr.findNow (.int .u64) (.int .u64 k) [] 0=some none from rfl),hz,Result.andThen],hK⟩
theorem lookE {em:Option Nat} (h:EndR w o em E) (y:Nat) {K:Value->Wd->Prop} (hK:K (.agg #[.int .u64 ((eN E y).1:Nat),.int .u64 ((eN E y).2:Nat)]) w):Raw P0 (Instr.lookup 111 (.map em) (.int .u64 (y:Nat)) false) w K:=by
 cases em with
 | none=>
  have:eN E y=(0,0):=by unfold eN;rw [h y];rfl
  rw [this] at hK
  exact look_nil mapTypeE keyTypeE (zeroEnd w) y hK
 | some eb=>
  obtain⟨h1,h2⟩:=h
  refine h2.look mapTypeE keyTypeE (zeroEnd w) y false ?_
  have:(mpE E (y:Nat)).getD (.agg #[.int .u64 0,.int .u64 0])=.agg #[.int .u64 ((eN E y).1:Nat),.int .u64 ((eN E y).2:Nat)]:=by
   unfold mpE eN
   rw [if_pos om,tnc]
   cases E y with
   | none=>rfl
   | some p=>rfl
  simp only [this]
  exact hK
def updE (E:Nat->Option (Nat × Nat)) (y:Nat) (p:Option (Nat × Nat)):Nat->Option (Nat × Nat):=fun z=>if z=y then p else E z
theorem mpE_upd {E:Nat->Option (Nat × Nat)}{y:Nat}{p:Option (Nat × Nat)}:mpE (updE E y p)=upd (mpE E) (y:Nat) (p.map fun p=>.agg #[.int .u64 (p.1:Nat),.int .u64 (p.2:Nat)]):=by
 funext k
 unfold mpE upd updE
 by_cases h0:0<=k
 ·rw [if_pos h0]
  by_cases hk:k=(y:Int)
  ·rw [if_pos hk,if_pos om]
  ·rw [if_neg hk,if_neg om]
   dsimp only
   rw [if_pos h0]
 ·rw [if_neg h0,if_neg om]
  dsimp only
  rw [if_neg h0]
theorem LB.x (h:LB w o g ty S nms gv E):LX w o g ty S nms gv E:=.inl h
theorem LB.fm (h:LB w o g ty S nms gv E) (hf:Fm M w w1) (hm:∀b,b<w.heap.size->M b->o b=0):LB w1 o g ty S nms gv E:=by
 have hlt:=h.x.lt
 have hM:∀b,o b≠0->¬M b:=fun b hb hM=>hb (hm b (hlt b hb) hM)
 have hl:∀b,o b≠0->b<w1.heap.size:=fun b hb=>nll (hlt b hb) hf.size
 have hp:∀b,pc (o b)->¬M b:=fun b hb=>hM b fun e=>by rw [e] at hb;unfold pc at hb;omega
 obtain⟨bs,lbs,mb,wr,em,h⟩:=h
 exact⟨bs,lbs,mb,wr,em,h.pm.keep hf hp (fun _ _=>rfl) hl,h.r.fm hf (fun b hb=>hM b om),h.i,h.len,h.e.fm hf (fun b hb=>hM b om) fun _ _=>rfl⟩
theorem LM.made (h:LM w o g ty S bs nms lbs mb gv wr none E) {K:Wd->Prop} (hK:∀w' o' eb,LM w' o' g ty S bs nms lbs mb gv wr (some eb) E->EvL w o w' o'->K w'):AlM w fun r w1=>St w1 ⟨g,9,none⟩ (.map (some r)) K:=by
 obtain⟨nv,rv,hd⟩:=h.pm.doc
 have hg:=hd.blk.lt
 unfold AlM
 have hb1:Below w.heap.size w (w.alloc (.map #[] 0)):=(Below.refl _ _).alloc (nlr _) _
 have mp1:Mp .u64 (w.alloc (.map #[] 0)) w.heap.size fun _=>none:=Mp.made w .u64
 generalize (w.alloc (.map #[] 0))=w1 at *
 have hB:Blk w g (docC nv rv S.lv S.wn S.lo (tlL (some mb) bs[0]? gv wr none)) ty:=hd.blk
 refine st_blk (hB.keep hb1) (by simp [docC,tlL]) fun w2 b2 f2=>?_
 have hn:o w.heap.size=0:=byc fun e=>by have:=h.pm.lt _ e;omega
 have hcol:=h.pm.col
 have hs1:=hb1.size
 have mp2:=mp1.fm f2 (fun e=>by have e:w.heap.size=g:=e;have hg:g<w.heap.size:=hg;omega)
 have F2:Fm (·=g) w w2:=(Fm.below hb1).trans f2
 have hss:∀b,o b≠0->(if b=w.heap.size then 6 else o b)=o b:=fun b hb=>by rw [if_neg (fun e=>hb (by rw [e];exact hn))]
 have hl:∀b,(if b=w.heap.size then 6 else o b)≠0->b<w2.heap.size:=fun b hb=>by
  by_cases e:b=w.heap.size
  ·rw [e];exact mp2.lt
  ·rw [if_neg e] at hb
   exact nll (h.pm.lt b hb) F2.size
 have hp:=h.pm.tail (o1:=fun b=>if b=w.heap.size then 6 else o b) (tl:=tlL (some mb) bs[0]? gv wr (some w.heap.size)) F2 (fun b hb h1 e=>h1 (by have e:b=g:=e;rw [e];exact hcol)) (fun nv' rv' hB'=>by
  obtain⟨q1,-⟩:=blk_inj hB' hB
  have e1:docC nv' rv' S.lv S.wn S.lo (tlL (some mb) bs[0]? gv wr (some w.heap.size))=docC nv rv S.lv S.wn S.lo (tlL (some mb) bs[0]? gv wr (some w.heap.size)):=by
   unfold docC at q1 |-
   simp only [Array.mk.injEq,List.cons.injEq,and_true,true_and,List.toArray_inj] at q1 |-
   exact⟨q1.1,q1.2⟩
  rw [e1];exact b2) hss hl
 refine hK w2 (fun b=>if b=w.heap.size then 6 else o b) w.heap.size ⟨hp,?_,h.i,h.len,?_,?_⟩ ⟨F2.mono fun b _ e=>by have e:b=g:=e;rw [e];exact .inl hcol,hss,fun b hb h0=>by show (if b=w.heap.size then 6 else o b)=0;rw [if_neg om];exact h0,fun b hb=>?_⟩
 ·have hr:=h.r.fm F2 (fun b hb e=>by have e:b=g:=e;rw [e,hcol] at hb;omega)
  exact⟨hr.blk,fun b hb=>by show (if b=w.heap.size then 6 else o b)=4;rw [hss b (by rw [hr.col b hb];decide)];exact hr.col b hb,hr.nd,hr.mp,by show (if mb=w.heap.size then 6 else o mb)=5;rw [hss mb (by rw [hr.mcol];decide)];exact hr.mcol⟩
 ·show (if w.heap.size=w.heap.size then 6 else _)=6
  rw [if_pos rfl]
 ·have e:mpE E=fun _=>none:=by
   funext k
   unfold mpE
   rw [h.e k.toNat]
   split <;> rfl
  rw [e];exact mp2
 ·by_cases e:b=w.heap.size
  ·right;right;right;show (if b=w.heap.size then 6 else o b)=6;rw [if_pos e]
  ·left
   have hb:(if b=w.heap.size then 6 else o b)≠0:=hb
   rw [if_neg e] at hb;exact hb
theorem LM.setE {eb:Nat} (h:LM w o g ty S bs nms lbs mb gv wr (some eb) E) (hf:Fm (·=eb) w w1) {E':Nat->Option (Nat × Nat)} (hm:Mp .u64 w1 eb (mpE E')):LM w1 o g ty S bs nms lbs mb gv wr (some eb) E'/\EvL w o w1 o:=by
 obtain⟨e1,e2⟩:=h.e
 have hl:∀b,o b≠0->b<w1.heap.size:=fun b hb=>nll (h.pm.lt b hb) hf.size
 refine⟨⟨h.pm.keep hf (fun b hb e=>?_) (fun _ _=>rfl) hl,h.r.fm hf (fun b hb e=>?_),h.i,h.len,e1,hm⟩,⟨hf.mono fun b _ e=>?_,fun _ _=>rfl,fun _ _ h=>h,fun _ h=>.inl h⟩⟩
 ·have e:b=eb:=e
  rw [e,e1] at hb;unfold pc at hb;omega
 ·have e:b=eb:=e
  rw [e,e1] at hb;omega
 ·have e:b=eb:=e
  rw [e];exact .inr (.inr (.inr e1))
end
def wrd (A:Nat->Option Sl) (E:Nat->Option (Nat × Nat)):Nat->Nat->List Nat
 | 0,_=>[]
 | r+1,n=>match A n with | some s=>(eN E n).1 :: s.kids.flatMap (wrd A E r)++[(eN E n).2] | none=>[]
theorem wrd_some {A:Nat->Option Sl}{E:Nat->Option (Nat × Nat)}{r n:Nat}{s:Sl} (h:A n=some s):wrd A E (r+1) n=(eN E n).1 :: s.kids.flatMap (wrd A E r)++[(eN E n).2]:=by rw [wrd,h]
theorem flat_congr {α:Type}{f h:Nat->List α}:∀{l:List Nat},(∀y∈l,f y=h y)->l.flatMap f=l.flatMap h
 | [],_=>rfl
 | y :: l,k=>by rw [fmc,fmc,k y sm,flat_congr fun z hz=>k z (by simp [hz])]
theorem wrd_congr {A:Nat->Option Sl}{E E':Nat->Option (Nat × Nat)}:∀(r n:Nat),(∀y∈allA A r n,E y=E' y)->wrd A E r n=wrd A E' r n
 | 0,n,_=>rfl
 | r+1,n,h=>by
  cases hs:A n with
  | none=>unfold wrd;rw [hs]
  | some s=>
   rw [allA_some hs] at h
   rw [wrd_some hs,wrd_some hs]
   have e1:eN E n=eN E' n:=by unfold eN;rw [h n sm]
   rw [e1,flat_congr fun y hy=>wrd_congr r y fun z hz=>h z (mcm _ (mfm.2 ⟨y,hy,hz⟩))]
theorem flat_len2 {f h:Nat->List Nat}:∀{l:List Nat},(∀y∈l,(f y).length=2*(h y).length)->(l.flatMap f).length=2*(l.flatMap h).length
 | [],_=>rfl
 | y :: l,k=>by
  rw [fmc,fmc,lap,lap,k y sm,flat_len2 fun z hz=>k z (by simp [hz])];omega
theorem wrd_len {A:Nat->Option Sl}{E:Nat->Option (Nat × Nat)}{roots loose:List Nat} (hA:WfA A roots loose):∀(r n c:Nat) {s:Sl},A n=some s->Ch A n c->65<=c+r->(wrd A E r n).length=2*(allA A r n).length:=by
 intro r
 induction r with
 | zero=>
  intro n c s hs hc hr
  obtain⟨c',h1,h2⟩:=hA.chain n s hs
  have:=hc.fn h2;omega
 | succ r ih=>
  intro n c s hs hc hr
  rw [wrd_some hs,allA_some hs,lap,lcn,lcn,flat_len2 (h:=allA A r) fun y hy=>by
   obtain⟨t,t1,t2⟩:=((hA.kid n s hs).2 y hy).2
   exact ih y (c+1) t1 (.succ (hA.ne0 t1) t1 (by rw [t2];exact hc)) om]
  simp;omega
section
variable {w w1 w2:Wd}{o o1 o2:Nat->Nat}{g:Nat}{ty:TypeId}{S:PS}{bs nms lbs:List Nat}{mb gv:Nat}{wr:Int}{em:Option Nat}{E:Nat->Option (Nat × Nat)}{M:Nat->Prop}{R:RT}{θ:Th}{loose:List Nat}
theorem insAt_mid {a b:List Nat}{x y:Nat}{ws:List Nat}{j:Nat} (hj:j=a.length+1+ws.length):insAt (a++(x :: ws)++b) j y=a++(x :: ws++[y])++b:=by
 unfold insAt
 have hl:(a++(x :: ws)).length=j:=by simp;omega
 rw [List.take_append_of_le_length om,List.drop_append_of_le_length om,<-hl,tkl,List.drop_length]
 simp
theorem EvL.mine (h:EvL w o w1 o1) (hf:Fm M w1 w2) (hm:∀b,b<w1.heap.size->M b->w.heap.size<=b):EvL w o w2 o1:=
 ⟨⟨hf.os.trans h.fm.os,hf.tape.trans h.fm.tape,hf.output.trans h.fm.output,nlt h.fm.size hf.size,fun b hb hn=>by
  rw [hf.block b (nll hb h.fm.size) (fun e=>by have:=hm b (nll hb h.fm.size) e;omega),h.fm.block b hb hn]⟩,h.same,h.old,h.new⟩
theorem tag_calls (hA:WfA (slA S.D.sl) S.D.roots []):∀(r n c:Nat) {s:Sl}{w:Wd}{o:Nat->Nat}{nms:List Nat}{gv:Nat}{E:Nat->Option (Nat × Nat)}{i x:Nat}{R:RT},slA S.D.sl n=some s->Ch (slA S.D.sl) n c->65<=c+r ->
  LX w o g ty S nms gv E->nms[i]?=some x->nms.length+2*(allA (slA S.D.sl) r n).length<=8193->gv+2*(allA (slA S.D.sl) r n).length<9223372036854775808 ->
  (∀w' o' E',LB w' o' g ty S (nms.take (i+1)++wrd (slA S.D.sl) E' r n++nms.drop (i+1)) (gv+2*(allA (slA S.D.sl) r n).length) E'->EvL w o w' o'->(∀y,y∉allA (slA S.D.sl) r n->E' y=E y)->(∀y∈allA (slA S.D.sl) r n,E' y≠none)->R (.returned (.int .u64 ((eN E' n).2:Nat))) w') ->
  CL 65 #[.pointer (some ⟨g,0,none⟩),.int .u64 (n:Nat),.int .u64 (x:Nat)] w R:=by
 intro r
 induction r with
 | zero=>
  intro n c s w o nms gv E i x R hs hc hr
  obtain⟨c',h1,h2⟩:=hA.chain n s hs
  have:=hc.fn h2;omega
 | succ r ih=>
  intro n c s w o nms gv E i x R hs hc hr h hx hroom hgv hK
  have hil:=(gsi.1 hx).1
  have hnd:=all_nodup hA (r+1) n ⟨s,hs⟩ (fun z hz=>by simp at hz)
  rw [allA_some hs] at hroom hgv hK hnd
  rw [lcn] at hroom hgv hK
  obtain⟨hnn,hnd⟩:=List.nodup_cons.1 hnd
  refine ok65 (some ⟨g,0,none⟩) n x ?_
  unfold F65
  refine al fun g7 w1 hb1 b7 hge7=>?_
  have o7:o g7=0:=byc fun e=>by have:=h.lt g7 e;omega
  simp only [nds]
  refine After_x (h.below hb1) om om hx fun w2 o2 h2 ev2=>⟨_,_,rfl,?_⟩
  have b72:=ev2.fm.blk b7 (fun e=>by omega)
  have o72:o2 g7=0:=ev2.old g7 b7.lt o7
  refine st_blk b72 sm fun w3 b73 f3=>?_
  simp only [sls] at b73
  have h3:=h2.fm f3 fun b hb e=>by have e:b=g7:=e;rw [e];exact o72
  simp only [NonNil_some,b73.cell,lds]
  obtain⟨tl,-,hpm⟩:=h3.x.pm
  refine Kids_calls (θ:=⟨g,ty,tl⟩) hpm hA hpm.few hs fun v w4 hb4 ov=>⟨_,_,_,_,rfl,?_⟩
  have h4:=h3.fm (M:=fun _=>False) (.below hb4) fun _ _ h=>h.elim
  have b74:=b73.keep hb4
  have hkid:∀y∈s.kids,∃t,slA S.D.sl y=some t/\t.parent=n:=fun y hy=>((hA.kid n s hs).2 y hy).2
  have hv1:v.2.1=s.kids.length:=by
   obtain⟨A,cc,hvf,_⟩:=ov.form
   rw [slvF hvf]
  have evA:EvL w o w2 o2:=(EvL.below hb1).trans ev2
  have E4:EvL w o w4 o2:=(evA.mine f3 fun b _ e=>by have e:b=g7:=e;omega).trans (EvL.below hb4)
  have hvc:∀b,rowOf (slV v)=some b->o2 b=0:=fun b hb=>byc fun e=>by
   have:=h3.x.lt b e
   have:=(ov.lt b hb).1
   omega
  have hkl:∀y∈s.kids,(∃t,slA S.D.sl y=some t)/\Ch (slA S.D.sl) y (c+1):=fun y hy=>by
   obtain⟨t,t1,t2⟩:=hkid y hy
   exact⟨⟨t,t1⟩,.succ (hA.ne0 t1) t1 (by rw [t2];exact hc)⟩
  have hk4:s.kids.length<=4096:=nlt (live_few (fun y hy=>(hkl y hy).1) (hA.kid n s hs).1) hpm.few
  have hwl:∀(E':Nat->Option (Nat × Nat)) (l:List Nat),(∀y∈l,y∈s.kids)->(l.flatMap (wrd (slA S.D.sl) E' r)).length=2*(l.flatMap (allA (slA S.D.sl) r)).length:=fun E' l hl=>flat_len2 fun y hy=>by
   obtain⟨⟨t,t1⟩,t2⟩:=hkl y (hl y hy)
   exact wrd_len hA r y (c+1) t1 t2 om
  refine⟨fun last j w'=>∃(k:Nat) (o':Nat->Nat) (E':Nat->Option (Nat × Nat)) (la:Nat),last=(la:Nat)/\j=k/\k<=s.kids.length /\
    LB w' o' g ty S (nms.take (i+1)++((gv+1) :: (s.kids.take k).flatMap (wrd (slA S.D.sl) E' r))++nms.drop (i+1)) (gv+1+2*((s.kids.take k).flatMap (allA (slA S.D.sl) r)).length) E' /\
    EvL w o w' o'/\(∀y,y∉(s.kids.take k).flatMap (allA (slA S.D.sl) r)->E' y=E y)/\(∀y∈(s.kids.take k).flatMap (allA (slA S.D.sl) r),E' y≠none) /\
    Blk w' g7 #[.int .u64 (gv+1:Nat),.int .u64 0] 213/\o' g7=0/\Own LHn w' w3.heap.size 42 (slV v) s.kids/\(∀b,rowOf (slV v)=some b->o' b=0) /\
    (nms.take (i+1)++((gv+1) :: (s.kids.take k).flatMap (wrd (slA S.D.sl) E' r))++nms.drop (i+1))[i+1+((s.kids.take k).flatMap (wrd (slA S.D.sl) E' r)).length]?=some la,fun _ j _=>s.kids.length-j.toNat,
   ⟨0,o2,E,gv+1,rfl,rfl,Nat.zero_le _,?_,E4,fun _ _=>rfl,fun y hy=>by simp at hy,b74,o72,ov,hvc,?_⟩,?_⟩
  ·have e:insAt nms (i+1) (gv+1)=nms.take (i+1)++((gv+1) :: (s.kids.take 0).flatMap (wrd (slA S.D.sl) E r))++nms.drop (i+1):=by unfold insAt;simp
   rw [e] at h4
   simpa using h4
  ·rw [laa,gar (by simp;omega)]
   simp only [List.take_zero,List.flatMap_nil,List.length_nil,Nat.add_zero,ltk]
   rw [show i+1-min (i+1) nms.length=0 by omega];rfl
  rintro last j w5 ⟨k,o5,E5,la,rfl,rfl,hk,h5,ev5,q1,q2,b75,o75,ov5,ovc,hla⟩
  unfold F65_l6
  have hm5:=hwl E5 (s.kids.take k) fun y hy=>List.mem_of_mem_take hy
  have htl:(nms.take (i+1)).length=i+1:=by rw [ltk];omega
  refine brd (fun hlt=>?_) (fun hge=>?_)
  ·have hk2:k<s.kids.length:=by omega
   obtain⟨A,cc,hvf,hrd⟩:=ov5.form
   have e1:v.1=A:=by rw [slvF hvf]
   rw [<-e1] at hrd
   refine hrd.hn hv1 rfl hk2 fun bb oo cx=>?_
   simp only [cx,lds]
   have hkm:s.kids[k]∈s.kids:=gem hk2
   obtain⟨⟨t,t1⟩,t2⟩:=hkl s.kids[k] hkm
   have hst:∀f:Nat->List Nat,(s.kids.take (k+1)).flatMap f=(s.kids.take k).flatMap f++f s.kids[k]:=fun f=>by
    rw [tsa hk2,fma];simp
   have hle:((s.kids.take (k+1)).flatMap (allA (slA S.D.sl) r)).length<=(s.kids.flatMap (allA (slA S.D.sl) r)).length:=by
    have e:s.kids.flatMap (allA (slA S.D.sl) r)=(s.kids.take (k+1)).flatMap (allA (slA S.D.sl) r)++(s.kids.drop (k+1)).flatMap (allA (slA S.D.sl) r):=by rw [<-fma,tad]
    rw [e,lap];omega
   have hdis:∀y∈(s.kids.take k).flatMap (allA (slA S.D.sl) r),y∉allA (slA S.D.sl) r s.kids[k]:=fun y hy hy2=>by
    have e:s.kids.flatMap (allA (slA S.D.sl) r)=(s.kids.take (k+1)).flatMap (allA (slA S.D.sl) r)++(s.kids.drop (k+1)).flatMap (allA (slA S.D.sl) r):=by rw [<-fma,tad]
    rw [e,hst] at hnd
    have:=(List.nodup_append.1 hnd).1
    exact (List.nodup_append.1 this).2.2 y hy y hy2 rfl
   rw [hst,lap] at hle
   have hLlen:(nms.take (i+1)++((gv+1) :: (s.kids.take k).flatMap (wrd (slA S.D.sl) E5 r))++nms.drop (i+1)).length=nms.length+1+((s.kids.take k).flatMap (wrd (slA S.D.sl) E5 r)).length:=by simp;omega
   refine ih s.kids[k] (c+1) t1 t2 om h5.x hla (by rw [hLlen,hm5];omega) om fun w6 o6 E6 h6 ev6 z1 z2=>⟨_,rfl,inR_i64 om om,⟨k+1,o6,E6,_,rfl,sm,om,?_,ev5.trans ev6,?_,?_,ev6.fm.blk b75 (fun e=>by omega),ev6.old g7 b75.lt o75,own_fm ov5 ev6.fm fun b hb e=>by have:=ovc b hb;omega,fun b hb=>ev6.old b (ov5.lt b hb).2 (ovc b hb),?_⟩,odz⟩
   ·have hcg:(s.kids.take k).flatMap (wrd (slA S.D.sl) E5 r)=(s.kids.take k).flatMap (wrd (slA S.D.sl) E6 r):=flat_congr fun y hy=>wrd_congr r y fun z hz=>(z1 z (hdis z (mfm.2 ⟨y,hy,hz⟩))).symm
    rw [hst,hst,<-hcg]
    have e1:(nms.take (i+1)++((gv+1) :: (s.kids.take k).flatMap (wrd (slA S.D.sl) E5 r))).length=i+1+((s.kids.take k).flatMap (wrd (slA S.D.sl) E5 r)).length+1:=by rw [lap,htl,lcn];omega
    rw [List.take_left' e1,List.drop_left' e1] at h6
    have e2:nms.take (i+1)++((gv+1) :: (s.kids.take k).flatMap (wrd (slA S.D.sl) E5 r))++wrd (slA S.D.sl) E6 r s.kids[k]++nms.drop (i+1)=nms.take (i+1)++((gv+1) :: ((s.kids.take k).flatMap (wrd (slA S.D.sl) E5 r)++wrd (slA S.D.sl) E6 r s.kids[k]))++nms.drop (i+1):=by simp
    rw [e2] at h6
    have e3:gv+1+2*((s.kids.take k).flatMap (allA (slA S.D.sl) r)).length+2*(allA (slA S.D.sl) r s.kids[k]).length=gv+1+2*((s.kids.take k).flatMap (allA (slA S.D.sl) r)++allA (slA S.D.sl) r s.kids[k]).length:=by rw [lap];omega
    rw [e3] at h6
    exact h6
   ·intro y hy
    rw [hst,List.mem_append,not_or] at hy
    rw [z1 y hy.2];exact q1 y hy.1
   ·intro y hy
    rw [hst,List.mem_append] at hy
    rcases hy with hy | hy
    ·rw [z1 y (hdis y hy)];exact q2 y hy
    ·exact z2 y hy
   ·obtain⟨c',d1,d2⟩:=hA.chain _ t t1
    have:=t2.fn d2
    obtain⟨r',rfl⟩:∃r',r=r'+1:=⟨r-1,om⟩
    rw [hst,wrd_some (E:=E6) t1]
    generalize (s.kids.take k).flatMap (wrd (slA S.D.sl) E6 (r'+1))=ws
    generalize t.kids.flatMap (wrd (slA S.D.sl) E6 r')=xs
    have e1:nms.take (i+1)++(gv+1) :: (ws++((eN E6 s.kids[k]).1 :: xs++[(eN E6 s.kids[k]).2]))++nms.drop (i+1)=(nms.take (i+1)++(gv+1) :: (ws++((eN E6 s.kids[k]).1 :: xs)))++((eN E6 s.kids[k]).2 :: nms.drop (i+1)):=by simp
    rw [e1,gar (by simp only [lap,lcn,List.length_nil,htl];omega)]
    simp only [lap,lcn,List.length_nil,htl]
    rw [show i+1+(ws.length+(xs.length+1+(0+1)))-(i+1+(ws.length+(xs.length+1)+1))=0 by omega]
    rfl
  ·have hk2:k=s.kids.length:=by omega
   subst hk2
   rw [tkl] at h5 q1 q2 hla hm5
   have hLlen:(nms.take (i+1)++((gv+1) :: s.kids.flatMap (wrd (slA S.D.sl) E5 r))++nms.drop (i+1)).length=nms.length+1+(s.kids.flatMap (wrd (slA S.D.sl) E5 r)).length:=by simp;omega
   simp only [nds]
   refine After_x h5.x (by rw [hLlen,hm5];omega) om hla fun w6 o6 h6 ev6=>⟨_,_,rfl,?_⟩
   rw [insAt_mid (by rw [htl];omega)] at h6
   have b76:=ev6.fm.blk b75 (fun e=>by omega)
   have o76:=ev6.old g7 b75.lt o75
   refine st_blk b76 sm fun w7 b77 f7=>?_
   simp only [sls] at b77
   have h7:=h6.fm f7 fun b hb e=>by have e:b=g7:=e;rw [e];exact o76
   have ev7:EvL w o w7 o6:=(ev5.trans ev6).mine f7 fun b _ e=>by have e:b=g7:=e;omega
   refine⟨fun w'=>∃o' bs lbs mb wr eb,LM w' o' g ty S bs (nms.take (i+1)++((gv+1) :: s.kids.flatMap (wrd (slA S.D.sl) E5 r)++[gv+1+2*(s.kids.flatMap (allA (slA S.D.sl) r)).length+1])++nms.drop (i+1)) lbs mb (gv+1+2*(s.kids.flatMap (allA (slA S.D.sl) r)).length+1) wr (some eb) E5/\EvL w o w' o'/\o' g7=0/\Blk w' g7 #[.int .u64 (gv+1:Nat),.int .u64 (gv+1+2*(s.kids.flatMap (allA (slA S.D.sl) r)).length+1:Nat)] 213,?_,?_⟩
   ·rintro w8 ⟨o8,bs8,lbs8,mb8,wr8,eb,h8,ev8,o78,b78⟩
    unfold F65_j13
    have hdr:Below w8.heap.size w8 w8.drew:=(Below.refl _ _).drew
    obtain⟨nv,rv,hd⟩:=h8.pm.doc
    have cm:w8.cell? ⟨g,9,none⟩=some (.map (some eb)):=by rw [hd.blk.cell];rfl
    refine⟨fun w'=>Below w8.heap.size w8 w',hdr,?_⟩
    simp only [nds]
    refine⟨_,fun w' hw=>(sub_below hw).cell cm,?_⟩
    refine⟨_,fun w' hw=>by rw [(b78.keep hw).cell];rfl,?_⟩
    refine⟨_,fun w' hw=>by rw [(b78.keep hw).cell];rfl,?_⟩
    have h8d:=h8.below hdr
    obtain⟨e1,e2⟩:=h8d.e
    refine e2.update mapTypeE keyTypeE (n:Nat) _ fun w9 mp9 f9=>?_
    have hmu:mpE (updE E5 n (some (gv+1,gv+1+2*(s.kids.flatMap (allA (slA S.D.sl) r)).length+1)))=upd (mpE E5) (n:Nat) (some (.agg #[.int .u64 (gv+1:Nat),.int .u64 (gv+1+2*(s.kids.flatMap (allA (slA S.D.sl) r)).length+1:Nat)])):=mpE_upd
    obtain⟨h9,ev9⟩:=h8d.setE f9 (by rw [hmu];exact mp9)
    have hne:g7≠eb:=fun e=>by rw [e,e1] at o78;omega
    have b79:=f9.blk (b78.keep hdr) hne
    simp only [b79.cell,lds]
    have hsame:∀y,y≠n->updE E5 n (some (gv+1,gv+1+2*(s.kids.flatMap (allA (slA S.D.sl) r)).length+1)) y=E5 y:=fun y hy=>by unfold updE;rw [if_neg hy]
    have hself:updE E5 n (some (gv+1,gv+1+2*(s.kids.flatMap (allA (slA S.D.sl) r)).length+1)) n=some (gv+1,gv+1+2*(s.kids.flatMap (allA (slA S.D.sl) r)).length+1):=by unfold updE;rw [if_pos rfl]
    have hcg:s.kids.flatMap (wrd (slA S.D.sl) E5 r)=s.kids.flatMap (wrd (slA S.D.sl) (updE E5 n (some (gv+1,gv+1+2*(s.kids.flatMap (allA (slA S.D.sl) r)).length+1))) r):=flat_congr fun y hy=>wrd_congr r y fun z hz=>(hsame z (fun e=>by subst e;exact hnn (mfm.2 ⟨y,hy,hz⟩))).symm
    have hen:eN (updE E5 n (some (gv+1,gv+1+2*(s.kids.flatMap (allA (slA S.D.sl) r)).length+1))) n=(gv+1,gv+1+2*(s.kids.flatMap (allA (slA S.D.sl) r)).length+1):=by unfold eN;rw [hself];rfl
    have:=hK w9 o8 (updE E5 n (some (gv+1,gv+1+2*(s.kids.flatMap (allA (slA S.D.sl) r)).length+1))) ?_ ((ev8.trans (EvL.below hdr)).trans ev9) (fun y hy=>?_) (fun y hy=>?_)
    ·rw [hen] at this;exact this
    ·rw [wrd_some hs,hen,<-hcg,show gv+2*((s.kids.flatMap (allA (slA S.D.sl) r)).length+1)=gv+1+2*(s.kids.flatMap (allA (slA S.D.sl) r)).length+1 by omega]
     exact⟨bs8,lbs8,mb8,wr8,some eb,h9⟩
    ·rw [mcn,not_or] at hy
     rw [hsame y hy.1];exact q1 y hy.2
    ·rcases mcn.1 hy with rfl | hy
     ·rw [hself];simp
     ·by_cases e:y=n
      ·rw [e,hself];simp
      ·rw [hsame y e];exact q2 y hy
   ·obtain⟨bs7,lbs7,mb7,wr7,em7,h7⟩:=h7
    obtain⟨nv,rv,hd⟩:=h7.pm.doc
    have cm:w7.cell? ⟨g,9,none⟩=some (.map em7):=by rw [hd.blk.cell];rfl
    simp only [NonNil_some,cm,lds]
    cases em7 with
    | none=>
     simp only [Option.isNone_none,Br_t]
     refine h7.made fun w8 o8 eb h8 ev8=>⟨o8,bs7,lbs7,mb7,wr7,eb,h8,ev7.trans ev8,ev8.old g7 b77.lt o76,ev8.fm.blk b77 (fun e=>by omega)⟩
    | some eb=>
     simp only [oin,Br_f]
     exact⟨o6,bs7,lbs7,mb7,wr7,eb,h7,ev7,o76,b77⟩
end
def aheadF (D:Im) (E:Nat->Option (Nat × Nat)) (n:Nat):Nat:=match slA D.sl n with
 | some s=>if (lstI D s.parent).idxOf n=0 then (eN E s.parent).1 else (eN E ((lstI D s.parent).getD ((lstI D s.parent).idxOf n-1) 0)).2
 | none=>0
section
variable {w w1 w2:Wd}{o o1 o2:Nat->Nat}{g:Nat}{ty:TypeId}{S:PS}{bs nms lbs:List Nat}{mb gv:Nat}{wr:Int}{em:Option Nat}{E:Nat->Option (Nat × Nat)}{M:Nat->Prop}{R:RT}{θ:Th}{loose:List Nat}
theorem ahead_calls (h:LX w o g ty S nms gv E) (hA:WfA (slA S.D.sl) S.D.roots []) {n:Nat}{s:Sl} (hn:slA S.D.sl n=some s) (hK:∀w',Below w.heap.size w w'->R (.returned (.int .u64 (aheadF S.D E n:Nat))) w') :
  CL 66 #[.pointer (some ⟨g,0,none⟩),.int .u64 (n:Nat)] w R:=by
 refine ok66 (some ⟨g,0,none⟩) n ?_
 unfold F66
 obtain⟨tl,-,hpm⟩:=h.pm
 have hfew:=hpm.few
 rw [NonNil_some]
 refine Parent_calls (θ:=⟨g,ty,tl⟩) hpm hA hn fun w1 B1=>⟨_,_,rfl,?_⟩
 rw [NonNil_some]
 refine Roots_calls (θ:=⟨g,ty,tl⟩) (hpm.below B1) hA fun v w2 hb2 ov=>⟨_,_,_,rfl,?_⟩
 have B2:=btr B1 B1.size hb2
 have hpar:=hA.par n s hn
 have hmem:n∈lstI S.D s.parent:=hA.mem n s hn sm
 have hahead:aheadF S.D E n=if (lstI S.D s.parent).idxOf n=0 then (eN E s.parent).1 else (eN E ((lstI S.D s.parent).getD ((lstI S.D s.parent).idxOf n-1) 0)).2:=by unfold aheadF;rw [hn]
 have hlf:(lstI S.D s.parent).length<=4096:=nlt (live_few (fun y hy=>by obtain⟨_,t,ht,_⟩:=(hA.lst s.parent).2 y hy;exact⟨t,ht⟩) (hA.lst s.parent).1) hfew
 refine⟨fun A N C w'=>Below w.heap.size w w'/\∃B,Own LHn w' B 42 (.slice A N C) (lstI S.D s.parent),?_,?_⟩
 rotate_left
 ·refine brn (fun h0=>?_) (fun h0=>⟨B2,w1.heap.size,?_⟩)
  ·obtain⟨t,ht,_⟩:=hpar.resolve_left om
   rw [NonNil_some]
   refine Kids_calls (θ:=⟨g,ty,tl⟩) (hpm.below B2) hA hfew ht fun v' w3 hb3 ov3=>⟨_,_,_,_,rfl,btr B2 B2.size hb3,w2.heap.size,?_⟩
   have:lstI S.D s.parent=t.kids:=by unfold lstI;exact lstA_some om ht
   rw [this];exact ov3
  ·have:lstI S.D s.parent=S.D.roots:=by rw [show s.parent=0 by omega];unfold lstI;exact lstA_zero
   rw [this];exact ov
 rintro A N C w3 ⟨B3,B,ov3⟩
 unfold F66_j5
 obtain⟨em,cm,he⟩:=(h.below B3).emc
 simp only [NonNil_some,cm,lds]
 refine lookE he s.parent ⟨_,_,rfl,?_⟩
 obtain⟨A',c',hvf,hrd⟩:=ov3.form
 cases hvf
 generalize lstI S.D s.parent=l at *
 have hlt:=ioi.2 hmem
 refine⟨fun t w'=>w'=w3/\t=(aheadF S.D E n:Nat),?_,?_⟩
 ·rintro t _ ⟨rfl,rfl⟩
  unfold F66_j12
  exact hK _ B3
 refine⟨fun t j w'=>w'=w3/\∃k:Nat,j=k/\k<=l.idxOf n/\t=((if k=0 then (eN E s.parent).1 else (eN E (l.getD (k-1) 0)).2:Nat):Int),fun _ j _=>l.length-j.toNat,⟨rfl,0,rfl,Nat.zero_le _,by rw [if_pos rfl]⟩,?_⟩
 rintro t j _ ⟨rfl,k,rfl,hk,rfl⟩
 unfold F66_l7
 refine brd (fun h1=>?_) (fun h1=>absurd om h1)
 have hkl:k<l.length:=by omega
 refine hrd.hn rfl rfl hkl fun bb oo cx=>?_
 simp only [cx,lds]
 refine bre (fun h2=>?_) (fun h2=>?_)
 ·have h2:l[k]=n:=by omega
  have h3:l.idxOf n=k:=by
   have h4:¬k<l.idxOf n:=fun h5=>by
    have:=List.not_of_lt_findIdx (p:=fun y=>y == n) (xs:=l) h5
    rw [h2] at this;simp at this
   omega
  exact⟨by trivial,by rw [hahead,h3]⟩
 ·have h3:k≠l.idxOf n:=fun e=>h2 (by
   have:=List.getElem_idxOf hlt
   subst e;rw [this])
  simp only [NonNil_some,cm,lds]
  refine lookE he l[k] ⟨_,_,rfl,inR_i64 om om,⟨by trivial,k+1,om,om,?_⟩,odz⟩
  rw [if_neg om,nasc,gdd,gge hkl];rfl
end
section
variable {w w1 w2:Wd}{o o1 o2:Nat->Nat}{g:Nat}{ty:TypeId}{S:PS}{bs nms lbs:List Nat}{mb gv:Nat}{wr:Int}{em:Option Nat}{E:Nat->Option (Nat × Nat)}{M:Nat->Prop}{R:RT}{θ:Th}{loose:List Nat}
theorem Span_calls (h:LM w o g ty S bs nms lbs mb gv wr em E) (hA:WfA (slA S.D.sl) S.D.roots []) {n b e i j l m c:Nat}{s:Sl} (hn:slA S.D.sl n=some s) (hc:Ch (slA S.D.sl) n c) (hc2:c<=64) (hE:E n=some (b,e)) (hi:nms[i]?=some b) (hj:nms[j]?=some e) (hl:lbs[i]?=some l) (hm:lbs[j]?=some m)
  (hK:∀w',Below w.heap.size w w'->R (.returned (.tuple #[.agg #[.int .u64 (l:Nat),.int .u64 (m:Nat),.int .i64 ((c:Nat)-1:Int)],.int .i64 0])) w'):CL 110 #[.pointer (some ⟨g,0,none⟩),.int .u64 (n:Nat)] w R:=by
 refine ok110 (some ⟨g,0,none⟩) n ?_
 unfold F110
 cases em with
 | none=>have:=h.e n;rw [hE] at this;cases this
 | some eb=>
 refine al fun g4 w1 hb1 b4 hge4=>?_
 have h1:=h.below hb1
 obtain⟨nv,rv,hd⟩:=h1.pm.doc
 have cm:w1.cell? ⟨g,9,none⟩=some (.map (some eb)):=by rw [hd.blk.cell];rfl
 simp only [NonNil_some,cm,lds]
 obtain⟨e1,e2⟩:=h1.e
 refine e2.look mapTypeE keyTypeE (zeroEnd w1) n true ?_
 have hmp:mpE E (n:Nat)=some (.agg #[.int .u64 (b:Nat),.int .u64 (e:Nat)]):=by unfold mpE;rw [if_pos om,tnc,hE];rfl
 rw [hmp]
 refine⟨b,e,true,rfl,?_⟩
 refine al fun g6 w2 hb2 b6 hge6=>?_
 refine st_blk b6 sm fun w3 b63 f3=>st_blk b63 sm fun w4 b64 f4=>?_
 simp only [sls] at b64
 have F4:Fm (·=g6) w2 w4:=f3.trans f4
 have D4:Below w1.heap.size w1 w4:=hb2.trans (F4.toBelow hb2.size fun b hb e=>by have e:b=g6:=e;omega)
 simp only [Bool.not_true,Br_f]
 refine al fun gs w5 hb5 bs5 hge5=>?_
 have D5:=btr D4 D4.size hb5
 have b65:=b64.keep hb5
 have hdr5:Below w5.heap.size w5 w5.drew:=(Below.refl _ _).drew
 refine⟨fun w'=>Below w5.heap.size w5 w',hdr5,?_⟩
 simp only [nds]
 refine⟨_,fun w' hw=>by rw [(b65.keep hw).cell];rfl,?_⟩
 have h5:=h1.below (btr D5 D5.size hdr5)
 obtain⟨f5,t5,-⟩:=h5.tg
 refine Label_calls t5 hi hl ⟨_,_,rfl,?_⟩
 refine st_blk (bs5.keep hdr5) sm fun w6 bs6 f6=>?_
 simp only [sls] at bs6
 have hgs6:g6≠gs:=by have:=b64.lt;omega
 have b66:=f6.blk (b65.keep hdr5) hgs6
 have hs4:=D4.size
 have D6:Below w1.heap.size w1 w6:=(btr D5 D5.size hdr5).trans (f6.toBelow (btr D5 D5.size hdr5).size fun b hb e=>by have e:b=gs:=e;omega)
 have hdr6:Below w6.heap.size w6 w6.drew:=(Below.refl _ _).drew
 refine⟨fun w'=>Below w6.heap.size w6 w',hdr6,?_⟩
 refine⟨_,fun w' hw=>by rw [(b66.keep hw).cell];rfl,?_⟩
 have h6:=h1.below (btr D6 D6.size hdr6)
 obtain⟨f6',t6,-⟩:=h6.tg
 refine Label_calls t6 hj hm ⟨_,_,rfl,?_⟩
 refine st_blk (bs6.keep hdr6) sm fun w7 bs7 f7=>?_
 simp only [sls] at bs7
 have D7:Below w1.heap.size w1 w7:=(btr D6 D6.size hdr6).trans (f7.toBelow (btr D6 D6.size hdr6).size fun b hb e=>by have e:b=gs:=e;omega)
 have h7:=h1.below D7
 refine Level_calls (θ:=⟨g,ty,_⟩) h7.pm hn hc hc2 fun w8 hb8=>⟨_,_,rfl,?_⟩
 refine st_blk (bs7.keep hb8) sm fun w9 bs9 f9=>?_
 simp only [sls] at bs9
 have D8:=btr D7 D7.size hb8
 have D9:Below w1.heap.size w1 w9:=D8.trans (f9.toBelow D8.size fun b hb e=>by have e:b=gs:=e;omega)
 simp only [bs9.cell,lds]
 refine st_blk (b4.keep D9) sm fun v1 p1 r1=>st_blk p1 sm fun v2 p2 r2=>st_blk p2 sm fun w10 p3 r3=>?_
 simp only [sls] at p3
 have F10:Fm (·=g4) w9 w10:=(r1.trans r2).trans r3
 simp only [p3.cell,lds]
 have D9':Below w.heap.size w w9:=hb1.trans (D9.mono hb1.size)
 exact hK w10 (D9'.trans (F10.toBelow D9'.size fun b hb e=>by have e:b=g4:=e;omega))
def untagN (E:Nat->Option (Nat × Nat)):List Nat->List Nat->List Nat
 | [],nms=>nms
 | n :: l,nms=>untagN E l ((nms.erase (eN E n).1).erase (eN E n).2)
theorem untagN_snoc {n:Nat}:∀(l:List Nat) (nms:List Nat),untagN E (l++[n]) nms=((untagN E l nms).erase (eN E n).1).erase (eN E n).2
 | [],nms=>rfl
 | y :: l,nms=>by rw [List.cons_append,untagN,untagN,untagN_snoc l]
theorem untagN_mem {x:Nat}:∀(l:List Nat) (nms:List Nat),x∈nms->(∀y∈l,x≠(eN E y).1/\x≠(eN E y).2)->x∈untagN E l nms
 | [],nms,h,_=>h
 | y :: l,nms,h,k=>by
  rw [untagN]
  obtain⟨k1,k2⟩:=k y sm
  exact untagN_mem l _ ((List.mem_erase_of_ne k2).2 ((List.mem_erase_of_ne k1).2 h)) fun z hz=>k z (by simp [hz])
theorem er_idx {l:List Nat} (hn:l.Nodup) {i x:Nat} (hi:l[i]?=some x):l.eraseIdx i=l.erase x:=by
 obtain⟨h1,h2⟩:=(idx_iff hn).1 hi
 subst h2
 rw [List.eraseIdx_eq_take_drop_succ,take_drop_erase h1]
theorem DropL_calls (h:LM w o g ty S bs nms lbs mb gv wr em E) {x:Nat} (hx:x∈nms) (hx0:x≠0)
  (hK:∀w' bs' lbs',LM w' o g ty S bs' (nms.erase x) lbs' mb gv wr em E->EvL w o w' o->R (.returned (.int .i64 0)) w') :
  CL 220 #[.pointer (some ⟨g,5,none⟩),.int .u64 (x:Nat)] w R:=by
 obtain⟨f,t1,t2,t3,t4⟩:=h.tg
 obtain⟨i,hi⟩:=List.mem_iff_getElem?.1 hx
 have hi1:1<=i:=Nat.one_le_iff_ne_zero.2 fun e=>by subst e;rw [h.i.h0] at hi;cases hi;exact hx0 rfl
 have hil:=(gsi.1 hi).1
 refine Drop_calls t1 hi hi1 hx0 fun w' q1 ev=>hK w' (bs.eraseIdx i) (lbs.eraseIdx i) ?_ ev.l
 rw [<-er_idx h.i.nd hi]
 exact LM.setTg h.pm h.e t4 t2 t3 q1 (h.i.del hi1 hil) ev
structure Tgd (E:Nat->Option (Nat × Nat)) (nms l:List Nat):Prop where
 nd:l.Nodup
 some_:∀y∈l,∃p,E y=some p
 mem:∀y∈l,(eN E y).1∈nms/\(eN E y).2∈nms/\(eN E y).1≠0/\(eN E y).2≠0/\(eN E y).1≠(eN E y).2
 apart:∀y∈l,∀z∈l,y≠z->(eN E y).1≠(eN E z).1/\(eN E y).1≠(eN E z).2/\(eN E y).2≠(eN E z).1/\(eN E y).2≠(eN E z).2
def dropE (E:Nat->Option (Nat × Nat)) (l:List Nat):Nat->Option (Nat × Nat):=fun y=>if y∈l then none else E y
theorem untag_calls {eb : Nat} (h : LM w o g ty S bs nms lbs mb gv wr (some eb) E) {l : List Nat} {v : Sv} {B : Nat} (hv : Own LHn w B 42 (slV v) l) (hvc : ∀ b, rowOf (slV v) = some b -> o b = 0) (hl : l.length <= 1048576) (hT : Tgd E nms l)
    (hK : ∀ w' bs' lbs', LM w' o g ty S bs' (untagN E l nms) lbs' mb gv wr (some eb) (dropE E l) -> EvL w o w' o -> R (.returned (.tuple #[])) w') :
    CL 191 #[.pointer (some ⟨g, 0, none⟩), .slice v.1 v.2.1 v.2.2] w R := by
  refine ok191 (some ⟨g, 0, none⟩) v.1 v.2.1 v.2.2 ?_
  unfold F191
  have hv1 : v.2.1 = l.length := by
    obtain ⟨A, cc, hvf, _⟩ := hv.form
    rw [slvF hvf]
  refine ⟨fun j w' => ∃ (k : Nat) (bs' lbs' : List Nat), j = k /\ k <= l.length /\ LM w' o g ty S bs' (untagN E (l.take k) nms) lbs' mb gv wr (some eb) (dropE E (l.take k)) /\ EvL w o w' o /\ Own LHn w' B 42 (slV v) l, fun j _ => l.length - j.toNat,
    ⟨0, bs, lbs, rfl, Nat.zero_le _, by have e : dropE E (l.take 0) = E := by funext y; unfold dropE; simp
                                        rw [e]; exact h, EvL.refl, hv⟩, ?_⟩
  rintro j w1 ⟨k, bs1, lbs1, rfl, hk, h1, ev1, ov⟩
  unfold F191_l1
  refine brd (fun hlt => ?_) (fun hge => ?_)
  · have hk2 : k<l.length := by omega
    obtain ⟨A, cc, hvf, hrd⟩ := ov.form
    have e1 : v.1 = A := by rw [slvF hvf]
    rw [<- e1] at hrd
    refine hrd.hn hv1 rfl hk2 fun bb oo cx => ?_
    simp only [cx, lds]
    have hkm := gem hk2
    have hnk : l[k] ∉ l.take k := fun hx => by
      have h9 : (l.take k ++ l.drop k).Nodup := by rw [tad]; exact hT.nd
      refine (List.nodup_append.1 h9).2.2 _ hx l[k] ?_ rfl
      rw [dgc hk2]; exact List.mem_cons_self ..
    obtain ⟨m1, m2, m3, m4, m5⟩ := hT.mem l[k] hkm
    have hap : ∀ y ∈ l.take k, ((eN E l[k]).1 ≠ (eN E y).1 /\ (eN E l[k]).1 ≠ (eN E y).2) /\ ((eN E l[k]).2 ≠ (eN E y).1 /\ (eN E l[k]).2 ≠ (eN E y).2) := fun y hy => by
      obtain ⟨a1, a2, a3, a4⟩ := hT.apart l[k] hkm y (List.mem_of_mem_take hy) (fun e => hnk (by rw [e]; exact hy))
      exact ⟨⟨a1, a2⟩, a3, a4⟩
    have heN : eN (dropE E (l.take k)) l[k] = eN E l[k] := by unfold eN dropE; rw [if_neg hnk]
    have emOf : ∀ {w' : Wd} {bs' nms' lbs' : List Nat} {E' : Nat -> Option (Nat × Nat)}, LM w' o g ty S bs' nms' lbs' mb gv wr (some eb) E' -> w'.cell? ⟨g, 9, none⟩ = some (.map (some eb)) := fun hh => by
      obtain ⟨nv, rv, hd⟩ := hh.pm.doc
      rw [hd.blk.cell]; rfl
    have hdr1 : Below w1.heap.size w1 w1.drew := (Below.refl _ _).drew
    refine ⟨fun w' => Below w1.heap.size w1 w', hdr1, ?_⟩
    simp only [NonNil_some, Addr.add_mk, nza]
    refine ⟨_, fun w' hw => (sub_below hw).cell (emOf h1), ?_⟩
    have h1d := h1.below hdr1
    refine lookE h1d.e l[k] ⟨_, _, rfl, ?_⟩
    rw [heN]
    refine DropL_calls h1d (untagN_mem _ _ m1 fun y hy => (hap y hy).1) m3 fun w2 bs2 lbs2 h2 ev2 => ⟨_, rfl, ?_⟩
    have hdr2 : Below w2.heap.size w2 w2.drew := (Below.refl _ _).drew
    refine ⟨fun w' => Below w2.heap.size w2 w', hdr2, ?_⟩
    refine ⟨_, fun w' hw => (sub_below hw).cell (emOf h2), ?_⟩
    have h2d := h2.below hdr2
    refine lookE h2d.e l[k] ⟨_, _, rfl, ?_⟩
    rw [heN]
    refine DropL_calls h2d ((List.mem_erase_of_ne (Ne.symm m5)).2 (untagN_mem _ _ m2 fun y hy => (hap y hy).2)) m4 fun w3 bs3 lbs3 h3 ev3 => ⟨_, rfl, ?_⟩
    simp only [NonNil_some, Addr.add_mk, nza, emOf h3, lds]
    refine h3.e.2.del mapTypeE keyTypeE (l[k] : Nat) fun w4 mp4 f4 => ?_
    have hmu : mpE (updE (dropE E (l.take k)) l[k] none) = upd (mpE (dropE E (l.take k))) (l[k] : Nat) none := mpE_upd
    obtain ⟨h4, ev4⟩ := h3.setE f4 (by rw [hmu]; exact mp4)
    have hE : updE (dropE E (l.take k)) l[k] none = dropE E (l.take (k + 1)) := by
      funext y
      show (if y = l[k] then none else if y ∈ l.take k then none else E y) = (if y ∈ l.take (k + 1) then none else E y)
      have hin : y ∈ l.take (k + 1) ↔ y ∈ l.take k \/ y = l[k] := by rw [tsa hk2, List.mem_append, msg]
      by_cases hy : y = l[k]
      · rw [if_pos hy, if_pos (hin.2 (.inr hy))]
      · rw [if_neg hy]
        by_cases hm : y ∈ l.take k
        · rw [if_pos hm, if_pos (hin.2 (.inl hm))]
        · rw [if_neg hm, if_neg (fun e => by rcases hin.1 e with e | e; exact hm e; exact hy e)]
    rw [hE] at h4
    have evk : EvL w o w4 o := ((((ev1.trans (EvL.below hdr1)).trans ev2).trans (EvL.below hdr2)).trans ev3).trans ev4
    have evk1 : EvL w1 o w4 o := ((((EvL.below hdr1).trans ev2).trans (EvL.below hdr2)).trans ev3).trans ev4
    refine ⟨inR_i64 om om, ⟨k + 1, bs3, lbs3, by simp, by omega, ?_, evk, own_fm ov evk1.fm fun b hb e => by have := hvc b hb; omega⟩, odz⟩
    rw [tsa hk2, untagN_snoc]
    rw [tsa hk2] at h4
    exact h4
  · have hk2 : k = l.length := by omega
    subst hk2
    rw [tkl] at h1
    exact hK w1 bs1 lbs1 h1 ev1
end
section
variable {A B:Nat->Option Sl}{E E':Nat->Option (Nat × Nat)}{roots loose:List Nat}
theorem wrd_congr2 (hA:WfA A roots loose):∀(r z:Nat) {s:Sl},A z=some s->(∀y∈allA A r z,B y=A y/\E' y=E y)->wrd B E' r z=wrd A E r z
 | 0,z,s,_,_=>rfl
 | r+1,z,s,hz,h=>by
  rw [allA_some hz] at h
  have h1:=h z sm
  have hz':B z=some s:=by rw [h1.1];exact hz
  rw [wrd_some hz,wrd_some hz']
  have e1:eN E' z=eN E z:=by unfold eN;rw [h1.2]
  rw [e1,flat_congr fun y hy=>?_]
  obtain⟨t,ht,_⟩:=((hA.kid z s hz).2 y hy).2
  exact wrd_congr2 hA r y ht fun x hx=>h x (mcm _ (mfm.2 ⟨y,hy,hx⟩))
theorem wrd_fuel (hA:WfA A roots loose):∀(r x c:Nat) {s:Sl},A x=some s->Ch A x c->65<=c+r->∀r',r<=r'->wrd A E r x=wrd A E r' x:=by
 intro r
 induction r with
 | zero=>
  intro x c s hx hc hr
  obtain⟨c',h1,h2⟩:=hA.chain x s hx
  have:=hc.fn h2;omega
 | succ r ih=>
  intro x c s hx hc hr r' hr'
  obtain ⟨r'', rfl⟩ : ∃ r'', r' = r'' + 1 := ⟨r' - 1, by omega⟩
  rw [wrd_some hx,wrd_some hx,flat_congr fun y hy=>?_]
  obtain⟨t,t1,t2⟩:=((hA.kid x s hx).2 y hy).2
  exact ih y (c + 1) t1 (.succ (hA.ne0 t1) t1 (by rw [t2]; exact hc)) om r'' om
theorem wrd_last {r y:Nat}{s:Sl} (hy:A y=some s):(wrd A E (r+1) y).getLast?=some (eN E y).2:=by
 rw [wrd_some hy,List.getLast?_append];rfl
theorem split_at {f f':Nat->List Nat}{l:List Nat}{n:Nat} (hn:n∈l) (hd:l.Nodup) (hf:∀y∈l,y≠n->f' y=f y) :
  l.flatMap f=(l.take (l.idxOf n)).flatMap f++f n++(l.drop (l.idxOf n+1)).flatMap f/\(l.erase n).flatMap f'=(l.take (l.idxOf n)).flatMap f++(l.drop (l.idxOf n+1)).flatMap f:=by
 have hlt:=ioi.2 hn
 have hg:=List.getElem_idxOf hlt
 have e:l=l.take (l.idxOf n)++n :: l.drop (l.idxOf n+1):=by
  conv=>lhs;rw [<-tad (l.idxOf n) l,dgc hlt,hg]
 constructor
 ·conv=>lhs;rw [e]
  rw [fma,fmc,laa]
 ·have e2:(l.erase n).flatMap f'=(l.erase n).flatMap f:=flat_congr fun y hy=>hf y (List.mem_of_mem_erase hy) fun e=>by
   subst e;exact hd.not_mem_erase hy
  rw [e2,<-take_drop_erase hn,fma]
def Slot (A B:Nat->Option Sl) (E E':Nat->Option (Nat × Nat)) (wn:List Nat) (ah:Nat) (a b:List Nat):Prop:=∃X Y,a=X++wn++Y/\b=X++Y/\X.getLast?=some ah
theorem Slot.up {wn a b:List Nat}{ah:Nat} (h:Slot A B E E' wn ah a b) (P Q:List Nat):Slot A B E E' wn ah (P++a++Q) (P++b++Q):=by
 obtain⟨X,Y,rfl,rfl,h3⟩:=h
 refine⟨P++X,Y++Q,sm,sm,?_⟩
 rw [List.getLast?_append,h3];rfl
end
section
variable {D:Im}{E E':Nat->Option (Nat × Nat)}
theorem slot_list {A B:Nat->Option Sl}{wn:List Nat}{ah y:Nat}{f f':Nat->List Nat}{l:List Nat} (hy:y∈l) (hd:l.Nodup) (hs:Slot A B E E' wn ah (f y) (f' y)) (hf:∀z∈l,z≠y->f' z=f z):Slot A B E E' wn ah (l.flatMap f) (l.flatMap f'):=by
 have hlt:=ioi.2 hy
 have hg:=List.getElem_idxOf hlt
 have e:l=l.take (l.idxOf y)++y :: l.drop (l.idxOf y+1):=by
  conv=>lhs;rw [<-tad (l.idxOf y) l,dgc hlt,hg]
 have hnd:=hd
 rw [e] at hnd
 obtain⟨n1,n2,n3⟩:=List.nodup_append.1 hnd
 obtain⟨n4,n5⟩:=List.nodup_cons.1 n2
 have e1:(l.take (l.idxOf y)).flatMap f'=(l.take (l.idxOf y)).flatMap f:=flat_congr fun z hz=>hf z (List.mem_of_mem_take hz) fun e=>n3 z hz y sm e
 have e2:(l.drop (l.idxOf y+1)).flatMap f'=(l.drop (l.idxOf y+1)).flatMap f:=flat_congr fun z hz=>hf z (List.mem_of_mem_drop hz) fun e=>by subst e;exact n4 hz
 have a1:l.flatMap f=(l.take (l.idxOf y)).flatMap f++f y++(l.drop (l.idxOf y+1)).flatMap f:=by
  conv=>lhs;rw [e]
  rw [fma,fmc,laa]
 have a2:l.flatMap f'=(l.take (l.idxOf y)).flatMap f++f' y++(l.drop (l.idxOf y+1)).flatMap f:=by
  conv=>lhs;rw [e]
  rw [fma,fmc,<-laa,e1,e2]
 rw [a1,a2]
 exact hs.up _ _
end
section
variable {A B:Nat->Option Sl}{E E':Nat->Option (Nat × Nat)}{roots:List Nat}
theorem Wi.tr {a b c:Nat} (h1:Wi A a b) (h2:Wi A b c):Wi A a c:=by
 induction h2 with
 | self=>exact h1
 | up hs _ ih=>exact .up hs ih
theorem wi_sib (h0:A 0=none) {z n y c:Nat} (hz:Ch A z c) (hn:Ch A n c) (h1:Wi A z y) (h2:Wi A n y):z=n:=by
 obtain⟨d1,e1⟩:=h1.de
 obtain⟨d2,e2⟩:=h2.de
 have c1:=e1.ch h0 hz
 have c2:=e2.ch h0 hn
 have:=c1.fn c2
 have:d1=d2:=by omega
 subst this
 exact e1.fn e2
theorem all_wi (hA:WfA A roots []) {r x y:Nat}{s:Sl} (hx:A x=some s) (hy:y∈allA A r x):Wi A x y:=by
 obtain⟨d,_,hd⟩:=(mem_allA hA r x y ⟨s,hx⟩ (fun z hz=>by simp at hz)).1 hy
 exact hd.wi
theorem last_flat {f:Nat->List Nat}{h:Nat->Nat}{b:Nat}{l:List Nat}:∀(k:Nat),k<=l.length->(∀y∈l,(f y).getLast?=some (h y))->(b :: (l.take k).flatMap f).getLast?=some (if k=0 then b else h (l.getD (k-1) 0))
 | 0,_,_=>by simp
 | k+1,hk,hf=>by
  have hk2:k<l.length:=by omega
  rw [tsa hk2,fma,<-List.cons_append,List.getLast?_append]
  have:(([l[k]]:List Nat).flatMap f).getLast?=some (h l[k]):=by simp [hf l[k] (gem hk2)]
  rw [this,if_neg om,nasc,gdd,gge hk2];rfl
theorem up_root (hA:WfA A roots []) {n p:Nat}{s:Sl} (hn:A n=some s) (hp:s.parent=p) (hB:∀y,y≠p->B y=A y) (hE:∀y,¬Wi A n y->E' y=E y) {wn:List Nat}{ah:Nat} :
  ∀(c y r:Nat) {t:Sl},A y=some t->Ch A y c->Wi A y p->r+c=66->Slot A B E E' wn ah (wrd A E' r y) (wrd B E r y)->Slot A B E E' wn ah (0 :: roots.flatMap (wrd A E' 65)) (0 :: roots.flatMap (wrd B E 65))
 | 0,y,r,t,hy,hc,_,_,_=>by cases hc;exact absurd rfl (hA.ne0 hy)
 | c+1,y,r,t,hy,hc,hw,hr,hs=>by
  have hyn:Wi A y n:=.up hn (by rw [hp];exact hw)
  have hch':Ch A t.parent c:=by
   cases hc with
   | succ h0 ha h3=>rw [hy] at ha;cases ha;exact h3
  have hmem:=hA.mem y t hy sm
  have hcong:∀(l:List Nat),(∀z∈l,∃u,A z=some u/\Ch A z (c+1))->∀r',∀z∈l,z≠y->wrd B E r' z=wrd A E' r' z:=fun l hl r' z hz hzy=>by
   obtain⟨u,u1,u2⟩:=hl z hz
   refine wrd_congr2 hA r' z u1 fun x hx=>?_
   have hwx:=all_wi hA u1 hx
   refine⟨hB x fun e=>?_,(hE x fun e=>?_).symm⟩
   ·subst e;exact hzy (wi_sib hA.zero u2 hc hwx hw)
   ·exact hzy (wi_sib hA.zero u2 hc hwx (hyn.tr e))
  rcases hA.par y t hy with h0 | ⟨u,hu,_⟩
  ·rw [h0] at hch' hmem
   have hc0:c=0:=hch'.fn .zero
   subst hc0
   have hr65:r=65:=by omega
   subst hr65
   rw [lstA_zero] at hmem
   have:=slot_list hmem hA.root.1 hs (hcong roots (fun z hz=>by
    obtain⟨_,u,u1,u2⟩:=hA.root.2 z hz
    exact⟨u,u1,.succ (hA.ne0 u1) u1 (by rw [u2];exact .zero)⟩) 65)
   have:=this.up [0] []
   simpa using this
  ·have hq0:=hA.ne0 hu
   rw [lstA_some hq0 hu] at hmem
   have hqp:t.parent≠p:=fun e=>by
    rw [<-e] at hw
    exact wi_par hA hy hw
   have hBq:B t.parent=some u:=by rw [hB _ hqp];exact hu
   have hEq:E' t.parent=E t.parent:=hE _ fun e=>by
    have:=hyn.tr e
    exact wi_par hA hy this
   refine up_root hA hn hp hB hE c t.parent (r+1) hu hch' (.tr (.up hy .self) hw) om ?_
   rw [wrd_some hu,wrd_some hBq]
   have e1:eN E' t.parent=eN E t.parent:=by unfold eN;rw [hEq]
   rw [e1]
   have:=slot_list hmem (hA.kid _ u hu).1 hs (hcong u.kids (fun z hz=>by
    obtain⟨_,x,x1,x2⟩:=(hA.kid _ u hu).2 z hz
    exact⟨x,x1,.succ (hA.ne0 x1) x1 (by rw [x2];exact hch')⟩) r)
   exact this.up [(eN E t.parent).1] [(eN E t.parent).2]
theorem attach (hA:WfA A roots []) {n:Nat}{s:Sl} (hn:A n=some s) (hE0:E 0=none) (hE:∀y,¬Wi A n y->E' y=E y) :
  Slot A (setA A s.parent ((lstA A roots s.parent).erase n)) E E' (wrd A E' 65 n) (if (lstA A roots s.parent).idxOf n=0 then (eN E s.parent).1 else (eN E ((lstA A roots s.parent).getD ((lstA A roots s.parent).idxOf n-1) 0)).2)
   (0 :: roots.flatMap (wrd A E' 65)) (0 :: (setR roots s.parent ((lstA A roots s.parent).erase n)).flatMap (wrd (setA A s.parent ((lstA A roots s.parent).erase n)) E 65)):=by
 have hmem:=hA.mem n s hn sm
 obtain⟨hnd,hall⟩:=hA.lst s.parent
 obtain⟨cn,cn1,cn2⟩:=hA.chain n s hn
 obtain⟨cp,hcn,hcp⟩:∃cp,cn=cp+1/\Ch A s.parent cp:=by
  cases cn2 with
  | zero=>exact absurd rfl (hA.ne0 hn)
  | succ h0 ha h3=>rw [hn] at ha;cases ha;exact⟨_,rfl,h3⟩
 subst hcn
 have hch:∀z∈lstA A roots s.parent,∃u,A z=some u/\u.parent=s.parent/\Ch A z (cp+1):=fun z hz=>by
  obtain⟨_,u,u1,u2⟩:=hall z hz
  exact⟨u,u1,u2,.succ (hA.ne0 u1) u1 (by rw [u2];exact hcp)⟩
 generalize hL:lstA A roots s.parent=l at *
 have hB:∀y,y≠s.parent\/s.parent=0->setA A s.parent (l.erase n) y=A y:=fun y hy=>by
  unfold setA
  rw [if_neg (fun e=>by rcases hy with h | h;exact h e.1;exact e.2 h)]
 have hEl:∀z∈l,z≠n->E' z=E z:=fun z hz hzn=>hE z fun e=>by
  obtain⟨u,u1,u2,u3⟩:=hch z hz
  exact hzn (wi_sib hA.zero u3 cn2 .self e)
 have hcong:∀r,∀z∈l,z≠n->wrd (setA A s.parent (l.erase n)) E r z=wrd A E' r z:=fun r z hz hzn=>by
  obtain⟨u,u1,u2,u3⟩:=hch z hz
  refine wrd_congr2 hA r z u1 fun x hx=>?_
  have hwx:=all_wi hA u1 hx
  refine⟨hB x (.inl fun e=>?_),(hE x fun e=>hzn (wi_sib hA.zero u3 cn2 hwx e)).symm⟩
  subst e
  rw [<-u2] at hwx
  exact wi_par hA u1 hwx
 have hlt:=ioi.2 hmem
 have key:∀r b,(b :: (l.take (l.idxOf n)).flatMap (wrd A E' (r+1))).getLast?=some (if l.idxOf n=0 then b else (eN E (l.getD (l.idxOf n-1) 0)).2):=fun r b=>by
  rw [last_flat (h:=fun y=>(eN E' y).2) (l.idxOf n) om fun y hy=>by
   obtain⟨u,u1,_⟩:=hch y hy
   exact wrd_last u1]
  by_cases h0:l.idxOf n=0
  ·rw [if_pos h0,if_pos h0]
  ·rw [if_neg h0,if_neg h0]
   have hk:l.idxOf n-1<l.length:=by omega
   have hg:l.getD (l.idxOf n-1) 0=l[l.idxOf n-1]:=by rw [gdd,gge hk];rfl
   have hne:l[l.idxOf n-1]≠n:=fun e=>by
    have:=nd_get hnd (gge hk) (show l[l.idxOf n]?=some l[l.idxOf n-1] by rw [gge hlt,List.getElem_idxOf hlt,e])
    omega
   rw [hg]
   unfold eN
   rw [hEl _ (gem hk) hne]
 by_cases hp0:s.parent=0
 ·have hr:l=roots:=by rw [<-hL,hp0,lstA_zero]
  subst hr
  obtain⟨a1,a2⟩:=split_at (f:=wrd A E' 65) (f':=wrd (setA A s.parent (l.erase n)) E 65) hmem hnd (hcong 65)
  refine⟨0 :: (l.take (l.idxOf n)).flatMap (wrd A E' 65),(l.drop (l.idxOf n+1)).flatMap (wrd A E' 65),?_,?_,?_⟩
  ·rw [a1];simp
  ·have e:setR l s.parent (l.erase n)=l.erase n:=by unfold setR;rw [if_pos hp0]
   rw [e,a2];simp
  ·have e:(eN E s.parent).1=0:=by unfold eN;rw [hp0,hE0];rfl
   rw [e];exact key 64 0
 ·obtain⟨u,hu,_⟩:=(hA.par n s hn).resolve_left hp0
  have hkids:l=u.kids:=by rw [<-hL];exact lstA_some hp0 hu
  have hcp64:cp+1<=64:=cn1
  obtain⟨r,hr⟩:∃r,r+1+cp=65:=⟨64-cp,om⟩
  have hEp:E' s.parent=E s.parent:=hE _ (wi_par hA hn)
  have hBp:setA A s.parent (l.erase n) s.parent=some { u with kids:=l.erase n }:=by
   unfold setA
   rw [if_pos ⟨rfl,hp0⟩,hu];rfl
  have hroots:setR roots s.parent (l.erase n)=roots:=by unfold setR;rw [if_neg hp0]
  rw [hroots]
  refine up_root hA hn rfl (fun y hy=>hB y (.inl hy)) hE cp s.parent (r+1+1) hu hcp .self om ?_
  rw [wrd_some hu,wrd_some hBp]
  dsimp only
  obtain⟨a1,a2⟩:=split_at (f:=wrd A E' (r+1)) (f':=wrd (setA A s.parent (l.erase n)) E (r+1)) hmem hnd (hcong (r+1))
  have hwn:wrd A E' (r+1) n=wrd A E' 65 n:=wrd_fuel hA (r+1) n (cp+1) hn cn2 om 65 om
  rw [<-hkids,a1,a2,hwn]
  have e1:eN E' s.parent=eN E s.parent:=by unfold eN;rw [hEp]
  rw [e1]
  refine⟨(eN E s.parent).1 :: (l.take (l.idxOf n)).flatMap (wrd A E' (r+1)),(l.drop (l.idxOf n+1)).flatMap (wrd A E' (r+1))++[(eN E s.parent).2],sm,sm,key r _⟩
end
section
variable {w w1 w2:Wd}{o o1 o2:Nat->Nat}{g:Nat}{ty:TypeId}{S:PS}{bs nms lbs:List Nat}{mb gv:Nat}{wr:Int}{em:Option Nat}{E:Nat->Option (Nat × Nat)}{M:Nat->Prop}{R:RT}{θ:Th}
theorem LX.tree (h:LX w o g ty S nms gv E):∃tl,PM w o ⟨g,ty,tl⟩ S/\∀w' o' S',PM w' o' ⟨g,ty,tl⟩ S'->EvP w o w' o'->LX w' o' g ty S' nms gv E:=by
 rcases h with ⟨bs,lbs,mb,wr,em,h⟩ | ⟨h,h2⟩
 ·refine⟨_,h.pm,fun w' o' S' hp ev=>.inl ⟨bs,lbs,mb,wr,em,hp,?_,h.i,h.len,?_⟩⟩
  ·have hn:∀b,(o b=4\/o b=5)->¬pc (o b):=fun b hb hp=>by unfold pc at hp;omega
   have hr:=h.r.fm ev.fm hn
   exact⟨hr.blk,fun b hb=>by rw [ev.same b (by rw [hr.col b hb];decide)];exact hr.col b hb,hr.nd,hr.mp,by rw [ev.same mb (by rw [hr.mcol];decide)];exact hr.mcol⟩
  ·exact h.e.fm ev.fm (fun b hb hp=>by unfold pc at hp;omega) ev.same
 ·obtain⟨em,hp,he⟩:=h.pm
  exact⟨_,hp,fun w' o' S' hq ev=>.inr ⟨⟨em,hq,he.fm ev.fm (fun b hb hp=>by unfold pc at hp;omega) ev.same⟩,h2⟩⟩
end
section
variable {A:Nat->Option Sl}{roots:List Nat}{D:Im}{E E':Nat->Option (Nat × Nat)}
theorem rootsAll_nodup (hA:WfA A roots []):(roots.flatMap (allA A 65)).Nodup:=by
 have hr:∀z∈roots,∃u,A z=some u/\Ch A z 1:=fun z hz=>by
  obtain⟨_,u,u1,u2⟩:=hA.root.2 z hz
  exact⟨u,u1,.succ (hA.ne0 u1) u1 (by rw [u2];exact .zero)⟩
 refine flatMap_nodup _ _ hA.root.1 (fun z hz=>?_) fun a ha b hb hab y hy hy2=>?_
 ·obtain⟨u,u1,_⟩:=hr z hz
  exact all_nodup hA 65 z ⟨u,u1⟩ fun z hz=>by simp at hz
 ·obtain⟨u,u1,u2⟩:=hr a ha
  obtain⟨v,v1,v2⟩:=hr b hb
  exact hab (wi_sib hA.zero u2 v2 (all_wi hA u1 hy) (all_wi hA v1 hy2))
theorem mem_roots (hA:WfA A roots []):∀(c y:Nat) {s:Sl},A y=some s->Ch A y c->∃z∈roots,Wi A z y
 | 0,y,s,hy,hc=>by cases hc;exact absurd rfl (hA.ne0 hy)
 | c+1,y,s,hy,hc=>by
  have hmem:=hA.mem y s hy sm
  rcases hA.par y s hy with h0 | ⟨u,hu,_⟩
  ·rw [h0,lstA_zero] at hmem
   exact⟨y,hmem,.self⟩
  ·have hch:Ch A s.parent c:=by
    cases hc with
    | succ _ ha h3=>rw [hy] at ha;cases ha;exact h3
   obtain⟨z,hz,hw⟩:=mem_roots hA c s.parent hu hch
   exact⟨z,hz,.up hy hw⟩
theorem mem_all_roots (hA:WfA A roots []) {y:Nat}:y∈roots.flatMap (allA A 65)↔∃s,A y=some s:=by
 constructor
 ·intro h
  obtain⟨z,hz,hy⟩:=mfm.1 h
  obtain⟨_,u,u1,u2⟩:=hA.root.2 z hz
  exact all_live hA ⟨u,u1⟩ (fun z hz=>by simp at hz) hy
 ·rintro ⟨s,hs⟩
  obtain⟨c,c1,c2⟩:=hA.chain y s hs
  obtain⟨z,hz,hw⟩:=mem_roots hA c y hs c2
  obtain⟨_,u,u1,u2⟩:=hA.root.2 z hz
  exact mfm.2 ⟨z,hz,(mem_all hA ⟨u,u1⟩ (fun z hz=>by simp at hz) (.succ (hA.ne0 u1) u1 (by rw [u2];exact .zero)) om).2 hw⟩
theorem rootsAll_few (hS:WfS D.sl) (hA:WfA (slA D.sl) D.roots []):(D.roots.flatMap (allA (slA D.sl) 65)).length<=4096:=
 nlt (live_few (fun y hy=>(mem_all_roots hA).1 hy) (rootsAll_nodup hA)) hS.few
end
section
variable {A A0:Nat->Option Sl}{roots roots0:List Nat}{D:Im}{E E':Nat->Option (Nat × Nat)}
structure Att (A0:Nat->Option Sl) (roots0:List Nat) (A:Nat->Option Sl) (roots:List Nat) (n:Nat) (s:Sl):Prop where
 w0:WfA A0 roots0 []
 w:WfA A roots []
 at_:A n=some s
 new:A0 n=none
 rt:setR roots s.parent ((lstA A roots s.parent).erase n)=roots0
 old:∀y t,A0 y=some t->setA A s.parent ((lstA A roots s.parent).erase n) y=some t
variable {n:Nat}{s:Sl}
theorem setA_live {A:Nat->Option Sl}{p y:Nat}{l:List Nat}{t:Sl} (h:setA A p l y=some t):∃u,A y=some u/\u.parent=t.parent:=by
 obtain⟨u,h1,h2⟩:=setA_some h
 refine⟨u,h1,?_⟩
 rw [h2];split <;> rfl
theorem Att.live (h:Att A0 roots0 A roots n s) {y:Nat}{t:Sl} (hy:A0 y=some t):∃u,A y=some u/\u.parent=t.parent:=setA_live (h.old y t hy)
theorem Att.apart (h:Att A0 roots0 A roots n s) {y:Nat} (hw:Wi A n y):A0 y=none:=by
 induction hw with
 | self=>exact h.new
 | @up x u hx hw ih=>
  cases ha:A0 x with
  | none=>rfl
  | some t=>
   obtain⟨u',u1,u2⟩:=h.live ha
   rw [hx] at u1;cases u1
   rcases h.w0.par x t ha with e | ⟨v,hv,_⟩
   ·exfalso
    rw [u2,e] at hw
    cases hw with
    | self=>exact h.w.ne0 h.at_ rfl
    | up h0 _=>rw [h.w.zero] at h0;cases h0
   ·rw [u2,hv] at ih;cases ih
theorem Att.split (h:Att A0 roots0 A roots n s):∀(c y:Nat) {t:Sl},Ch A y c->A y=some t->¬Wi A n y->∃u,A0 y=some u
 | 0,y,t,hc,hy,_=>by cases hc;exact absurd rfl (h.w.ne0 hy)
 | c+1,y,t,hc,hy,hw=>by
  have hmem:=h.w.mem y t hy sm
  have hyn:y≠n:=fun e=>hw (by rw [e];exact .self)
  have hch:Ch A t.parent c:=by
   cases hc with
   | succ _ ha h3=>rw [hy] at ha;cases ha;exact h3
  rcases h.w.par y t hy with h0 | ⟨v,hv,_⟩
  ·rw [h0,lstA_zero] at hmem
   have:y∈roots0:=by
    rw [<-h.rt]
    unfold setR
    split
    ·rename_i hp
     rw [hp,lstA_zero]
     exact (List.mem_erase_of_ne hyn).2 hmem
    ·exact hmem
   obtain⟨_,u,u1,_⟩:=h.w0.root.2 y this
   exact⟨u,u1⟩
  ·have hq0:=h.w.ne0 hv
   obtain⟨u,hu⟩:=h.split c t.parent hch hv fun e=>hw (.up hy e)
   have hB:=h.old _ u hu
   rw [lstA_some hq0 hv] at hmem
   have:y∈u.kids:=by
    unfold setA at hB
    by_cases e:t.parent=s.parent/\s.parent≠0
    ·rw [if_pos e,hv] at hB
     cases hB
     show y∈(lstA A roots s.parent).erase n
     rw [<-e.1,lstA_some hq0 hv]
     exact (List.mem_erase_of_ne hyn).2 hmem
    ·rw [if_neg e,hv] at hB
     cases hB;exact hmem
   obtain⟨_,x,x1,_⟩:=(h.w0.kid _ u hu).2 y this
   exact⟨x,x1⟩
theorem Att.word (h:Att A0 roots0 A roots n s):(setR roots s.parent ((lstA A roots s.parent).erase n)).flatMap (wrd (setA A s.parent ((lstA A roots s.parent).erase n)) E 65)=roots0.flatMap (wrd A0 E 65):=by
 rw [h.rt]
 refine flat_congr fun z hz=>?_
 obtain⟨_,u,u1,_⟩:=h.w0.root.2 z hz
 refine wrd_congr2 h.w0 65 z u1 fun y hy=>⟨?_,rfl⟩
 obtain⟨t,ht⟩:=all_live h.w0 ⟨u,u1⟩ (fun z hz=>by simp at hz) hy
 rw [h.old y t ht,ht]
theorem Att.few (h:Att (slA D.sl) D.roots A roots n s) {D':Im} (hS:WfS D'.sl) (hA':A=slA D'.sl):(D.roots.flatMap (allA (slA D.sl) 65)).length+(allA A 65 n).length<=4096:=by
 rw [<-lap]
 refine nlt (live_few (sl:=D'.sl) (fun y hy=>?_) (List.nodup_append.2 ⟨rootsAll_nodup h.w0,all_nodup h.w 65 n ⟨s,h.at_⟩ (fun z hz=>by simp at hz),fun y hy z hz e=>?_⟩)) hS.few
 ·rw [<-hA']
  rcases List.mem_append.1 hy with hy | hy
  ·obtain⟨t,ht⟩:=(mem_all_roots h.w0).1 hy
   obtain⟨u,hu,_⟩:=h.live ht
   exact⟨u,hu⟩
  ·exact all_live h.w ⟨s,h.at_⟩ (fun z hz=>by simp at hz) hy
 ·subst e
  obtain⟨t,ht⟩:=(mem_all_roots h.w0).1 hy
  rw [h.apart (all_wi h.w h.at_ hz)] at ht;cases ht
theorem insAt_erase {l:List Nat}{k n:Nat} (hn:n∉l):(insAt l k n).erase n=l:=by
 unfold insAt
 rw [List.erase_append_right _ (fun e=>hn (List.mem_of_mem_take e)),List.erase_cons_head,tad]
theorem ins_att (hw:Wf D) {wh:Int}{a:Nat}{x:Tr} (h0:(insF D wh a x).2.2=0):∃s,Att (slA D.sl) D.roots (slA (insF D wh a x).1.sl) (insF D wh a x).1.roots (insF D wh a x).2.1 s:=by
 have hwf:=ins_wf hw wh a x
 unfold insF at h0 hwf |-
 by_cases h1:(placeF D wh a).2=1
 ·rw [if_pos h1] at h0;cases h0
 rw [if_neg h1] at h0 hwf |-
 by_cases h2:(lookF x 1 0).2≠0
 ·rw [if_pos h2] at h0;exact absurd h0 h2
 rw [if_neg h2] at h0 hwf |-
 by_cases h3:(placeF D wh a).2≠0
 ·rw [if_pos h3] at h0;exact absurd h0 h3
 rw [if_neg h3] at h0 hwf |-
 by_cases h4:64<cntI D (placeF D wh a).1+dpT x
 ·rw [if_pos h4] at h0;cases h0
 rw [if_neg h4] at h0 hwf |-
 by_cases h5:4096<tk D.sl+szT x
 ·rw [if_pos h5] at h0;cases h0
 rw [if_neg h5] at hwf |-
 obtain⟨p1,p2,p3,p4,p5,p6⟩:=place_ok hw (by simpa using h3)
 obtain⟨k1,k2,k3,k4⟩:=look_ok x 1 0 (by simpa using h2)
 obtain⟨c1,c2⟩:=hw.cnt (p1.imp id fun⟨t,h,_⟩=>⟨t,h⟩)
 have M:=make_wf x k1 hw.s hw.a p1 c2 om om
 obtain⟨st,st1,st2⟩:=M.top
 generalize placeF D wh a=pr at *
 obtain⟨p,pe⟩:=pr
 dsimp only at *
 have hne0:freshH D.sl≠0:=by unfold freshH hnd;omega
 have hpe:p=0\/∃t,slA (makeF x p D.sl) p=some t:=p1.imp id fun⟨t,ht,_⟩=>⟨t,M.ext _ _ ht⟩
 have hnp:freshH D.sl≠p:=fun e=>by
  rcases p1 with e1 | ⟨t,ht,_⟩
  ·exact hne0 (e.trans e1)
  ·rw [<-e,M.new] at ht;cases ht
 have hlst:lstI { D with sl:=makeF x p D.sl } p=lstI D p:=by
  unfold lstI lstA
  by_cases h0:p=0
  ·rw [if_pos h0,if_pos h0]
  ·rw [if_neg h0,if_neg h0]
   obtain⟨t,ht,_⟩:=p1.resolve_left h0
   rw [ht]
   dsimp only
   rw [M.ext _ _ ht]
 have hnl:freshH D.sl∉lstI D p:=fun hm=>by
  obtain⟨_,t,ht,_⟩:=(hw.a.lst p).2 _ hm
  rw [M.new] at ht;cases ht
 obtain⟨X,hX⟩:∃X,X=insAt (lstI D p) (posF wh a (lstI D p)) (freshH D.sl):=⟨_,rfl⟩
 have hput:putI { D with sl:=makeF x p D.sl } (freshH D.sl) p wh a=setI { D with sl:=makeF x p D.sl } p X:=by unfold putI;rw [hlst,<-hX]
 rw [hput] at hwf |-
 obtain⟨e1,e2⟩:=setI_A (D:={ D with sl:=makeF x p D.sl }) (l:=X) hpe
 have e1:slA (setI { D with sl:=makeF x p D.sl } p X).sl=setA (slA (makeF x p D.sl)) p X:=e1
 have e2:(setI { D with sl:=makeF x p D.sl } p X).roots=setR D.roots p X:=e2
 have hXe:X.erase (freshH D.sl)=lstI D p:=by rw [hX];exact insAt_erase hnl
 have hL:lstA (setA (slA (makeF x p D.sl)) p X) (setR D.roots p X) p=X:=by
  rw [lst_setA hpe M.wf.zero,if_pos rfl]
 refine⟨st,hw.a,hwf.a,?_,M.new,?_,fun y t hy=>?_⟩
 ·rw [e1,setA_of st1,if_neg (fun e=>hnp e.1)]
 ·rw [e1,e2,st2,hL,hXe]
  unfold setR
  by_cases h0:p=0
  ·rw [if_pos h0,h0];unfold lstI;exact lstA_zero
  ·rw [if_neg h0,if_neg h0]
 ·rw [e1,e2,st2,hL,hXe]
  have hy':=M.ext y t hy
  unfold setA
  by_cases hc:y=p/\p≠0
  ·rw [if_pos hc,if_pos hc,hy']
   have:lstI D p=t.kids:=by unfold lstI;rw [<-hc.1] ;exact lstA_some (by rw [hc.1];exact hc.2) hy
   simp only [oms,this]
  ·rw [if_neg hc,if_neg hc];exact hy'
end
structure LIv (k:Nat) (w:Wd) (o:Nat->Nat) (g:Nat) (ty:TypeId) (S:PS) (nms:List Nat) (gv:Nat) (E:Nat->Option (Nat × Nat)):Prop where
 x:LX w o g ty S nms gv E
 pi:PI S
 word:nms=0 :: S.D.roots.flatMap (wrd (slA S.D.sl) E 65)
 def1:∀y,E y≠none->∃s,slA S.D.sl y=some s
 def2:∀y s,slA S.D.sl y=some s->E y≠none
 gv_:gv<=8192*k
def LD (k:Nat) (g:Nat) (ty:TypeId) (w:Wd) (o:Nat->Nat) (D:Im):Prop:=∃S nms gv E,S.D=D/\LIv k w o g ty S nms gv E
section
variable {w w1 w2:Wd}{o o1 o2:Nat->Nat}{g k:Nat}{ty:TypeId}{S:PS}{bs nms lbs:List Nat}{mb gv:Nat}{wr:Int}{em:Option Nat}{E E':Nat->Option (Nat × Nat)}{M:Nat->Prop}{R:RT}{θ:Th}{D:Im}
theorem EvL.a (h:EvL w o w1 o1):EvA w o w1 o1:=⟨h.fm.mono fun b _ e=>by omega,h.old⟩
theorem EvC.a (h:EvP w o w1 o1):EvA w o w1 o1:=⟨h.fm.mono fun b _ e=>by unfold pc at e;omega,h.old⟩
theorem EvA.tr (h:EvA w o w1 o1) (k:EvA w1 o1 w2 o2):EvA w o w2 o2:=
 ⟨⟨k.fm.os.trans h.fm.os,k.fm.tape.trans h.fm.tape,k.fm.output.trans h.fm.output,nlt h.fm.size k.fm.size,fun b hb hn=>by
  have h0:o b=0:=byc fun e=>hn e
  rw [k.fm.block b (nll hb h.fm.size) (fun e=>e (h.old b hb h0)),h.fm.block b hb hn]⟩,fun b hb h0=>k.old b (nll hb h.fm.size) (h.old b hb h0)⟩
theorem EvA.below (hb:Below w.heap.size w w1):EvA w o w1 o:=⟨.below hb,fun _ _ h=>h⟩
theorem last_eq {X Y X' Y':List Nat}{ah:Nat} (hn:(X++Y).Nodup) (he:X++Y=X'++Y') (h1:X.getLast?=some ah) (h2:X'.getLast?=some ah):X=X'/\Y=Y':=by
 have p1:X≠[]:=fun e=>by rw [e] at h1;cases h1
 have p2:X'≠[]:=fun e=>by rw [e] at h2;cases h2
 have l1:0<X.length:=List.length_pos_iff.2 p1
 have l2:0<X'.length:=List.length_pos_iff.2 p2
 have g1:(X++Y)[X.length-1]?=some ah:=by rw [gal om,<-List.getLast?_eq_getElem?];exact h1
 have g2:(X++Y)[X'.length-1]?=some ah:=by rw [he,gal om,<-List.getLast?_eq_getElem?];exact h2
 have:=nd_get hn g1 g2
 exact List.append_inj he om
theorem ins_err {wh:Int}{a:Nat}{x:Tr} (h:(insF D wh a x).2.2≠0):(insF D wh a x).1=D:=by
 unfold insF at h |-
 split
 ·rfl
 split
 ·rfl
 split
 ·rfl
 split
 ·rfl
 split
 ·rfl
 ·exfalso
  rename_i h1 h2 h3 h4 h5
  rw [if_neg h1,if_neg h2,if_neg h3,if_neg h4,if_neg h5] at h
  exact h rfl
theorem retag {n:Nat}{s:Sl}{A0:Nat->Option Sl}{roots0:List Nat} (h:LX w o g ty S nms gv E) (hS:WfS S.D.sl) (hAt:Att A0 roots0 (slA S.D.sl) S.D.roots n s) (hword:nms=0 :: roots0.flatMap (wrd A0 E 65)) (hE1:∀y,E y≠none->∃t,A0 y=some t) (hE2:∀y t,A0 y=some t->E y≠none)
  (hfew:(roots0.flatMap (allA A0 65)).length+(allA (slA S.D.sl) 65 n).length<=4096) (hgv:gv<9007199254740992)
  (hK:∀w' o' nms' E' v,LX w' o' g ty S nms' (gv+2*(allA (slA S.D.sl) 65 n).length) E'->nms'=0 :: S.D.roots.flatMap (wrd (slA S.D.sl) E' 65)->(∀y,E' y≠none->∃t,slA S.D.sl y=some t)->(∀y t,slA S.D.sl y=some t->E' y≠none)->EvA w o w' o'->R (.returned (.int .u64 (v:Nat))) w') :
  CL 65 #[.pointer (some ⟨g,0,none⟩),.int .u64 (n:Nat),.int .u64 (aheadF S.D E n:Nat)] w R:=by
 have hn:=hAt.at_
 have hE0:E 0=none:=byc fun e=>by
  obtain⟨t,ht⟩:=hE1 0 e
  rw [hAt.w0.zero] at ht;cases ht
 have hah:aheadF S.D E n=if (lstA (slA S.D.sl) S.D.roots s.parent).idxOf n=0 then (eN E s.parent).1 else (eN E ((lstA (slA S.D.sl) S.D.roots s.parent).getD ((lstA (slA S.D.sl) S.D.roots s.parent).idxOf n-1) 0)).2:=by
  unfold aheadF;rw [hn];rfl
 obtain⟨X,Y,-,b1,l1⟩:=attach (E:=E) (E':=E) hAt.w hn hE0 (fun _ _=>rfl)
 rw [<-hah] at l1
 rw [hAt.word,<-hword] at b1
 obtain⟨lbs,hI⟩:=h.I
 have hnd:(X++Y).Nodup:=by rw [<-b1];exact hI.nd
 have p1:X≠[]:=fun e=>by rw [e] at l1;cases l1
 have lx:0<X.length:=List.length_pos_iff.2 p1
 have hi:nms[X.length-1]?=some (aheadF S.D E n):=by rw [b1,gal om,<-List.getLast?_eq_getElem?];exact l1
 obtain⟨c,c1,c2⟩:=hAt.w.chain n s hn
 have hlen:nms.length=1+2*(roots0.flatMap (allA A0 65)).length:=by
  rw [hword,lcn,flat_len2 (h:=allA A0 65) fun y hy=>by
   obtain⟨_,u,u1,u2⟩:=hAt.w0.root.2 y hy
   exact wrd_len hAt.w0 65 y 1 u1 (.succ (hAt.w0.ne0 u1) u1 (by rw [u2];exact .zero)) om]
  omega
 refine tag_calls hAt.w 65 n c hn c2 om h hi om om fun w' o' E' h' ev z1 z2=>?_
 have hmem:∀y,y∈allA (slA S.D.sl) 65 n↔Wi (slA S.D.sl) n y:=fun y=>mem_all hAt.w ⟨s,hn⟩ (fun z hz=>by simp at hz) c2 om
 have hEE:∀y,¬Wi (slA S.D.sl) n y->E' y=E y:=fun y hy=>z1 y fun e=>hy ((hmem y).1 e)
 obtain⟨X',Y',a2,b2,l2⟩:=attach (E:=E) (E':=E') hAt.w hn hE0 hEE
 rw [<-hah] at l2
 rw [hAt.word,<-hword] at b2
 obtain⟨q1,q2⟩:=last_eq hnd (by rw [<-b1,b2]) l1 l2
 subst q1 q2
 have e1:nms.take (X.length-1+1)=X:=by rw [b1,show X.length-1+1=X.length by omega,List.take_left]
 have e2:nms.drop (X.length-1+1)=Y:=by rw [b1,show X.length-1+1=X.length by omega,List.drop_left]
 rw [e1,e2] at h'
 refine hK w' o' _ E' _ h'.x a2.symm (fun y hy=>?_) (fun y t ht=>?_) ev.a
 ·by_cases hwy:Wi (slA S.D.sl) n y
  ·exact all_live hAt.w ⟨s,hn⟩ (fun z hz=>by simp at hz) ((hmem y).2 hwy)
  ·rw [hEE y hwy] at hy
   obtain⟨t,ht⟩:=hE1 y hy
   obtain⟨u,hu,_⟩:=hAt.live ht
   exact⟨u,hu⟩
 ·by_cases hwy:Wi (slA S.D.sl) n y
  ·exact z2 y ((hmem y).2 hwy)
  ·rw [hEE y hwy]
   obtain⟨cy,cy1,cy2⟩:=hAt.w.chain y t ht
   obtain⟨u,hu⟩:=hAt.split cy y cy2 ht hwy
   exact hE2 y u hu
end
section
variable {w w1 w2:Wd}{o o1 o2:Nat->Nat}{g k:Nat}{ty:TypeId}{M:Nat->Prop}{R:RT}{D:Im}
theorem insertL_calls (h:LD k g ty w o D) (hk:k<1099511627776) (hw:Wf D) (hT:Tabs (wc o w)) {x:Tr}{e:E5} (hx:RTr (wc o w) x e) {wh:Int}{a:Nat} (ha:a<18446744073709551616)
  (hK:∀w' o',LD (k+1) g ty w' o' (insF D wh a x).1->EvA w o w' o'->R (.returned (.tuple #[.int .u64 ((insF D wh a x).2.1:Nat),.int .i64 (insF D wh a x).2.2])) w') :
  CL 26 #[.pointer (some ⟨g,0,none⟩),.int .i64 wh,.int .u64 (a:Nat),.agg #[.int .i64 e.kind,.string e.nm,slV e.ats,.string e.text,slV e.kids]] w R:=by
 refine ok26 (some ⟨g,0,none⟩) wh a e.kind e.nm e.ats.1 e.ats.2.1 e.ats.2.2 e.text e.kids.1 e.kids.2.1 e.kids.2.2 ?_
 unfold F26
 obtain⟨S,nms,gv,E,rfl,hL⟩:=h
 refine al fun g7 w1 hb1 b7 hge7=>?_
 have hdr:Below w1.heap.size w1 w1.drew:=(Below.refl _ _).drew
 have B1:=btr hb1 hb1.size hdr
 refine⟨fun w'=>Below w1.heap.size w1 w',hdr,?_⟩
 simp only [nds]
 refine⟨_,fun w' hb=>by rw [(b7.keep hb).cell];rfl,?_⟩
 refine⟨_,fun w' hb=>by rw [(b7.keep hb).cell];rfl,?_⟩
 refine⟨_,_,_,fun w' hb=>by rw [(b7.keep hb).cell];rfl,?_⟩
 refine⟨_,fun w' hb=>by rw [(b7.keep hb).cell];rfl,?_⟩
 refine⟨_,_,_,fun w' hb=>by rw [(b7.keep hb).cell];rfl,?_⟩
 obtain⟨tl,hp,hback⟩:=(hL.x.below B1).tree
 have hsub:Sub (wc o w) (wc o w1.drew):=EvP.sub (EvC.below B1)
 refine insert_calls (e:=e) hp hL.pi hw (hT.sub hsub) (RTr.sub hsub _ _ hx) ha fun w2 o2 S2 p2 i2 d2 ev2=>⟨_,_,rfl,?_⟩
 have hx2:=hback w2 o2 S2 p2 ev2
 have E2:EvA w o w2 o2:=(EvA.below B1).tr (EvC.a ev2)
 have hgv:=hL.gv_
 refine⟨fun w'=>∃o',LD (k+1) g ty w' o' (insF S.D wh a x).1/\EvA w o w' o',?_,?_⟩
 ·rintro w3 ⟨o3,h3,e3⟩
  unfold F26_j4
  exact hK w3 o3 h3 e3
 ·refine bre (fun h0=>?_) (fun h0=>?_)
  ·obtain⟨s,hAt⟩:=ins_att hw (wh:=wh) (a:=a) (x:=x) h0
   have hw2:=ins_wf hw wh a x
   rw [<-d2] at hAt hw2 |-
   have hfew:=hAt.few (D':=S2.D) hw2.s rfl
   generalize (insF S.D wh a x).2.1=n at *
   refine ahead_calls hx2 hAt.w hAt.at_ fun w3 hb3=>⟨_,rfl,?_⟩
   refine retag (hx2.below hb3) hw2.s hAt hL.word hL.def1 hL.def2 hfew om fun w4 o4 nms' E' v h4 q1 q2 q3 ev4=>⟨_,rfl,o4,⟨S2,nms',_,E',rfl,h4,i2,q1,q2,q3,?_⟩,(E2.tr (EvA.below hb3)).tr ev4⟩
   omega
  ·have hD:S2.D=S.D:=by rw [d2];exact ins_err h0
   refine⟨o2,⟨S2,nms,gv,E,d2,hx2,i2,by rw [hD];exact hL.word,by rw [hD];exact hL.def1,by rw [hD];exact hL.def2,om⟩,E2⟩
end
section
variable {A:Nat->Option Sl}{E E':Nat->Option (Nat × Nat)}{roots loose:List Nat}
def prE (E:Nat->Option (Nat × Nat)) (y:Nat):List Nat:=[(eN E y).1,(eN E y).2]
theorem wrd_perm (hA:WfA A roots loose):∀(r n:Nat) {s:Sl},A n=some s->(wrd A E r n).Perm ((allA A r n).flatMap (prE E))\/r=0
 | 0,n,s,_=>.inr rfl
 | r+1,n,s,hn=>by
  left
  rw [wrd_some hn,allA_some hn,fmc]
  have h1:(s.kids.flatMap (wrd A E r)).Perm ((s.kids.flatMap (allA A r)).flatMap (prE E)):=by
   rw [List.flatMap_assoc]
   refine flatMap_perm _ fun y hy=>?_
   obtain⟨t,ht,_⟩:=((hA.kid n s hn).2 y hy).2
   rcases wrd_perm hA r y ht with h | h
   ·exact h
   ·subst h;exact List.Perm.refl _
  show ((eN E n).1 :: s.kids.flatMap (wrd A E r)++[(eN E n).2]).Perm ((eN E n).1 :: (eN E n).2 :: _)
  rw [List.cons_append]
  refine List.Perm.cons _ ?_
  exact (List.perm_append_comm).trans (List.Perm.cons _ h1)
theorem pr_apart:∀(l:List Nat),(l.flatMap (prE E)).Nodup->(∀y∈l,(eN E y).1≠(eN E y).2)/\∀y∈l,∀z∈l,y≠z->∀a∈prE E y,a∉prE E z
 | [],_=>⟨fun y hy=>by simp at hy,fun y hy=>by simp at hy⟩
 | x :: l,h=>by
  rw [fmc] at h
  obtain⟨h1,h2,h3⟩:=List.nodup_append.1 h
  obtain⟨i1,i2⟩:=pr_apart l h2
  have hx:(eN E x).1≠(eN E x).2:=by unfold prE at h1;simpa using h1
  refine⟨fun y hy=>?_,fun y hy z hz hyz a ha hb=>?_⟩
  ·rcases mcn.1 hy with rfl | hy
   ·exact hx
   ·exact i1 y hy
  ·rcases mcn.1 hy with e1 | hy <;> rcases mcn.1 hz with e2 | hz
   ·exact hyz (e1.trans e2.symm)
   ·rw [e1] at ha
    exact h3 a ha a (mfm.2 ⟨z,hz,hb⟩) rfl
   ·rw [e2] at hb
    exact h3 a hb a (mfm.2 ⟨y,hy,ha⟩) rfl
   ·exact i2 y hy z hz hyz a ha hb
theorem untagN_filter:∀(l nms:List Nat),nms.Nodup->untagN E l nms=nms.filter fun x=>decide (x∉l.flatMap (prE E))
 | [],nms,_=>by rw [untagN];exact (List.filter_eq_self.2 fun x _=>by simp).symm
 | y :: l,nms,h=>by
  rw [untagN,untagN_filter l _ ((h.erase _).erase _),(h.erase _).erase_eq_filter,h.erase_eq_filter,List.filter_filter,List.filter_filter]
  refine List.filter_congr fun x hx=>?_
  rw [fmc]
  unfold prE
  rw [Bool.eq_iff_iff]
  simp only [bae,dete,bne_iff_ne,List.mem_append,mcn,List.not_mem_nil,or_false,not_or]
  constructor
  ·intro h;exact⟨⟨h.2,h.1.2⟩,h.1.1⟩
  ·intro h;exact⟨⟨h.2,h.1.2⟩,h.1.1⟩
theorem untag_word {l X wn Y:List Nat} (hn:(X++wn++Y).Nodup) (hp:∀x,x∈wn↔x∈l.flatMap (prE E)):untagN E l (X++wn++Y)=X++Y:=by
 rw [untagN_filter l _ hn,List.filter_append,List.filter_append]
 obtain⟨h1,h2,h3⟩:=List.nodup_append.1 hn
 obtain⟨h4,h5,h6⟩:=List.nodup_append.1 h1
 have e1:X.filter (fun x=>decide (x∉l.flatMap (prE E)))=X:=List.filter_eq_self.2 fun x hx=>by
  rw [dete,<-hp];exact fun h=>h6 x hx x h rfl
 have e2:wn.filter (fun x=>decide (x∉l.flatMap (prE E)))=[]:=List.filter_eq_nil_iff.2 fun x hx=>by
  rw [dete,<-hp];exact fun h=>h hx
 have e3:Y.filter (fun x=>decide (x∉l.flatMap (prE E)))=Y:=List.filter_eq_self.2 fun x hx=>by
  rw [dete,<-hp];exact fun h=>h3 x (by simp [h]) x hx rfl
 rw [e1,e2,e3];simp
theorem tgd_of (hA:WfA A roots []) {n:Nat}{s:Sl} (hn:A n=some s) {X Y:List Nat} (hnd:(X++wrd A E 65 n++Y).Nodup) (h0:0∈X) (hE:∀y s,A y=some s->E y≠none):Tgd E (X++wrd A E 65 n++Y) (allA A 65 n)/\∀x,x∈wrd A E 65 n↔x∈(allA A 65 n).flatMap (prE E):=by
 have hpm:=(wrd_perm (E:=E) hA 65 n hn).resolve_right dc
 have hmem:∀x,x∈wrd A E 65 n↔x∈(allA A 65 n).flatMap (prE E):=fun x=>hpm.mem_iff
 obtain⟨h1,h2,h3⟩:=List.nodup_append.1 hnd
 obtain⟨h4,h5,h6⟩:=List.nodup_append.1 h1
 obtain⟨a1,a2⟩:=pr_apart _ (hpm.nodup_iff.1 h5)
 have hin:∀y∈allA A 65 n,∀a∈prE E y,a∈wrd A E 65 n:=fun y hy a ha=>(hmem a).2 (mfm.2 ⟨y,hy,ha⟩)
 have hne:∀a∈wrd A E 65 n,a≠0:=fun a ha e=>by subst e;exact h6 0 h0 0 ha rfl
 refine⟨⟨all_nodup hA 65 n ⟨s,hn⟩ (fun z hz=>by simp at hz),fun y hy=>?_,fun y hy=>?_,fun y hy z hz hyz=>?_⟩,hmem⟩
 ·obtain⟨t,ht⟩:=all_live hA ⟨s,hn⟩ (fun z hz=>by simp at hz) hy
  exact Option.ne_none_iff_exists'.1 (hE y t ht)
 ·have m1:=hin y hy (eN E y).1 (by simp [prE])
  have m2:=hin y hy (eN E y).2 (by simp [prE])
  exact⟨by simp [m1],by simp [m2],hne _ m1,hne _ m2,a1 y hy⟩
 ·have:=a2 y hy z hz hyz
  unfold prE at this
  simp only [mcn,List.not_mem_nil,or_false,not_or,forall_eq_or_imp,forall_eq] at this
  exact⟨this.1.1,this.1.2,this.2.1,this.2.2⟩
end
section
variable {w w1 w2:Wd}{o o1 o2:Nat->Nat}{g k:Nat}{ty:TypeId}{M:Nat->Prop}{R:RT}{D:Im}{E:Nat->Option (Nat × Nat)}{S:PS}{θ:Th}
theorem AllT0_calls (h:PM w o θ S) (hS:WfS S.D.sl) (hA:WfA (slA S.D.sl) S.D.roots [])
  (hK:∀v' w',Below w.heap.size w w'->R (.returned (.tuple #[slV v',.int .i64 0])) w'):CL 90 #[.pointer (some ⟨θ.g,0,none⟩),.int .u64 0] w R:=by
 refine ok90 (some ⟨θ.g,0,none⟩) 0 ?_
 unfold F90
 refine bre (fun _=>?_) (fun e=>absurd rfl e)
 obtain⟨nv,rv,hd⟩:=h.doc
 obtain⟨A,c,hvf,hrd⟩:=hd.r1.form
 have e1:=slvF hvf
 have cv':w.cell? ⟨θ.g,1,none⟩=some (.slice rv.1 rv.2.1 rv.2.2):=by rw [hd.blk.cell];rfl
 simp only [NonNil_some,cv',lds]
 have hf:=rootsAll_few hS hA
 refine allP_calls h hA 65 (l:=S.D.roots) (v:=rv) (cc:=1) (xs:=[]) (by rw [e1];simp) (by rw [e1];exact hrd) h.rts.2 (fun y hy=>by
  obtain⟨_,t,ht,tp⟩:=hA.root.2 y hy
  exact⟨t,ht,.succ (hA.ne0 ht) ht (by rw [tp];exact .zero)⟩) om (Below.refl _ _) (.inl ⟨rfl,rfl⟩) (by simp only [List.length_nil];omega) fun A' n' c' w' hb' ho'=>⟨A',n',c',rfl,hK (A',n',c') w' hb'⟩
theorem del_word (hw:Wf D) {n:Nat}{s:Sl} (hn:slA D.sl n=some s):(delF D n).1.roots.flatMap (wrd (slA (delF D n).1.sl) (dropE E (allA (slA D.sl) 65 n)) 65)=(setR D.roots s.parent ((lstA (slA D.sl) D.roots s.parent).erase n)).flatMap (wrd (setA (slA D.sl) s.parent ((lstA (slA D.sl) D.roots s.parent).erase n)) E 65)/\(∀y,(∃t,slA (delF D n).1.sl y=some t)↔y∉allA (slA D.sl) 65 n/\∃t,slA D.sl y=some t):=by
 have hwf:=del_wf hw n
 obtain⟨o1,o2,o3,o4⟩:=out_wf hw hn
 have hl0:∀z,z∈([]:List Nat)->z=n\/¬Wi (slA D.sl) n z:=fun z hz=>by simp at hz
 have hpa:∀x t,slA D.sl x=some t->∃u,slA (outI D n).sl x=some u/\u.parent=t.parent:=by rw [o3];exact setA_pa
 obtain⟨r1,r2⟩:=killF_A (allA (slA D.sl) 65 n) (outI D n).sl o1 (all_nodup hw.a 65 n ⟨s,hn⟩ hl0) fun x hx=>by
  obtain⟨t,ht⟩:=all_live hw.a ⟨s,hn⟩ hl0 hx
  obtain⟨u,hu,_⟩:=hpa x t ht
  exact⟨u,hu⟩
 have hD:(delF D n).1={ outI D n with sl:=killF (outI D n).sl (allA (slA D.sl) 65 n) }:=by unfold delF;rw [hn]
 rw [hD] at hwf |-
 dsimp only at hwf |-
 have o4':(outI D n).roots=setR D.roots s.parent ((lstA (slA D.sl) D.roots s.parent).erase n):=o4
 have o3':slA (outI D n).sl=setA (slA D.sl) s.parent ((lstA (slA D.sl) D.roots s.parent).erase n):=o3
 constructor
 ·rw [<-o4',<-o3']
  refine flat_congr fun z hz=>?_
  obtain⟨_,u,u1,_⟩:=hwf.a.root.2 z hz
  refine (wrd_congr2 hwf.a 65 z u1 fun y hy=>?_).symm
  obtain⟨t,ht⟩:=all_live hwf.a ⟨u,u1⟩ (fun z hz=>by simp at hz) hy
  have ht':slA (killF (outI D n).sl (allA (slA D.sl) 65 n)) y=some t:=ht
  have hyL:y∉allA (slA D.sl) 65 n:=fun e=>by rw [r2,if_pos e] at ht';cases ht'
  refine⟨?_,?_⟩
  ·show slA (outI D n).sl y=slA (killF (outI D n).sl (allA (slA D.sl) 65 n)) y
   rw [r2,if_neg hyL]
  ·unfold dropE;rw [if_neg hyL]
 ·intro y
  rw [r2]
  by_cases hyL:y∈allA (slA D.sl) 65 n
  ·rw [if_pos hyL]
   exact⟨fun⟨t,ht⟩=>(by cases ht),fun h=>absurd hyL h.1⟩
  ·rw [if_neg hyL,o3']
   constructor
   ·rintro ⟨t,ht⟩
    obtain⟨u,hu,_⟩:=setA_live ht
    exact⟨hyL,u,hu⟩
   ·rintro ⟨_,t,ht⟩
    obtain⟨u,hu,_⟩:=setA_of' (p:=s.parent) (l:=(lstA (slA D.sl) D.roots s.parent).erase n) ht
    exact⟨u,hu⟩
theorem deleteL_calls (h:LD k g ty w o D) (hk:k<1099511627776) (hw:Wf D) {n:Nat} (hn:n<18446744073709551616)
  (hK:∀w' o',LD (k+1) g ty w' o' (delF D n).1->EvA w o w' o'->R (.returned (.int .i64 (delF D n).2)) w') :
  CL 146 #[.pointer (some ⟨g,0,none⟩),.int .u64 (n:Nat)] w R:=by
 refine ok146 (some ⟨g,0,none⟩) n ?_
 unfold F146
 obtain⟨S,nms,gv,E,rfl,hL⟩:=h
 obtain⟨tl,hp,hback⟩:=hL.x.tree
 have hgv:=hL.gv_
 have hbad:slA S.D.sl n=none->∀w',Below w.heap.size w w'->R (.returned (.int .i64 8)) w':=fun hs w' hb=>by
  have e:delF S.D n=(S.D,8):=by unfold delF;rw [hs]
  rw [e] at hK
  exact hK w' o ⟨S,nms,gv,E,rfl,hL.x.below hb,hL.pi,hL.word,hL.def1,hL.def2,om⟩ (EvA.below hb)
 rw [NonNil_some]
 by_cases h0:n=0
 ·subst h0
  refine AllT0_calls (θ:=⟨g,ty,tl⟩) hp hw.s hw.a fun v w1 hb1=>⟨_,_,_,_,rfl,fun _=>False,fun _ h=>h.elim,brn (fun e=>absurd rfl e) fun _=>bre (fun _=>hbad (slA_zero _) w1 hb1) fun e=>absurd rfl e⟩
 refine AllT_calls (θ:=⟨g,ty,tl⟩) hp hw.s hw.a hn h0 fun v w1 hb1 hv=>⟨_,_,_,_,rfl,?_⟩
 cases hs:slA S.D.sl n with
 | none=>
  refine⟨fun _=>False,fun _ h=>h.elim,?_⟩
  rw [if_neg sm]
  exact brn (fun _=>hbad hs w1 hb1) (fun e=>absurd e dc)
 | some s=>
 have hv:=hv s hs
 refine⟨fun w'=>w1=w',?_,?_⟩
 rotate_left
 ·rw [if_pos sm]
  exact brn (fun e=>absurd rfl e) fun _=>bre (fun e=>absurd om h0) fun _=>rfl
 rintro _ rfl
 unfold F146_j4
 have hx1:=hL.x.below hb1
 have hE0:E 0=none:=byc fun e=>by
  obtain⟨t,ht⟩:=hL.def1 0 e
  rw [hw.a.zero] at ht;cases ht
 obtain⟨X,Y,a1,b1,l1⟩:=attach (E:=E) (E':=E) hw.a hs hE0 (fun _ _=>rfl)
 obtain⟨lbs0,hI⟩:=hL.x.I
 have hnm:nms=X++wrd (slA S.D.sl) E 65 n++Y:=by rw [hL.word];exact a1
 have hXne:X≠[]:=fun e=>by rw [e] at l1;cases l1
 have h0X:0∈X:=by
  cases X with
  | nil=>exact absurd rfl hXne
  | cons x X=>
   have:=hI.h0
   rw [hnm] at this
   have:x=0:=by simpa using this
   rw [this];exact List.mem_cons_self ..
 obtain⟨hT,hmem⟩:=tgd_of (E:=E) hw.a hs (X:=X) (Y:=Y) (by rw [<-hnm];exact hI.nd) h0X hL.def2
 have hfew:(allA (slA S.D.sl) 65 n).length<=4096:=all_fewP hw.s hw.a ⟨s,hs⟩
 obtain⟨dw1,dw2⟩:=del_word (E:=E) hw hs
 rcases hx1 with ⟨bs,lbs,mb,wr,em,hM⟩ | ⟨-,-,-,hz⟩
 rotate_left
 ·exact absurd (hz n) (hL.def2 n s hs)
 cases em with
 | none=>exact absurd (hM.e n) (hL.def2 n s hs)
 | some eb=>
 have hlt:=hL.x.lt
 refine untag_calls (v:=v) hM hv (fun b hb=>byc fun e=>by have:=hlt b e;have:=(hv.lt b hb).1;omega) om (by rw [hnm];exact hT) fun w2 bs2 lbs2 h2 ev2=>⟨rfl,?_⟩
 rw [NonNil_some]
 have hx2:LX w2 o g ty S (untagN E (allA (slA S.D.sl) 65 n) nms) gv (dropE E (allA (slA S.D.sl) 65 n)):=.inl ⟨bs2,lbs2,mb,wr,some eb,h2⟩
 obtain⟨tl2,hp2,hback2⟩:=hx2.tree
 refine delete_calls (θ:=⟨g,ty,tl2⟩) hp2 hL.pi hw hn fun w3 o3 S3 p3 i3 d3 ev3=>⟨_,rfl,?_⟩
 have hx3:=hback2 w3 o3 S3 p3 ev3
 refine hK w3 o3 ⟨S3,_,gv,_,d3,hx3,i3,?_,fun y hy=>?_,fun y t ht=>?_,om⟩ (((EvA.below hb1).tr ev2.a).tr (EvC.a ev3))
 ·rw [d3,dw1,b1,hnm]
  exact untag_word (by rw [<-hnm];exact hI.nd) hmem
 ·rw [d3]
  unfold dropE at hy
  by_cases hyL:y∈allA (slA S.D.sl) 65 n
  ·rw [if_pos hyL] at hy;exact absurd rfl hy
  ·rw [if_neg hyL] at hy
   exact (dw2 y).2 ⟨hyL,hL.def1 y hy⟩
 ·rw [d3] at ht
  obtain⟨hyL,u,hu⟩:=(dw2 y).1 ⟨t,ht⟩
  unfold dropE
  rw [if_neg hyL]
  exact hL.def2 y u hu
end
section
variable {D:Im}{E:Nat->Option (Nat × Nat)}
theorem mov_att (hw:Wf D) {n a:Nat}{wh:Int} (h0:(movF D n wh a).2=0):∃s s',slA D.sl n=some s/\Att (slA (delF D n).1.sl) (delF D n).1.roots (slA (movF D n wh a).1.sl) (movF D n wh a).1.roots n s'/\(∀y,y∈allA (slA (movF D n wh a).1.sl) 65 n↔y∈allA (slA D.sl) 65 n):=by
 have hwf:=mov_wf hw n wh a
 have hdf:=del_wf hw n
 unfold movF at h0 hwf |-
 by_cases h1:(placeF D wh a).2=1
 ·rw [if_pos h1] at h0;cases h0
 rw [if_neg h1] at h0 hwf |-
 by_cases h2:slA D.sl n=none\/(placeF D wh a).2=8
 ·rw [if_pos h2] at h0;cases h0
 rw [if_neg h2] at h0 hwf |-
 by_cases h3:a≠0/\wiI D n a=true
 ·rw [if_pos h3] at h0;cases h0
 rw [if_neg h3] at h0 hwf |-
 by_cases h4:(placeF D wh a).2≠0
 ·rw [if_pos h4] at h0;exact absurd h0 h4
 rw [if_neg h4] at h0 hwf |-
 by_cases h5:64<cntI D (placeF D wh a).1+dpA (slA D.sl) 65 n
 ·rw [if_pos h5] at h0;cases h0
 rw [if_neg h5] at hwf |-
 obtain⟨s,hs⟩:∃s,slA D.sl n=some s:=by
  cases hs:slA D.sl n with
  | none=>exact absurd (.inl hs) h2
  | some s=>exact⟨s,rfl⟩
 have h4':(placeF D wh a).2=0:=by simpa using h4
 obtain⟨m1,m2,m3,m4⟩:=mov_facts hw hs h3 h4'
 obtain⟨p1,p2,p3,p4,p5,p6⟩:=place_ok hw h4'
 obtain⟨o1,o2,o3,o4⟩:=out_wf hw hs
 generalize placeF D wh a=pr at *
 obtain⟨p,pe⟩:=pr
 dsimp only at *
 have n0:=hw.a.ne0 hs
 have hs1:slA (outI D n).sl n=some s:=by rw [o3,setA_of hs,if_neg (fun e=>m3 e.1)]
 have pe1:p=0\/∃t,slA (outI D n).sl p=some t:=by
  rcases p1 with e | ⟨t,ht,_⟩
  ·exact .inl e
  ·rw [o3]
   obtain⟨u,u1,_⟩:=setA_of' (p:=s.parent) (l:=(lstI D s.parent).erase n) ht
   exact .inr ⟨u,u1⟩
 obtain⟨X,hX⟩:∃X,X=insAt (lstI (outI D n) p) (posF wh a (lstI (outI D n) p)) n:=⟨_,rfl⟩
 have hput:putI (outI D n) n p wh a=setI (outI D n) p X:=by unfold putI;rw [<-hX]
 rw [hput] at hwf |-
 obtain⟨e1,e2⟩:=setI_A (D:=outI D n) (l:=X) pe1
 have hs2:slA (setI (outI D n) p X).sl n=some s:=by rw [e1,setA_of hs1,if_neg (fun e=>m2 e.1)]
 have e3:∀y,slA (updI (setI (outI D n) p X) n fun s=>{ s with parent:=p }).sl y=if y=n then some { s with parent:=p } else slA (setI (outI D n) p X).sl y:=fun y=>by
  exact slA_modify (f:=fun s:Sl=>{ s with parent:=p }) hs2 rfl (show s.live=true from slA_live hs2) y
 have e4:(updI (setI (outI D n) p X) n fun s=>{ s with parent:=p }).roots=setR (outI D n).roots p X:=e2
 have hl0:∀z,z∈([]:List Nat)->z=n\/¬Wi (slA D.sl) n z:=fun z hz=>by simp at hz
 have hpa:∀x t,slA D.sl x=some t->∃u,slA (outI D n).sl x=some u/\u.parent=t.parent:=by rw [o3];exact setA_pa
 have hap:∀x t,slA (outI D n).sl x=some t->∃u,slA D.sl x=some u/\u.parent=t.parent:=by rw [o3];exact setA_ap
 obtain⟨r1,r2⟩:=killF_A (allA (slA D.sl) 65 n) (outI D n).sl o1 (all_nodup hw.a 65 n ⟨s,hs⟩ hl0) fun x hx=>by
  obtain⟨t,ht⟩:=all_live hw.a ⟨s,hs⟩ hl0 hx
  obtain⟨u,hu,_⟩:=hpa x t ht
  exact⟨u,hu⟩
 have hD:(delF D n).1={ outI D n with sl:=killF (outI D n).sl (allA (slA D.sl) 65 n) }:=by unfold delF;rw [hs]
 rw [hD] at hdf |-
 have hnL:n∈allA (slA D.sl) 65 n:=by rw [allA_some hs];exact List.mem_cons_self ..
 have hnl:n∉lstI (outI D n) p:=fun hm=>((o2.lst p).2 n hm).1 sm
 have hXe:X.erase n=lstI (outI D n) p:=by rw [hX];exact insAt_erase hnl
 have hA':slA (updI (setI (outI D n) p X) n fun s=>{ s with parent:=p }).sl=fun y=>if y=n then some { s with parent:=p } else setA (slA (outI D n).sl) p X y:=by
  funext y;rw [e3,e1]
 have hwa:=hwf.a
 rw [hA',e4] at hwa
 rw [hA',e4]
 have hL:lstA (fun y=>if y=n then some { s with parent:=p } else setA (slA (outI D n).sl) p X y) (setR (outI D n).roots p X) p=X:=by
  by_cases hp0:p=0
  ·subst hp0;rw [lstA_zero];unfold setR;rw [if_pos rfl]
  ·obtain⟨t,ht⟩:=pe1.resolve_left hp0
   have:(if p=n then some { s with parent:=p } else setA (slA (outI D n).sl) p X p)=some { t with kids:=X }:=by
    rw [if_neg (fun e=>m2 e.symm)]
    unfold setA;rw [if_pos ⟨rfl,hp0⟩,ht];rfl
   rw [lstA_some hp0 this]
 refine⟨s,{ s with parent:=p },hs,⟨hdf.a,hwa,if_pos rfl,?_,?_,fun y t hy=>?_⟩,fun y=>?_⟩
 ·show slA (killF (outI D n).sl (allA (slA D.sl) 65 n)) n=none
  rw [r2,if_pos hnL]
 ·show setR (setR (outI D n).roots p X) p ((lstA _ (setR (outI D n).roots p X) p).erase n)=(outI D n).roots
  rw [hL,hXe]
  unfold setR
  by_cases hp0:p=0
  ·rw [if_pos hp0,hp0];unfold lstI;exact lstA_zero
  ·rw [if_neg hp0,if_neg hp0]
 ·have hy':slA (killF (outI D n).sl (allA (slA D.sl) 65 n)) y=some t:=hy
  rw [r2] at hy'
  have hyL:y∉allA (slA D.sl) 65 n:=fun e=>by rw [if_pos e] at hy';cases hy'
  rw [if_neg hyL] at hy'
  have hyn:y≠n:=fun e=>hyL (by rw [e];exact hnL)
  show setA _ p ((lstA _ (setR (outI D n).roots p X) p).erase n) y=some t
  rw [hL,hXe]
  unfold setA
  by_cases hc:y=p/\p≠0
  ·rw [if_pos hc]
   dsimp only
   rw [if_neg hyn,if_pos hc,hy']
   have:lstI (outI D n) p=t.kids:=by unfold lstI;rw [<-hc.1];exact lstA_some (by rw [hc.1];exact hc.2) hy'
   simp only [oms,this]
  ·rw [if_neg hc]
   dsimp only
   rw [if_neg hyn,if_neg hc];exact hy'
 ·have hn':(fun y=>if y=n then some { s with parent:=p } else setA (slA (outI D n).sl) p X y) n=some { s with parent:=p }:=by dsimp only;rw [if_pos rfl]
  obtain⟨c,c1,c2⟩:=hw.a.chain n s hs
  obtain⟨c',c1',c2'⟩:=hwa.chain n _ hn'
  rw [mem_all hw.a ⟨s,hs⟩ hl0 c2 om,mem_all hwa ⟨_,hn'⟩ (fun z hz=>by simp at hz) c2' om]
  constructor
  ·intro h
   induction h with
   | self=>exact .self
   | @up x u hx hw' ih=>
    by_cases e:x=n
    ·rw [e];exact .self
    ·have hx:(if x=n then some { s with parent:=p } else setA (slA (outI D n).sl) p X x)=some u:=hx
     rw [if_neg e] at hx
     obtain⟨v,hv,hvp⟩:=setA_live hx
     obtain⟨v',hv',hvp'⟩:=hap x v hv
     exact .up hv' (by rw [hvp',hvp];exact ih)
  ·intro h
   induction h with
   | self=>exact .self
   | @up x u hx hw' ih=>
    by_cases e:x=n
    ·rw [e];exact .self
    ·obtain⟨v,hv,hvp⟩:=hpa x u hx
     obtain⟨v',hv',hvp'⟩:=setA_of' (p:=p) (l:=X) hv
     refine .up (s:=v') ?_ (by rw [hvp'.1,hvp];exact ih)
     show (if x=n then _ else setA (slA (outI D n).sl) p X x)=some v'
     rw [if_neg e];exact hv'
end
section
variable {w w1 w2:Wd}{o o1 o2:Nat->Nat}{g k:Nat}{ty:TypeId}{M:Nat->Prop}{R:RT}{D:Im}{E:Nat->Option (Nat × Nat)}{S:PS}{θ:Th}
theorem mov_err {n a:Nat}{wh:Int} (h:(movF D n wh a).2≠0):(movF D n wh a).1=D:=by
 unfold movF at h |-
 split
 ·rfl
 split
 ·rfl
 split
 ·rfl
 split
 ·rfl
 split
 ·rfl
 ·exfalso
  rename_i h1 h2 h3 h4 h5
  rw [if_neg h1,if_neg h2,if_neg h3,if_neg h4,if_neg h5] at h
  exact h rfl
theorem moveL_calls (h:LD k g ty w o D) (hk:k<1099511627776) (hw:Wf D) {n a:Nat}{wh:Int} (hn:n<18446744073709551616) (ha:a<18446744073709551616)
  (hK:∀w' o',LD (k+1) g ty w' o' (movF D n wh a).1->EvA w o w' o'->R (.returned (.int .i64 (movF D n wh a).2)) w') :
  CL 145 #[.pointer (some ⟨g,0,none⟩),.int .u64 (n:Nat),.int .i64 wh,.int .u64 (a:Nat)] w R:=by
 refine ok145 (some ⟨g,0,none⟩) n wh a ?_
 unfold F145
 obtain⟨S,nms,gv,E,rfl,hL⟩:=h
 obtain⟨tl,hp,hback⟩:=hL.x.tree
 have hgv:=hL.gv_
 rw [NonNil_some]
 refine move_calls (θ:=⟨g,ty,tl⟩) hp hL.pi hw hn ha fun w2 o2 S2 p2 i2 d2 ev2=>⟨_,rfl,?_⟩
 have hx2:=hback w2 o2 S2 p2 ev2
 refine⟨fun w'=>∃o',LD (k+1) g ty w' o' (movF S.D n wh a).1/\EvA w o w' o',?_,?_⟩
 ·rintro w3 ⟨o3,h3,e3⟩
  unfold F145_j6
  exact hK w3 o3 h3 e3
 refine bre (fun h0=>?_) (fun h0=>?_)
 rotate_left
 ·have hD:S2.D=S.D:=by rw [d2];exact mov_err h0
  exact⟨o2,⟨S2,nms,gv,E,d2,hx2,i2,by rw [hD];exact hL.word,by rw [hD];exact hL.def1,by rw [hD];exact hL.def2,om⟩,EvC.a ev2⟩
 obtain⟨s,s',hs,hAt,hmm⟩:=mov_att hw (n:=n) (a:=a) (wh:=wh) h0
 have hw2:=mov_wf hw n wh a
 rw [<-d2] at hAt hw2 hmm |-
 have n0:=hw.a.ne0 hs
 have hE0:E 0=none:=byc fun e=>by
  obtain⟨t,ht⟩:=hL.def1 0 e
  rw [hw.a.zero] at ht;cases ht
 obtain⟨X,Y,a1,b1,l1⟩:=attach (E:=E) (E':=E) hw.a hs hE0 (fun _ _=>rfl)
 obtain⟨lbs0,hI⟩:=hL.x.I
 have hnm:nms=X++wrd (slA S.D.sl) E 65 n++Y:=by rw [hL.word];exact a1
 have hXne:X≠[]:=fun e=>by rw [e] at l1;cases l1
 have h0X:0∈X:=by
  cases X with
  | nil=>exact absurd rfl hXne
  | cons x X=>
   have:=hI.h0
   rw [hnm] at this
   have:x=0:=by simpa using this
   rw [this];exact List.mem_cons_self ..
 have hndn:(X++wrd (slA S.D.sl) E 65 n++Y).Nodup:=by rw [<-hnm];exact hI.nd
 obtain⟨hT,hmem⟩:=tgd_of (E:=E) hw.a hs (X:=X) (Y:=Y) hndn h0X hL.def2
 obtain⟨dw1,dw2⟩:=del_word (E:=E) hw hs
 have hfew:=hAt.few (D:=(delF S.D n).1) (D':=S2.D) hw2.s rfl
 have hLn:=all_nodup hAt.w 65 n ⟨s',hAt.at_⟩ (fun z hz=>by simp at hz)
 have hlen2:=all_fewP hw2.s hAt.w (r:=65) ⟨s',hAt.at_⟩
 have hT2:Tgd E (X++wrd (slA S.D.sl) E 65 n++Y) (allA (slA S2.D.sl) 65 n):=⟨hLn,fun y hy=>hT.some_ y ((hmm y).1 hy),fun y hy=>hT.mem y ((hmm y).1 hy),fun y hy z hz=>hT.apart y ((hmm y).1 hy) z ((hmm z).1 hz)⟩
 have hmem2:∀x,x∈wrd (slA S.D.sl) E 65 n↔x∈(allA (slA S2.D.sl) 65 n).flatMap (prE E):=fun x=>by
  rw [hmem,mfm,mfm]
  exact⟨fun⟨y,hy,hx⟩=>⟨y,(hmm y).2 hy,hx⟩,fun⟨y,hy,hx⟩=>⟨y,(hmm y).1 hy,hx⟩⟩
 have hdE:dropE E (allA (slA S2.D.sl) 65 n)=dropE E (allA (slA S.D.sl) 65 n):=by
  funext y
  unfold dropE
  by_cases hy:y∈allA (slA S.D.sl) 65 n
  ·rw [if_pos hy,if_pos ((hmm y).2 hy)]
  ·rw [if_neg hy,if_neg (fun e=>hy ((hmm y).1 e))]
 obtain⟨tl2,hp2,-⟩:=hx2.tree
 rw [NonNil_some]
 refine AllT_calls (θ:=⟨g,ty,tl2⟩) hp2 hw2.s hAt.w hn n0 fun v w3 hb3 hv=>⟨_,_,_,_,rfl,?_⟩
 have hv:=hv s' hAt.at_
 have hx3:=hx2.below hb3
 have hlt:=hx2.lt
 rcases hx3 with ⟨bs,lbs,mb,wr,em,hM⟩ | ⟨-,-,-,hz⟩
 rotate_left
 ·exact absurd (hz n) (hL.def2 n s hs)
 cases em with
 | none=>exact absurd (hM.e n) (hL.def2 n s hs)
 | some eb=>
 refine untag_calls (v:=v) hM hv (fun b hb=>byc fun e=>by have:=hlt b e;have:=(hv.lt b hb).1;omega) om (by rw [hnm];exact hT2) fun w4 bs4 lbs4 h4 ev4=>⟨rfl,?_⟩
 have hx4:LX w4 o2 g ty S2 (untagN E (allA (slA S2.D.sl) 65 n) nms) gv (dropE E (allA (slA S2.D.sl) 65 n)):=.inl ⟨bs4,lbs4,mb,wr,some eb,h4⟩
 refine ahead_calls hx4 hAt.w hAt.at_ fun w5 hb5=>⟨_,rfl,?_⟩
 have hx5:=hx4.below hb5
 have hword:untagN E (allA (slA S2.D.sl) 65 n) nms=0 :: (delF S.D n).1.roots.flatMap (wrd (slA (delF S.D n).1.sl) (dropE E (allA (slA S2.D.sl) 65 n)) 65):=by
  rw [hdE,dw1,b1,hnm]
  exact untag_word hndn hmem2
 refine retag hx5 hw2.s hAt hword (fun y hy=>?_) (fun y t ht=>?_) hfew om fun w6 o6 nms' E' vv h6 q1 q2 q3 ev6=>⟨_,rfl,o6,⟨S2,nms',_,E',rfl,h6,i2,q1,q2,q3,om⟩,((((EvC.a ev2).tr (EvA.below hb3)).tr ev4.a).tr (EvA.below hb5)).tr ev6⟩
 ·unfold dropE at hy
  by_cases hyL:y∈allA (slA S2.D.sl) 65 n
  ·rw [if_pos hyL] at hy;exact absurd rfl hy
  ·rw [if_neg hyL] at hy
   exact (dw2 y).2 ⟨fun e=>hyL ((hmm y).2 e),hL.def1 y hy⟩
 ·obtain⟨hyL,u,hu⟩:=(dw2 y).1 ⟨t,ht⟩
  unfold dropE
  rw [if_neg (fun e=>hyL ((hmm y).1 e))]
  exact hL.def2 y u hu
end
section
variable {w w1 w2:Wd}{o o1 o2:Nat->Nat}{g k:Nat}{ty:TypeId}{M:Nat->Prop}{R:RT}{D:Im}{E:Nat->Option (Nat × Nat)}{S:PS}{θ:Th}{nms:List Nat}{gv:Nat}
theorem LIv.upd (hL:LIv k w o g ty S nms gv E) {S2:PS} (hx:LX w2 o2 g ty S2 nms gv E) (hi:PI S2) (hwf:Wf S.D) (hwf2:Wf S2.D) (hr:S2.D.roots=S.D.roots) (hk1:∀y s,slA S.D.sl y=some s->∃t,slA S2.D.sl y=some t/\t.kids=s.kids) (hk2:∀y t,slA S2.D.sl y=some t->∃s,slA S.D.sl y=some s):LIv (k+1) w2 o2 g ty S2 nms gv E:=by
 have hgv:=hL.gv_
 have key:∀r z,(∃s,slA S.D.sl z=some s)->wrd (slA S2.D.sl) E r z=wrd (slA S.D.sl) E r z:=by
  intro r
  induction r with
  | zero=>intro z _;rfl
  | succ r ih=>
   rintro z ⟨s,hs⟩
   obtain⟨t,ht,hk⟩:=hk1 z s hs
   rw [wrd_some hs,wrd_some ht,hk,flat_congr fun y hy=>ih y (by obtain⟨_,u,u1,_⟩:=(hwf.a.kid z s hs).2 y hy;exact⟨u,u1⟩)]
 refine⟨hx,hi,?_,fun y hy=>?_,fun y t ht=>?_,om⟩
 ·rw [hL.word,hr]
  rw [flat_congr fun z hz=>(key 65 z (by obtain⟨_,u,u1,_⟩:=hwf.a.root.2 z hz;exact⟨u,u1⟩)).symm]
 ·obtain⟨s,hs⟩:=hL.def1 y hy
  obtain⟨t,ht,_⟩:=hk1 y s hs
  exact⟨t,ht⟩
 ·obtain⟨s,hs⟩:=hk2 y t ht
  exact hL.def2 y s hs
theorem upd_kids {n:Nat}{s:Sl}{f:Sl->Sl} (hs:slA D.sl n=some s) (h1:(f s).kids=s.kids) (h4:(f s).gen=s.gen) (h5:(f s).live=s.live):(updI D n f).roots=D.roots/\(∀y u,slA D.sl y=some u->∃t,slA (updI D n f).sl y=some t/\t.kids=u.kids)/\∀y t,slA (updI D n f).sl y=some t->∃u,slA D.sl y=some u:=by
 have e3:∀y,slA (updI D n f).sl y=if y=n then some (f s) else slA D.sl y:=fun y=>slA_modify hs h4 (by rw [h5];exact slA_live hs) y
 refine⟨rfl,fun y u hu=>?_,fun y t ht=>?_⟩
 ·rw [e3]
  by_cases e:y=n
  ·rw [if_pos e];rw [e,hs] at hu;cases hu;exact⟨_,rfl,h1⟩
  ·rw [if_neg e];exact⟨u,hu,rfl⟩
 ·rw [e3] at ht
  by_cases e:y=n
  ·exact⟨s,by rw [e];exact hs⟩
  ·rw [if_neg e] at ht;exact⟨t,ht⟩
def Same (D D':Im):Prop:=D'.roots=D.roots/\(∀y u,slA D.sl y=some u->∃t,slA D'.sl y=some t/\t.kids=u.kids)/\∀y t,slA D'.sl y=some t->∃u,slA D.sl y=some u
theorem Same.refl (D:Im):Same D D:=⟨rfl,fun y u hu=>⟨u,hu,rfl⟩,fun y t ht=>⟨t,ht⟩⟩
theorem setName_same {n:Nat}{nm:ByteArray}:Same D (setNameF D n nm).1:=by
 unfold setNameF
 split
 ·exact Same.refl D
 split
 ·rename_i h1 _
  obtain⟨s,hs,hk⟩:=chg_some (by simpa using h1)
  exact upd_kids hs rfl rfl rfl
 ·exact Same.refl D
theorem setNameL_calls (h:LD k g ty w o D) (hw:Wf D) (hT:Tabs (wc o w)) {n:Nat} (hn:n<18446744073709551616) {nm:ByteArray}
  (hK:∀w' o',LD (k+1) g ty w' o' (setNameF D n nm).1->EvA w o w' o'->R (.returned (.int .i64 (setNameF D n nm).2)) w') :
  CL 147 #[.pointer (some ⟨g,0,none⟩),.int .u64 (n:Nat),.string nm] w R:=by
 refine ok147 (some ⟨g,0,none⟩) n nm ?_
 unfold F147
 obtain⟨S,nms,gv,E,rfl,hL⟩:=h
 obtain⟨tl,hp,hback⟩:=hL.x.tree
 rw [NonNil_some]
 refine setName_calls (θ:=⟨g,ty,tl⟩) hp hL.pi hn fun w2 S2 p2 i2 d2 ev2=>⟨_,rfl,?_⟩
 have hx2:=hback w2 o S2 p2 ev2
 have hw2:=setName_wf hw n nm
 obtain⟨s1,s2,s3⟩:=setName_same (D:=S.D) (n:=n) (nm:=nm)
 rw [<-d2] at hw2 s1 s2 s3
 exact hK w2 o ⟨S2,nms,gv,E,d2,hL.upd hx2 i2 hw hw2 s1 s2 s3⟩ (EvC.a ev2)
theorem setText_same {n:Nat}{t:ByteArray}:Same D (setTextF D n t).1:=by
 unfold setTextF
 split
 ·exact Same.refl D
 split
 ·rename_i h1 _
  obtain⟨s,hs,hk⟩:=chg_some (by simpa using h1)
  exact upd_kids hs rfl rfl rfl
 ·exact Same.refl D
theorem setTextL_calls (h:LD k g ty w o D) (hw:Wf D) (hT:Tabs (wc o w)) {n:Nat} (hn:n<18446744073709551616) {t:ByteArray}
  (hK:∀w' o',LD (k+1) g ty w' o' (setTextF D n t).1->EvA w o w' o'->R (.returned (.int .i64 (setTextF D n t).2)) w') :
  CL 148 #[.pointer (some ⟨g,0,none⟩),.int .u64 (n:Nat),.string t] w R:=by
 refine ok148 (some ⟨g,0,none⟩) n t ?_
 unfold F148
 obtain⟨S,nms,gv,E,rfl,hL⟩:=h
 obtain⟨tl,hp,hback⟩:=hL.x.tree
 rw [NonNil_some]
 refine setText_calls (θ:=⟨g,ty,tl⟩) hp hL.pi hT hn fun w2 S2 p2 i2 d2 ev2=>⟨_,rfl,?_⟩
 have hx2:=hback w2 o S2 p2 ev2
 have hw2:=setText_wf hw n t
 obtain⟨s1,s2,s3⟩:=setText_same (D:=S.D) (n:=n) (t:=t)
 rw [<-d2] at hw2 s1 s2 s3
 exact hK w2 o ⟨S2,nms,gv,E,d2,hL.upd hx2 i2 hw hw2 s1 s2 s3⟩ (EvC.a ev2)
theorem setAttr_same {n:Nat}{nm t:ByteArray}:Same D (setAttrF D n nm t).1:=by
 unfold setAttrF
 split
 ·exact Same.refl D
 split
 ·exact Same.refl D
 split
 ·exact Same.refl D
 split
 ·exact Same.refl D
 ·rename_i h1 _ _ _
  obtain⟨s,hs,hk⟩:=chg_some (by simpa using h1)
  exact upd_kids hs rfl rfl rfl
theorem setAttrL_calls (h:LD k g ty w o D) (hw:Wf D) (hT:Tabs (wc o w)) {n:Nat} (hn:n<18446744073709551616) {nm t:ByteArray}
  (hK:∀w' o',LD (k+1) g ty w' o' (setAttrF D n nm t).1->EvA w o w' o'->R (.returned (.int .i64 (setAttrF D n nm t).2)) w') :
  CL 149 #[.pointer (some ⟨g,0,none⟩),.int .u64 (n:Nat),.string nm,.string t] w R:=by
 refine ok149 (some ⟨g,0,none⟩) n nm t ?_
 unfold F149
 obtain⟨S,nms,gv,E,rfl,hL⟩:=h
 obtain⟨tl,hp,hback⟩:=hL.x.tree
 rw [NonNil_some]
 refine setAttr_calls (θ:=⟨g,ty,tl⟩) hp hL.pi hw hT hn fun w2 o2 S2 p2 i2 d2 ev2=>⟨_,rfl,?_⟩
 have hx2:=hback w2 o2 S2 p2 ev2
 have hw2:=setAttr_wf hw n nm t
 obtain⟨s1,s2,s3⟩:=setAttr_same (D:=S.D) (n:=n) (nm:=nm) (t:=t)
 rw [<-d2] at hw2 s1 s2 s3
 exact hK w2 o2 ⟨S2,nms,gv,E,d2,hL.upd hx2 i2 hw hw2 s1 s2 s3⟩ (EvC.a ev2)
theorem dropAttr_same {n:Nat}{nm:ByteArray}:Same D (dropAttrF D n nm).1:=by
 unfold dropAttrF
 split
 ·exact Same.refl D
 split
 ·rename_i h1 _
  obtain⟨s,hs,hk⟩:=chg_some (by simpa using h1)
  exact upd_kids hs rfl rfl rfl
 ·exact Same.refl D
theorem dropAttrL_calls (h:LD k g ty w o D) (hw:Wf D) {n:Nat} (hn:n<18446744073709551616) {nm:ByteArray}
  (hK:∀w' o',LD (k+1) g ty w' o' (dropAttrF D n nm).1->EvA w o w' o'->R (.returned (.int .i64 (dropAttrF D n nm).2)) w') :
  CL 150 #[.pointer (some ⟨g,0,none⟩),.int .u64 (n:Nat),.string nm] w R:=by
 refine ok150 (some ⟨g,0,none⟩) n nm ?_
 unfold F150
 obtain⟨S,nms,gv,E,rfl,hL⟩:=h
 obtain⟨tl,hp,hback⟩:=hL.x.tree
 rw [NonNil_some]
 refine dropAttr_calls (θ:=⟨g,ty,tl⟩) hp hL.pi hw hn fun w2 o2 S2 p2 i2 d2 ev2=>⟨_,rfl,?_⟩
 have hx2:=hback w2 o2 S2 p2 ev2
 have hw2:=dropAttr_wf hw n nm
 obtain⟨s1,s2,s3⟩:=dropAttr_same (D:=S.D) (n:=n) (nm:=nm)
 rw [<-d2] at hw2 s1 s2 s3
 exact hK w2 o2 ⟨S2,nms,gv,E,d2,hL.upd hx2 i2 hw hw2 s1 s2 s3⟩ (EvC.a ev2)
end
section
variable {g:Nat}
theorem cmIns (w : Wd) (a b c : Value) : (callMethod (.iface 58 (.pointer (some ⟨g, 0, none⟩))) "Insert" #[a, b, c]).run P0 w = .ok (.enter 26 #[.pointer (some ⟨g, 0, none⟩), a, b, c]) w := by kernel_rfl
theorem cmMov (w : Wd) (a b c : Value) : (callMethod (.iface 58 (.pointer (some ⟨g, 0, none⟩))) "Move" #[a, b, c]).run P0 w = .ok (.enter 145 #[.pointer (some ⟨g, 0, none⟩), a, b, c]) w := by kernel_rfl
theorem cmDel (w : Wd) (a : Value) : (callMethod (.iface 58 (.pointer (some ⟨g, 0, none⟩))) "Delete" #[a]).run P0 w = .ok (.enter 146 #[.pointer (some ⟨g, 0, none⟩), a]) w := by kernel_rfl
theorem cmName (w : Wd) (a b : Value) : (callMethod (.iface 58 (.pointer (some ⟨g, 0, none⟩))) "SetName" #[a, b]).run P0 w = .ok (.enter 147 #[.pointer (some ⟨g, 0, none⟩), a, b]) w := by kernel_rfl
theorem cmText (w : Wd) (a b : Value) : (callMethod (.iface 58 (.pointer (some ⟨g, 0, none⟩))) "SetText" #[a, b]).run P0 w = .ok (.enter 148 #[.pointer (some ⟨g, 0, none⟩), a, b]) w := by kernel_rfl
theorem cmAttr (w : Wd) (a b c : Value) : (callMethod (.iface 58 (.pointer (some ⟨g, 0, none⟩))) "SetAttr" #[a, b, c]).run P0 w = .ok (.enter 149 #[.pointer (some ⟨g, 0, none⟩), a, b, c]) w := by kernel_rfl
theorem cmDrop (w : Wd) (a b : Value) : (callMethod (.iface 58 (.pointer (some ⟨g, 0, none⟩))) "DropAttr" #[a, b]).run P0 w = .ok (.enter 150 #[.pointer (some ⟨g, 0, none⟩), a, b]) w := by kernel_rfl
theorem label_edr:Edr (.iface 58 (.pointer (some ⟨g,0,none⟩))) fun k w o D=>LD k g 113 w o D:=by
 refine⟨?_,?_,?_,?_,?_,?_,?_,?_,?_,?_⟩
 ·rintro k w o D ⟨S,nms,gv,E,rfl,h⟩
  have:=h.gv_
  exact⟨S,nms,gv,E,rfl,h.x,h.pi,h.word,h.def1,h.def2,om⟩
 ·rintro k w o D ⟨S,nms,gv,E,rfl,h⟩
  exact h.x.lt
 ·rintro k w w1 o D M ⟨S,nms,gv,E,rfl,h⟩ hf hm
  exact⟨S,nms,gv,E,rfl,h.x.fm hf hm,h.pi,h.word,h.def1,h.def2,h.gv_⟩
 ·intro k w o D x e wh a R K h hk hw hT hx ha hK
  exact⟨_,_,cmIns w _ _ _,insertL_calls (e:=e) h hk hw hT hx ha fun w' o' h' ev=>hK w' o' h' ev⟩
 ·intro k w o D n a wh R K h hk hw hn ha hK
  exact⟨_,_,cmMov w _ _ _,moveL_calls h hk hw hn ha fun w' o' h' ev=>hK w' o' h' ev⟩
 ·intro k w o D n R K h hk hw hn hK
  exact⟨_,_,cmDel w _,deleteL_calls h hk hw hn fun w' o' h' ev=>hK w' o' h' ev⟩
 ·intro k w o D n s R K h hk hw hT hn hK
  exact⟨_,_,cmName w _ _,setNameL_calls h hw hT hn fun w' o' h' ev=>hK w' o' h' ev⟩
 ·intro k w o D n s R K h hk hw hT hn hK
  exact⟨_,_,cmText w _ _,setTextL_calls h hw hT hn fun w' o' h' ev=>hK w' o' h' ev⟩
 ·intro k w o D n s t R K h hk hw hT hn hK
  exact⟨_,_,cmAttr w _ _ _,setAttrL_calls h hw hT hn fun w' o' h' ev=>hK w' o' h' ev⟩
 ·intro k w o D n s R K h hk hw hn hK
  exact⟨_,_,cmDrop w _ _,dropAttrL_calls h hw hn fun w' o' h' ev=>hK w' o' h' ev⟩
end
section
variable {w:Wd}{g:Nat}
def S0:PS:=⟨⟨[],[]⟩,[],0,0,0⟩
theorem pm_zero {ty:TypeId}{tl:List Value} (hB:Blk w g (docC (none,0,0) (none,0,0) 0 0 0 tl) ty):PM w (fun b=>if b=g then 1 else 0) ⟨g,ty,tl⟩ S0:=by
 refine⟨if_pos rfl,fun b hb=>?_,rfl,dc,fun i b hb=>(by cases hb),⟨(none,0,0),(none,0,0),hB,.inl ⟨rfl,rfl⟩,fun x hx=>(by cases hx),.inl ⟨rfl,rfl⟩,fun x hx=>(by cases hx)⟩,fun i b s hb=>(by cases hb),fun s hs=>(by cases hs),⟨fun h hh=>(by cases hh),dc⟩,dc⟩
 have hb:(if b=g then 1 else 0)≠0:=hb
 by_cases e:b=g
 ·rw [e];exact hB.lt
 ·rw [if_neg e] at hb;exact absurd rfl hb
theorem pi_zero:PI S0:=⟨rfl,rfl,dc,fun j t hj ht=>(by cases ht)⟩
theorem ld_zero (hB:Blk w g #[.slice none 0 0,.slice none 0 0,.int .i64 0,.int .i64 0,.int .i64 0,.map none,.pointer none,.int .u64 0,.int .u64 0,.map none] 113):LD 0 g 113 w (fun b=>if b=g then 1 else 0) ⟨[],[]⟩:=by
 have hn:∀y,slA ([]:List Sl) y=none:=fun y=>by
  cases h:slA ([]:List Sl) y with
  | none=>rfl
  | some s=>
   obtain⟨k,_,h2,_⟩:=slA_iff.1 h
   cases h2
 refine⟨S0,[0],0,fun _=>none,rfl,⟨.inr ⟨⟨none,pm_zero hB,fun _=>rfl⟩,rfl,rfl,fun _=>rfl⟩,pi_zero,rfl,fun y hy=>absurd rfl hy,fun y s hs=>?_,dc⟩⟩
 have hs:slA ([]:List Sl) y=some s:=hs
 rw [hn] at hs;cases hs
theorem rm_zero {ok:Nat->Bool} (hB:Blk w g #[.slice none 0 0,.slice none 0 0] 85):RM ok w g ⟨[],[]⟩ (none,0,0) (none,0,0):=
 ⟨hB,⟨dc,⟨[],rfl,Rd.nil _ _,rfl⟩,rr_none _ _,fun s hs=>(by cases hs),fun h hh=>(by cases hh)⟩,dc⟩
end
structure CNode (w0 w:Wd) (o:Nat->Nat) (S:PS) (bs:List Nat) (dn:Bool) (j b:Nat) (s:Sl) (a kv:Sv):Prop where
 blk:Blk w b (nodeC j s a (ptrH (bif dn then bs else S.bs) s.parent) kv) 142
 at1:Own LAt w 0 145 (slV a) s.attrs
 at2:∀x,rowOf (slV a)=some x->o x=10+4*j
 kd1:dn=true->Own LPt w 0 140 (slV kv) (s.kids.map (pb bs))
 kd2:dn=true->∀x,rowOf (slV kv)=some x->o x=9+4*j
 kd3:dn=false->kv.2.1=s.kids.length/\Rd LPt w0 kv.1 kv.2.2 (s.kids.map (pb S.bs))
structure CDoc (w0 w:Wd) (o:Nat->Nat) (S:PS) (gb gc:Nat) (bs:List Nat) (nv:Sv) (k:Nat):Prop where
 bel:Below w0.heap.size w0 w
 box:Blk w gb #[.pointer (some ⟨gc,0,none⟩)] 74
 doc:Blk w gc (docC nv (none,0,0) S.lv S.wn S.lo []) 106
 nv1:Own LPt w 0 140 (slV nv) bs
 nv2:∀x,rowOf (slV nv)=some x->o x=2
 col:o gc=1
 bc:o gb=0
 lt:∀b,o b≠0->w0.heap.size<=b/\b<w.heap.size
 gbl:w0.heap.size<=gb
 len:bs.length<=S.D.sl.length
 nc:∀(j b:Nat),bs[j]?=some b->o b=8+4*j
 nd:∀(j b:Nat) (s:Sl),bs[j]?=some b->S.D.sl[j]?=some s->∃a kv,CNode w0 w o S bs (decide (j<k)) j b s a kv
theorem inR_u32 {z:Int} (h0:0<=z) (h1:z<=4294967295):InR .u32 z:=⟨by simpa [IntKind.min,IntKind.signed] using h0,by simpa [IntKind.max,IntKind.signed,IntKind.bits] using h1⟩
section
variable {w w0 w1:Wd}{o o0 o1:Nat->Nat}{θ:Th}{S:PS}{bs:List Nat}{nv:Sv}{gb gc k:Nat}{M:Nat->Prop}{R:RT}
theorem CNode.keep {dn:Bool}{j b:Nat}{s:Sl}{a kv:Sv} (h:CNode w0 w o S bs dn j b s a kv) (hb:o b=8+4*j) (hf:Fm M w w1) (hm:∀x,(o x=8+4*j\/o x=9+4*j\/o x=10+4*j)->¬M x) (ho:∀x,o x≠0->o1 x=o x):CNode w0 w1 o1 S bs dn j b s a kv:=
 ⟨hf.blk h.blk (hm b (.inl hb)),own_fm h.at1 hf fun x hx=>hm x (.inr (.inr (h.at2 x hx))),fun x hx=>by have:=h.at2 x hx;rw [ho x om];exact this,
  fun hd=>own_fm (h.kd1 hd) hf fun x hx=>hm x (.inr (.inl (h.kd2 hd x hx))),fun hd x hx=>by have:=h.kd2 hd x hx;rw [ho x om];exact this,h.kd3⟩
theorem CDoc.keep (h:CDoc w0 w o S gb gc bs nv k) (hf:Fm M w w1) (hm:∀b,b<w.heap.size->M b->o b=0/\b≠gb/\w0.heap.size<=b):CDoc w0 w1 o S gb gc bs nv k:=by
 have hM:∀x,o x≠0->¬M x:=fun x hx hmx=>hx (hm x (h.lt x hx).2 hmx).1
 refine⟨h.bel.trans (hf.toBelow h.bel.size fun b hb hmb=>?_),hf.blk h.box fun e=>(hm gb h.box.lt e).2.1 rfl,hf.blk h.doc (hM gc (by rw [h.col];decide)),own_fm h.nv1 hf fun x hx=>hM x (by rw [h.nv2 x hx];decide),h.nv2,h.col,h.bc,
  fun b hb=>⟨(h.lt b hb).1,nll (h.lt b hb).2 hf.size⟩,h.gbl,h.len,h.nc,fun j b s hb hs=>?_⟩
 ·have:=(hm b (nll hb h.bel.size) hmb).2.2;omega
 ·obtain⟨a,kv,hn⟩:=h.nd j b s hb hs
  exact⟨a,kv,hn.keep (h.nc j b hb) hf (fun x hx=>hM x om) fun _ _=>rfl⟩
theorem CDoc.below (h:CDoc w0 w o S gb gc bs nv k) (hb:Below w.heap.size w w1):CDoc w0 w1 o S gb gc bs nv k:=
 h.keep (M:=fun _=>False) (.below hb) fun _ _ h=>h.elim
theorem rdO {α:Type}{L:Lay α}{B:Nat}{e:TypeId}{v:Sv}{xs:List α} (h:Own L w B e (slV v) xs):v.2.1=xs.length/\Rd L w v.1 v.2.2 xs:=by
 obtain⟨A,c,hv,hr⟩:=h.form
 rw [slvF hv];exact⟨rfl,hr⟩
theorem turn_calls (hP:PM w0 o0 θ S) (h:CDoc w0 w o S gb gc bs nv k) (hlen:bs.length=S.D.sl.length) {l:List Nat}{v:Sv} (hv:v.2.1=l.length) (hr:Rd LPt w0 v.1 v.2.2 (l.map (pb S.bs))) (hl:l.length<=1048576) (hin:∀x∈l,inN S.D.sl.length x)
  (hK:∀r w',Below w.heap.size w w'->Own LPt w' w.heap.size 140 (slV r) (l.map (pb bs))->R (.returned (slV r)) w'):CL 133 #[slV v,.pointer (some ⟨gb,0,none⟩)] w R:=by
 refine ok133 v.1 v.2.1 v.2.2 ⟨gb,0,none⟩ ?_
 unfold F133
 have hfew:=hP.few
 refine⟨fun A n c x w'=>∃m:Nat,x=m/\m<=l.length/\Below w.heap.size w w'/\Own LPt w' w.heap.size 140 (.slice A n c) ((l.take m).map (pb bs)),fun _ _ _ x _=>l.length-x.toNat,⟨0,rfl,om,.refl _ _,by simpa using Own.nil _ _ _ _⟩,?_⟩
 rintro A n c _ w1 ⟨m,rfl,hm,hb1,ho⟩
 unfold F133_l3
 have B1:=btr h.bel h.bel.size hb1
 have h1:=h.below hb1
 refine brd (fun hlt=>?_) (fun hge=>?_)
 ·have hm2:m<l.length:=by omega
  refine (hr.keep B1).pt (by rw [lmp,hv]) rfl (k:=m) (by rw [lmp];exact hm2) fun b o c0=>?_
  rw [gmp] at c0
  simp only [c0,lds]
  have hdr:Below w1.heap.size w1 w1.drew:=(Below.refl _ _).drew
  obtain⟨p1,s,p2⟩:=pb_get hP.len (hin _ (gem hm2))
  have pin:=hin _ (gem hm2)
  obtain⟨x,hx⟩:∃x,l[m]=x:=⟨_,rfl⟩
  rw [hx] at c0 p1 p2 pin |-
  unfold inN at pin
  obtain⟨n1,n2⟩:=rdO h1.nv1
  refine⟨fun w'=>Below w1.heap.size w1 w',hdr,?_⟩
  refine⟨_,fun w' hw=>by rw [(h1.box.keep hw).cell];rfl,?_⟩
  refine⟨_,_,_,fun w' hw=>by rw [(h1.doc.keep hw).cell];rfl,?_⟩
  refine⟨_,fun w' hw=>(hP.below (btr B1 B1.size hw)).cIdx p1 p2,?_⟩
  refine⟨inR_u32 om om,?_⟩
  refine n2.held (fun _ h=>h) n1 om om rfl fun b2 o2 cc=>?_
  have cc:=cc 0 _ rfl
  have e1:(((x % 4294967296-1+1:Nat):Int)-1).toNat=x % 4294967296-1:=by omega
  have e2:bs[(((x % 4294967296-1+1:Nat):Int)-1).toNat]'om=pb bs x:=by
   unfold pb
   rw [gdd,gge om]
   simp only [e1,Option.getD_some]
  simp only [e2,Nat.add_zero] at cc
  refine⟨_,cc,?_⟩
  refine ap1 (L:=LPt) (x:=pb bs x) (xs:=(l.take m).map (pb bs)) (.pointer none) 8 rfl kr kr kr (ho.keep hdr) (by simpa using hb1.size) (by rw [lmp,ltk];omega) (by rw [lmp,ltk];simp [maxLen];omega) fun A' c' w4 o4 g4=>⟨A',_,c',rfl,inR_i64 om om,⟨m+1,sm,om,(btr hb1 hb1.size hdr).trans g4.below,?_⟩,odz⟩
  rw [tsa hm2,List.map_append,hx];exact o4
 ·have hm2:m=l.length:=by omega
  subst hm2
  rw [tkl] at ho
  exact hK (A,n,c) w1 hb1 ho
theorem CDoc.push (h:CDoc w0 w o S gb gc bs nv 0) {gm:Nat}{s:Sl} (hs:S.D.sl[bs.length]?=some s) {a kv nv':Sv} (hf:Fm (fun b=>rowOf (slV nv)=some b\/b=gc) w w1) (hgm:w.heap.size<=gm)
  (bm:Blk w1 gm (nodeC bs.length s a (ptrH S.bs s.parent) kv) 142) (ha:Own LAt w1 0 145 (slV a) s.attrs) (har:∀x,rowOf (slV a)=some x->w.heap.size<=x/\x≠gm)
  (hk:kv.2.1=s.kids.length/\Rd LPt w0 kv.1 kv.2.2 (s.kids.map (pb S.bs))) (hd:Blk w1 gc (docC nv' (none,0,0) S.lv S.wn S.lo []) 106) (hn:Own LPt w1 0 140 (slV nv') (bs++[gm]))
  (hnr:∀x,rowOf (slV nv')=some x->rowOf (slV nv)=some x\/(w.heap.size<=x/\x≠gm/\rowOf (slV a)≠some x)):∃o',CDoc w0 w1 o' S gb gc (bs++[gm]) nv' 0:=by
 have hnew:∀x,w.heap.size<=x->o x=0:=fun x hx=>byc fun e=>by have:=(h.lt x e).2;omega
 have hcol:=h.col
 have hbc:=h.bc
 have hgb:=h.box.lt
 have hgc:=h.doc.lt
 have hws:=h.bel.size
 have hss:=hf.size
 let o2:Nat->Nat:=fun x=>if x=gm then 8+4*bs.length else if rowOf (slV a)=some x then 10+4*bs.length else if rowOf (slV nv')=some x then 2 else o x
 have hold:∀x,o x≠0->o2 x=o x:=fun x hx=>by
  have hxl:=(h.lt x hx).2
  show (if x=gm then _ else _)=_
  rw [if_neg om,if_neg (fun e=>by have:=(har x e).1;omega)]
  split
  ·rename_i e
   rcases hnr x e with e2 | e2
   ·exact (h.nv2 x e2).symm
   ·omega
  ·rfl
 have hM:∀x,o x≠0->o x≠2->o x≠1->¬(rowOf (slV nv)=some x\/x=gc):=fun x h0 h2 h1 e=>by
  rcases e with e | e
  ·exact h2 (h.nv2 x e)
  ·subst e;exact h1 h.col
 refine⟨o2,h.bel.trans (hf.toBelow h.bel.size fun b hb e=>?_),hf.blk h.box fun e=>?_,hd,hn,fun x hx=>?_,?_,?_,fun b hb=>?_,h.gbl,?_,fun j b hb=>?_,fun j b t hb ht=>?_⟩
 ·rcases e with e | e
  ·have:=(h.lt b (by rw [h.nv2 b e];decide)).1;omega
  ·have:=(h.lt gc (by rw [h.col];decide)).1;omega
 ·rcases e with e | e
  ·rw [h.nv2 gb e] at hbc;cases hbc
  ·rw [e,hcol] at hbc;cases hbc
 ·show (if x=gm then _ else _)=_
  rcases hnr x hx with e | ⟨e1,e2,e3⟩
  ·have:=(h.lt x (by rw [h.nv2 x e];decide)).2
   rw [if_neg om,if_neg (fun e=>by have:=(har x e).1;omega),if_pos hx]
  ·rw [if_neg e2,if_neg e3,if_pos hx]
 ·rw [hold gc (by rw [hcol];decide)];exact hcol
 ·show (if gb=gm then _ else _)=_
  rw [if_neg om,if_neg (fun e=>by have:=(har gb e).1;omega),if_neg (fun e=>?_)]
  ·exact hbc
  ·rcases hnr gb e with e2 | e2
   ·rw [h.nv2 gb e2] at hbc;cases hbc
   ·omega
 ·by_cases h0:o b=0
  ·have hb2:(if b=gm then 8+4*bs.length else if rowOf (slV a)=some b then 10+4*bs.length else if rowOf (slV nv')=some b then 2 else o b)≠0:=hb
   by_cases e1:b=gm
   ·subst e1;exact⟨om,bm.lt⟩
   rw [if_neg e1] at hb2
   by_cases e2:rowOf (slV a)=some b
   ·exact⟨by have:=(har b e2).1;omega,(ha.lt b e2).2⟩
   rw [if_neg e2] at hb2
   by_cases e3:rowOf (slV nv')=some b
   ·rcases hnr b e3 with e4 | e4
    ·rw [h.nv2 b e4] at h0;cases h0
    ·exact⟨om,(hn.lt b e3).2⟩
   rw [if_neg e3] at hb2
   exact absurd h0 hb2
  ·have:=h.lt b h0;exact⟨this.1,om⟩
 ·have:=(gsi.1 hs).1
  rw [lap];simp only [List.length_singleton];omega
 ·rw [List.getElem?_append] at hb
  split at hb
  ·have:=h.nc j b hb
   rw [hold b om];exact this
  ·rename_i hj
   have hj2:j=bs.length:=by
    have:=(gsi.1 hb).1
    simp only [List.length_singleton] at this;omega
   subst hj2
   rw [Nat.sub_self,List.getElem?_cons_zero] at hb
   cases hb
   show (if gm=gm then _ else _)=_
   rw [if_pos rfl]
 ·rw [List.getElem?_append] at hb
  split at hb
  ·obtain⟨a2,kv2,hN⟩:=h.nd j b t hb ht
   have hc:=h.nc j b hb
   have e0:decide (j<0)=false:=def0 om
   rw [e0] at hN |-
   have hN2:=hN.keep (o1:=o2) hc hf (fun x hx=>hM x om om om) hold
   exact⟨a2,kv2,hN2.blk,hN2.at1,hN2.at2,(fun e=>by cases e),(fun e=>by cases e),hN2.kd3⟩
  ·rename_i hj
   have hj2:j=bs.length:=by
    have:=(gsi.1 hb).1
    simp only [List.length_singleton] at this;omega
   subst hj2
   rw [Nat.sub_self,List.getElem?_cons_zero] at hb
   cases hb
   rw [hs] at ht;cases ht
   have e0:decide (bs.length<0)=false:=def0 om
   rw [e0]
   refine⟨a,kv,bm,ha,fun x hx=>?_,(fun e=>by cases e),(fun e=>by cases e),fun _=>hk⟩
   show (if x=gm then _ else _)=_
   rw [if_neg (har x hx).2,if_pos hx]
theorem CDoc.step (h:CDoc w0 w o S gb gc bs nv k) {b:Nat}{s:Sl}{a kv:Sv} (hb:bs[k]?=some b) (hs:S.D.sl[k]?=some s) (hf:Fm (·=b) w w1) (bm:Blk w1 b (nodeC k s a (ptrH bs s.parent) kv) 142)
  (ha:Own LAt w 0 145 (slV a) s.attrs) (ha2:∀x,rowOf (slV a)=some x->o x=10+4*k) (hkv:Own LPt w1 0 140 (slV kv) (s.kids.map (pb bs))) (hr:∀x,rowOf (slV kv)=some x->o x=0/\w0.heap.size<=x/\x≠gb) :
  ∃o',CDoc w0 w1 o' S gb gc bs nv (k+1):=by
 have hcol:=h.col
 have hbc:=h.bc
 have hbb:=h.nc k b hb
 have hws:=h.bel.size
 have hbl:=h.lt b om
 have hold:∀x,o x≠0->cl o (rowOf (slV kv)) (9+4*k) x=o x:=fun x hx=>cl_old hx
 refine⟨cl o (rowOf (slV kv)) (9+4*k),h.bel.trans (hf.toBelow h.bel.size fun x hx e=>?_),hf.blk h.box fun e=>?_,hf.blk h.doc fun e=>?_,own_fm h.nv1 hf fun x hx e=>?_,fun x hx=>?_,?_,?_,fun x hx=>?_,h.gbl,h.len,fun j c hc=>?_,fun j c t hc ht=>?_⟩
 ·have e:x=b:=e
  omega
 ·have e:gb=b:=e
  rw [e,hbb] at hbc;omega
 ·have e:gc=b:=e
  rw [e,hbb] at hcol;omega
 ·have e:x=b:=e
  have:=h.nv2 x hx
  rw [e,hbb] at this;omega
 ·rw [hold x (by rw [h.nv2 x hx];decide)];exact h.nv2 x hx
 ·rw [hold gc (by rw [hcol];decide)];exact hcol
 ·unfold cl;rw [if_neg (fun e=>(hr gb e.1).2.2 rfl)];exact hbc
 ·by_cases e:o x=0
  ·unfold cl at hx
   by_cases e2:rowOf (slV kv)=some x/\o x=0
   ·exact⟨(hr x e2.1).2.1,(hkv.lt x e2.1).2⟩
   ·rw [if_neg e2] at hx;exact absurd e hx
  ·have:=h.lt x e;have:=hf.size;exact⟨(h.lt x e).1,om⟩
 ·have:=h.nc j c hc
  rw [hold c om];exact this
 ·by_cases ej:j=k
  ·subst ej
   rw [hb] at hc;cases hc
   rw [hs] at ht;cases ht
   rw [det om]
   refine⟨a,kv,bm,own_fm ha hf fun x hx e=>?_,fun x hx=>?_,fun _=>hkv,fun _ x hx=>?_,(fun e=>by cases e)⟩
   ·have e:x=b:=e
    have:=ha2 x hx
    rw [e,hbb] at this;omega
   ·rw [hold x (by rw [ha2 x hx];omega)];exact ha2 x hx
   ·exact cl_row hx (.inl (hr x hx).1)
  ·obtain⟨a2,kv2,hN⟩:=h.nd j c t hc ht
   have e1:decide (j<k+1)=decide (j<k):=decide_eq_decide.2 om
   rw [e1]
   have hcc:=h.nc j c hc
   exact⟨a2,kv2,hN.keep hcc hf (fun x hx e=>by
    have e:x=b:=e
    rw [e,hbb] at hx;omega) hold⟩
theorem CDoc.pm (hP:PM w0 o0 θ S) (h:CDoc w0 w o S gb gc bs nv S.D.sl.length) (hlen:bs.length=S.D.sl.length) {rv:Sv} (hf:Fm (·=gc) w w1) (hd:Blk w1 gc (docC nv rv S.lv S.wn S.lo []) 106)
  (hrv:Own LPt w1 0 140 (slV rv) (S.D.roots.map (pb bs))) (hr:∀x,rowOf (slV rv)=some x->o x=0/\w0.heap.size<=x) :
  ∃o',PM w1 o' ⟨gc,106,[]⟩ ⟨S.D,bs,S.lv,S.wn,S.lo⟩/\∀b,o' b≠0->w0.heap.size<=b:=by
 have hcol:=h.col
 have hold:∀x,o x≠0->cl o (rowOf (slV rv)) 3 x=o x:=fun x hx=>cl_old hx
 have hss:=hf.size
 refine⟨cl o (rowOf (slV rv)) 3,⟨?_,fun x hx=>?_,hlen,hP.few,fun j c hc=>?_,⟨nv,rv,hd,own_fm h.nv1 hf fun x hx e=>?_,fun x hx=>?_,hrv,fun x hx=>cl_row hx (.inl (hr x hx).1)⟩,fun j c t hc ht=>?_,hP.rng,hP.rts,hP.cnt⟩,fun x hx=>?_⟩
 ·show cl o _ 3 gc=1
  rw [hold gc (by rw [hcol];decide)];exact hcol
 ·by_cases e:o x=0
  ·unfold cl at hx
   by_cases e2:rowOf (slV rv)=some x/\o x=0
   ·exact (hrv.lt x e2.1).2
   ·rw [if_neg e2] at hx;exact absurd e hx
  ·have:=(h.lt x e).2;omega
 ·have:=h.nc j c hc
  rw [hold c om];exact this
 ·have e:x=gc:=e
  have:=h.nv2 x hx
  rw [e,hcol] at this;omega
 ·rw [hold x (by rw [h.nv2 x hx];decide)];exact h.nv2 x hx
 ·have hj:=(gsi.1 ht).1
  obtain⟨a,kv,hN⟩:=h.nd j c t hc ht
  rw [det hj] at hN
  have hcc:=h.nc j c hc
  have hN2:=hN.keep (o1:=cl o (rowOf (slV rv)) 3) hcc hf (fun x hx e=>by
   have e:x=gc:=e
   rw [e,hcol] at hx;omega) hold
  exact⟨a,kv,hN2.blk,hN2.at1,hN2.at2,hN2.kd1 rfl,hN2.kd2 rfl⟩
 ·by_cases e:o x=0
  ·unfold cl at hx
   by_cases e2:rowOf (slV rv)=some x/\o x=0
   ·exact (hr x e2.1).2
   ·rw [if_neg e2] at hx;exact absurd e hx
  ·exact (h.lt x e).1
theorem rr_own {B:Nat}{e:TypeId}{α:Type}{L:Lay α}{v:Sv}{l:List α} (h:Own L w B e (slV v) l) (hl:l.length<=1048576):RR L w l v:=by
 obtain⟨h1,h2⟩:=rdO h
 exact⟨hl,h1,h2⟩
theorem clone1 (hP:PM w0 o0 θ S) (hC:CDoc w0 w o S gb gc [] (none,0,0) 0) {v:Sv} (hv:Own LPt w0 0 140 (slV v) S.bs)
  (hK:∀w' o' bs nv,bs.length=S.D.sl.length->CDoc w0 w' o' S gb gc bs nv 0->F76_l3 (some ⟨θ.g,0,none⟩) ⟨gb,0,none⟩ v.1 v.2.1 (fun _ _=>False) (S.bs.length:Nat) w' R) :
  ∃(I:Int->Wd->Prop) (m:Int->Wd->Nat),I (0:Int) w /\
   ∀(x29:Int) (w1:Wd),I x29 w1->F76_l3 (some ⟨θ.g,0,none⟩) ⟨gb,0,none⟩ v.1 v.2.1 (fun x29' w2=>I x29' w2/\m x29' w2<m x29 w1) x29 w1 R:=by
 obtain⟨n1,n2⟩:=rdO hv
 have hlen:=hP.len
 have hfew:=hP.few
 refine⟨fun x w'=>∃(m:Nat) (o':Nat->Nat) (bs:List Nat) (nv:Sv),x=m/\m<=S.bs.length/\bs.length=m/\CDoc w0 w' o' S gb gc bs nv 0,fun x _=>S.bs.length-x.toNat,⟨0,o,[],_,rfl,om,rfl,hC⟩,?_⟩
 rintro _ w1 ⟨m,o1,bs,nv,rfl,hm,hbm,h1⟩
 by_cases hml:m<S.bs.length
 ·unfold F76_l3
  refine brd (fun hlt=>?_) (fun hge=>absurd om hge)
  have B1:=h1.bel
  refine (n2.keep B1).pt n1 rfl (k:=m) hml fun b oo c0=>?_
  simp only [c0,lds]
  obtain⟨s,hs⟩:∃s,S.D.sl[m]?=some s:=⟨_,gge om⟩
  have hgb:S.bs[m]?=some S.bs[m]:=gge hml
  generalize S.bs[m]=b0 at *
  obtain⟨a,kv,hN⟩:=hP.nodes m b0 s hgb hs
  have hr:=hP.rng s (mog hs)
  have bN:=hN.blk.keep B1
  have bN':=bN
  unfold nodeC at bN'
  simp only [NonNil_some,bN'.cell,lds]
  refine al fun gm w2 hb2 b2 hge2=>?_
  refine st_blk b2 sm fun u1 q1 f1=>st_blk q1 sm fun u2 q2 f2=>st_blk q2 sm fun u3 q3 f3=>st_blk q3 sm fun u4 q4 f4=>st_blk q4 sm fun u5 q5 f5=>st_blk q5 sm fun u6 q6 f6=>st_blk q6 sm fun u7 q7 f7=>st_blk q7 sm fun u8 q8 f8=>st_blk q8 sm fun w3 b3 f9=>?_
  simp only [sls] at b3
  have F3:Fm (·=gm) w2 w3:=((((((((f1.trans f2).trans f3).trans f4).trans f5).trans f6).trans f7).trans f8).trans f9)
  clear q1 q2 q3 q4 q5 q6 q7 q8 f1 f2 f3 f4 f5 f6 f7 f8 f9
  have D3:Below w1.heap.size w1 w3:=hb2.trans (F3.toBelow hb2.size fun b hb e=>by have e:b=gm:=e;omega)
  have bN3:=bN'.keep D3
  simp only [NonNil_some,bN3.cell,lds]
  have ra:=(rr_own hN.at1 hr.atf).keep (btr B1 B1.size D3)
  refine cloneOwn_calls s.attrs a ra fun a' w4 hb4 oa=>⟨_,_,_,rfl,?_⟩
  have D4:=btr D3 D3.size hb4
  refine st_blk (b3.keep hb4) sm fun w5 b5 f5=>?_
  simp only [sls] at b5
  have hs1:=D3.size
  have hs4:=hb4.size
  have D5:Below w1.heap.size w1 w5:=D4.trans (f5.toBelow D4.size fun b hb e=>by have e:b=gm:=e;omega)
  have h5:=h1.below D5
  have hs5:=f5.size
  have hgm:gm<w3.heap.size:=b3.lt
  have oa5:Own LAt w5 0 145 (slV a') s.attrs:=(own_fm oa f5 fun x hx e=>by have e:x=gm:=e;have:=(oa.lt x hx).1;omega).rebase fun _ _=>Nat.zero_le _
  have har:∀x,rowOf (slV a')=some x->w3.heap.size<=x/\x<w5.heap.size:=fun x hx=>⟨(oa.lt x hx).1,(oa5.lt x hx).2⟩
  have hdr:Below w5.heap.size w5 w5.drew:=(Below.refl _ _).drew
  have h5d:=h5.below hdr
  have hgcol:=h5.col
  have hbcol:=h5.bc
  obtain⟨l1,l2⟩:=rdO h5.nv1
  refine⟨fun w'=>Blk w' gb #[.pointer (some ⟨gc,0,none⟩)] 74/\Blk w' gc (docC nv (none,0,0) S.lv S.wn S.lo []) 106,⟨h5d.box,h5d.doc⟩,?_⟩
  refine⟨_,fun w' hw=>by rw [hw.1.cell];rfl,_,fun w' hw=>by rw [hw.1.cell];rfl,?_⟩
  refine⟨_,_,_,fun w' hw=>by rw [hw.2.cell];rfl,?_⟩
  refine ap1S (L:=LPt) (x:=gm) (xs:=bs) (base:=0) (.pointer none) 8 rfl kr kr kr h5d.nv1 (Nat.zero_le _) om (by simp [maxLen];omega) (fun w' hb=>⟨h5d.box.keep hb,h5d.doc.keep hb⟩) fun A' c' w6 o6 g6=>⟨A',_,c',rfl,?_⟩
  have FG:Fm (fun b=>rowOf (slV nv)=some b) w5.drew w6:=Fm.grown g6.grown fun b hb=>hb
  have bb6:=FG.blk h5d.box fun e=>by rw [h5.nv2 gb e] at hbcol;cases hbcol
  have bc6:=FG.blk h5d.doc fun e=>by rw [h5.nv2 gc e] at hgcol;cases hgcol
  refine⟨⟨bb6,bc6⟩,?_⟩
  simp only [NonNil_some]
  refine st_blk bc6 (by simp [docC]) fun w7 b7 f7=>⟨inR_i64 om om,?_⟩
  rw [show Value.slice A' (bs.length+1) c'=slV (A',bs.length+1,c') from rfl,doc_set0] at b7
  have FF:Fm (fun b=>rowOf (slV nv)=some b\/b=gc) w5.drew w7:=(FG.mono fun b _ e=>.inl e).trans (f7.mono fun b _ e=>.inr e)
  have hgcl:=h5.doc.lt
  have FF1:Fm (fun b=>rowOf (slV nv)=some b\/b=gc) w1 w7:=(Fm.below (btr D5 D5.size hdr)).trans FF
  have hgcw:=(h1.lt gc (by rw [h1.col];decide)).2
  have hnvl:∀x,rowOf (slV nv)=some x->x<w1.heap.size:=fun x hx=>(h1.lt x (by rw [h1.nv2 x hx];decide)).2
  have hdl:w5.drew.heap.size=w5.heap.size:=rfl
  have bm7:Blk w7 gm (nodeC bs.length s a' (ptrH S.bs s.parent) kv) 142:=by
   refine FF.blk (show Blk w5.drew gm _ _ from ?_) fun e=>?_
   ·have:=b5.keep hdr
    rw [hbm];exact this
   ·rcases e with e | e
    ·have:=hnvl gm e;omega
    ·omega
  obtain⟨o',hC'⟩:=h1.push (s:=s) (a:=a') (kv:=kv) (nv':=(A',bs.length+1,c')) (gm:=gm) (w1:=w7) (by rw [hbm];exact hs) FF1 hge2 bm7
   (own_fm oa5 ((Fm.below hdr).trans FF) fun x hx e=>by
    rcases e with e | e
    ·have:=hnvl x e;have:=(har x hx).1;omega
    ·have:=(har x hx).1;omega)
   (fun x hx=>⟨by have:=(har x hx).1;omega,by have:=(har x hx).1;omega⟩) ⟨by have:=(rdO hN.kd1).1;rwa [lmp] at this,(rdO hN.kd1).2⟩ b7
   (own_fm o6 f7 fun x hx e=>by
    have e:x=gc:=e
    have hx:rowOf (Value.slice A' (bs.length+1) c')=some x:=hx
    rcases g6.row with e2 | e2 | ⟨g,e2,e3⟩
    ·have hx2:rowOf (slV nv)=some x:=by
      have:rowOf (slV (A',bs.length+1,c'))=rowOf (slV nv):=e2
      rw [<-this];exact hx
     rw [e,] at hx2
     rw [h5.nv2 gc hx2] at hgcol;cases hgcol
    ·have:rowOf (slV (A',bs.length+1,c'))=none:=e2
     rw [e2] at hx;cases hx
    ·have:rowOf (Value.slice A' (bs.length+1) c')=some g:=e2
     rw [this] at hx;cases hx;omega)
   (fun x hx=>by
    have hx:rowOf (Value.slice A' (bs.length+1) c')=some x:=hx
    rcases g6.row with e2 | e2 | ⟨g,e2,e3⟩
    ·rw [e2] at hx;exact .inl hx
    ·rw [e2] at hx;cases hx
    ·rw [e2] at hx;cases hx
     exact .inr ⟨om,om,fun e=>by have:=(har x e).2;omega⟩)
  exact⟨⟨m+1,o',bs++[gm],_,sm,om,by simp;omega,hC'⟩,odz⟩
 ·have hm2:m=S.bs.length:=by omega
  subst hm2
  have:=hK w1 o1 bs nv om h1
  unfold F76_l3 at this |-
  refine brd (fun hlt=>absurd hlt om) (fun hge=>?_)
  rw [def0 om,Br_f] at this
  exact this
theorem clone2 (hP:PM w0 o0 θ S) (hC:CDoc w0 w o S gb gc bs nv 0) (hlen:bs.length=S.D.sl.length) {v:Sv} (hv:Own LPt w0 0 140 (slV v) S.bs)
  (hK:∀o' w',Below w0.heap.size w0 w'->PM w' o' ⟨gc,106,[]⟩ ⟨S.D,bs,S.lv,S.wn,S.lo⟩->(∀b,o' b≠0->w0.heap.size<=b)->R (.returned (.pointer (some ⟨gc,0,none⟩))) w') :
  ∃(I:Int->Wd->Prop) (m:Int->Wd->Nat),I (0:Int) w /\
   ∀(x58:Int) (w1:Wd),I x58 w1->F76_l11 (some ⟨θ.g,0,none⟩) ⟨gb,0,none⟩ v.1 v.2.1 (fun x58' w2=>I x58' w2/\m x58' w2<m x58 w1) x58 w1 R:=by
 obtain⟨n1,n2⟩:=rdO hv
 have hl0:=hP.len
 have hfew:=hP.few
 refine⟨fun x w'=>∃(m:Nat) (o':Nat->Nat),x=m/\m<=S.bs.length/\CDoc w0 w' o' S gb gc bs nv m,fun x _=>S.bs.length-x.toNat,⟨0,o,rfl,om,hC⟩,?_⟩
 rintro _ w1 ⟨m,o1,rfl,hm,h1⟩
 have B1:=h1.bel
 have hdr:Below w1.heap.size w1 w1.drew:=(Below.refl _ _).drew
 have B1d:=btr B1 B1.size hdr
 have h1d:=h1.below hdr
 obtain⟨l1,l2⟩:=rdO h1.nv1
 have hcol:=h1.col
 have hbc:=h1.bc
 unfold F76_l11
 refine brd (fun hlt=>?_) (fun hge=>?_)
 ·have hml:m<S.bs.length:=by omega
  refine⟨fun w'=>∃o',CDoc w0 w' o' S gb gc bs nv (m+1),?_,?_⟩
  ·rintro w' ⟨o',h'⟩
   exact⟨inR_i64 om om,⟨m+1,o',sm,om,h'⟩,odz⟩
  refine (n2.keep B1).pt n1 rfl (k:=m) hml fun b oo c0=>?_
  simp only [c0,lds]
  obtain⟨s,hs⟩:∃s,S.D.sl[m]?=some s:=⟨_,gge om⟩
  have hgb:S.bs[m]?=some S.bs[m]:=gge hml
  obtain⟨bn,hbn⟩:∃bn,bs[m]?=some bn:=⟨_,gge om⟩
  obtain⟨hbl,hbn'⟩:=gsi.1 hbn
  generalize S.bs[m]=b0 at *
  obtain⟨a0,kv0,hN⟩:=hP.nodes m b0 s hgb hs
  have hr:=hP.rng s (mog hs)
  obtain⟨a,kv,hQ⟩:=h1.nd m bn s hbn hs
  rw [def0 om] at hQ
  have hbnc:=h1.nc m bn hbn
  refine⟨fun w'=>Below w1.heap.size w1 w',hdr,?_⟩
  refine⟨_,fun w' hw=>by rw [(h1.box.keep hw).cell];rfl,?_⟩
  refine⟨_,_,_,fun w' hw=>by rw [(h1.doc.keep hw).cell];rfl,?_⟩
  refine l2.held (fun _ h=>h) l1 om om rfl fun b2 o2 cc=>?_
  have cc:=cc 0 _ rfl
  simp only [tnc,hbn',Nat.add_zero] at cc
  refine⟨_,cc,?_⟩
  simp only [nds]
  refine⟨_,_,_,fun w' hw=>by rw [((hN.blk.keep B1).keep hw).cell];rfl,?_⟩
  obtain⟨q1,q2⟩:=rdO hN.kd1
  rw [lmp] at q1
  refine⟨kr,turn_calls hP h1d hlen q1 q2 hr.few hr.kids fun r w2 hb2 or2=>⟨_,_,_,rfl,?_⟩⟩
  have D2:=btr hdr hdr.size hb2
  refine⟨D2,?_⟩
  have h2:=h1.below D2
  have hws:=D2.size
  have hrr:∀x,rowOf (slV r)=some x->w1.heap.size<=x/\x<w2.heap.size:=fun x hx=>⟨(or2.lt x hx).1,(or2.lt x hx).2⟩
  have hbnl:=h1.lt bn om
  have b2:=hQ.blk.keep D2
  refine st_blk b2 (by simp [nodeC]) fun w3 b3 f3=>?_
  have e8:(nodeC m s a (ptrH (bif false then bs else S.bs) s.parent) kv).setIfInBounds 8 (.slice r.1 r.2.1 r.2.2)=nodeC m s a (ptrH S.bs s.parent) r:=by simp [nodeC]
  rw [e8] at b3
  have hgbl:=h1.gbl
  have hws0:=B1.size
  have hwb:=h1.box.lt
  have fin:∀w':Wd,Fm (·=bn) w2 w'->Blk w' bn (nodeC m s a (ptrH bs s.parent) r) 142->∃o',CDoc w0 w' o' S gb gc bs nv (m+1):=fun w' f b=>
   h2.step hbn hs f b (hQ.at1.keep D2) hQ.at2 (own_fm (or2.rebase fun _ _=>Nat.zero_le _) f fun x hx e=>by have e:x=bn:=e;have:=(hrr x hx).1;omega)
    fun x hx=>⟨byc fun e=>by have:=(h1.lt x e).2;have:=(hrr x hx).1;omega,by have:=(hrr x hx).1;omega,by have:=(hrr x hx).1;omega⟩
  have D3:Below w0.heap.size w0 w3:=(btr B1 B1.size D2).trans (f3.toBelow (btr B1 B1.size D2).size fun b hb e=>by have e:b=bn:=e;omega)
  have cp:w3.cell? ⟨b0,7,none⟩=some (.pointer (ptrH S.bs s.parent)):=by rw [(hN.blk.keep D3).cell];rfl
  simp only [cp,lds]
  by_cases hp0:s.parent=0
  ·have e1:ptrH S.bs s.parent=none:=by unfold ptrH;rw [if_pos hp0]
   rw [e1]
   simp only [Option.isNone_none,Bool.not_true,Br_f]
   refine fin w3 f3 ?_
   have e2:ptrH bs s.parent=none:=by unfold ptrH;rw [if_pos hp0]
   rw [e2,<-e1];exact b3
  ·have hpin:=hr.par.resolve_left hp0
   have e1:ptrH S.bs s.parent=some ⟨pb S.bs s.parent,0,none⟩:=by unfold ptrH;rw [if_neg hp0]
   rw [e1]
   simp only [oin,Bool.not_false,Br_t]
   have hdr3:Below w3.heap.size w3 w3.drew:=(Below.refl _ _).drew
   have bx3:=f3.blk h2.box fun e=>by have e:gb=bn:=e;rw [e] at hbc;omega
   have bd3:=f3.blk h2.doc fun e=>by have e:gc=bn:=e;rw [e] at hcol;omega
   have ho3:=own_fm h2.nv1 f3 fun x hx e=>by
    have e:x=bn:=e
    have:=h2.nv2 x hx
    rw [e] at this;omega
   obtain⟨p1,s2,p2⟩:=pb_get hP.len hpin
   unfold inN at hpin
   obtain⟨j1,j2⟩:=rdO ho3
   refine⟨fun w'=>Below w3.heap.size w3 w',hdr3,?_⟩
   refine⟨_,fun w' hw=>by rw [(bx3.keep hw).cell];rfl,?_⟩
   simp only [nds]
   refine⟨_,_,_,fun w' hw=>by rw [(bd3.keep hw).cell];rfl,?_⟩
   refine j2.held (fun _ h=>h) j1 om om rfl fun b4 o4 cc4=>?_
   have cc4:=cc4 0 _ rfl
   simp only [tnc,hbn',Nat.add_zero] at cc4
   refine⟨_,cc4,?_⟩
   refine⟨_,fun w' hw=>by rw [(bx3.keep hw).cell];rfl,?_⟩
   simp only [nds]
   refine⟨_,_,_,fun w' hw=>by rw [(bd3.keep hw).cell];rfl,?_⟩
   refine⟨_,fun w' hw=>by rw [((hN.blk.keep D3).keep hw).cell];show _=some (Value.pointer (ptrH S.bs s.parent));rfl,?_⟩
   rw [e1]
   simp only [nds]
   refine⟨_,fun w' hw=>(hP.below (btr D3 D3.size hw)).cIdx p1 p2,inR_u32 om om,?_⟩
   refine j2.held (fun _ h=>h) j1 om om rfl fun b5 o5 cc5=>?_
   have cc5:=cc5 0 _ rfl
   have e3:(((s.parent % 4294967296-1+1:Nat):Int)-1).toNat=s.parent % 4294967296-1:=by omega
   have e4:bs[(((s.parent % 4294967296-1+1:Nat):Int)-1).toNat]'om=pb bs s.parent:=by
    unfold pb
    rw [gdd,gge om]
    simp only [e3,Option.getD_some]
   simp only [e4,Nat.add_zero] at cc5
   refine⟨_,cc5,?_⟩
   refine st_blk (b3.keep hdr3) (by simp [nodeC]) fun w5 b5 f5=>?_
   have e7:(nodeC m s a (ptrH S.bs s.parent) r).setIfInBounds 7 (.pointer (some ⟨pb bs s.parent,0,none⟩))=nodeC m s a (ptrH bs s.parent) r:=by
    have:ptrH bs s.parent=some ⟨pb bs s.parent,0,none⟩:=by unfold ptrH;rw [if_neg hp0]
    rw [this];simp [nodeC]
   rw [e7] at b5
   exact fin w5 ((f3.trans (Fm.below hdr3)).trans f5) b5
 ·have hm2:m=S.D.sl.length:=by omega
  subst hm2
  obtain⟨nv0,rv0,hd⟩:=hP.doc
  refine⟨fun w'=>Below w1.heap.size w1 w',hdr,?_⟩
  refine⟨_,fun w' hw=>by rw [(h1.box.keep hw).cell];rfl,?_⟩
  simp only [nds]
  refine⟨_,_,_,fun w' hw=>by rw [((hd.blk.keep B1).keep hw).cell];rfl,?_⟩
  obtain⟨q1,q2⟩:=rdO hd.r1
  rw [lmp] at q1
  refine⟨kr,turn_calls hP h1d hlen q1 q2 hP.rts.2 hP.rts.1 fun r w2 hb2 or2=>⟨_,_,_,rfl,?_⟩⟩
  have D2:=btr hdr hdr.size hb2
  refine⟨D2,?_⟩
  have h2:=h1.below D2
  have hws:=D2.size
  refine st_blk h2.doc (by simp [docC]) fun w3 b3 f3=>?_
  rw [show Value.slice r.1 r.2.1 r.2.2=slV r from rfl,show (none,0,0)=((none,0,0):Sv) from rfl,doc_set1] at b3
  have bx3:=f3.blk h2.box fun e=>by have e:gb=gc:=e;rw [e,hcol] at hbc;cases hbc
  have cb:w3.cell? ⟨gb,0,none⟩=some (.pointer (some ⟨gc,0,none⟩)):=by rw [bx3.cell];rfl
  simp only [cb,lds]
  have hgcl:=(h1.lt gc (by rw [hcol];decide))
  have hrr:∀x,rowOf (slV r)=some x->w1.heap.size<=x/\x<w2.heap.size:=fun x hx=>⟨(or2.lt x hx).1,(or2.lt x hx).2⟩
  have hws0:=B1.size
  obtain⟨o',hPM,ho'⟩:=h2.pm hP hlen f3 b3 (own_fm (or2.rebase fun _ _=>Nat.zero_le _) f3 fun x hx e=>by have e:x=gc:=e;have:=(hrr x hx).1;omega)
   fun x hx=>⟨byc fun e=>by have:=(h1.lt x e).2;have:=(hrr x hx).1;omega,by have:=(hrr x hx).1;omega⟩
  exact hK o' w3 ((btr B1 B1.size D2).trans (f3.toBelow (btr B1 B1.size D2).size fun b hb e=>by have e:b=gc:=e;omega)) hPM ho'
theorem Clone_calls (hP:PM w o0 θ S) (hK:∀gc bs o' w',Below w.heap.size w w'->PM w' o' ⟨gc,106,[]⟩ ⟨S.D,bs,S.lv,S.wn,S.lo⟩->(∀b,o' b≠0->w.heap.size<=b)->R (.returned (.pointer (some ⟨gc,0,none⟩))) w') :
  CL 76 #[.pointer (some ⟨θ.g,0,none⟩)] w R:=by
 refine ok76 (some ⟨θ.g,0,none⟩) ?_
 unfold F76
 obtain⟨nv0,rv0,hd⟩:=hP.doc
 have hdr:Below w.heap.size w w.drew:=(Below.refl _ _).drew
 have start:∀(w':Wd) (gb gc:Nat),Below w.heap.size w w'->w.heap.size<=gb->w.heap.size<=gc->gb≠gc->Blk w' gb #[.pointer (some ⟨gc,0,none⟩)] 74->Blk w' gc (docC (none,0,0) (none,0,0) S.lv S.wn S.lo []) 106 ->
   CDoc w w' (fun b=>if b=gc then 1 else 0) S gb gc [] (none,0,0) 0:=fun w' gb gc hb h1 h2 h3 b1 b2=>
  ⟨hb,b1,b2,Own.nil _ _ _ _,fun x hx=>(by cases hx),if_pos rfl,if_neg h3,fun b hb=>(by
   by_cases e:b=gc
   ·subst e;exact⟨h2,b2.lt⟩
   ·rw [if_neg e] at hb;exact absurd rfl hb),h1,sm,fun j b hb=>(by simp at hb),fun j b s hb=>(by simp at hb)⟩
 refine⟨fun c w'=>∃gb gc,c=⟨gb,0,none⟩/\CDoc w w' (fun b=>if b=gc then 1 else 0) S gb gc [] (none,0,0) 0,?_,?_⟩
 ·rintro _ w1 ⟨gb,gc,rfl,h1⟩
  unfold F76_j2
  have c0:w1.cell? ⟨θ.g,0,none⟩=some (.slice nv0.1 nv0.2.1 nv0.2.2):=by rw [(hd.blk.keep h1.bel).cell];rfl
  simp only [NonNil_some,c0,lds]
  refine clone1 hP h1 hd.n1 fun w2 o2 bs nv hl h2=>?_
  unfold F76_l3
  obtain⟨n1,n2⟩:=rdO hd.n1
  refine brd (fun hlt=>absurd hlt om) fun _=>?_
  have c2:w2.cell? ⟨θ.g,0,none⟩=some (.slice nv0.1 nv0.2.1 nv0.2.2):=by rw [(hd.blk.keep h2.bel).cell];rfl
  simp only [NonNil_some,c2,lds]
  exact clone2 hP h2 hl hd.n1 fun o' w' hb hPM ho=>hK gc bs o' w' hb hPM ho
 ·refine⟨fun w'=>Below w.heap.size w w',hdr,?_⟩
  simp only [nds]
  refine⟨_,fun w' hw=>by rw [(hd.blk.keep hw).cell];rfl,_,fun w' hw=>by rw [(hd.blk.keep hw).cell];rfl,_,fun w' hw=>by rw [(hd.blk.keep hw).cell];rfl,?_,?_⟩
  ·refine al fun gc w1 hb1 b1 hge1=>al fun gb w2 hb2 b2 hge2=>?_
   refine st_blk b2 sm fun w3 b3 f3=>?_
   simp only [sls] at b3
   have D2:=btr (btr hdr hdr.size hb1) (btr hdr hdr.size hb1).size hb2
   have hl1:=b1.lt
   have hs1:=hb1.size
   have hds:w.drew.heap.size=w.heap.size:=rfl
   exact⟨gb,gc,rfl,start w3 gb gc (D2.trans (f3.toBelow D2.size fun b hb e=>by have e:b=gb:=e;omega)) om om om b3 (f3.blk (b1.keep hb2) fun e=>by have e:gc=gb:=e;omega)⟩
  ·refine al fun gb w1 hb1 b1 hge1=>⟨btr hdr hdr.size hb1,?_⟩
   refine al fun gc w2 hb2 b2 hge2=>?_
   refine st_blk (b1.keep hb2) sm fun w3 b3 f3=>?_
   simp only [sls] at b3
   have D2:=btr (btr hdr hdr.size hb1) (btr hdr hdr.size hb1).size hb2
   have hl1:=b1.lt
   have hs1:=hb1.size
   have hds:w.drew.heap.size=w.heap.size:=rfl
   exact⟨gb,gc,rfl,start w3 gb gc (D2.trans (f3.toBelow D2.size fun b hb e=>by have e:b=gb:=e;omega)) om om om b3 (f3.blk b2 fun e=>by have e:gc=gb:=e;omega)⟩
end
section
variable {w w1:Wd}{R:RT}
abbrev UBoth (gp:Nat) (w0:Wd) (g k:Nat) (w:Wd) (o:Nat->Nat) (D:Im) (vs vr:Sv):Prop:=Both (.iface 58 (.pointer (some ⟨gp,0,none⟩))) (fun k w o D=>LD k gp 113 w o D) w0 g k w o D vs vr
def actsD (xs:List E12):Im:=xs.foldl (fun D x=>doF D x.a) ⟨[],[]⟩
theorem actsD_take {xs:List E12}{k:Nat} (hk:k<xs.length):actsD (xs.take (k+1))=doF (actsD (xs.take k)) xs[k].a:=by
 unfold actsD
 rw [tsa hk,List.foldl_append];rfl
theorem madeU_calls {A:OA}{c:Nat}{xs:List E12} (hT:Tabs w) (hr:Rd LAc w A c xs) (hx:∀x∈xs,RAc w x) (hl:xs.length<=1048576)
  (hK:∀gp gd w' o vs vr,w.heap.size<=gp->UBoth gp w gd xs.length w' o (actsD xs) vs vr->R (.returned (.tuple #[.pointer (some ⟨gp,0,none⟩),.pointer (some ⟨gd,0,none⟩),.bool true])) w'):CL 18 #[.slice A xs.length c] w R:=by
 refine ok18 A xs.length c ?_
 unfold F18
 refine al fun gp w1 hb1 b1 hge1=>al fun gd w2 hb2 b2 hge2=>?_
 have B2:=btr hb1 hb1.size hb2
 have hs1:=hb1.size
 have hb1l:=b1.lt
 have b12:=b1.keep hb2
 have h0:UBoth gp w gd 0 w2 (fun b=>if b=gp then 1 else 0) ⟨[],[]⟩ (none,0,0) (none,0,0):=
  ⟨ld_zero b12,nil_wf,rm_zero b2,if_neg om,B2,fun b hb=>if_neg om,om⟩
 refine⟨fun i w'=>∃(m:Nat) (o:Nat->Nat) (vs vr:Sv),i=m/\m<=xs.length/\UBoth gp w gd m w' o (actsD (xs.take m)) vs vr,fun i _=>xs.length-i.toNat,⟨0,_,_,_,rfl,om,h0⟩,?_⟩
 rintro _ w3 ⟨m,o,vs,vr,rfl,hm,h3⟩
 unfold F18_l3
 refine brd (fun hlt=>?_) (fun hge=>?_)
 ·have hm2:m<xs.length:=by omega
  have hr3:=hr.keep h3.old
  refine hr3.idx rfl om om rfl fun b oo cc=>?_
  simp only [tnc] at cc
  have k0:=cc 0 _ rfl
  have k1:=cc 1 _ rfl
  have k2:=cc 2 _ rfl
  have k3:=cc 3 _ rfl
  have k4:=cc 4 _ rfl
  have k5:=cc 5 _ rfl
  have k6:=cc 6 _ rfl
  have k7:=cc 7 _ rfl
  have k8:=cc 8 _ rfl
  have k9:=cc 9 _ rfl
  have k10:=cc 10 _ rfl
  have k11:=cc 11 _ rfl
  simp only [Nat.add_zero] at k0
  simp only [k0,k1,k2,k3,k4,k5,k6,k7,k8,k9,k10,k11,lds]
  refine both_does (x:=xs[m]) label_edr h3 om hT (hx _ (gem hm2)) fun w4 o4 vs4 vr4 h4=>⟨_,rfl,?_⟩
  rw [show (!true)=false from rfl,Br_f]
  exact⟨inR_i64 om om,⟨m+1,o4,vs4,vr4,sm,om,by rw [actsD_take hm2];exact h4⟩,odz⟩
 ·have hm2:m=xs.length:=by omega
  subst hm2
  rw [tkl] at h3
  exact hK gp gd w3 o vs vr om h3
def opMeant (D:Im) (how:Bool) (o:O1):O1:=if how=true/\(allI D 0).length≠0 then
 { o with node:=(allI D 0).getD (o.node % (allI D 0).length) 0,at_:=if o.at_ % ((allI D 0).length+1)=(allI D 0).length then 0 else (allI D 0).getD (o.at_ % ((allI D 0).length+1)) 0 } else o
def mtE (D:Im) (how:Bool) (x:E11):E11:=⟨opMeant D how x.o,x.e⟩
theorem mt_t (D:Im) (how:Bool) (o:O1):(opMeant D how o).t=o.t:=by unfold opMeant;split <;> rfl
theorem mt_rop {g:Nat}{D:Im}{vs vr:Sv}{es:List S8}{w0:Wd} (h:RW [] w g D vs vr es) (hw:Wf D) (how:Bool) {x:E11} (hx:ROp w0 x):ROp w0 (mtE D how x):=by
 refine⟨?_,by unfold mtE;dsimp only;rw [mt_t];exact hx.2⟩
 unfold mtE opMeant
 dsimp only
 split
 ·refine⟨getD_lt h hw _,?_⟩
  dsimp only
  split
  ·show 0<_;omega
  ·exact getD_lt h hw _
 ·exact hx.1
theorem meantU_calls {g:Nat}{D:Im}{vs vr:Sv}{es:List S8} (h:RW [] w g D vs vr es) (hw:Wf D) (how:Bool) (xs:List E11) {A:OA}{c:Nat} (hr:Rd LOp w A c xs) (hb:∀x∈xs,(x.o.node<18446744073709551616/\x.o.at_<18446744073709551616)) (hl:xs.length<=1048576)
  (hK:∀w' v,Below w.heap.size w w'->Own LOp w' w.heap.size 50 (slV v) (xs.map (mtE D how))->R (.returned (slV v)) w') :
  CL 19 #[.pointer (some ⟨g,0,none⟩),.slice A xs.length c,.bool how] w R:=by
 refine ok19 (some ⟨g,0,none⟩) A xs.length c how ?_
 unfold F19
 refine AllW (n:=0) h hw om fun v w1 hb1 ov _=>⟨v.1,v.2.1,v.2.2,0,rfl,?_⟩
 have ov:=ov (.inl rfl)
 have hs1:=hb1.size
 refine al fun g18 w2 hb2 b2 hge2=>?_
 have B2:=btr hb1 hs1 hb2
 have hs2:=hb2.size
 have hlen:=allI_len hw 0 (.inl rfl)
 have hmt:∀o,opMeant D how o=if how=true/\(allI D 0).length≠0 then
   { o with node:=(allI D 0).getD (o.node % (allI D 0).length) 0,at_:=if o.at_ % ((allI D 0).length+1)=(allI D 0).length then 0 else (allI D 0).getD (o.at_ % ((allI D 0).length+1)) 0 } else o:=fun _=>rfl
 generalize allI D 0=L at *
 have ov2:=ov.keep hb2
 refine⟨fun rA rN rC i w'=>∃k:Nat,i=k/\k<=xs.length/\Below w.heap.size w w'/\w2.heap.size<=w'.heap.size/\Own LHn w' w.heap.size 42 (slV v) L/\Own LOp w' w2.heap.size 50 (.slice rA rN rC) ((xs.map (mtE D how)).take k),fun _ _ _ i _=>xs.length-i.toNat,
  ⟨0,rfl,om,B2,nlr _,ov2,by rw [List.take_zero];exact Own.bare _ _ _ _ _⟩,?_⟩
 rintro rA rN rC _ w3 ⟨k,rfl,hk,B3,hs3,ov3,or3⟩
 unfold F19_l4
 have hml:(xs.map (mtE D how)).length=xs.length:=lmp _
 have hvr:∀b,rowOf (slV v)=some b->w.heap.size<=b/\b<w1.heap.size:=fun b hb=>ov.lt b hb
 have hrr:∀b,rowOf (.slice rA rN rC)=some b->w2.heap.size<=b/\b<w3.heap.size:=fun b hb=>or3.lt b hb
 refine brd (fun hlt=>?_) (fun hge=>?_)
 rotate_left
 ·have hk2:k=(xs.map (mtE D how)).length:=by omega
  subst hk2
  rw [tkl] at or3
  exact hK w3 (rA,rN,rC) B3 (or3.rebase fun b hb=>by have:=(hrr b hb).1;omega)
 have hk2:k<xs.length:=by omega
 refine (hr.keep B3).op rfl rfl hk2 fun b oo c0 c1 c2 c3 c4 c5 c6 c7 c8 c9 c10=>?_
 simp only [c0,c1,c2,c3,c4,c5,c6,c7,c8,c9,c10,lds]
 refine al11 fun go w4 hb4 bo hgo=>?_
 have hs4:=hb4.size
 have hgol:=bo.lt
 have bo:Blk w4 go (opC xs[k]) 50:=bo
 have ov4:=ov3.keep hb4
 have or4:=or3.keep hb4
 obtain⟨y1,y2⟩:=rdO ov4
 refine⟨fun w'=>Blk w' go (opC (mtE D how xs[k])) 50/\Fm (·=go) w4 w',?_,?_⟩
 ·rintro w5 ⟨bo5,f5⟩
  unfold F19_j13
  have hs5:=f5.size
  simp only [bo5.cell,lds]
  refine al fun g64 w6 hb6 b6 hge6=>?_
  have hs6:=hb6.size
  have r6:Rd LOp w6 (some ⟨g64,0,none⟩) 1 [mtE D how xs[k]]:=rd_row (xs:=[mtE D how xs[k]]) b6 rfl (by simp [maxLen])
  have F6:Fm (·=go) w4 w6:=f5.trans (.below hb6)
  have or6:Own LOp w6 w2.heap.size 50 (.slice rA rN rC) ((xs.map (mtE D how)).take k):=own_fm or4 F6 fun b hb e=>by have e:b=go:=e;have:=(hrr b hb).2;omega
  have ov6:=own_fm ov4 F6 fun b hb e=>by have e:b=go:=e;have:=(hvr b hb).2;omega
  have htl:((xs.map (mtE D how)).take k).length=k:=by rw [ltk];omega
  have D6:Below w3.heap.size w3 w6:=hb4.trans (F6.toBelow hb4.size fun b hb e=>by have e:b=go:=e;omega)
  refine ap (L:=LOp) (ys:=[mtE D how xs[k]]) (base:=w2.heap.size) (v:=.slice rA rN rC) (.agg #[.int .i64 0,.int .u64 0,.int .u64 0,.int .i64 0,eS,eS,.int .i64 0,eS,.slice none 0 0,eS,.slice none 0 0]) 152 rfl kr kr kr or6 r6 om (by simp only [List.length_singleton];omega) (by simp only [List.length_singleton];unfold maxLen;omega) fun A' c' w7 o7 g7=>⟨A',_,c',rfl,?_⟩
  have F7:Fm (fun b=>rowOf (.slice rA rN rC)=some b) w6 w7:=Fm.grown g7.grown fun x hx=>hx
  have hs7:=F7.size
  refine⟨inR_i64 om om,⟨k+1,sm,om,(B3.trans (D6.mono B3.size)).trans (F7.toBelow (by have:=B3.size;omega) fun b hb e=>by have:=(hrr b e).1;omega),om,own_fm ov6 F7 fun b hb e=>by have:=(hrr b e).1;have:=(hvr b hb).2;omega,?_⟩,odz⟩
  rw [tsa om,gmp]
  exact o7
 refine⟨inR_u64 om om,?_⟩
 have stay:¬(how=true/\L.length≠0)->mtE D how xs[k]=xs[k]:=fun hn=>by unfold mtE;rw [hmt,if_neg hn]
 refine br (fun hh=>?_) fun hh=>⟨by rw [stay (by rw [hh];simp)];exact bo,.refl _ _⟩
 refine brd (fun hpos=>?_) fun hz=>⟨by rw [stay om];exact bo,.refl _ _⟩
 have hpos':0<L.length:=by omega
 have hm:mtE D how xs[k]=⟨{ xs[k].o with node:=L.getD (xs[k].o.node % L.length) 0,at_:=if xs[k].o.at_ % (L.length+1)=L.length then 0 else L.getD (xs[k].o.at_ % (L.length+1)) 0 },xs[k].e⟩:=by
  unfold mtE;rw [hmt,if_pos ⟨hh,om⟩]
 rw [hm]
 simp only [bo.cell,lds]
 have hm1:((xs[k].o.node:Nat):Int).tmod ((L.length:Nat):Int)=((xs[k].o.node % L.length:Nat):Int):=by rw [Int.tmod_eq_emod_of_nonneg om];rfl
 rw [y1,hm1]
 have hi1:xs[k].o.node % L.length<L.length:=Nat.mod_lt _ hpos'
 refine⟨om,y2.hn rfl rfl hi1 fun bb oo cc=>?_⟩
 simp only [cc,lds]
 refine st_blk bo sm fun w5 b15 f5=>?_
 simp only [sls] at b15
 simp only [b15.cell,lds]
 have ov5:=own_fm ov4 f5 fun b hb e=>by have e:b=go:=e;have:=(hvr b hb).2;omega
 obtain⟨_,y3⟩:=rdO ov5
 have eN:((L.length:Nat):Int)+1=((L.length+1:Nat):Int):=by omega
 rw [eN]
 have hm2:((xs[k].o.at_:Nat):Int).tmod ((L.length+1:Nat):Int)=((xs[k].o.at_ % (L.length+1):Nat):Int):=by rw [Int.tmod_eq_emod_of_nonneg om];rfl
 rw [hm2]
 have hi2:xs[k].o.at_ % (L.length+1)<L.length+1:=Nat.mod_lt _ om
 have hg1:L.getD (xs[k].o.node % L.length) 0=L[xs[k].o.node % L.length]:=by rw [gdd,gge hi1];rfl
 refine⟨inR_u64 om om,om,?_⟩
 refine bre (fun heq=>?_) (fun hne2=>?_)
 ·refine st_blk b15 sm fun w6 b16 f6=>?_
  simp only [sls] at b16
  rw [if_pos om,hg1]
  exact⟨b16,f5.trans f6⟩
 ·have hi3:xs[k].o.at_ % (L.length+1)<L.length:=by omega
  have hg2:L.getD (xs[k].o.at_ % (L.length+1)) 0=L[xs[k].o.at_ % (L.length+1)]:=by rw [gdd,gge hi3];rfl
  refine⟨inR_u64 om om,om,?_⟩
  refine y3.hn rfl rfl hi3 fun bb oo cc=>?_
  simp only [cc,lds]
  refine st_blk b15 sm fun w6 b16 f6=>?_
  simp only [sls] at b16
  rw [if_neg om,hg1,hg2]
  exact⟨b16,f5.trans f6⟩
end
end Go.Proofs.YtnbgiacnbheonaaGreatDoor
set_option linter.unusedVariables false
set_option maxRecDepth 100000
namespace Go.Proofs.YtnbgiacnbheonaaGreatDoor
open Go.Vc
def F15_j5 (L4:Int->Wd->Prop)(i:Int)(a:Wd)(R:RT):Prop:=InR .i64 (i+(1:Int))/\L4 (i+(1:Int)) a
def F15_j7 (J5:Wd->Prop)(s t:Addr)(ea:Wd)(R:RT):Prop:=LdI .u32 (ea.cell? s) fun ja=>LdI .u32 (ea.cell? t) fun ba=>Br (ja != ba) (R (.returned (.bool false)) ea) (LdB (ea.cell? (s.add 1)) fun y=>LdB (ea.cell? (t.add 1)) fun u=>Br (!(y==u)) (R (.returned (.bool false)) ea) (LdI .i64 (ea.cell? (s.add 2)) fun p=>LdI .i64 (ea.cell? (t.add 2)) fun k=>Br (p != k) (R (.returned (.bool false)) ea) (LdStr (ea.cell? (s.add 3)) fun ga=>LdStr (ea.cell? (t.add 3)) fun da=>Br (!(ga.toList==da.toList)) (R (.returned (.bool false)) ea) (LdStr (ea.cell? (s.add 5)) fun ha=>LdStr (ea.cell? (t.add 5)) fun q=>Br (!(ha.toList==q.toList)) (R (.returned (.bool false)) ea) (LdI .u64 (ea.cell? (s.add 6)) fun z=>LdI .u64 (ea.cell? (t.add 6)) fun ca=>Br (z != ca) (R (.returned (.bool false)) ea) (LdSl (ea.cell? (s.add 4)) fun ia f j=>LdSl (ea.cell? (t.add 4)) fun aa g h=>CL 52 #[.slice ia f j,.slice aa g h] ea (post R fun v i=>∃r,v=(.bool r)/\Br (!r) (R (.returned (.bool false)) i) (LdSl (i.cell? (s.add 7)) fun m c b=>LdSl (i.cell? (t.add 7)) fun n d a=>CL 25 #[.slice m c b,.slice n d a] i (post R fun v2 e=>∃fa,v2=(.bool fa)/\Br (!fa) (R (.returned (.bool false)) e) (J5 e))))))))))
def F15_l4 (a b:Addr)(L4:Int->Wd->Prop)(i:Int)(kb:Wd)(R:RT):Prop:=LdSl (kb.cell? a) fun nb jb ya=>Br (decide (i<(jb:Int))) (∃J5:Wd->Prop,(∀hb,J5 hb->F15_j5 L4 i hb R)/\(∃J7:Addr->Addr->Wd->Prop,(∀s t hb,J7 s t hb->F15_j7 J5 s t hb R)/\(∃S:Wd->Prop,S kb.drew/\∃pb gb va,Held S a (.slice pb gb va)/\IdxA pb gb i 8 fun mb=>∃qa,Held S mb (.int .u32 qa)/\∃ca,Held S (mb.add 1) (.bool ca)/\∃n,Held S (mb.add 2) (.int .i64 n)/\∃ua,Held S (mb.add 3) (.string ua)/\∃na h f,Held S (mb.add 4) (.slice na h f)/\∃ea,Held S (mb.add 5) (.string ea)/\∃p,Held S (mb.add 6) (.int .u64 p)/\∃q j g,Held S (mb.add 7) (.slice q j g)/\∃rb za ib,Held S b (.slice rb za ib)/\IdxA rb za i 8 fun qb=>∃y,Held S qb (.int .u32 y)/\∃ma,Held S (qb.add 1) (.bool ma)/\∃v,Held S (qb.add 2) (.int .i64 v)/\∃ja,Held S (qb.add 3) (.string ja)/\∃u c e,Held S (qb.add 4) (.slice u c e)/\∃r,Held S (qb.add 5) (.string r)/\∃ga,Held S (qb.add 6) (.int .u64 ga)/\∃ka k d,Held S (qb.add 7) (.slice ka k d)/\(Al kb.drew #[.int .u32 0,.bool false,.int .i64 0,eS,.slice none 0 0,eS,.int .u64 0,.slice none 0 0] 88 fun s db=>S db/\Al db #[.int .u32 0,.bool false,.int .i64 0,eS,.slice none 0 0,eS,.int .u64 0,.slice none 0 0] 88 fun t bb=>S bb/\St bb s (.int .u32 qa) fun eb=>St eb (s.add 1) (.bool ca) fun ab=>St ab (s.add 2) (.int .i64 n) fun cb=>St cb (s.add 3) (.string ua) fun fb=>St fb (s.add 4) (.slice na h f) fun ta=>St ta (s.add 5) (.string ea) fun sa=>St sa (s.add 6) (.int .u64 p) fun da=>St da (s.add 7) (.slice q j g) fun z=>S z/\St z t (.int .u32 y) fun ha=>St ha (t.add 1) (.bool ma) fun m=>St m (t.add 2) (.int .i64 v) fun ra=>St ra (t.add 3) (.string ja) fun pa=>St pa (t.add 4) (.slice u c e) fun fa=>St fa (t.add 5) (.string r) fun ba=>St ba (t.add 6) (.int .u64 ga) fun aa=>St aa (t.add 7) (.slice ka k d) fun ia=>J7 s t ia)/\(Al kb.drew #[.int .u32 0,.bool false,.int .i64 0,eS,.slice none 0 0,eS,.int .u64 0,.slice none 0 0] 88 fun t db=>S db/\Al db #[.int .u32 0,.bool false,.int .i64 0,eS,.slice none 0 0,eS,.int .u64 0,.slice none 0 0] 88 fun s bb=>S bb/\St bb s (.int .u32 qa) fun eb=>St eb (s.add 1) (.bool ca) fun ab=>St ab (s.add 2) (.int .i64 n) fun cb=>St cb (s.add 3) (.string ua) fun fb=>St fb (s.add 4) (.slice na h f) fun ta=>St ta (s.add 5) (.string ea) fun sa=>St sa (s.add 6) (.int .u64 p) fun da=>St da (s.add 7) (.slice q j g) fun z=>S z/\St z t (.int .u32 y) fun ha=>St ha (t.add 1) (.bool ma) fun m=>St m (t.add 2) (.int .i64 v) fun ra=>St ra (t.add 3) (.string ja) fun pa=>St pa (t.add 4) (.slice u c e) fun fa=>St fa (t.add 5) (.string r) fun ba=>St ba (t.add 6) (.int .u64 ga) fun aa=>St aa (t.add 7) (.slice ka k d) fun ia=>J7 s t ia)))) (R (.returned (.bool true)) kb)
def F15_j3 (a b:Addr)(d:Wd)(R:RT):Prop:=∃(I:Int->Wd->Prop)(m:Int->Wd->Nat),I (0:Int) d/\∀i c,I i c->F15_l4 a b (fun i' w2=>I i' w2/\m i' w2<m i c) i c R
def F15 (u:OA)(y z:Nat)(aa:OA)(ab ac:Nat)(ad:OA)(ae af:Nat)(ag:OA)(ah ai:Nat)(s:Wd)(R:RT):Prop:=Al s #[.slice u y z,.slice aa ab ac] 25 fun a w1=>Al w1 #[.slice ad ae af,.slice ag ah ai] 25 fun b i=>∃J3:Wd->Prop,(∀d,J3 d->F15_j3 a b d R)/\(LdSl (i.cell? a) fun t r q=>LdSl (i.cell? b) fun p e j=>Br ((r:Int) != (e:Int)) (R (.returned (.bool false)) i) (LdSl (i.cell? (a.add 1)) fun k f c=>LdSl (i.cell? (b.add 1)) fun m h g=>CL 25 #[.slice k f c,.slice m h g] i (post R fun v d=>∃n,v=(.bool n)/\Br (!n) (R (.returned (.bool false)) d) (J3 d))))
theorem ok15 (a:OA)(b c:Nat)(d:OA)(e f:Nat)(g:OA)(i j:Nat)(k:OA)(m n:Nat){w:Wd}{R:RT} (h:F15 a b c d e f g i j k m n w R):CL 15 #[.agg #[.slice a b c,.slice d e f],.agg #[.slice g i j,.slice k m n]] w R:=
 vk ⟨96,⟨[]⟩,[(7,⟨[(6,(.s .addr)),(7,(.s .addr))],[(6,40)]⟩),(5,⟨[],[(4,5),(6,96)]⟩),(3,⟨[],[(4,23)]⟩)],[(4,⟨[(5,(.s (.int .i64)))],[(4,96)]⟩)]⟩ Tryz.func15 h
def F106_l5 (g1:Addr)(L2:Int->Wd->Prop)(i:Int)(L5:Int->Wd->Prop)(k:Int)(ha:Wd)(R:RT):Prop:=LdSl (ha.cell? g1) fun ia aa f=>IdxA ia aa i 8 fun na=>LdSl (ha.cell? (na.add 4)) fun ja t g=>Br (decide (k<(t:Int))) (LdSl (ha.cell? g1) fun ma j y=>IdxA ma j i 8 fun pa=>LdSl (ha.cell? (pa.add 4)) fun fa ca s=>IdxA fa ca k 2 fun qa=>St ha qa eS fun u=>St u (qa.add 1) eS fun z=>InR .i64 (k+(1:Int))/\L5 (k+(1:Int)) z) (LdSl (ha.cell? g1) fun ea da b=>IdxA ea da i 8 fun ga=>LdSl (ha.cell? (ga.add 7)) fun sa c ba=>CL 162 #[.slice sa c ba] ha (post R fun v u=>v=(.tuple #[])/\LdSl (u.cell? g1) fun ka p n=>IdxA ka p i 8 fun ra=>St u ra (.int .u32 0) fun z=>St z (ra.add 1) (.bool false) fun m=>St m (ra.add 2) (.int .i64 0) fun e=>St e (ra.add 3) eS fun q=>St q (ra.add 4) (.slice none 0 0) fun d=>St d (ra.add 5) eS fun h=>St h (ra.add 6) (.int .u64 0) fun r=>St r (ra.add 7) (.slice none 0 0) fun a=>InR .i64 (i+(1:Int))/\L2 (i+(1:Int)) a))
def F106_l2 (g1:Addr)(L2:Int->Wd->Prop)(i:Int)(g:Wd)(R:RT):Prop:=LdSl (g.cell? g1) fun h e d=>Br (decide (i<(e:Int))) (∃(I:Int->Wd->Prop)(m:Int->Wd->Nat),I (0:Int) g/\∀k b,I k b->F106_l5 g1 L2 i (fun k' w2=>I k' w2/\m k' w2<m k b) k b R) (LdSl (g.cell? (g1.add 1)) fun f a c=>CL 162 #[.slice f a c] g (post R fun v b=>v=(.tuple #[])/\R (.returned (.tuple #[])) b))
def F106 (c:OA)(d e:Nat)(f:OA)(g h:Nat)(b:Wd)(R:RT):Prop:=Al b #[.slice c d e,.slice f g h] 25 fun g1 w1=>∃(I:Int->Wd->Prop)(m:Int->Wd->Nat),I (0:Int) w1/\∀i a,I i a->F106_l2 g1 (fun i' w2=>I i' w2/\m i' w2<m i a) i a R
theorem ok106 (a:OA)(b c:Nat)(d:OA)(e f:Nat){w:Wd}{R:RT} (h:F106 a b c d e f w R):CL 106 #[.agg #[.slice a b c,.slice d e f]] w R:=
 vk ⟨46,⟨[]⟩,[],[(5,⟨[(3,(.s (.int .i64)))],[(3,31)]⟩),(2,⟨[(2,(.s (.int .i64)))],[(2,43)]⟩)]⟩ Tryz.func106 h
def F57_l9 (p d ja:OA)(ea:Nat)(L9:Int->Wd->Prop)(i:Int)(ia:Wd)(R:RT):Prop:=Br (decide (i<(ea:Int))) (IdxA ja ea i 5 fun ha=>LdI .i64 (ia.cell? ha) fun v=>LdStr (ia.cell? (ha.add 1)) fun s=>LdSl (ia.cell? (ha.add 2)) fun u j g=>LdStr (ia.cell? (ha.add 3)) fun r=>LdSl (ia.cell? (ha.add 4)) fun da b h=>CL 60 #[.agg #[.int .i64 v,.string s,.slice u j g,.string r,.slice da b h]] ia (post R fun v6 fa=>v6=(.tuple #[])/\InR .i64 (i+(1:Int))/\L9 (i+(1:Int)) fa)) (CL 31 #[.pointer p] ia (post R fun v6 fa=>∃ba m c t k e,v6=(.agg #[.slice ba m c,.slice t k e])/\CL 16 #[.pointer d] fa (post R fun v7 z=>∃aa q n ca f a,v7=(.agg #[.slice aa q n,.slice ca f a])/\CL 15 #[.agg #[.slice ba m c,.slice t k e],.agg #[.slice aa q n,.slice ca f a]] z (post R fun v8 y=>∃ga,v8=(.bool ga)/\R (.returned (.bool ga)) y))))
def F57_j4 (p d:OA)(g5:Addr)(y:Wd)(R:RT):Prop:=LdSl (y.cell? g5) fun g c b=>LdSl (y.cell? (g5.add 1)) fun f a e=>CL 106 #[.agg #[.slice g c b,.slice f a e]] y (post R fun v2 k=>v2=(.tuple #[])/\CL 107 #[.pointer p] k (post R fun v3 s=>∃aa n r,v3=(.slice aa n r)/\CL 109 #[.pointer d] s (post R fun v4 h=>∃v u j,v4=(.slice v u j)/\CL 108 #[.slice aa n r,.slice v u j] h (post R fun v5 q=>∃z,v5=(.bool z)/\Br (!z) (R (.returned (.bool false)) q) (∃(I:Int->Wd->Prop)(m:Int->Wd->Nat),I (0:Int) q/\∀i t,I i t->F57_l9 p d aa n (fun i' w2=>I i' w2/\m i' w2<m i t) i t R)))))
def F57 (p d:OA)(w_:Wd)(R:RT):Prop:=CL 31 #[.pointer p] w_ (post R fun v w1=>∃da r m ca j q,v=(.agg #[.slice da r m,.slice ca j q])/\Al w1 #[.slice none 0 0,.slice none 0 0] 25 fun g5 ma=>St ma g5 (.slice da r m) fun na=>St na (g5.add 1) (.slice ca j q) fun fa=>∃J4:Wd->Prop,(∀ba,J4 ba->F57_j4 p d g5 ba R)/\(∃S:Wd->Prop,S fa.drew/\∃k i e,Held S g5 (.slice k i e)/\∃y f h,Held S (g5.add 1) (.slice y f h)/\CL 16 #[.pointer d] fa.drew (post R fun v2 ha=>∃s c a n b g,v2=(.agg #[.slice s c a,.slice n b g])/\S ha/\CL 15 #[.agg #[.slice k i e,.slice y f h],.agg #[.slice s c a,.slice n b g]] ha (post R fun v3 z=>∃pa,v3=(.bool pa)/\S z/\Br (!pa) (R (.returned (.bool false)) z) (CL 105 #[.pointer p] z (post R fun v4 ea=>∃qa,v4=(.int .i64 qa)/\S ea/\CL 41 #[.pointer d] ea (post R fun v5 ia=>∃ta,v5=(.int .i64 ta)/\S ia/\Br (qa != ta) (R (.returned (.bool false)) ia) (NonNil d fun p26=>∃ua ja ka,Held S (p26.add 1) (.slice ua ja ka)/\CL 77 #[.pointer p] ia (post R fun v6 u=>∃ra ga aa,v6=(.slice ra ga aa)/\S u/\CL 25 #[.slice ra ga aa,.slice ua ja ka] u (post R fun v7 t=>∃sa,v7=(.bool sa)/\Br (!sa) (R (.returned (.bool false)) t) (J4 t)))))))))))
theorem ok57 (p d:OA){w:Wd}{R:RT} (h:F57 p d w R):CL 57 #[.pointer p,.pointer d] w R:=
 vk ⟨57,⟨[]⟩,[(4,⟨[],[(4,5),(10,32)]⟩)],[(9,⟨[(7,(.s (.int .i64)))],[(7,52)]⟩)]⟩ Tryz.func57 h
def F162_l1 (l:OA)(lN:Nat)(L1:Int->Wd->Prop)(i:Int)(a:Wd)(R:RT):Prop:=Br (decide (i<(lN:Int))) (IdxA l lN i 1 fun b=>St a b (.int .u64 4711) fun w1=>InR .i64 (i+(1:Int))/\L1 (i+(1:Int)) w1) (R (.returned (.tuple #[])) a)
def F162 (l:OA)(lN lC:Nat)(a:Wd)(R:RT):Prop:=∃(I:Int->Wd->Prop)(m:Int->Wd->Nat),I (0:Int) a/\∀i w1,I i w1->F162_l1 l lN (fun i' w2=>I i' w2/\m i' w2<m i w1) i w1 R
theorem ok162 (l:OA)(a b:Nat){w:Wd}{R:RT} (h:F162 l a b w R):CL 162 #[.slice l a b] w R:=
 vk ⟨12,⟨[]⟩,[],[(1,⟨[(2,(.s (.int .i64)))],[(2,12)]⟩)]⟩ Tryz.func162 h
def F52_l4 (a:OA)(aN:Nat)(b:OA)(bN:Nat)(L4:Int->Wd->Prop)(i:Int)(j:Wd)(R:RT):Prop:=Br (decide (i<(aN:Int))) (Dr j fun w1=>IdxA a aN i 2 fun h=>LdStr (w1.cell? h) fun f=>LdStr (w1.cell? (h.add 1)) fun d=>IdxA b bN i 2 fun g=>LdStr (w1.cell? g) fun c=>LdStr (w1.cell? (g.add 1)) fun e=>Br (!((f==c) && ((d==e) && true))) (R (.returned (.bool false)) w1) (InR .i64 (i+(1:Int))/\L4 (i+(1:Int)) w1)) (R (.returned (.bool true)) j)
def F52 (a:OA)(aN aC:Nat)(b:OA)(bN bC:Nat)(c:Wd)(R:RT):Prop:=Br ((aN:Int) != (bN:Int)) (R (.returned (.bool false)) c) (∃(I:Int->Wd->Prop)(m:Int->Wd->Nat),I (0:Int) c/\∀i w1,I i w1->F52_l4 a aN b bN (fun i' w2=>I i' w2/\m i' w2<m i w1) i w1 R)
theorem ok52 (a:OA)(c d:Nat)(b:OA)(e f:Nat){w:Wd}{R:RT} (h:F52 a c d b e f w R):CL 52 #[.slice a c d,.slice b e f] w R:=
 vk ⟨26,⟨[]⟩,[],[(4,⟨[(5,(.s (.int .i64)))],[(4,26)]⟩)]⟩ Tryz.func52 h
def F108_l4 (a:OA)(aN:Nat)(b:OA)(bN:Nat)(L4:Int->Wd->Prop)(i:Int)(ba:Wd)(R:RT):Prop:=Br (decide (i<(aN:Int))) (∃S:Wd->Prop,S ba.drew/\IdxA a aN i 5 fun ea=>∃t,Held S ea (.int .i64 t)/\∃s,Held S (ea.add 1) (.string s)/\∃q f g,Held S (ea.add 2) (.slice q f g)/\∃u,Held S (ea.add 3) (.string u)/\∃p k e,Held S (ea.add 4) (.slice p k e)/\IdxA b bN i 5 fun ca=>∃r,Held S ca (.int .i64 r)/\∃z,Held S (ca.add 1) (.string z)/\∃y c d,Held S (ca.add 2) (.slice y c d)/\∃n,Held S (ca.add 3) (.string n)/\∃m h j,Held S (ca.add 4) (.slice m h j)/\CL 164 #[.agg #[.int .i64 t,.string s,.slice q f g,.string u,.slice p k e],.agg #[.int .i64 r,.string z,.slice y c d,.string n,.slice m h j]] ba.drew (post R fun v aa=>∃da,v=(.bool da)/\Br (!da) (R (.returned (.bool false)) aa) (InR .i64 (i+(1:Int))/\L4 (i+(1:Int)) aa))) (R (.returned (.bool true)) ba)
def F108 (a:OA)(aN aC:Nat)(b:OA)(bN bC:Nat)(c:Wd)(R:RT):Prop:=Br ((aN:Int) != (bN:Int)) (R (.returned (.bool false)) c) (∃(I:Int->Wd->Prop)(m:Int->Wd->Nat),I (0:Int) c/\∀i w1,I i w1->F108_l4 a aN b bN (fun i' w2=>I i' w2/\m i' w2<m i w1) i w1 R)
theorem ok108 (a:OA)(c d:Nat)(b:OA)(e f:Nat){w:Wd}{R:RT} (h:F108 a c d b e f w R):CL 108 #[.slice a c d,.slice b e f] w R:=
 vk ⟨27,⟨[]⟩,[],[(4,⟨[(5,(.s (.int .i64)))],[(4,27)]⟩)]⟩ Tryz.func108 h
def F164 (ab:Int)(ac:ByteArray)(ad:OA)(ae af:Nat)(ag:ByteArray)(ah:OA)(ai aj:Nat)(ak:Int)(am:ByteArray)(an:OA)(aq ar:Nat)(au:ByteArray)(av:OA)(ay az:Nat)(w_:Wd)(R:RT):Prop:=Al w_ #[.int .i64 ab,.string ac,.slice ad ae af,.string ag,.slice ah ai aj] 48 fun a w1=>Al w1 #[.int .i64 ak,.string am,.slice an aq ar,.string au,.slice av ay az] 48 fun b i=>LdI .i64 (i.cell? a) fun x6=>LdI .i64 (i.cell? b) fun x8=>Br (x6 != x8) (R (.returned (.bool false)) i) (LdI .i64 (i.cell? a) fun t=>Br (t==(2:Int)) (LdStr (i.cell? (a.add 3)) fun ca=>LdStr (i.cell? (b.add 3)) fun s=>R (.returned (.bool (ca.toList==s.toList))) i) (LdStr (i.cell? (a.add 1)) fun z=>LdStr (i.cell? (b.add 1)) fun q=>Br (z.toList==q.toList) (LdSl (i.cell? (a.add 2)) fun y k c=>LdSl (i.cell? (b.add 2)) fun r m g=>CL 52 #[.slice y k c,.slice r m g] i (post R fun v j=>∃ba,v=(.bool ba)/\Br ba (LdSl (j.cell? (a.add 4)) fun p n d=>LdSl (j.cell? (b.add 4)) fun u f h=>CL 108 #[.slice p n d,.slice u f h] j (post R fun v2 e=>∃aa,v2=(.bool aa)/\R (.returned (.bool aa)) e)) (R (.returned (.bool false)) j))) (R (.returned (.bool false)) i)))
theorem ok164 (a:Int)(b:ByteArray)(c:OA)(d e:Nat)(f:ByteArray)(g:OA)(i j:Nat)(k:Int)(m:ByteArray)(n:OA)(p q:Nat)(r:ByteArray)(s:OA)(t u:Nat){w:Wd}{R:RT} (h:F164 a b c d e f g i j k m n p q r s t u w R):CL 164 #[.agg #[.int .i64 a,.string b,.slice c d e,.string f,.slice g i j],.agg #[.int .i64 k,.string m,.slice n p q,.string r,.slice s t u]] w R:=
 vk ⟨37,⟨[]⟩,[],[]⟩ Tryz.func164 h
end Go.Proofs.YtnbgiacnbheonaaGreatDoor
namespace Go.Proofs.YtnbgiacnbheonaaGreatDoor
open Go.RowKit Go.Vc
set_option linter.unusedSimpArgs false
section
variable {w w1:Wd}{R:RT}{v u:Sv}
theorem at_same {a b:ByteArray}:(!((a == a) && ((b == b) && true)))=false:=by
 have h:∀a:ByteArray,(a == a)=true:=fun a=>by
  show (a.data == a.data)=true
  simp
 rw [h,h];rfl
theorem attrsE_calls {l:List At} (h:RR LAt w l v) (k:RR LAt w l u) (hK:∀w',Below w.heap.size w w'->R (.returned (.bool true)) w'):CL 52 #[.slice v.1 v.2.1 v.2.2,.slice u.1 u.2.1 u.2.2] w R:=by
 obtain⟨z0,z1,z2⟩:=h
 obtain⟨y0,y1,y2⟩:=k
 refine ok52 v.1 v.2.1 v.2.2 u.1 u.2.1 u.2.2 ?_
 unfold F52
 refine brn (fun hne=>absurd (by rw [z1,y1]) hne) (fun _=>?_)
 refine⟨fun i w'=>∃k:Nat,i=k/\k<=l.length/\Below w.heap.size w w',fun i _=>l.length-i.toNat,⟨0,rfl,om,.refl _ _⟩,?_⟩
 rintro _ w1 ⟨k,rfl,hk,hb1⟩
 unfold F52_l4
 refine brd (fun hlt=>?_) (fun hge=>hK w1 hb1)
 have hk2:k<l.length:=by omega
 refine dr fun w2 hb2 _=>?_
 have B2:=btr hb1 hb1.size hb2
 refine (z2.keep B2).at2 z1 rfl hk2 fun b o c0 c1=>?_
 simp only [c0,c1,lds]
 refine (y2.keep B2).at2 y1 rfl hk2 fun b2 o2 d0 d1=>?_
 simp only [d0,d1,lds]
 rw [at_same,Br_f]
 exact⟨inR_i64 om om,⟨k+1,sm,om,B2⟩,odz⟩
theorem handlesE_calls {l:List Nat} (h:RR LHn w l v) (k:RR LHn w l u) (hK:∀w',Below w.heap.size w w'->R (.returned (.bool true)) w'):CL 25 #[.slice v.1 v.2.1 v.2.2,.slice u.1 u.2.1 u.2.2] w R:=by
 obtain⟨z0,z1,z2⟩:=h
 obtain⟨y0,y1,y2⟩:=k
 refine ok25 v.1 v.2.1 v.2.2 u.1 u.2.1 u.2.2 ?_
 unfold F25
 refine brn (fun hne=>absurd (by rw [z1,y1]) hne) (fun _=>?_)
 refine⟨fun i w'=>∃k:Nat,i=k/\k<=l.length/\Below w.heap.size w w',fun i _=>l.length-i.toNat,⟨0,rfl,om,.refl _ _⟩,?_⟩
 rintro _ w1 ⟨k,rfl,hk,hb1⟩
 unfold F25_l4
 refine brd (fun hlt=>?_) (fun hge=>hK w1 hb1)
 have hk2:k<l.length:=by omega
 refine dr fun w2 hb2 _=>?_
 have B2:=btr hb1 hb1.size hb2
 refine (z2.keep B2).hn z1 rfl hk2 fun b o c0=>?_
 simp only [c0,lds]
 refine (y2.keep B2).hn y1 rfl hk2 fun b2 o2 d0=>?_
 simp only [d0,lds]
 exact brn (fun hne=>absurd rfl hne) fun _=>⟨inR_i64 om om,⟨k+1,sm,om,B2⟩,odz⟩
def SameP (x:Tr):Prop:=∀{w:Wd}{e e':E5}{R:RT},RTr w x e->RTr w x e'->(∀w',Below w.heap.size w w'->R (.returned (.bool true)) w') ->
  CL 164 #[.agg #[.int .i64 e.kind,.string e.nm,slV e.ats,.string e.text,slV e.kids],.agg #[.int .i64 e'.kind,.string e'.nm,slV e'.ats,.string e'.text,slV e'.kids]] w R
theorem forests_of {ts:List Tr} (ih:∀t∈ts,SameP t) {es es':List E5} (hl:ts.length<=1048576) (h:RTl w ts es) (h':RTl w ts es') (hv:v.2.1=es.length) (hu:u.2.1=es'.length) (r:Rd LE5 w v.1 v.2.2 es) (r':Rd LE5 w u.1 u.2.2 es') (hK:∀w',Below w.heap.size w w'->R (.returned (.bool true)) w') :
  CL 108 #[.slice v.1 v.2.1 v.2.2,.slice u.1 u.2.1 u.2.2] w R:=by
 refine ok108 v.1 v.2.1 v.2.2 u.1 u.2.1 u.2.2 ?_
 unfold F108
 have e1:=h.len
 have e2:=h'.len
 refine brn (fun hne=>absurd om hne) (fun _=>?_)
 refine⟨fun i w'=>∃k:Nat,i=k/\k<=ts.length/\Below w.heap.size w w',fun i _=>ts.length-i.toNat,⟨0,rfl,om,.refl _ _⟩,?_⟩
 rintro _ w1 ⟨k,rfl,hk,hb1⟩
 unfold F108_l4
 refine brd (fun hlt=>?_) (fun hge=>hK w1 hb1)
 have hk2:k<ts.length:=by omega
 have hdr:Below w1.heap.size w1 w1.drew:=(Below.refl _ _).drew
 have B2:=btr hb1 hb1.size hdr
 refine⟨fun w'=>Below w1.drew.heap.size w1.drew w',.refl _ _,?_⟩
 refine (r.keep B2).held (S:=fun w'=>Below w1.drew.heap.size w1.drew w') (fun _ h=>h) hv om om rfl fun b o c=>?_
 simp only [tnc] at c
 simp only [Addr.add_mk]
 refine⟨_,c 0 _ rfl,_,c 1 _ rfl,_,_,_,c 2 _ rfl,_,c 3 _ rfl,_,_,_,c 4 _ rfl,?_⟩
 refine (r'.keep B2).held (S:=fun w'=>Below w1.drew.heap.size w1.drew w') (fun _ h=>h) hu om om rfl fun b2 o2 d=>?_
 simp only [tnc] at d
 simp only [Addr.add_mk]
 refine⟨_,d 0 _ rfl,_,d 1 _ rfl,_,_,_,d 2 _ rfl,_,d 3 _ rfl,_,_,_,d 4 _ rfl,?_⟩
 refine ih ts[k] (gem hk2) (e:=es[k]) (e':=es'[k]) ((h.get k hk2 om).keep B2) ((h'.get k hk2 om).keep B2) fun w3 hb3=>⟨_,rfl,?_⟩
 rw [show (!true)=false from rfl,Br_f]
 exact⟨inR_i64 om om,⟨k+1,sm,om,btr B2 B2.size hb3⟩,odz⟩
theorem same_calls:∀x:Tr,SameP x:=by
 refine Tr.ind fun kind nm attrs text kids ih=>?_
 intro w e e' R h h' hK
 simp only [RTr] at h h'
 obtain⟨t1,t2,t3,t4,t5,et,t6,t7,t8⟩:=h
 obtain⟨s1,s2,s3,s4,s5,es,s6,s7,s8⟩:=h'
 refine ok164 e.kind e.nm e.ats.1 e.ats.2.1 e.ats.2.2 e.text e.kids.1 e.kids.2.1 e.kids.2.2 e'.kind e'.nm e'.ats.1 e'.ats.2.1 e'.ats.2.2 e'.text e'.kids.1 e'.kids.2.1 e'.kids.2.2 ?_
 unfold F164
 refine al fun g1 w1 hb1 b1 hge1=>al fun g2 w2 hb2 b2 hge2=>?_
 have B2:=btr hb1 hb1.size hb2
 have b12:=b1.keep hb2
 simp only [b12.cell,b2.cell,lds]
 refine brn (fun hne=>absurd (by rw [t1,s1]) hne) (fun _=>?_)
 refine bre (fun _=>?_) (fun _=>?_)
 ·rw [t3,s3,bytes_eq,det rfl];exact hK w2 B2
 ·rw [t2,s2,bytes_eq,det rfl,Br_t]
  refine attrsE_calls (v:=e.ats) (u:=e'.ats) (t4.keep B2) (s4.keep B2) fun w3 hb3=>⟨_,rfl,?_⟩
  rw [Br_t]
  have B3:=btr B2 B2.size hb3
  have b13:=b12.keep hb3
  have b23:=b2.keep hb3
  simp only [b13.cell,b23.cell,lds]
  have k8:=t8.len
  exact forests_of (v:=e.kids) (u:=e'.kids) ih t5 (t8.keep B3) (s8.keep B3) t6 s6 (t7.keep B3) (s7.keep B3) fun w4 hb4=>⟨_,rfl,hK w4 (btr B3 B3.size hb4)⟩
theorem forests_calls {ts:List Tr}{es es':List E5} (hl:ts.length<=1048576) (h:RTl w ts es) (h':RTl w ts es') (hv:v.2.1=es.length) (hu:u.2.1=es'.length) (r:Rd LE5 w v.1 v.2.2 es) (r':Rd LE5 w u.1 u.2.2 es') (hK:∀w',Below w.heap.size w w'->R (.returned (.bool true)) w') :
  CL 108 #[.slice v.1 v.2.1 v.2.2,.slice u.1 u.2.1 u.2.2] w R:=forests_of (fun t _=>same_calls t) hl h h' hv hu r r' hK
end
abbrev slC (e:S8):Array Value:=#[.int .u32 (e.gen:Nat),.bool e.live,.int .i64 e.kind,.string e.nm,.slice e.ats.1 e.ats.2.1 e.ats.2.2,.string e.text,.int .u64 (e.parent:Nat),.slice e.kids.1 e.kids.2.1 e.kids.2.2]
section
variable {w w1:Wd}{R:RT}{vs vr us ur:Sv}{X:Im}
theorem st8_blk {w:Wd}{g:Nat}{c0 c1 c2 c3 c4 c5 c6 c7:Value} (h:Blk w g #[c0,c1,c2,c3,c4,c5,c6,c7] 88) {a0 a1 a2 a3 a4 a5 a6 a7:Value}{K:Wd->Prop} (hK:∀w',Blk w' g #[a0,a1,a2,a3,a4,a5,a6,a7] 88->Fm (·=g) w w'->K w') :
  St w ⟨g,0,none⟩ a0 fun w1=>St w1 ⟨g,0+1,none⟩ a1 fun w2=>St w2 ⟨g,0+2,none⟩ a2 fun w3=>St w3 ⟨g,0+3,none⟩ a3 fun w4=>St w4 ⟨g,0+4,none⟩ a4 fun w5=>St w5 ⟨g,0+5,none⟩ a5 fun w6=>St w6 ⟨g,0+6,none⟩ a6 fun w7=>St w7 ⟨g,0+7,none⟩ a7 K:=by
 refine st_blk h sm fun u1 q1 f1=>st_blk q1 sm fun u2 q2 f2=>st_blk q2 sm fun u3 q3 f3=>st_blk q3 sm fun u4 q4 f4=>st_blk q4 sm fun u5 q5 f5=>st_blk q5 sm fun u6 q6 f6=>st_blk q6 sm fun u7 q7 f7=>st_blk q7 sm fun w8 q8 f8=>hK w8 ?_ (((((((f1.trans f2).trans f3).trans f4).trans f5).trans f6).trans f7).trans f8)
 simp only [List.setIfInBounds_toArray,nza,List.set_cons_zero,List.set_cons_succ] at q8
 exact q8
theorem rd8H {S:Wd->Prop}{A:OA}{c:Nat}{es:List S8} (h:Rd LS8 w A c es) (hS:∀w1,S w1->Below w.heap.size w w1) {n:Nat} (hn:n=es.length) {i:Int}{k:Nat} (hi:i=k) (hk:k<es.length) {K:Addr->Prop}
  (hK:∀b o,Held S ⟨b,o,none⟩ (.int .u32 (es[k].gen:Nat))->Held S ⟨b,o+1,none⟩ (.bool es[k].live)->Held S ⟨b,o+2,none⟩ (.int .i64 es[k].kind)->Held S ⟨b,o+3,none⟩ (.string es[k].nm)->Held S ⟨b,o+4,none⟩ (.slice es[k].ats.1 es[k].ats.2.1 es[k].ats.2.2)->Held S ⟨b,o+5,none⟩ (.string es[k].text) ->
   Held S ⟨b,o+6,none⟩ (.int .u64 (es[k].parent:Nat))->Held S ⟨b,o+7,none⟩ (.slice es[k].kids.1 es[k].kids.2.1 es[k].kids.2.2)->K ⟨b,o,none⟩):IdxA A n i 8 K:=by
 subst hi
 refine h.held hS hn om om rfl fun b o hc=>?_
 simp only [tnc] at hc
 exact hK b o (hc 0 _ rfl) (hc 1 _ rfl) (hc 2 _ rfl) (hc 3 _ rfl) (hc 4 _ rfl) (hc 5 _ rfl) (hc 6 _ rfl) (hc 7 _ rfl)
theorem imagesE_calls (h:RIm w X vs vr) (k:RIm w X us ur) (hK:∀w',Below w.heap.size w w'->R (.returned (.bool true)) w') :
  CL 15 #[.agg #[.slice vs.1 vs.2.1 vs.2.2,.slice vr.1 vr.2.1 vr.2.2],.agg #[.slice us.1 us.2.1 us.2.2,.slice ur.1 ur.2.1 ur.2.2]] w R:=by
 obtain⟨es,hn,hr,hes⟩:=h.row
 obtain⟨fs,kn,kr,kes⟩:=k.row
 have hel:=hes.len
 have kel:=kes.len
 have hXl:=h.len
 refine ok15 vs.1 vs.2.1 vs.2.2 vr.1 vr.2.1 vr.2.2 us.1 us.2.1 us.2.2 ur.1 ur.2.1 ur.2.2 ?_
 unfold F15
 refine al fun ga w1 hb1 ba hge1=>al fun gb w2 hb2 bb hge2=>?_
 have B2:=btr hb1 hb1.size hb2
 have ba2:=ba.keep hb2
 have hgl:=ba.lt
 refine⟨fun w'=>Below w2.heap.size w2 w',?_,?_⟩
 rotate_left
 ·simp only [ba2.cell,bb.cell,lds]
  refine brn (fun hne=>absurd om hne) (fun _=>?_)
  refine handlesE_calls (v:=vr) (u:=ur) (h.roots.keep B2) (k.roots.keep B2) fun w3 hb3=>⟨_,rfl,?_⟩
  rw [show (!true)=false from rfl,Br_f]
  exact hb3
 intro w3 hb3
 unfold F15_j3
 refine⟨fun i w'=>∃m:Nat,i=m/\m<=X.sl.length/\Below w2.heap.size w2 w',fun i _=>X.sl.length-i.toNat,⟨0,rfl,om,hb3⟩,?_⟩
 rintro _ w4 ⟨m,rfl,hm,hb4⟩
 have B4:=btr B2 B2.size hb4
 unfold F15_l4
 have ba4:=ba2.keep hb4
 have bb4:=bb.keep hb4
 simp only [ba4.cell,lds]
 refine brd (fun hlt=>?_) (fun hge=>hK w4 B4)
 have hm2:m<X.sl.length:=by omega
 have hme:m<es.length:=by omega
 have hmf:m<fs.length:=by omega
 have hs:=hes.get m hm2 hme
 have ks:=kes.get m hm2 hmf
 refine⟨fun w'=>Below w4.heap.size w4 w',?_,?_⟩
 ·intro w' hb
  exact⟨inR_i64 om om,⟨m+1,sm,om,btr hb4 hb4.size hb⟩,odz⟩
 refine⟨fun s t w'=>∃gs gt,s=⟨gs,0,none⟩/\t=⟨gt,0,none⟩/\Blk w' gs (slC es[m]) 88/\Blk w' gt (slC fs[m]) 88/\Below w4.heap.size w4 w',?_,?_⟩
 ·rintro _ _ w5 ⟨gs,gt,rfl,rfl,bs,bt,hb5⟩
  unfold F15_j7
  have B5:=btr B4 B4.size hb5
  have bs':Blk w5 gs (slC es[m]) 88:=bs
  simp only [bs.cell,bt.cell,slC,lds]
  refine brn (fun hne=>absurd (by rw [hs.gen,ks.gen]) hne) fun _=>?_
  rw [hs.live,ks.live,beq_self_eq_true,show (!true)=false from rfl,Br_f]
  refine brn (fun hne=>absurd (by rw [hs.kind,ks.kind]) hne) fun _=>?_
  rw [bytes_eq,hs.nm,ks.nm,det rfl,show (!true)=false from rfl,Br_f]
  rw [bytes_eq,hs.text,ks.text,det rfl,show (!true)=false from rfl,Br_f]
  refine brn (fun hne=>absurd (by rw [hs.parent,ks.parent]) hne) fun _=>?_
  refine attrsE_calls (v:=es[m].ats) (u:=fs[m].ats) (hs.ats.keep B5) (ks.ats.keep B5) fun w6 hb6=>⟨_,rfl,?_⟩
  rw [show (!true)=false from rfl,Br_f]
  have bs6:=bs'.keep hb6
  have bt6:Blk w6 gt (slC fs[m]) 88:=bt.keep hb6
  simp only [bs6.cell,bt6.cell,slC,lds]
  refine handlesE_calls (v:=es[m].kids) (u:=fs[m].kids) (hs.kids.keep (btr B5 B5.size hb6)) (ks.kids.keep (btr B5 B5.size hb6)) fun w7 hb7=>⟨_,rfl,?_⟩
  rw [show (!true)=false from rfl,Br_f]
  exact btr (btr hb5 hb5.size hb6) (btr hb5 hb5.size hb6).size hb7
 have hdr:Below w4.heap.size w4 w4.drew:=(Below.refl _ _).drew
 have B5:=btr B4 B4.size hdr
 have ba5:=ba4.keep hdr
 have bb5:=bb4.keep hdr
 refine⟨fun w'=>Below w4.drew.heap.size w4.drew w',.refl _ _,?_⟩
 refine⟨vs.1,vs.2.1,vs.2.2,fun w' hw=>by rw [(ba5.keep hw).cell];rfl,?_⟩
 refine rd8H (S:=fun w'=>Below w4.drew.heap.size w4.drew w') (hr.keep B5) (fun _ h=>h) hn rfl hme fun b1 o1 c0 c1 c2 c3 c4 c5 c6 c7=>?_
 simp only [Addr.add_mk]
 refine⟨_,c0,_,c1,_,c2,_,c3,_,_,_,c4,_,c5,_,c6,_,_,_,c7,?_⟩
 refine⟨us.1,us.2.1,us.2.2,fun w' hw=>by rw [(bb5.keep hw).cell];rfl,?_⟩
 refine rd8H (S:=fun w'=>Below w4.drew.heap.size w4.drew w') (kr.keep B5) (fun _ h=>h) kn rfl hmf fun b2 o2 d0 d1 d2 d3 d4 d5 d6 d7=>?_
 refine⟨_,d0,_,d1,_,d2,_,d3,_,_,_,d4,_,d5,_,d6,_,_,_,d7,?_⟩
 have h45:=hdr.size
 constructor
 ·refine al fun gs w6 hb6 bs hge6=>⟨hb6,al fun gt w7 hb7 bt hge7=>⟨btr hb6 hb6.size hb7,?_⟩⟩
  have D7:=btr hb6 hb6.size hb7
  have hs6:=hb6.size
  have hgs:=bs.lt
  refine st8_blk (bs.keep hb7) fun w8 bs8 f8=>?_
  have D8:Below w4.drew.heap.size w4.drew w8:=D7.trans (f8.toBelow D7.size fun b hb e=>by have e:b=gs:=e;omega)
  refine⟨D8,?_⟩
  refine st8_blk (f8.blk bt fun e=>by have e:gt=gs:=e;omega) fun w9 bt9 f9=>?_
  refine⟨gs,gt,rfl,rfl,f9.blk bs8 fun e=>by have e:gs=gt:=e;omega,bt9,hdr.trans ((D8.trans (f9.toBelow D8.size fun b hb e=>by have e:b=gt:=e;omega)).mono h45)⟩
 ·refine al fun gt w6 hb6 bt hge6=>⟨hb6,al fun gs w7 hb7 bs hge7=>⟨btr hb6 hb6.size hb7,?_⟩⟩
  have D7:=btr hb6 hb6.size hb7
  have hs6:=hb6.size
  have hgt:=bt.lt
  refine st8_blk bs fun w8 bs8 f8=>?_
  have D8:Below w4.drew.heap.size w4.drew w8:=D7.trans (f8.toBelow D7.size fun b hb e=>by have e:b=gs:=e;omega)
  refine⟨D8,?_⟩
  refine st8_blk (f8.blk (bt.keep hb7) fun e=>by have e:gt=gs:=e;omega) fun w9 bt9 f9=>?_
  refine⟨gs,gt,rfl,rfl,f9.blk bs8 fun e=>by have e:gs=gt:=e;omega,bt9,hdr.trans ((D8.trans (f9.toBelow D8.size fun b hb e=>by have e:b=gt:=e;omega)).mono h45)⟩
end
section
variable {w w1:Wd}{o:Nat->Nat}{R:RT}
theorem TreeU_calls {k g:Nat}{ty:TypeId}{D:Im} (h:LD k g ty w o D) (hK:∀gc bs o' w' S',Below w.heap.size w w'->S'.D=D->PM w' o' ⟨gc,106,[]⟩ S'->S'.bs=bs->(∀b,o' b≠0->w.heap.size<=b)->PI S'->R (.returned (.pointer (some ⟨gc,0,none⟩))) w') :
  CL 30 #[.pointer (some ⟨g,0,none⟩)] w R:=by
 obtain⟨S,nms,gv,E,rfl,h⟩:=h
 obtain⟨tl,-,hp⟩:=h.x.pm
 refine ok30 (some ⟨g,0,none⟩) ?_
 unfold F30
 simp only [NonNil_some]
 refine Clone_calls (θ:=⟨g,ty,tl⟩) hp ?_
 intro gc bs o' w' hb hq ho
 refine⟨some ⟨gc,0,none⟩,rfl,?_⟩
 exact hK gc bs o' w' ⟨S.D,bs,S.lv,S.wn,S.lo⟩ hb rfl hq rfl ho ⟨h.pi.lv,h.pi.wn,h.pi.lo,h.pi.lo2⟩
end
theorem own_types {α β:Type}{L:Lay α}{L2:Lay β}{w:Wd}{B B2:Nat}{e e2:TypeId}{v u:Value}{xs:List α}{ys:List β} (h:Own L w B e v xs) (k:Own L2 w B2 e2 u ys) (he:e≠e2):Apart v u:=by
 rcases h with ⟨rfl,_⟩ | ⟨⟨a,rfl⟩,_⟩ | ⟨g,c,cur,rfl,_,h1,_⟩
 ·exact .inl rfl
 ·exact .inl rfl
 ·rcases k with ⟨rfl,_⟩ | ⟨⟨a,rfl⟩,_⟩ | ⟨g',c',cur',rfl,_,h2,_⟩
  ·exact .inr fun e=>by cases e
  ·exact .inr fun e=>by cases e
  ·refine .inr fun e=>?_
   have e:some g=some g':=e
   obtain rfl:=osi e
   rw [h1] at h2
   simp only [Option.some.injEq,Obj.cells.injEq] at h2
   exact he h2.2.1
theorem ap_symm {v u:Value} (h:Apart v u):Apart u v:=by
 rcases h with h | h
 ·cases hu:rowOf u with
  | none=>exact .inl hu
  | some x=>exact .inr (by rw [h,hu];exact fun e=>by cases e)
 ·exact .inr fun e=>h e.symm
structure OSl (w:Wd) (B:Nat) (s:Sl) (e:S8):Prop where
 gen:e.gen=s.gen
 live:e.live=s.live
 kind:e.kind=s.kind
 nm:e.nm=s.nm
 text:e.text=s.text
 parent:e.parent=s.parent
 ats:Own LAt w B 145 (slV e.ats) s.attrs
 kids:Own LHn w B 42 (slV e.kids) s.kids
structure OIm (w:Wd) (B:Nat) (l:List Sl) (vs:Sv) (es:List S8):Prop where
 own:Own LS8 w B 88 (slV vs) es
 len:es.length=l.length
 el:∀(i:Nat) (s:Sl) (e:S8),l[i]?=some s->es[i]?=some e->OSl w B s e
 ap:∀(i j:Nat) (e f:S8),i≠j->es[i]?=some e->es[j]?=some f->Apart (slV e.ats) (slV f.ats)/\Apart (slV e.kids) (slV f.kids)
section
variable {w w0 w1:Wd}{o:Nat->Nat}{θ:Th}{S:PS}{R:RT}{B:Nat}{s:Sl}{e:S8}{l:List Sl}{vs:Sv}{es:List S8}
theorem OSl.keep (h:OSl w B s e) (hb:Below w.heap.size w w1):OSl w1 B s e:=⟨h.gen,h.live,h.kind,h.nm,h.text,h.parent,h.ats.keep hb,h.kids.keep hb⟩
theorem OSl.fm {M:Nat->Prop} (h:OSl w B s e) (hf:Fm M w w1) (h1:∀b,rowOf (slV e.ats)=some b->¬M b) (h2:∀b,rowOf (slV e.kids)=some b->¬M b):OSl w1 B s e:=
 ⟨h.gen,h.live,h.kind,h.nm,h.text,h.parent,own_fm h.ats hf h1,own_fm h.kids hf h2⟩
theorem OIm.keep (h:OIm w B l vs es) (hb:Below w.heap.size w w1):OIm w1 B l vs es:=⟨h.own.keep hb,h.len,fun i s e h1 h2=>(h.el i s e h1 h2).keep hb,h.ap⟩
theorem tyAS:145≠88:=by decide
theorem tyHS:42≠88:=by decide
theorem tyAH:145≠42:=by decide
theorem tySA:88≠145:=by decide
theorem tySH:88≠42:=by decide
theorem tyHA:42≠145:=by decide
theorem OIm.push (h:OIm w B l vs es) (hs:OSl w B s e) (hap:∀(i:Nat) (f:S8),es[i]?=some f->Apart (slV f.ats) (slV e.ats)/\Apart (slV f.kids) (slV e.kids)) {vs':Sv} (ho:Own LS8 w1 B 88 (slV vs') (es++[e])) {B':Nat} (hg:Grew B' w w1 (slV vs) (slV vs')):OIm w1 B (l++[s]) vs' (es++[e]):=by
 have hl:=h.len
 have get:∀(i:Nat) (f:S8),(es++[e])[i]?=some f->es[i]?=some f\/i=es.length/\f=e:=fun i f hf=>by
  rcases Nat.lt_or_ge i es.length with h1 | h1
  ·rw [gal h1] at hf;exact .inl hf
  ·rw [gar h1] at hf
   cases hj:i-es.length with
   | zero=>rw [hj] at hf;exact .inr ⟨om,by simpa using hf.symm⟩
   | succ j=>rw [hj] at hf;simp at hf
 have keep:∀{s':Sl}{f:S8},OSl w B s' f->OSl w1 B s' f:=fun {s' f} q=>⟨q.gen,q.live,q.kind,q.nm,q.text,q.parent,(hg.own q.ats (own_types q.ats h.own tyAS)).1,(hg.own q.kids (own_types q.kids h.own tyHS)).1⟩
 refine⟨ho,by simp [hl],fun i s' f h1 h2=>?_,fun i j f f' hij h1 h2=>?_⟩
 ·rcases get i f h2 with q | ⟨q1,q2⟩
  ·have hi:=(gsi.1 q).1
   rw [gal om] at h1
   exact keep (h.el i s' f h1 q)
  ·subst q2
   rw [gar om,q1,hl,Nat.sub_self] at h1
   obtain rfl:s=s':=by simpa using h1
   exact keep hs
 ·rcases get i f h1 with q | ⟨q1,q2⟩
  ·rcases get j f' h2 with r | ⟨r1,r2⟩
   ·exact h.ap i j f f' hij q r
   ·subst r2;exact hap i f q
  ·rcases get j f' h2 with r | ⟨r1,r2⟩
   ·subst q2
    have:=hap j f' r
    exact⟨ap_symm this.1,ap_symm this.2⟩
   ·omega
theorem z2_get:∀(l:List Sl) (es:List S8),es.length=l.length->(∀(i:Nat) (s:Sl) (e:S8),l[i]?=some s->es[i]?=some e->RSl w s e)->Z2 (RSl w) l es
 | [],es,h,_=>List.length_eq_zero_iff.1 h
 | s :: l,[],h,_=>by simp at h
 | s :: l,e :: es,h,k=>⟨e,es,rfl,k 0 s e rfl rfl,z2_get l es (by simpa using h) fun i s' e' h1 h2=>k (i+1) s' e' h1 h2⟩
theorem OIm.rim (h:OIm w B l vs es) {roots:List Nat}{vr:Sv} (hr:RR LHn w roots vr) (hl:l.length<=1048576) (hat:∀s∈l,s.attrs.length<=1048576) (hk:∀s∈l,s.kids.length<=1048576) (hok:∀s∈l,SlOk s) (hrok:∀h∈roots,h<18446744073709551616):RIm w ⟨l,roots⟩ vs vr:=by
 obtain⟨q1,q2⟩:=rdO h.own
 refine⟨hl,⟨es,q1,q2,z2_get l es h.len fun i s e h1 h2=>?_⟩,hr,hok,hrok⟩
 have hs:=mog h1
 obtain⟨a1,a2,a3,a4,a5,a6,a7,a8⟩:=h.el i s e h1 h2
 exact⟨a1,a2,a3,a4,a5,a6,⟨hat s hs,rdO a7⟩,⟨hk s hs,rdO a8⟩⟩
end
section
variable {w w0 w1:Wd}{o:Nat->Nat}{θ:Th}{S:PS}{R:RT}{B:Nat}{s:Sl}{e:S8}{l:List Sl}{vs:Sv}{es:List S8}
theorem hnd0_calls (hK:R (.returned (.int .u64 0)) w):CL 79 #[.pointer none] w R:=by
 refine ok79 none ?_
 unfold F79
 rw [show (none:OA).isNone=true from rfl,Br_t]
 exact hK
theorem hndH_calls {t:Option Sl} (h:PM w o θ S) {x:Nat} (hx:x=0\/∃s,slA S.D.sl x=some s) (hK:∀w',Below w.heap.size w w'->R (.returned (.int .u64 (x:Nat))) w'):CL 79 #[.pointer (ptrH S.bs x)] w R:=by
 unfold ptrH
 by_cases e:x=0
 ·subst e
  rw [if_pos rfl]
  exact hnd0_calls (hK w (.refl _ _))
 ·rw [if_neg e]
  obtain⟨s,hs⟩:=hx.resolve_left e
  exact hnd_calls h hs hK
theorem Image_calls (h:PM w o θ S) (hw:Wf S.D) (hK:∀vs vr es w' B1,Below w.heap.size w w'->w.heap.size<=B1->OIm w' B1 S.D.sl vs es->Own LHn w' w.heap.size 42 (slV vr) S.D.roots->(∀b,rowOf (slV vr)=some b->b<B1)->R (.returned (.agg #[slV vs,slV vr])) w') :
  CL 31 #[.pointer (some ⟨θ.g,0,none⟩)] w R:=by
 have hA:=hw.a
 have hfew:=h.few
 refine ok31 (some ⟨θ.g,0,none⟩) ?_
 unfold F31
 refine al fun g2 w1 hb1 b1 hge1=>?_
 have h1:=h.below hb1
 refine Roots_calls h1 hA fun vr w2 hb2 or_=>⟨_,_,_,rfl,?_⟩
 have B2:=btr hb1 hb1.size hb2
 refine al fun g3 w3 hb3 b3 hge3=>?_
 have B3:=btr B2 B2.size hb3
 have hs1:=hb1.size
 have hs2:=hb2.size
 have hs3:=hb3.size
 have hg2:=b1.lt
 have hg3:=b3.lt
 refine st_blk b3 sm fun u1 q1 f1=>st_blk q1 sm fun w4 b4 f4=>?_
 simp only [sls] at b4
 have F4:Fm (·=g3) w3 w4:=f1.trans f4
 have hs34:=F4.size
 have B4:Below w.heap.size w w4:=B3.trans (F4.toBelow B3.size fun b hb e=>by have e:b=g3:=e;omega)
 have h4:=h.below B4
 have b14:Blk w4 g2 #[.slice none 0 0,.slice none 0 0] 25:=F4.blk ((b1.keep hb2).keep hb3) fun e=>by have e:g2=g3:=e;omega
 have or4:Own LHn w4 w1.heap.size 42 (slV vr) S.D.roots:=own_fm (or_.keep hb3) F4 fun b hb e=>by have e:b=g3:=e;have:=(or_.lt b hb).2;omega
 obtain⟨nv,rv,hd⟩:=h4.doc
 obtain⟨n1,n2⟩:=rdO hd.n1
 have cv:w4.cell? ⟨θ.g,0,none⟩=some (.slice nv.1 nv.2.1 nv.2.2):=by rw [hd.blk.cell];rfl
 simp only [NonNil_some,cv,lds]
 have hlen:=h.len
 have hs4:=B4.size
 have hgd:θ.g<w.heap.size:=h.lt θ.g (by rw [h.col];decide)
 refine⟨fun i w'=>∃(k:Nat) (vs:Sv) (es:List S8),i=k/\k<=S.D.sl.length/\Below w.heap.size w w'/\w4.heap.size<=w'.heap.size/\Blk w' g3 #[slV vs,slV vr] 25/\Blk w' g2 #[.slice none 0 0,.slice none 0 0] 25/\Own LHn w' w1.heap.size 42 (slV vr) S.D.roots/\OIm w' w4.heap.size (S.D.sl.take k) vs es,fun i _=>S.D.sl.length-i.toNat,
  ⟨0,(none,0,0),[],rfl,om,B4,nlr _,b4,b14,or4,Own.nil _ _ _ _,rfl,fun i s e h=>by simp at h,fun i j e f _ h=>by simp at h⟩,?_⟩
 rintro _ w5 ⟨k,vs,es,rfl,hk,B5,hsz5,b35,b25,or5,oi5⟩
 unfold F31_l3
 refine brd (fun hlt=>?_) (fun hge=>?_)
 rotate_left
 ·have hk2:k=S.D.sl.length:=by omega
  subst hk2
  rw [tkl] at oi5
  simp only [b35.cell,slV,lds]
  refine st_blk b25 sm fun u1 q1 f1=>st_blk q1 sm fun w6 b6 f6=>?_
  simp only [sls] at b6
  have F6:Fm (·=g2) w5 w6:=f1.trans f6
  simp only [b6.cell,slV,lds]
  refine hK vs vr es w6 w4.heap.size (B5.trans (F6.toBelow B5.size fun b hb e=>by have e:b=g2:=e;omega)) hs4 ?_ ((own_fm or5 F6 fun b hb e=>by have e:b=g2:=e;have:=(or5.lt b hb).1;omega).rebase fun b hb=>by have:=(or5.lt b hb).1;omega) fun b hb=>by have:=(or_.lt b hb).2;omega
  have ne:∀{b},w4.heap.size<=b->¬b=g2:=fun {b} hb e=>by omega
  refine⟨own_fm oi5.own F6 fun b hb e=>ne ((oi5.own.lt b hb).1) e,oi5.len,fun i s e a1 a2=>?_,oi5.ap⟩
  have q:=oi5.el i s e a1 a2
  exact q.fm F6 (fun b hb e=>ne ((q.ats.lt b hb).1) e) fun b hb e=>ne ((q.kids.lt b hb).1) e
 have hk2:k<S.D.sl.length:=by omega
 have hkb:k<S.bs.length:=by omega
 have h5:=h.below B5
 have hbk:S.bs[k]?=some S.bs[k]:=gge hkb
 have hsk:S.D.sl[k]?=some S.D.sl[k]:=gge hk2
 have hd5:Rd LPt w5 nv.1 nv.2.2 S.bs:=by
  obtain⟨nv',rv',hd'⟩:=h5.doc
  have e1:nv'=nv:=by
   have c1:w5.cell? ⟨θ.g,0,none⟩=some (slV nv'):=by rw [hd'.blk.cell];rfl
   have c2:w5.cell? ⟨θ.g,0,none⟩=some (slV nv):=by
    obtain⟨nv0,rv0,hd0⟩:=h.doc
    have c3:w.cell? ⟨θ.g,0,none⟩=some (slV nv0):=by rw [hd0.blk.cell];rfl
    have c4:=(sub_below B4).cell c3
    have c5:w4.cell? ⟨θ.g,0,none⟩=some (slV nv):=cv
    rw [c5] at c4
    rw [c4];exact (sub_below B5).cell c3
   rw [c1] at c2
   have:=osi c2
   exact slvF (by rw [this];rfl)
  subst e1
  exact (rdO hd'.n1).2
 have hNode:=h5.nodes k _ _ hbk hsk
 obtain⟨av,kv,hN⟩:=hNode
 refine hd5.pt n1 rfl hkb fun b o cc=>?_
 simp only [cc,lds]
 generalize hbn:S.bs[k]=bn at *
 generalize hss:S.D.sl[k]=s at *
 have hdr:Below w5.heap.size w5 w5.drew:=(Below.refl _ _).drew
 have cellN:∀{w'}{j:Nat}{v:Value},Below w5.heap.size w5 w'->(nodeC k s av (ptrH S.bs s.parent) kv)[j]?=some v->w'.cell? ⟨bn,j,none⟩=some v:=fun hb hv=>by rw [(hN.blk.keep hb).cell];exact hv
 refine⟨fun w'=>Below w5.heap.size w5 w',hdr,?_⟩
 simp only [nds]
 refine⟨_,fun w' hw=>cellN hw rfl,_,fun w' hw=>cellN hw rfl,?_⟩
 refine al fun gs w6 hb6 bs6 hge6=>⟨btr hdr hdr.size hb6,?_⟩
 have C6:=btr hdr hdr.size hb6
 have hds:w5.drew.heap.size=w5.heap.size:=rfl
 have hgs:=bs6.lt
 refine st8_blk bs6 fun w7 bs7 f7=>?_
 have C7:Below w5.heap.size w5 w7:=C6.trans (f7.toBelow C6.size fun b hb e=>by have e:b=gs:=e;omega)
 have hsr:s∈S.D.sl:=mog hsk
 refine⟨fun w'=>∃e:S8,Blk w' gs (slC e) 88/\OSl w' w5.heap.size s e/\Below w5.heap.size w5 w'/\gs<w'.heap.size,?_,?_⟩
 ·rintro w8 ⟨e,bs8,oe8,C8,hgs8⟩
  unfold F31_j9
  have b38:=b35.keep C8
  simp only [b38.cell,bs8.cell,slV,slC,lds]
  have oi8:=oi5.keep C8
  have hs8:=C8.size
  have hlt:=oi5.len
  rw [ltk] at hlt
  refine ap1 (L:=LS8) (x:=e) (base:=w4.heap.size) (v:=slV vs) (.agg #[.int .u32 0,.bool false,.int .i64 0,eS,.slice none 0 0,eS,.int .u64 0,.slice none 0 0]) 104 rfl kr kr kr oi8.own om om (by unfold maxLen;omega) fun A' c' w9 o9 g9=>⟨A',_,c',rfl,?_⟩
  have FG:Fm (fun b=>rowOf (slV vs)=some b) w8 w9:=Fm.grown g9.grown fun b hb=>hb
  have hrv:∀b,rowOf (slV vs)=some b->w4.heap.size<=b/\b<w5.heap.size:=fun b hb=>oi5.own.lt b hb
  have oi9:OIm w9 w4.heap.size (S.D.sl.take k++[s]) (A',es.length+1,c') (es++[e]):=oi8.push ⟨oe8.gen,oe8.live,oe8.kind,oe8.nm,oe8.text,oe8.parent,oe8.ats.rebase fun b hb=>by have:=(oe8.ats.lt b hb).1;omega,oe8.kids.rebase fun b hb=>by have:=(oe8.kids.lt b hb).1;omega⟩ (fun i f hf=>by
   have hi:i<(S.D.sl.take k).length:=by rw [<-oi5.len];exact (gsi.1 hf).1
   have q:=oi5.el i _ f (gge hi) hf
   refine⟨ap_symm ?_,ap_symm ?_⟩
   ·cases hr:rowOf (slV e.ats) with
    | none=>exact .inl hr
    | some b=>exact .inr (by rw [hr];intro e2;have h1:=(oe8.ats.lt b hr).1;have h2:=(q.ats.lt b e2.symm).2;omega)
   ·cases hr:rowOf (slV e.kids) with
    | none=>exact .inl hr
    | some b=>exact .inr (by rw [hr];intro e2;have h1:=(oe8.kids.lt b hr).1;have h2:=(q.kids.lt b e2.symm).2;omega)) o9 g9
  have b39:Blk w9 g3 #[slV vs,slV vr] 25:=FG.blk b38 fun e2=>by have:=hrv _ e2;omega
  have b29:Blk w9 g2 #[.slice none 0 0,.slice none 0 0] 25:=FG.blk (b25.keep C8) fun e2=>by have:=hrv _ e2;omega
  have hrr:∀b,rowOf (slV vr)=some b->w1.heap.size<=b/\b<w2.heap.size:=fun b hb=>or_.lt b hb
  have or9:Own LHn w9 w1.heap.size 42 (slV vr) S.D.roots:=own_fm (or5.keep C8) FG fun b hb e2=>by have:=hrv b e2;have:=hrr b hb;omega
  refine st_blk b39 sm fun w10 b310 f10=>?_
  simp only [sls] at b310
  have ne:∀{b},w4.heap.size<=b->¬b=g3:=fun {b} hb e=>by omega
  have hs9:=FG.size
  have B9:Below w.heap.size w w9:=(B5.trans (C8.mono B5.size)).trans (FG.toBelow om fun b hb e2=>by have:=hrv b e2;omega)
  refine⟨inR_i64 om om,⟨k+1,(A',es.length+1,c'),es++[e],sm,om,B9.trans (f10.toBelow B9.size fun b hb e2=>by have e2:b=g3:=e2;omega),by have:=f10.size;omega,b310,f10.blk b29 (fun e2=>by have e2:g2=g3:=e2;omega),own_fm or9 f10 (fun b hb e2=>by have e2:b=g3:=e2;have:=hrr b hb;omega),?_⟩,odz⟩
  have htk:S.D.sl.take (k+1)=S.D.sl.take k++[s]:=by rw [tsa hk2,hss]
  rw [htk]
  refine⟨own_fm oi9.own f10 fun b hb e2=>ne ((oi9.own.lt b hb).1) e2,oi9.len,fun i t f a1 a2=>?_,oi9.ap⟩
  have q:=oi9.el i t f a1 a2
  exact q.fm f10 (fun b hb e2=>ne ((q.ats.lt b hb).1) e2) fun b hb e2=>ne ((q.kids.lt b hb).1) e2
 ·have c2:w7.cell? ⟨bn,2,none⟩=some (.bool s.live):=cellN C7 rfl
  simp only [c2,lds]
  have hr:=h.rng s hsr
  refine br (fun hlv=>?_) (fun hdd=>?_)
  rotate_left
  ·have hs0:s=deadS s.gen:=hw.s.dead s hsr hdd
   refine⟨⟨s.gen,s.live,0,ByteArray.mk #[],(none,0,0),ByteArray.mk #[],0,(none,0,0)⟩,bs7,⟨rfl,rfl,by rw [hs0];rfl,by rw [hs0];rfl,by rw [hs0];rfl,by rw [hs0];rfl,by rw [hs0];exact Own.nil _ _ _ _,by rw [hs0];exact Own.nil _ _ _ _⟩,C7,bs7.lt⟩
  have hx:slA S.D.sl (hnd s.gen k)=some s:=slA_iff.2 ⟨k,by
   have:=hr.gen
   unfold hnd;omega,hsk,hlv,rfl⟩
  have hd7:Below w7.heap.size w7 w7.drew:=(Below.refl _ _).drew
  have C7d:=btr C7 C7.size hd7
  refine⟨fun w'=>Below w5.heap.size w5 w',C7d,?_⟩
  refine⟨_,fun w' hw=>cellN hw rfl,_,fun w' hw=>cellN hw rfl,_,_,_,fun w' hw=>cellN hw rfl,_,fun w' hw=>cellN hw rfl,?_⟩
  refine cloneOwn_calls s.attrs av ((rr_own hN.at1 hr.atf).keep C7d) fun va w8 hb8 oa=>⟨_,_,_,rfl,?_⟩
  have C8:=btr C7d C7d.size hb8
  have h7s:w7.drew.heap.size=w7.heap.size:=rfl
  have hs7:=C7.size
  have bs8:=(bs7.keep hd7).keep hb8
  have hg8:gs<w7.heap.size:=bs7.lt
  have cst:∀{u u':Wd},Below w5.heap.size w5 u->Fm (·=gs) u u'->Below w5.heap.size w5 u':=fun hb hf=>hb.trans (hf.toBelow hb.size fun b hb2 e=>by have e:b=gs:=e;omega)
  refine⟨C8,?_⟩
  refine st_blk bs8 sm fun u1 q1 f1=>⟨cst C8 f1,?_⟩
  refine st_blk q1 sm fun u2 q2 f2=>⟨cst (cst C8 f1) f2,?_⟩
  refine st_blk q2 sm fun u3 q3 f3=>⟨cst (cst (cst C8 f1) f2) f3,?_⟩
  refine st_blk q3 sm fun u4 q4 f4=>?_
  simp only [sls] at q4
  have C9:=cst (cst (cst (cst C8 f1) f2) f3) f4
  have F9:Fm (·=gs) w8 u4:=((f1.trans f2).trans f3).trans f4
  have hd9:Below u4.heap.size u4 u4.drew:=(Below.refl _ _).drew
  have C9d:=btr C9 C9.size hd9
  refine⟨fun w'=>Below w5.heap.size w5 w',C9d,?_⟩
  refine⟨_,fun w' hw=>cellN hw rfl,_,_,_,fun w' hw=>cellN hw rfl,?_⟩
  refine hndH_calls (t:=none) (h5.below C9d) (by
   rcases hA.par _ s hx with e | ⟨t,ht,_⟩
   ·exact .inl e
   ·exact .inr ⟨t,ht⟩) fun w10 hb10=>⟨_,rfl,?_⟩
  have C10:=btr C9d C9d.size hb10
  refine⟨C10,?_⟩
  obtain⟨A,c,hvf,hrd⟩:=hN.kd1.form
  have e1:=slvF hvf
  refine handles_calls (h5.below C10) (v:=kv) (l:=s.kids) (by rw [e1];simp) (by rw [e1];exact hrd.keep C10) hr.few (fun y hy=>by obtain⟨_,t,ht,_⟩:=(hA.kid _ s hx).2 y hy;exact⟨t,ht⟩) fun vk w11 hb11 ok_=>⟨_,_,_,rfl,?_⟩
  have C11:=btr C10 C10.size hb11
  have q11:=(q4.keep hd9).keep (btr hb10 hb10.size hb11)
  refine st_blk q11 sm fun u5 q5 f5=>st_blk q5 sm fun w12 q12 f6=>?_
  simp only [sls] at q12
  have F12:Fm (·=gs) w11 w12:=f5.trans f6
  have hs8:=hb8.size
  have hsf9:=F9.size
  have hs10:=hb10.size
  have hs11:=hb11.size
  have h9s:u4.drew.heap.size=u4.heap.size:=rfl
  have oa12:Own LAt w12 w7.drew.heap.size 145 (slV va) s.attrs:=own_fm (((own_fm oa F9 fun b hb e=>by have e:b=gs:=e;have:=(oa.lt b hb).1;omega).keep hd9).keep (btr hb10 hb10.size hb11)) F12 fun b hb e=>by have e:b=gs:=e;have:=(oa.lt b hb).1;omega
  have ok12:Own LHn w12 w10.heap.size 42 (slV vk) s.kids:=own_fm ok_ F12 fun b hb e=>by have e:b=gs:=e;have:=(ok_.lt b hb).1;omega
  refine⟨⟨s.gen,s.live,s.kind,s.nm,va,s.text,s.parent,vk⟩,q12,⟨rfl,rfl,rfl,rfl,rfl,rfl,oa12.rebase fun b hb=>by have:=(oa.lt b hb).1;omega,ok12.rebase fun b hb=>by have:=(ok_.lt b hb).1;omega⟩,cst C11 F12,q12.lt⟩
end
section
variable {w w0 w1:Wd}{R:RT}{B:Nat}{l:List Sl}{vs vr v:Sv}{es:List S8}
theorem rowFm {v:Sv}{w1 w2 w3:Wd} (h:Fm (fun b=>rowOf (slV v)=some b) w1 w2) (k:Fm (fun b=>rowOf (slV v)=some b) w2 w3):Fm (fun b=>rowOf (slV v)=some b) w1 w3:=h.trans k
theorem spoilH_calls {l:List Nat} (h:Own LHn w B 42 (slV v) l) (hl:l.length<=1048576) (hK:∀w',Fm (fun b=>rowOf (slV v)=some b) w w'->R (.returned (.tuple #[])) w'):CL 162 #[.slice v.1 v.2.1 v.2.2] w R:=by
 refine ok162 v.1 v.2.1 v.2.2 ?_
 unfold F162
 refine⟨fun i w'=>∃(k:Nat) (l':List Nat),i=k/\k<=l.length/\l'.length=l.length/\Own LHn w' B 42 (slV v) l'/\Fm (fun b=>rowOf (slV v)=some b) w w',fun i _=>l.length-i.toNat,⟨0,l,rfl,om,rfl,h,.refl _ _⟩,?_⟩
 rintro _ w1 ⟨k,l',rfl,hk,hl',o1,f1⟩
 obtain⟨a1,_⟩:=rdO o1
 unfold F162_l1
 refine brd (fun hlt=>?_) (fun hge=>hK w1 f1)
 have hk2:k<l'.length:=by omega
 refine o1.elA (v:=v) rfl hk2 rfl fun b hb=>?_
 refine o1.stc (j:=0) (x':=4711) hk2 dc rfl hb fun w2 o2 f2=>?_
 exact⟨inR_i64 om om,⟨k+1,_,sm,om,by simpa using hl',o2,rowFm f1 f2⟩,odz⟩
end
section
variable {w w0 w1:Wd}{o:Nat->Nat}{θ:Th}{S:PS}{R:RT}
def plV (s:Sl) (v:Sv):Value:=.agg #[.int .i64 s.kind,.string s.nm,.slice v.1 v.2.1 v.2.2,.string s.text,.slice none 0 0]
theorem plain_calls (h:PM w o θ S) {x:Nat}{s:Sl} (hx:slA S.D.sl x=some s) (hK:∀v w',Below w.heap.size w w'->Own LAt w' w.heap.size 145 (slV v) s.attrs->R (.returned (plV s v)) w'):CL 203 #[.pointer (some ⟨pb S.bs x,0,none⟩)] w R:=by
 refine ok203 (some ⟨pb S.bs x,0,none⟩) ?_
 unfold F203
 obtain⟨i,i1,i2,i3,i4⟩:=h.of hx
 obtain⟨a,kv,hN⟩:=h.nodes i _ s i2 i3
 have hr:=h.rng s (mog i3)
 refine al fun g w1 hb1 b1 hge1=>?_
 have hdr:Below w1.heap.size w1 w1.drew:=(Below.refl _ _).drew
 have bN:=hN.blk.keep hb1
 refine⟨fun w'=>Below w1.heap.size w1 w',hdr,?_⟩
 simp only [nds]
 refine⟨_,fun w' hw=>by rw [(bN.keep hw).cell];rfl,_,fun w' hw=>by rw [(bN.keep hw).cell];rfl,_,_,_,fun w' hw=>by rw [(bN.keep hw).cell];rfl,_,fun w' hw=>by rw [(bN.keep hw).cell];rfl,?_⟩
 have B1d:=btr hb1 hb1.size hdr
 refine cloneOwn_calls s.attrs a ((rr_own hN.at1 hr.atf).keep B1d) fun v w2 hb2 ov=>⟨_,_,_,rfl,?_⟩
 have D2:=btr hdr hdr.size hb2
 refine⟨D2,?_⟩
 refine st_blk (b1.keep D2) sm fun u1 q1 f1=>st_blk q1 sm fun u2 q2 f2=>st_blk q2 sm fun u3 q3 f3=>st_blk q3 sm fun u4 q4 f4=>st_blk q4 sm fun w3 b3 f5=>?_
 simp only [sls] at b3
 have F3:Fm (·=g) w2 w3:=(((f1.trans f2).trans f3).trans f4).trans f5
 have B2:=btr B1d B1d.size hb2
 have hs1:=hb1.size
 have hds:w1.drew.heap.size=w1.heap.size:=rfl
 have hgl:=b1.lt
 simp only [b3.cell,lds]
 refine hK v w3 (B2.trans (F3.toBelow B2.size fun b hb e=>by have e:b=g:=e;omega)) ((own_fm ov F3 fun x hx e=>by have e:x=g:=e;have:=(ov.lt x hx).1;omega).rebase fun x hx=>by have:=(ov.lt x hx).1;omega)
end
theorem rd_e5 {w:Wd}{g:Nat}{e:E5} (h:Blk w g #[.int .i64 e.kind,.string e.nm,slV e.ats,.string e.text,slV e.kids] 48):Rd LE5 w (some ⟨g,0,none⟩) 1 [e]:=by
 refine⟨sm,by simp [maxLen],fun h0=>(by cases h0),fun _=>⟨g,0,rfl,fun j u hj=>?_⟩⟩
 rw [LE5.all_one] at hj
 rw [h.cell];simpa [LE5,E5.cells,slV] using hj
section
variable {w w0 w1:Wd}{o:Nat->Nat}{θ:Th}{S:PS}{R:RT}{loose:List Nat}
theorem whole_calls (h:PM w0 o θ S) (hA:WfA (slA S.D.sl) S.D.roots loose):∀(r x c:Nat) {s:Sl}{w:Wd}{R:RT},slA S.D.sl x=some s->Ch (slA S.D.sl) x c->65<=c+r->Below w0.heap.size w0 w ->
  (∀w' e',Below w.heap.size w w'->OTr w' (trF (slA S.D.sl) r x) e' w.heap.size w'.heap.size->R (.returned (.agg #[.int .i64 e'.kind,.string e'.nm,slV e'.ats,.string e'.text,slV e'.kids])) w') ->
  CL 163 #[.pointer (some ⟨pb S.bs x,0,none⟩)] w R:=by
 intro r
 induction r with
 | zero=>
  intro x c s w R hx hc hr
  obtain⟨c',h1,h2⟩:=hA.chain x s hx
  have:=hc.fn h2
  omega
 | succ r ih=>
  intro x c s w R hx hc hr hb0 hK
  obtain⟨i,i1,i2,i3,i4⟩:=h.of hx
  obtain⟨kv,ckv,okv,_⟩:=h.cKids i2 i3
  obtain⟨z1,z2⟩:=rdO okv
  have hrng:=h.rng s (mog i3)
  have hkid:∀y∈s.kids,∃t,slA S.D.sl y=some t/\t.parent=x:=fun y hy=>((hA.kid x s hx).2 y hy).2
  refine ok163 (some ⟨pb S.bs x,0,none⟩) ?_
  unfold F163
  refine al fun g2 w1 hb1 b2 hge2=>?_
  have B1:=btr hb0 hb0.size hb1
  refine plain_calls (h.below B1) hx fun av w2 hb2 oav=>⟨s.kind,s.nm,av.1,av.2.1,av.2.2,s.text,none,0,0,by rw [plV],?_⟩
  refine al fun g3 w3 hb3 b3 hge3=>?_
  refine st_blk b3 sm fun u1 q1 f1=>st_blk q1 sm fun u2 q2 f2=>st_blk q2 sm fun u3 q3 f3=>st_blk q3 sm fun u4 q4 f4=>st_blk q4 sm fun w4 b34 f5=>?_
  simp only [sls] at b34
  have F4:Fm (·=g3) w3 w4:=(((f1.trans f2).trans f3).trans f4).trans f5
  have hs1:=hb1.size
  have hs2:=hb2.size
  have hs3:=hb3.size
  have hs4:=F4.size
  have hg2:=b2.lt
  have hg3:=b3.lt
  have C2:Below w.heap.size w w2:=btr hb1 hb1.size hb2
  have C3:=btr C2 C2.size hb3
  have C4:Below w.heap.size w w4:=C3.trans (F4.toBelow C3.size fun b hb e=>by have e:b=g3:=e;omega)
  have D4:Below w0.heap.size w0 w4:=hb0.trans (C4.mono hb0.size)
  have ck4:w4.cell? ⟨pb S.bs x,8,none⟩=some (.slice kv.1 kv.2.1 kv.2.2):=(sub_below D4).cell ckv
  simp only [NonNil_some,ck4,lds]
  have b24:Blk w4 g2 #[.int .i64 0,eS,.slice none 0 0,eS,.slice none 0 0] 48:=F4.blk ((b2.keep hb2).keep hb3) fun e=>by have e:g2=g3:=e;omega
  have oa4:Own LAt w4 w1.heap.size 145 (slV av) s.attrs:=own_fm (oav.keep hb3) F4 fun b hb e=>by have e:b=g3:=e;have:=(oav.lt b hb).2;omega
  have hatr:∀b,rowOf (slV av)=some b->w1.heap.size<=b/\b<w4.heap.size:=fun b hb=>oa4.lt b hb
  refine⟨fun j w'=>∃(k:Nat) (kvs:Sv) (es':List E5),j=k/\k<=s.kids.length/\Below w.heap.size w w'/\w4.heap.size<=w'.heap.size/\Blk w' g3 #[.int .i64 s.kind,.string s.nm,slV av,.string s.text,slV kvs] 48/\Blk w' g2 #[.int .i64 0,eS,.slice none 0 0,eS,.slice none 0 0] 48 /\
    Own LAt w' w1.heap.size 145 (slV av) s.attrs/\Own LE5 w' w4.heap.size 48 (slV kvs) es'/\OTl w' ((s.kids.take k).map (trF (slA S.D.sl) r)) es' w4.heap.size w'.heap.size (rowOf (slV kvs)),fun j _=>s.kids.length-j.toNat,
   ⟨0,(none,0,0),[],rfl,om,C4,nlr _,b34,b24,oa4,Own.nil _ _ _ _,by simp [OTl]⟩,?_⟩
  rintro j w5 ⟨k,kvs,es5,rfl,hk5,C5,hs5,b35,b25,oa5,ol,hot⟩
  unfold F163_l3
  have hel:=hot.len
  rw [lmp,ltk] at hel
  have hlr:∀b,rowOf (slV kvs)=some b->w4.heap.size<=b/\b<w5.heap.size:=fun b hb=>ol.lt b hb
  have D5:Below w0.heap.size w0 w5:=hb0.trans (C5.mono hb0.size)
  rw [lmp] at z1
  refine brd (fun hlt=>?_) (fun hge=>?_)
  ·have hk2:k<s.kids.length:=by omega
   refine (z2.keep D5).pt (by rw [lmp];exact z1) rfl (by rw [lmp];exact hk2) fun bb oo cc=>?_
   rw [gmp] at cc
   simp only [cc,lds]
   obtain⟨t,t1,t2⟩:=hkid s.kids[k] (gem hk2)
   have hdr:Below w5.heap.size w5 w5.drew:=(Below.refl _ _).drew
   have hds:w5.drew.heap.size=w5.heap.size:=rfl
   refine⟨fun w'=>Below w5.heap.size w5 w',hdr,?_⟩
   refine⟨_,_,_,fun w' hw=>by rw [(b35.keep hw).cell];rfl,?_⟩
   refine ih s.kids[k] (c+1) t1 (.succ (hA.ne0 t1) t1 (by rw [t2];exact hc)) om (btr D5 D5.size hdr) fun w6 e6 hb6 hot6=>⟨_,_,_,_,_,_,_,_,_,rfl,?_⟩
   have E6:=btr hdr hdr.size hb6
   have hs6:=hb6.size
   refine⟨E6,?_⟩
   refine al fun g21 w7 hb7 b7 hge7=>?_
   have hs7:=hb7.size
   have E7:=btr E6 E6.size hb7
   refine⟨E7,?_⟩
   refine ap (L:=LE5) (e:=48) (xs:=es5) (ys:=[e6]) (base:=w4.heap.size) (v:=slV kvs) (.agg #[.int .i64 0,eS,.slice none 0 0,eS,.slice none 0 0]) 88 rfl kr kr kr (ol.keep E7) (rd_e5 b7) om (by have:=hrng.few;simp;omega) (by have:=hrng.few;simp [maxLen];omega) fun A' c' w8 o8 g8=>⟨A',_,c',rfl,?_⟩
   have F8:Fm (fun b=>rowOf (slV kvs)=some b) w7 w8:=Fm.grown g8.grown fun x hx=>hx
   have hs8:=F8.size
   generalize hkv':((A',es5.length+[e6].length,c'):Sv)=kv' at *
   have hkv2:Value.slice A' (es5.length+[e6].length) c'=slV kv':=by rw [<-hkv'];rfl
   rw [hkv2] at o8 g8 |-
   have hrow:∀b,rowOf (slV kv')=some b->rowOf (slV kvs)=some b\/w7.heap.size<=b:=fun b hb=>by
    rcases g8.row with e | e | ⟨g,e,hge⟩
    ·left;rw [<-e];exact hb
    ·rw [e] at hb;cases hb
    ·right;rw [e] at hb;cases hb;exact hge
   have hg35:=b35.lt
   have hn3:∀b,rowOf (slV kvs)=some b->b≠g3:=fun b hb e=>by have:=(hlr b hb).1;omega
   have b38:=F8.blk (b35.keep E7) fun e=>hn3 _ e rfl
   refine st_blk b38 sm fun w9 b39 f9=>?_
   simp only [sls] at b39
   have hs9:=f9.size
   have FF:Fm (fun b=>rowOf (slV kvs)=some b\/b=g3) w7 w9:=(F8.mono fun b _ e=>.inl e).trans (f9.mono fun b _ e=>.inr e)
   have C7:=C5.trans (E7.mono C5.size)
   have C9:Below w.heap.size w w9:=C7.trans (FF.toBelow C7.size fun b hb e=>by rcases e with e | e;have:=(hlr b e).1;omega;omega)
   refine⟨inR_i64 (by have:=hrng.few;omega) (by have:=hrng.few;omega),⟨k+1,kv',es5++[e6],sm,om,C9,om,b39,FF.blk (b25.keep E7) (fun e=>by rcases e with e | e;have:=(hlr _ e).1;omega;omega),own_fm (oa5.keep E7) FF (fun b hb e=>by rcases e with e | e;have:=(hlr b e).1;have:=(hatr b hb).2;omega;have:=(oa4.lt b hb).1;have:=(oav.lt b hb).2;omega),own_fm o8 f9 (fun b hb e=>by have e:b=g3:=e;rcases hrow b hb with e2 | e2;exact hn3 b e2 e;omega),?_⟩,odz⟩
   rw [tsa hk2,List.map_append]
   refine OTl.snoc (a:=w5.drew.heap.size) (b:=w6.heap.size) ?_ om om (fun r hr h9=>?_) (hi:=w5.heap.size) ?_ om om
   ·exact OTr.fm ((Fm.below (M:=fun b=>rowOf (slV kvs)=some b\/b=g3) hb7).trans FF) _ _ _ _ (fun b h1 h2 e=>by rcases e with e | e;have:=(hlr b e).2;omega;omega) hot6
   ·rcases hrow r hr with e | e
    ·have:=(hlr r e).2;omega
    ·omega
   ·refine OTl.other (OTl.fm ((Fm.below (M:=fun b=>rowOf (slV kvs)=some b\/b=g3) E7).trans FF) _ _ _ _ _ (fun b h1 _ h3 h4=>by rcases h4 with h4 | h4;exact h3 h4;omega) hot) fun r hr=>?_
    rcases hrow r hr with e | e
    ·exact .inl e
    ·right;omega
  ·have hk2:k=s.kids.length:=by omega
   subst hk2
   rw [tkl] at hot
   simp only [b35.cell,slV,lds]
   refine st_blk b25 sm fun u1 q1 f1=>st_blk q1 sm fun u2 q2 f2=>st_blk q2 sm fun u3 q3 f3=>st_blk q3 sm fun u4 q4 f4=>st_blk q4 sm fun w6 b26 f5=>?_
   simp only [sls] at b26
   have F6:Fm (·=g2) w5 w6:=(((f1.trans f2).trans f3).trans f4).trans f5
   simp only [b26.cell,lds]
   have hs6:=F6.size
   refine hK w6 ⟨s.kind,s.nm,av,s.text,kvs⟩ (C5.trans (F6.toBelow C5.size fun b hb e=>by have e:b=g2:=e;omega)) ?_
   rw [trF_some hx]
   simp only [OTr]
   refine⟨trivial,trivial,trivial,hrng.atf,by rw [lmp];exact hrng.few,(own_fm oa5 F6 fun b hb e=>by have e:b=g2:=e;have:=(hatr b hb).1;omega).rebase fun k _=>Nat.zero_le _,w4.heap.size,es5,om,om,fun b hb=>?_,(own_fm ol F6 fun b hb e=>by have e:b=g2:=e;have:=(hlr b hb).1;omega).rebase fun k _=>Nat.zero_le _,fun b hb=>?_,?_⟩
   ·have:=hatr b hb;omega
   ·have:=hlr b hb;omega
   ·exact (OTl.fm F6 _ _ _ _ _ (fun b h1 h2 h3 h4=>by have e:b=g2:=h4;omega) hot).wide hs6
theorem ForestP_calls (h:PM w o θ S) (hw:Wf S.D) (hK:∀v es w',Below w.heap.size w w'->Own LE5 w' w.heap.size 48 (slV v) es->OTl w' (S.D.roots.map (trF (slA S.D.sl) 65)) es w.heap.size w'.heap.size (rowOf (slV v))->R (.returned (slV v)) w') :
  CL 107 #[.pointer (some ⟨θ.g,0,none⟩)] w R:=by
 have hA:=hw.a
 obtain⟨nv,rv,hd⟩:=h.doc
 obtain⟨z1,z2⟩:=rdO hd.r1
 have cr:w.cell? ⟨θ.g,1,none⟩=some (.slice rv.1 rv.2.1 rv.2.2):=by rw [hd.blk.cell];rfl
 have hrl:=h.rts.2
 refine ok107 (some ⟨θ.g,0,none⟩) ?_
 unfold F107
 simp only [NonNil_some,cr,lds]
 refine⟨fun l lN lC j w'=>∃(k:Nat) (es':List E5),j=k/\k<=S.D.roots.length/\Below w.heap.size w w'/\Own LE5 w' w.heap.size 48 (.slice l lN lC) es'/\OTl w' ((S.D.roots.take k).map (trF (slA S.D.sl) 65)) es' w.heap.size w'.heap.size (rowOf (.slice l lN lC)),fun _ _ _ j _=>S.D.roots.length-j.toNat,
  ⟨0,[],rfl,om,.refl _ _,Own.nil _ _ _ _,by simp [OTl]⟩,?_⟩
 rintro l lN lC j w1 ⟨k,es1,rfl,hk,B1,ol,hot⟩
 unfold F107_l3
 have hel:=hot.len
 rw [lmp,ltk] at hel
 rw [lmp] at z1
 have hlr:∀b,rowOf (.slice l lN lC)=some b->w.heap.size<=b/\b<w1.heap.size:=fun b hb=>ol.lt b hb
 refine brd (fun hlt=>?_) (fun hge=>?_)
 ·have hk2:k<S.D.roots.length:=by omega
  refine (z2.keep B1).pt (by rw [lmp];exact z1) rfl (by rw [lmp];exact hk2) fun bb oo cc=>?_
  rw [gmp] at cc
  simp only [cc,lds]
  obtain⟨_,t,t1,t2⟩:=hA.root.2 S.D.roots[k] (gem hk2)
  refine whole_calls h hA 65 S.D.roots[k] 1 t1 (.succ (hA.ne0 t1) t1 (by rw [t2];exact .zero)) om B1 fun w2 e2 hb2 hot2=>⟨_,_,_,_,_,_,_,_,_,rfl,?_⟩
  have hs2:=hb2.size
  refine al fun g3 w3 hb3 b3 hge3=>?_
  have hs3:=hb3.size
  have D3:=btr hb2 hb2.size hb3
  have hs1:=B1.size
  refine ap (L:=LE5) (e:=48) (xs:=es1) (ys:=[e2]) (base:=w.heap.size) (v:=.slice l lN lC) (.agg #[.int .i64 0,eS,.slice none 0 0,eS,.slice none 0 0]) 88 rfl kr kr kr (ol.keep D3) (rd_e5 b3) om (by simp;omega) (by simp [maxLen];omega) fun A' c' w4 o4 g4=>⟨A',_,c',rfl,?_⟩
  have F4:Fm (fun b=>rowOf (.slice l lN lC)=some b) w3 w4:=Fm.grown g4.grown fun x hx=>hx
  have hs4:=F4.size
  have hrow:∀b,rowOf (.slice A' (es1.length+[e2].length) c')=some b->rowOf (.slice l lN lC)=some b\/w3.heap.size<=b:=fun b hb=>by
   rcases g4.row with e | e | ⟨g,e,hge⟩
   ·left;rw [<-e];exact hb
   ·rw [e] at hb;cases hb
   ·right;rw [e] at hb;cases hb;exact hge
  refine⟨inR_i64 om om,⟨k+1,es1++[e2],sm,om,(B1.trans (D3.mono B1.size)).trans (F4.toBelow om fun b hb e=>by have:=(hlr b e).1;omega),o4,?_⟩,odz⟩
  rw [tsa hk2,List.map_append]
  refine OTl.snoc (a:=w1.heap.size) (b:=w2.heap.size) ?_ om om (fun r hr h9=>?_) (hi:=w1.heap.size) ?_ om om
  ·exact OTr.fm ((Fm.below (M:=fun b=>rowOf (.slice l lN lC)=some b) hb3).trans F4) _ _ _ _ (fun b h1 h2 e=>by have:=(hlr b e).2;omega) hot2
  ·rcases hrow r hr with e | e
   ·have:=(hlr r e).2;omega
   ·omega
  ·refine OTl.other (OTl.fm ((Fm.below (M:=fun b=>rowOf (.slice l lN lC)=some b) D3).trans F4) _ _ _ _ _ (fun b h1 _ h3 h4=>h3 h4) hot) fun r hr=>?_
   rcases hrow r hr with e | e
   ·exact .inl e
   ·right;omega
 ·have hk2:k=S.D.roots.length:=by omega
  subst hk2
  rw [tkl] at hot
  exact hK (l,lN,lC) es1 w1 B1 ol hot
end
section
variable {w w0:Wd}{g:Nat}{D:Im}{vs vr:Sv}{ok:Nat->Bool}{R:RT}
theorem sub_old (w:Wd):Sub w (wOnly (fun b=>Nat.blt b w.heap.size) w):=fun b c t fr h=>cells_only (by
 have:=(agi.1 h).1
 exact Nat.ble_eq_true_of_le this) h
def noRow (r:Option Nat) (w:Wd):Wd:=wOnly (fun b=>decide (r≠some b)) w
theorem ForestR_calls (h:RM ok w g D vs vr) (hw:Wf D) (hK:∀v es w',Below w.heap.size w w'->v.2.1=es.length->Rd LE5 w' v.1 v.2.2 es->RTl w' (D.roots.map (trF (slA D.sl) 65)) es->R (.returned (slV v)) w') :
  CL 109 #[.pointer (some ⟨g,0,none⟩)] w R:=by
 have hA:=hw.a
 obtain⟨es,hR,_⟩:=h.re2
 obtain⟨z0,z1,z2⟩:=hR.roots
 refine ok109 (some ⟨g,0,none⟩) ?_
 unfold F109
 refine al fun g7 w1 hb1 b7 hge7=>?_
 have hs1:=hb1.size
 refine⟨fun l lN lC j w'=>∃(k:Nat) (es':List E5),j=k/\k<=D.roots.length/\Below w.heap.size w w'/\w1.heap.size<=w'.heap.size/\Own LE5 w' w1.heap.size 48 (.slice l lN lC) es'/\RTl (noRow (rowOf (.slice l lN lC)) w') ((D.roots.take k).map (trF (slA D.sl) 65)) es',fun _ _ _ j _=>D.roots.length-j.toNat,
  ⟨0,[],rfl,om,hb1,nlr _,Own.bare _ _ _ _ _,by simp [RTl]⟩,?_⟩
 rintro l lN lC j w2 ⟨k,es2,rfl,hk,B2,hs2,ol,hrt⟩
 unfold F109_l3
 have hel:=hrt.len
 rw [lmp,ltk] at hel
 have hlr:∀b,rowOf (.slice l lN lC)=some b->w1.heap.size<=b/\b<w2.heap.size:=fun b hb=>ol.lt b hb
 have c1:=(hR.keep B2).c1
 simp only [NonNil_some,c1,lds]
 refine brd (fun hlt=>?_) (fun hge=>?_)
 ·have hk2:k<D.roots.length:=by omega
  refine (z2.keep B2).hn z1 rfl hk2 fun bb oo cc=>?_
  simp only [cc,lds]
  obtain⟨_,t,t1,t2⟩:=hA.root.2 D.roots[k] (gem hk2)
  refine subtreeR_calls (ok:=fun b=>Nat.blt b w.heap.size) hR (fun i s e h1 h2=>((hR.el i s e h1 h2).1.ats).sub (sub_old w)) (fun b hb=>nbl hb) hw.s hA 65 D.roots[k] 1 t1 (.succ (hA.ne0 t1) t1 (by rw [t2];exact .zero)) om B2 fun w3 a3 kv3 hb3 hrt3=>⟨_,_,_,_,_,_,_,_,_,_,rfl,?_⟩
  have hs3:=hb3.size
  refine al fun g5 w4 hb4 b4 hge4=>?_
  have hs4:=hb4.size
  refine st_blk b4 sm fun u1 q1 f1=>st_blk q1 sm fun u2 q2 f2=>st_blk q2 sm fun u3 q3 f3=>st_blk q3 sm fun u4 q4 f4=>st_blk q4 sm fun w5 b5 f5=>?_
  simp only [sls] at b5
  have F5:Fm (·=g5) w4 w5:=(((f1.trans f2).trans f3).trans f4).trans f5
  have hs5:=F5.size
  simp only [Addr.add_mk,nza,b5.cell,List.getElem?_toArray,List.getElem?_cons_zero,List.getElem?_cons_succ,slV,lds]
  refine al fun g31 w6 hb6 b6 hge6=>?_
  have hs6:=hb6.size
  have D5:Below w3.heap.size w3 w5:=hb4.trans (F5.toBelow hs4 fun b hb e=>by have e:b=g5:=e;omega)
  have D6:=btr D5 D5.size hb6
  have C6:Below w2.heap.size w2 w6:=btr hb3 hb3.size D6
  refine ap (L:=LE5) (e:=48) (xs:=es2) (ys:=[⟨t.kind,t.nm,a3,t.text,kv3⟩]) (base:=w1.heap.size) (v:=.slice l lN lC) (.agg #[.int .i64 0,eS,.slice none 0 0,eS,.slice none 0 0]) 88 rfl kr kr kr (ol.keep C6) (rd_e5 b6) om (by simp;omega) (by simp [maxLen];omega) fun A' c' w7 o7 g7'=>⟨A',_,c',rfl,?_⟩
  have F7:Fm (fun b=>rowOf (.slice l lN lC)=some b) w6 w7:=Fm.grown g7'.grown fun x hx=>hx
  have hs7:=F7.size
  have hrow:∀b,rowOf (.slice A' (es2.length+[(⟨t.kind,t.nm,a3,t.text,kv3⟩:E5)].length) c')=some b->rowOf (.slice l lN lC)=some b\/w6.heap.size<=b:=fun b hb=>by
   rcases g7'.row with e | e | ⟨g,e,hge⟩
   ·left;rw [<-e];exact hb
   ·rw [e] at hb;cases hb
   ·right;rw [e] at hb;cases hb;exact hge
  refine⟨inR_i64 om om,⟨k+1,es2++[⟨t.kind,t.nm,a3,t.text,kv3⟩],sm,om,(B2.trans (C6.mono B2.size)).trans (F7.toBelow om fun b hb e=>by have:=(hlr b e).1;omega),om,o7,?_⟩,odz⟩
  rw [tsa hk2,List.map_append]
  refine RTl.snoc (RTr.sub ?_ _ _ hrt3) (RTl.sub ?_ _ _ hrt)
  ·refine sub_only (fun b hb h9=>det fun e=>?_) fun b hb h9=>?_
   ·rcases hrow b e with e | e
    ·have:=hlr b e
     rcases (newOr_iff (ok:=fun b=>Nat.blt b w.heap.size)).1 h9 with h9 | h9
     ·have:=nbl h9;omega
     ·omega
    ·omega
   ·rw [F7.block b om fun e=>?_,D6.block b hb]
    have:=hlr b e
    rcases (newOr_iff (ok:=fun b=>Nat.blt b w.heap.size)).1 h9 with h9 | h9
    ·have:=nbl h9;omega
    ·omega
  ·refine sub_only (fun b hb h9=>det fun e=>?_) fun b hb h9=>?_
   ·rcases hrow b e with e | e
    ·exact of_decide_eq_true h9 e
    ·omega
   ·rw [F7.block b om fun e=>of_decide_eq_true h9 e,C6.block b hb]
 ·have hk2:k=D.roots.length:=by omega
  subst hk2
  rw [tkl] at hrt
  obtain⟨q1,q2⟩:=rdO (v:=(l,lN,lC)) ol
  exact hK (l,lN,lC) es2 w2 B2 q1 q2 (RTl.sub sub_of_only _ _ hrt)
theorem ImageR_calls (h:RM ok w g D vs vr) (hK:∀w',Below w.heap.size w w'->RIm w' D vs vr->R (.returned (.agg #[.slice vs.1 vs.2.1 vs.2.2,.slice vr.1 vr.2.1 vr.2.2])) w') :
  CL 16 #[.pointer (some ⟨g,0,none⟩)] w R:=by
 have hR:=h.rdr
 refine ok16 (some ⟨g,0,none⟩) ?_
 unfold F16
 refine al fun g2 w1 hb1 b2 hge2=>?_
 have hdr:Below w1.heap.size w1 w1.drew:=(Below.refl _ _).drew
 have B1:=btr hb1 hb1.size hdr
 refine⟨fun w'=>Below w1.heap.size w1 w',hdr,?_⟩
 simp only [nds]
 refine⟨_,_,_,fun w' hw=>(hR.keep (btr hb1 hb1.size hw)).c0,_,_,_,fun w' hw=>(hR.keep (btr hb1 hb1.size hw)).c1,?_⟩
 refine st_blk (b2.keep hdr) sm fun u1 q1 f1=>st_blk q1 sm fun w2 b22 f2=>?_
 simp only [sls] at b22
 simp only [b22.cell,lds]
 have F2:Fm (·=g2) w1.drew w2:=f1.trans f2
 have hs1:=hb1.size
 have B2:Below w.heap.size w w2:=B1.trans (F2.toBelow B1.size fun b hb e=>by have e:b=g2:=e;omega)
 exact hK w2 B2 (hR.im.keep B2)
end
section
variable {w w1:Wd}{g:Nat}{D:Im}{vs vr:Sv}
theorem len_calls (h:RDr w g D vs vr) {R:RT} (hK:R (.returned (.int .i64 (liveN D.sl:Nat))) w):CL 41 #[.pointer (some ⟨g,0,none⟩)] w R:=by
 have hlen:=h.im.len
 have hn:=h.n
 refine ok41 (some ⟨g,0,none⟩) ?_
 unfold F41
 refine⟨fun n i w'=>∃k:Nat,i=k/\k<=D.sl.length/\w'=w/\n=(liveN (D.sl.take k):Nat),fun _ i _=>D.sl.length-i.toNat,⟨0,rfl,om,rfl,by simp [liveN]⟩,?_⟩
 rintro n i w' ⟨k,rfl,hk,rfl,rfl⟩
 unfold F41_l3
 simp only [NonNil_some,h.c0,lds]
 have hle:∀j,liveN (D.sl.take j)<=D.sl.length:=fun j=>by
  unfold liveN
  exact nlt (List.length_filter_le _ _) (by rw [ltk];omega)
 have hle2:=hle k
 refine brd (fun hlt=>?_) (fun hge=>?_)
 ·have hk2:k<D.sl.length:=by omega
  refine⟨fun n2 w2=>w2=w'/\n2=(liveN (D.sl.take (k+1)):Nat),?_,?_⟩
  ·rintro n2 w2 ⟨rfl,rfl⟩
   unfold F41_j4
   exact⟨inR_i64 om om,⟨k+1,sm,om,rfl,rfl⟩,odz⟩
  ·refine h.slot rfl hk2 fun b o e he c0 c1 c2 c6 c7=>?_
   simp only [c1,lds]
   have hs:=liveN_take D.sl hk2
   refine br (fun hl=>?_) (fun hl=>?_)
   ·rw [if_pos hl] at hs
    exact⟨inR_i64 om om,trivial,om⟩
   ·rw [if_neg (by rw [hl];decide)] at hs
    exact⟨trivial,om⟩
 ·have hk2:k=D.sl.length:=by omega
  subst hk2
  rw [tkl];exact hK
end
end Go.Proofs.YtnbgiacnbheonaaGreatDoor
