/- UpdateOnes: a list of edits comes to the same when they are made one by one, and when two that stand beside one another in unlike phases change places. -/
import Derived.Lib.Overlaps
import Derived.Laws.Externs
import Derived.Test.YtnbgiacnbheonaaGreatDoorProg
import Derived.Lib.Bytealg
import Derived.Test.YtnbgiacnbheonaaGreatDoorUo2
namespace Go.Proofs.YtnbgiacnbheonaaGreatDoor
open Go.RowKit Go.Vc
set_option linter.unusedVariables false
set_option linter.unusedSimpArgs false
set_option maxRecDepth 100000
section
variable {α:Type}{L:Lay α}{w w1:Wd}{e:TypeId}{k:Nat}
def slV (v:Sv):Value:=.slice v.1 v.2.1 v.2.2
theorem insAtT {l:List α}{i:Nat}{x:α} (hi:i=l.length):l.take i++x :: l.drop i=l++[x]:=by subst hi;simp
theorem Own.row1 {v:Sv}{xs:List α} (h:Own L w k e (slV v) xs) (h0:0<xs.length):∃g c rest,v=(some ⟨g,0,none⟩,xs.length,c)/\rowOf (slV v)=some g/\k<=g/\Blk w g (L.all xs++rest).toArray e/\xs.length<=c/\c<=maxLen/\(L.all xs++rest).length=c*L.n:=by
 rcases h with ⟨_,rfl⟩ | ⟨_,rfl⟩ | ⟨g,c,cur,hv,hb,hh,hn,hm,hs,ht⟩
 ·simp at h0
 ·simp at h0
 ·obtain⟨v1,v2,v3⟩:=v
  unfold slV at hv
  simp only [Value.slice.injEq] at hv
  obtain⟨rfl,rfl,rfl⟩:=hv
  refine⟨g,c+1,cur.toList.drop (xs.length*L.n),rfl,rfl,hb,?_,hn,hm,?_⟩
  ·rw [<-ht,tad];exact hh
  ·rw [<-ht,tad,Array.length_toList,hs]
theorem Own.ofBlk {g c:Nat}{xs:List α}{rest:List Value} (hB:Blk w g (L.all xs++rest).toArray e) (hk:k<=g) (hn:xs.length<=c) (h0:0<c) (hm:c<=maxLen) (hs:(L.all xs++rest).length=c*L.n):Own L w k e (.slice (some ⟨g,0,none⟩) xs.length c) xs:=by
 obtain⟨c',rfl⟩:∃c',c=c'+1:=⟨c-1,om⟩
 exact .inr (.inr ⟨g,c',_,rfl,hk,hB,hn,hm,by simpa using hs,by simp [<-L.all_length]⟩)
theorem cellL {g:Nat}{l:List Value}{t:TypeId} (h:Blk w g l.toArray t) (i:Nat):w.cell? ⟨g,i,none⟩=l[i]?:=by rw [h.cell];simp
theorem cell_add {g o:Nat}{l cs:List Value}{t:TypeId} (h:Blk w g l.toArray t) (hc:∀j v,cs[j]?=some v->l[o+j]?=some v):∀j v,cs[j]?=some v->w.cell? ((⟨g,o,none⟩:Addr).add j)=some v:=fun j v hj=>by
 rw [Addr.add_mk,cellL h];exact hc j v hj
end
theorem insP_calls {w:Wd}{v:Sv}{xs:List Nat}{x:Nat}{i gx:Nat}{cx:Array Value} (hO:Own LPt w 0 140 (slV v) xs) (hi:i<=xs.length) (hx:Blk w gx cx 140) (hcx:cx.toList=LPt.cells x) (hgx:rowOf (slV v)≠some gx) (hl:xs.length+1<=1048576) {R:RT}
  (h:∀v' w',Own LPt w' 0 140 (slV v') (xs.take i++x :: xs.drop i)->Fm (fun b=>rowOf (slV v)=some b) w w'->(rowOf (slV v')=rowOf (slV v)\/rowOf (slV v')=none\/∃g,rowOf (slV v')=some g/\w.heap.size<=g)->R (.returned (slV v')) w') :
  CL 171 #[slV v,.int .i64 (i:Nat),.slice (some ⟨gx,0,none⟩) 1 1] w R:=by
 have hz:zeroT P0 140=some (.pointer none):=by kernel_rfl
 have hsz:sizeT P0 140=some 1:=by kernel_rfl
 have hst:Tryz.prog.underlying 104=some (.slice 140):=by kernel_rfl
 have hxl:cx.toList.length=1:=by rw [hcx];exact LPt.len x
 obtain⟨A,c,hv0,hrd⟩:=hO.form
 have hv:v=(A,xs.length,c):=by obtain⟨v1,v2,v3⟩:=v;unfold slV at hv0;simp only [Value.slice.injEq] at hv0;obtain⟨rfl,rfl,rfl⟩:=hv0;rfl
 have hle:=hrd.1
 have hmx:=hrd.2.1
 unfold maxLen at hmx
 refine ok171 v.1 v.2.1 v.2.2 (i:Nat) (some ⟨gx,0,none⟩) 1 1 ?_
 unfold F171
 subst hv
 dsimp only
 refine⟨om,om,om,?_⟩
 refine bre (fun h0=>absurd h0 dc) (fun _=>?_)
 refine bre (fun hin=>?_) (fun hin=>?_)
 ·have hin:i=xs.length:=by omega
  refine ap (L:=LPt) (xs:=xs) (ys:=[x]) (base:=0) (.pointer none) 8 rfl hst kr kr hO ?_ (Nat.zero_le _) (by simp;omega) (by simp [maxLen];omega) fun A' c' w1 o1 g1=>⟨A',_,c',rfl,?_⟩
  ·refine⟨sm,by simp [maxLen],fun h0=>(by cases h0),fun _=>⟨gx,0,rfl,fun j u hj=>?_⟩⟩
   rw [LPt.all_one,<-hcx] at hj
   rw [hx.cell];simpa using hj
  ·refine h (A',_,c') w1 ?_ (Fm.grown g1.grown fun b hb=>hb) g1.row
   rw [insAtT hin];exact o1
 ·have hin:i<xs.length:=by omega
  obtain⟨g,c9,rest,hvv,hrow,_,hB,hc1,hc2,hc3⟩:=hO.row1 om
  simp only [Prod.mk.injEq] at hvv
  obtain⟨rfl,-,rfl⟩:=hvv
  have hgg:g≠gx:=fun e=>hgx (by rw [hrow,e])
  have hgl:=hB.lt
  have hgxl:=hx.lt
  have hx':Blk w gx cx.toList.toArray 140:=by simpa using hx
  have hall:=LPt.all_length xs
  have hLn:LPt.n=1:=rfl
  rw [hLn] at hall hc3
  refine⟨inR_i64 om om,brd (fun hgr=>?_) (fun hgr=>?_)⟩
  ·-- a new row
   refine⟨om,om,om,inR_i64 om om,inR_i64 om om,?_⟩
   have e1:((xs.length:Nat):Int)+((1:Nat):Int)-(i:Nat)=((xs.length+1-i:Nat):Int):=by omega
   rw [e1,tnc]
   obtain⟨inf,hinf,hiz⟩:=sizeT_info hsz
   have hib:inf.zero=some (.pointer none)/\inf.bytes=8:=by
    have h1:(Tryz.prog.info? 140).map (fun i=>(i.zero,i.bytes))=some (some (.pointer none),8):=by kernel_rfl
    rw [hinf] at h1
    simp only [oms,Option.some.injEq,Prod.mk.injEq] at h1
    exact h1
   have e2:i+(xs.length+1-i)=xs.length+1:=by omega
   refine apz (u:=3) (k:=.i64) (olds:=LPt.all (xs.take i)) hst kr hinf hib.1 (by rw [LPt.all_length,ltk,Nat.min_eq_left hi,hiz];rfl) (cell_add (o:=0) hB fun j u hj=>?_) om om om ?_ (by rw [hib.2];omega) ?_
   ·rw [nza,LPt.all_take] at *
    have hjl:=(gsi.1 hj).1
    rw [ltk] at hjl
    rw [gal om,<-hj,List.getElem?_take_of_lt om]
   ·rw [e2,hib.2]
    refine nlt (growslice_fits om (show (xs.length+1)*8<=140737488355328 by omega)) (nlr _)
   rw [e2,hiz]
   rw [if_neg om]
   have hge:=grownCap_ge w (xs.length+1) c 140
   have hcm:grownCap w (xs.length+1) c 140<=maxLen:=grownCap_le_maxLen w _ c 140 (by simp [maxLen];omega)
   generalize grownCap w (xs.length+1) c 140=q at hge hcm |-
   refine⟨_,_,_,rfl,om,om,om,?_⟩
   simp only [tnc]
   have hSl:∀j:Nat,j<q->SlA (some ⟨w.heap.size,0,none⟩) q j 1=some ⟨w.heap.size,j*1,none⟩:=fun j hj=>by
    unfold SlA;rw [if_neg om];simp [Addr.add_mk]
   rw [hSl i om]
   have hb1:Below w.heap.size w (w.drew.alloc (.cells ((LPt.all (xs.take i)).toArray++Builtin.zeroCells ((.pointer none):Value).cells (xs.length+1-i)++Builtin.zeroCells ((.pointer none):Value).cells (q-(xs.length+1))) 140)):=((Below.refl _ _).drew).alloc (nlr _) _
   have hB1:=Blk.alloc_new w.drew ((LPt.all (xs.take i)).toArray++Builtin.zeroCells ((.pointer none):Value).cells (xs.length+1-i)++Builtin.zeroCells ((.pointer none):Value).cells (q-(xs.length+1))) 140
   have hzc:∀n,(Builtin.zeroCells ((.pointer none):Value).cells n).toList.length=n*1:=fun n=>by
    have:((.pointer none):Value).cells.size=1:=by kernel_rfl
    simp [Builtin.zeroCells,this]
   generalize hl0:(LPt.all (xs.take i)).toArray++Builtin.zeroCells ((.pointer none):Value).cells (xs.length+1-i)++Builtin.zeroCells ((.pointer none):Value).cells (q-(xs.length+1))=l0 at hb1 hB1 |-
   have hl0':l0.toList=LPt.all (xs.take i)++((Builtin.zeroCells ((.pointer none):Value).cells (xs.length+1-i)).toList++(Builtin.zeroCells ((.pointer none):Value).cells (q-(xs.length+1))).toList):=by rw [<-hl0];simp
   have hti:(LPt.all (xs.take i)).length=i*1:=by rw [LPt.all_length,ltk,Nat.min_eq_left hi];rfl
   have hl0l:l0.toList.length=q*1:=by
    rw [hl0',lap,lap,hzc,hzc,hti];omega
   generalize w.drew.alloc (.cells l0 140)=w1 at hb1 hB1 |-
   have hB1':Blk w1 w.heap.size l0.toList.toArray 140:=by simpa using hB1
   have hx1:=hx'.keep hb1
   have hg1:=hB.keep hb1
   refine copy_blk (o:=i*1) hB1' hst hsz (cs:=cx.toList) ?_ (cell_add (o:=0) hx1 fun j u hj=>by rw [nza];exact hj) (by rw [hxl,hl0l];omega) ?_ fun w2 hB2 f2=>⟨_,rfl,?_⟩
   ·rw [hxl,show Nat.min 1 (xs.length+1-i)=1 from (by simp only [Nat.min_def];split <;> omega)]
   ·rw [hcx];exact LPt.one x
   have hd2:Below w2.heap.size w2 w2.drew:=(Below.refl _ _).drew
   refine⟨fun w'=>Below w2.heap.size w2 w',hd2,inR_i64 om om,om,om,om,om,om,om,?_⟩
   have e3:((i:Int)+((1:Nat):Int)).toNat=i+1:=by omega
   simp only [e3,tnc]
   have hrow2:w.heap.size≠g:=by omega
   have hg2:Blk w2.drew g (LPt.all xs++rest).toArray 140:=(f2.blk hg1 (fun e=>hrow2 e.symm))
   have hS3:SlA (some ⟨g,0,none⟩) c i 1=some ⟨g,i*1,none⟩:=by unfold SlA;rw [if_neg om];simp [Addr.add_mk]
   rw [hS3]
   have hfin:∀l3 rest3 w3,Blk w3 w.heap.size l3 140->l3.toList=LPt.all (xs.take i++x :: xs.drop i)++rest3->l3.toList.length=q*1->Fm (·=w.heap.size) w2.drew w3->R (.returned (.slice (some ⟨w.heap.size,0,none⟩) (xs.length+1) q)) w3:=by
    intro l3 rest3 w3 hB3 he3 hl3 f3
    have hln:(xs.take i++x :: xs.drop i).length=xs.length+1:=by simp;omega
    have hB3':Blk w3 w.heap.size (LPt.all (xs.take i++x :: xs.drop i)++rest3).toArray 140:=by rw [<-he3];simpa using hB3
    have hO3:=Own.ofBlk (k:=0) (c:=q) hB3' (Nat.zero_le _) (by rw [hln];exact hge) om hcm (by rw [<-he3];exact hl3)
    rw [hln] at hO3
    refine h (some ⟨w.heap.size,0,none⟩,xs.length+1,q) w3 hO3 ?_ (.inr (.inr ⟨w.heap.size,?_,nlr _⟩))
    ·have F1:Fm (fun b=>rowOf (slV (some ⟨g,0,none⟩,xs.length,c))=some b) w w1:=.below hb1
     exact ((F1.trans' f2 fun b hb e=>by have e:b=w.heap.size:=e;omega).tr hd2).trans' f3 fun b hb e=>by have e:b=w.heap.size:=e;omega
    ·obtain⟨q',rfl⟩:∃q',q=q'+1:=⟨q-1,om⟩
     rfl
   have hl2l:(l0.toList.take (i*1)++cx.toList++l0.toList.drop (i*1+cx.toList.length)).length=q*1:=by
    simp only [lap,ltk,ldp,hl0l,hxl];omega
   have hl2p:l0.toList.take (i*1)++cx.toList=LPt.all (xs.take i++[x]):=by
    rw [LPt.all_append,LPt.all_one,<-hcx,hl0',<-hti,List.take_left]
   have hl2q:(l0.toList.take (i*1)++cx.toList++l0.toList.drop (i*1+cx.toList.length)).take ((i+1)*1)=LPt.all (xs.take i++[x]):=by
    rw [hl2p,List.take_left' (by rw [LPt.all_length];simp [hLn];omega)]
   generalize l0.toList.take (i*1)++cx.toList++l0.toList.drop (i*1+cx.toList.length)=l2 at hl2l hl2q hB2
   have hdl:(LPt.all (xs.drop i)).length=(xs.length-i)*1:=by rw [LPt.all_length,ldp];rfl
   have hS4:SlA (some ⟨w.heap.size,0,none⟩) q (i+1) 1=some ⟨w.heap.size,(i+1)*1,none⟩\/(xs.length-i=0):=by
    rcases Nat.lt_or_ge (i+1) q with h4 | h4
    ·exact .inl (hSl _ h4)
    ·omega
   rcases hS4 with hS4 | hS4
   ·rw [hS4]
    have hB2':Blk w2.drew w.heap.size l2.toArray 140:=hB2
    refine copy_blk (o:=(i+1)*1) hB2' hst hsz (cs:=LPt.all (xs.drop i)) ?_ (cell_add (o:=i*1) hg2 fun j u hj=>?_) (by rw [hdl,hl2l];omega) (LPt.all_ones _) fun w3 hB3 f3=>⟨_,rfl,?_⟩
    ·rw [hdl,show Nat.min (xs.length-i) (xs.length+1-(i+1))=xs.length-i from (by simp only [Nat.min_def];split <;> omega)]
    ·have hjl:=(gsi.1 hj).1
     rw [hdl] at hjl
     rw [gal om]
     rw [LPt.all_drop _ _ hi,List.getElem?_drop] at hj
     exact hj
    ·refine hfin _ (l2.drop ((i+1)*1+(LPt.all (xs.drop i)).length)) w3 hB3 ?_ ?_ f3
     ·rw [List.toList_toArray,hl2q]
      have:xs.take i++x :: xs.drop i=(xs.take i++[x])++xs.drop i:=by simp
      rw [this,LPt.all_append (xs.take i++[x]) (xs.drop i)]
     ·rw [List.toList_toArray,lap,lap,ltk,ldp,hdl,hl2l];omega
   ·omega
  ·-- in place
   refine⟨inR_i64 om om,om,om,om,inR_i64 om om,om,om,om,?_⟩
   have e3:((i:Int)+((1:Nat):Int)).toNat=i+1:=by omega
   have e4:(((xs.length:Nat):Int)+((1:Nat):Int)).toNat=xs.length+1:=by omega
   simp only [e3,e4,tnc]
   have hS:∀j:Nat,j<c->SlA (some ⟨g,0,none⟩) c j 1=some ⟨g,j*1,none⟩:=fun j hj=>by
    unfold SlA;rw [if_neg om];simp [Addr.add_mk]
   rw [hS (i+1) om,hS i om]
   have hov:∀la ca lb cb,(callFunc 205 #[.slice (some ⟨gx,0,none⟩) la ca,.slice (some ⟨g,(i+1)*1,none⟩) lb cb]).run P0 w=.ok (.value (.bool false)) w:=fun la ca lb cb=>by
    rw [run_callFunc_extern Tryz.func205 kr kr kr (e:=Extern.SlicesOverlaps.overlaps #[104,104] #[4]) kr,
     Lib.run_overlaps_apart w 104 4 140 hst 1 (run_size hsz) ⟨gx,0,none⟩ ⟨g,(i+1)*1,none⟩ la ca lb cb (Ne.symm hgg) 140 140 cx.size (LPt.all xs++rest).length (by unfold Blk at hx;simp [World.shape?,hx]) (by unfold Blk at hB;simp [World.shape?,hB]) (by rw [hc3];omega) (hx.frozen 0) (hx.frozen _)]
    rfl
   refine⟨.bool false,w,hov _ _ _ _,false,rfl,?_⟩
   rw [Bool.not_false,Br_t]
   have hd2:Below w.heap.size w w.drew:=(Below.refl _ _).drew
   refine⟨fun w'=>True,trivial,inR_i64 om om,om,om,om,om,om,om,?_⟩
   have hdl:(LPt.all (xs.drop i)).length=(xs.length-i)*1:=by rw [LPt.all_length,ldp];rfl
   have hB1:Blk w.drew g (LPt.all xs++rest).toArray 140:=hB
   refine copy_blk (o:=(i+1)*1) hB1 hst hsz (cs:=LPt.all (xs.drop i)) ?_ (cell_add (o:=i*1) hB1 fun j u hj=>?_) (by rw [hdl,hc3];omega) (LPt.all_ones _) fun w2 hB2 f2=>⟨_,rfl,?_⟩
   ·rw [hdl,show Nat.min (xs.length+1-i) (xs.length+1-(i+1))=xs.length-i from (by simp only [Nat.min_def];split <;> omega)]
   ·have hjl:=(gsi.1 hj).1
    rw [hdl] at hjl
    rw [gal om]
    rw [LPt.all_drop _ _ hi,List.getElem?_drop] at hj
    exact hj
   have hx2:Blk w2 gx cx.toList.toArray 140:=f2.blk (show Blk w.drew gx cx.toList.toArray 140 from hx') (fun e=>hgg e.symm)
   have hl2l:((LPt.all xs++rest).take ((i+1)*1)++LPt.all (xs.drop i)++(LPt.all xs++rest).drop ((i+1)*1+(LPt.all (xs.drop i)).length)).length=c*1:=by
    rw [lap,lap,ltk,ldp,hdl,hc3];omega
   have hl2t:((LPt.all xs++rest).take ((i+1)*1)++LPt.all (xs.drop i)++(LPt.all xs++rest).drop ((i+1)*1+(LPt.all (xs.drop i)).length)).take (i*1)=LPt.all (xs.take i):=by
    rw [laa,List.take_append_of_le_length (by rw [ltk,hc3];omega),List.take_take,Nat.min_eq_left om,List.take_append_of_le_length om,LPt.all_take];rfl
   have hl2d:∃r3,((LPt.all xs++rest).take ((i+1)*1)++LPt.all (xs.drop i)++(LPt.all xs++rest).drop ((i+1)*1+(LPt.all (xs.drop i)).length)).drop ((i+1)*1)=LPt.all (xs.drop i)++r3:=by
    refine⟨(LPt.all xs++rest).drop ((i+1)*1+(LPt.all (xs.drop i)).length),?_⟩
    rw [laa,List.drop_left' (by rw [ltk,hc3];omega)]
   generalize (LPt.all xs++rest).take ((i+1)*1)++LPt.all (xs.drop i)++(LPt.all xs++rest).drop ((i+1)*1+(LPt.all (xs.drop i)).length)=l2 at hl2l hl2t hl2d hB2
   obtain⟨r3,hl2d⟩:=hl2d
   refine⟨om,om,om,?_⟩
   refine copy_blk (o:=i*1) hB2 hst hsz (cs:=cx.toList) ?_ (cell_add (o:=0) hx2 fun j u hj=>by rw [nza];exact hj) (by rw [hxl,hl2l];omega) ?_ fun w3 hB3 f3=>⟨_,rfl,?_⟩
   ·rw [hxl,show Nat.min 1 (xs.length+1-i)=1 from (by simp only [Nat.min_def];split <;> omega)]
   ·rw [hcx];exact LPt.one x
   have e5:i*1+cx.toList.length=(i+1)*1:=by rw [hxl];omega
   rw [hl2t,e5,hl2d,hcx] at hB3
   have hln:(xs.take i++x :: xs.drop i).length=xs.length+1:=by simp;omega
   have he3:LPt.all (xs.take i)++LPt.cells x++(LPt.all (xs.drop i)++r3)=LPt.all (xs.take i++x :: xs.drop i)++r3:=by
    have:xs.take i++x :: xs.drop i=xs.take i++([x]++xs.drop i):=by simp
    rw [this,LPt.all_append,LPt.all_append,LPt.all_one];simp
   rw [he3] at hB3
   have hl3l:(LPt.all (xs.take i++x :: xs.drop i)++r3).length=c*1:=by
    have h6:(l2.drop ((i+1)*1)).length=c*1-(i+1)*1:=by rw [ldp,hl2l]
    rw [hl2d,lap,hdl] at h6
    rw [lap,LPt.all_length,hln,hLn]
    omega
   have hO3:=Own.ofBlk (k:=0) (c:=c) hB3 (Nat.zero_le _) (by rw [hln];omega) om hc2 hl3l
   rw [hln] at hO3
   refine h (some ⟨g,0,none⟩,xs.length+1,c) w3 hO3 ?_ (.inl ?_)
   ·have F2:Fm (fun b=>rowOf (slV (some ⟨g,0,none⟩,xs.length,c))=some b) w w2:=(Fm.below (w:=w) (w1:=w.drew) hd2).trans (f2.mono fun b _ e=>by have e:b=g:=e;rw [hrow,e])
    exact F2.trans (f3.mono fun b _ e=>by have e:b=g:=e;rw [hrow,e])
   ·obtain⟨c',rfl⟩:∃c',c=c'+1:=⟨c-1,om⟩
    rfl
theorem delP_calls {w:Wd}{v:Sv}{xs:List Nat}{i j:Nat} (hO:Own LPt w 0 140 (slV v) xs) (hi:i<j) (hj:j<=xs.length) {R:RT}
  (h:∀v' w',Own LPt w' 0 140 (slV v') (xs.take i++xs.drop j)->Fm (fun b=>rowOf (slV v)=some b) w w'->(rowOf (slV v')=rowOf (slV v)\/rowOf (slV v')=none\/∃g,rowOf (slV v')=some g/\w.heap.size<=g)->R (.returned (slV v')) w') :
  CL 231 #[slV v,.int .i64 (i:Nat),.int .i64 (j:Nat)] w R:=by
 have hz:zeroT P0 140=some (.pointer none):=by kernel_rfl
 have hst:Tryz.prog.underlying 104=some (.slice 140):=by kernel_rfl
 obtain⟨g,c,rest,rfl,hrow,_,hB,hc1,hc2,hc3⟩:=hO.row1 om
 have hLn:LPt.n=1:=rfl
 have hmx:=hc2
 unfold maxLen at hmx
 have hall:=LPt.all_length xs
 rw [hLn] at hall hc3
 refine ok231 (some ⟨g,0,none⟩) xs.length c (i:Nat) (j:Nat) ?_
 unfold F231
 refine⟨om,om,om,om,bre (fun h0=>by omega) (fun _=>?_)⟩
 have hd:Below w.heap.size w w.drew:=(Below.refl _ _).drew
 refine⟨fun _=>True,trivial,om,om,om,om,om,om,?_⟩
 simp only [tnc]
 have hti:(xs.take i).length=i:=by rw [ltk];omega
 have hdj:(xs.drop j).length=xs.length-j:=ldp
 have hdl:(LPt.all (xs.drop j)).length=(xs.length-j)*1:=by rw [LPt.all_length,hdj];rfl
 have hil:(LPt.all (xs.take i)).length=i*1:=by rw [LPt.all_length,hti];rfl
 have hB1:Blk w.drew g (LPt.all xs++rest).toArray 140:=hB
 obtain⟨a,hSA,hsrc⟩:∃a:Addr,SlA (some ⟨g,0,none⟩) c j 1=some a/\∀k u,(LPt.all (xs.drop j))[k]?=some u->w.drew.cell? (a.add k)=some u:=by
  unfold SlA
  by_cases hcj:c=j
  ·rw [if_pos hcj]
   refine⟨_,rfl,fun k u hk=>?_⟩
   have:=(gsi.1 hk).1
   rw [hdl] at this;omega
  ·rw [if_neg hcj]
   refine⟨_,rfl,?_⟩
   dsimp only
   rw [Addr.add_mk,nza]
   refine cell_add (o:=j*1) hB1 fun k u hk=>?_
   have hkl:=(gsi.1 hk).1
   rw [hdl] at hkl
   rw [gal om]
   rw [LPt.all_drop _ _ hj,List.getElem?_drop] at hk
   exact hk
 rw [hSA]
 refine app_room hB1 hst (show sizeT P0 140=some 1 by kernel_rfl) (cs:=LPt.all (xs.drop j)) hdl hsrc om (by rw [hdl,hc3];omega) (LPt.all_ones _) fun w2 hB2 f2=>⟨_,_,_,rfl,?_⟩
 have hp:(LPt.all xs++rest).take (i*1)++LPt.all (xs.drop j)=LPt.all (xs.take i++xs.drop j):=by
  rw [LPt.all_append,LPt.all_take,List.take_append_of_le_length om];rfl
 rw [hp] at hB2
 have hln:(xs.take i++xs.drop j).length=i+(xs.length-j):=by rw [lap,hti,hdj]
 have hpl:(LPt.all (xs.take i++xs.drop j)).length=(i+(xs.length-j))*1:=by rw [LPt.all_length,hln];rfl
 have hl2:(LPt.all (xs.take i++xs.drop j)++(LPt.all xs++rest).drop (i*1+(LPt.all (xs.drop j)).length)).length=c*1:=by
  rw [lap,ldp,hdl,hpl,hc3];omega
 generalize (LPt.all xs++rest).drop (i*1+(LPt.all (xs.drop j)).length)=r2 at hB2 hl2
 refine⟨om,om,om,?_⟩
 have hS:SlA (some ⟨g,0,none⟩) c (i+(xs.length-j)) 1=some ⟨g,(i+(xs.length-j))*1,none⟩:=by
  unfold SlA;rw [if_neg om];simp [Addr.add_mk]
 rw [hS]
 have hzs:((.pointer none):Value).cells.size=1:=by kernel_rfl
 refine clear_blk hB2 hst hz (by rw [hzs,hl2];omega) ?_ fun w3 cs hcs hB3 f3=>?_
 ·simp [Value.cells,Value.oneCell']
 rw [hzs] at hcs hB3
 rw [List.take_left' hpl,laa] at hB3
 have hl3:(LPt.all (xs.take i++xs.drop j)++(cs++(LPt.all (xs.take i++xs.drop j)++r2).drop ((i+(xs.length-j))*1+(xs.length-(i+(xs.length-j)))*1))).length=c*1:=by
  rw [lap,lap,ldp,hl2,hpl,hcs];omega
 have hO3:=Own.ofBlk (k:=0) (c:=c) hB3 (Nat.zero_le _) (by rw [hln];omega) om hc2 hl3
 rw [hln] at hO3
 have hd:Below w.heap.size w w.drew:=(Below.refl _ _).drew
 refine h (some ⟨g,0,none⟩,i+(xs.length-j),c) w3 hO3 ?_ (.inl ?_)
 ·exact ((Fm.below (w:=w) (w1:=w.drew) hd).trans (f2.mono fun b _ e=>by have e:b=g:=e;rw [hrow,e])).trans (f3.mono fun b _ e=>by have e:b=g:=e;rw [hrow,e])
 ·obtain⟨c',rfl⟩:∃c',c=c'+1:=⟨c-1,om⟩
  rfl
theorem insA_calls {w:Wd}{v:Sv}{xs:List At}{x:At}{i gx:Nat}{cx:Array Value} (hO:Own LAt w 0 145 (slV v) xs) (hi:i<=xs.length) (hx:Blk w gx cx 145) (hcx:cx.toList=LAt.cells x) (hgx:rowOf (slV v)≠some gx) (hl:xs.length+1<=1048576) {R:RT}
  (h:∀v' w',Own LAt w' 0 145 (slV v') (xs.take i++x :: xs.drop i)->Fm (fun b=>rowOf (slV v)=some b) w w'->(rowOf (slV v')=rowOf (slV v)\/rowOf (slV v')=none\/∃g,rowOf (slV v')=some g/\w.heap.size<=g)->R (.returned (slV v')) w') :
  CL 198 #[slV v,.int .i64 (i:Nat),.slice (some ⟨gx,0,none⟩) 1 1] w R:=by
 have hz:zeroT P0 145=some (.agg #[eS,eS]):=by kernel_rfl
 have hsz:sizeT P0 145=some 2:=by kernel_rfl
 have hst:Tryz.prog.underlying 45=some (.slice 145):=by kernel_rfl
 have hxl:cx.toList.length=2:=by rw [hcx];exact LAt.len x
 obtain⟨A,c,hv0,hrd⟩:=hO.form
 have hv:v=(A,xs.length,c):=by obtain⟨v1,v2,v3⟩:=v;unfold slV at hv0;simp only [Value.slice.injEq] at hv0;obtain⟨rfl,rfl,rfl⟩:=hv0;rfl
 have hle:=hrd.1
 have hmx:=hrd.2.1
 unfold maxLen at hmx
 refine ok198 v.1 v.2.1 v.2.2 (i:Nat) (some ⟨gx,0,none⟩) 1 1 ?_
 unfold F198
 subst hv
 dsimp only
 refine⟨om,om,om,?_⟩
 refine bre (fun h0=>absurd h0 dc) (fun _=>?_)
 refine bre (fun hin=>?_) (fun hin=>?_)
 ·have hin:i=xs.length:=by omega
  refine ap (L:=LAt) (xs:=xs) (ys:=[x]) (base:=0) (.agg #[eS,eS]) 32 rfl hst kr kr hO ?_ (Nat.zero_le _) (by simp;omega) (by simp [maxLen];omega) fun A' c' w1 o1 g1=>⟨A',_,c',rfl,?_⟩
  ·refine⟨sm,by simp [maxLen],fun h0=>(by cases h0),fun _=>⟨gx,0,rfl,fun j u hj=>?_⟩⟩
   rw [LAt.all_one,<-hcx] at hj
   rw [hx.cell];simpa using hj
  ·refine h (A',_,c') w1 ?_ (Fm.grown g1.grown fun b hb=>hb) g1.row
   rw [insAtT hin];exact o1
 ·have hin:i<xs.length:=by omega
  obtain⟨g,c9,rest,hvv,hrow,_,hB,hc1,hc2,hc3⟩:=hO.row1 om
  simp only [Prod.mk.injEq] at hvv
  obtain⟨rfl,-,rfl⟩:=hvv
  have hgg:g≠gx:=fun e=>hgx (by rw [hrow,e])
  have hgl:=hB.lt
  have hgxl:=hx.lt
  have hx':Blk w gx cx.toList.toArray 145:=by simpa using hx
  have hall:=LAt.all_length xs
  have hLn:LAt.n=2:=rfl
  rw [hLn] at hall hc3
  refine⟨inR_i64 om om,brd (fun hgr=>?_) (fun hgr=>?_)⟩
  ·-- a new row
   refine⟨om,om,om,inR_i64 om om,inR_i64 om om,?_⟩
   have e1:((xs.length:Nat):Int)+((1:Nat):Int)-(i:Nat)=((xs.length+1-i:Nat):Int):=by omega
   rw [e1,tnc]
   obtain⟨inf,hinf,hiz⟩:=sizeT_info hsz
   have hib:inf.zero=some (.agg #[eS,eS])/\inf.bytes=32:=by
    have h1:(Tryz.prog.info? 145).map (fun i=>(i.zero,i.bytes))=some (some (.agg #[eS,eS]),32):=by kernel_rfl
    rw [hinf] at h1
    simp only [oms,Option.some.injEq,Prod.mk.injEq] at h1
    exact h1
   have e2:i+(xs.length+1-i)=xs.length+1:=by omega
   refine apz (u:=3) (k:=.i64) (olds:=LAt.all (xs.take i)) hst kr hinf hib.1 (by rw [LAt.all_length,ltk,Nat.min_eq_left hi,hiz];rfl) (cell_add (o:=0) hB fun j u hj=>?_) om om om ?_ (by rw [hib.2];omega) ?_
   ·rw [nza,LAt.all_take] at *
    have hjl:=(gsi.1 hj).1
    rw [ltk] at hjl
    rw [gal om,<-hj,List.getElem?_take_of_lt om]
   ·rw [e2,hib.2]
    refine nlt (growslice_fits om (show (xs.length+1)*32<=140737488355328 by omega)) (nlr _)
   rw [e2,hiz]
   rw [if_neg om]
   have hge:=grownCap_ge w (xs.length+1) c 145
   have hcm:grownCap w (xs.length+1) c 145<=maxLen:=grownCap_le_maxLen w _ c 145 (by simp [maxLen];omega)
   generalize grownCap w (xs.length+1) c 145=q at hge hcm |-
   refine⟨_,_,_,rfl,om,om,om,?_⟩
   simp only [tnc]
   have hSl:∀j:Nat,j<q->SlA (some ⟨w.heap.size,0,none⟩) q j 2=some ⟨w.heap.size,j*2,none⟩:=fun j hj=>by
    unfold SlA;rw [if_neg om];simp [Addr.add_mk]
   rw [hSl i om]
   have hb1:Below w.heap.size w (w.drew.alloc (.cells ((LAt.all (xs.take i)).toArray++Builtin.zeroCells ((.agg #[eS,eS]):Value).cells (xs.length+1-i)++Builtin.zeroCells ((.agg #[eS,eS]):Value).cells (q-(xs.length+1))) 145)):=((Below.refl _ _).drew).alloc (nlr _) _
   have hB1:=Blk.alloc_new w.drew ((LAt.all (xs.take i)).toArray++Builtin.zeroCells ((.agg #[eS,eS]):Value).cells (xs.length+1-i)++Builtin.zeroCells ((.agg #[eS,eS]):Value).cells (q-(xs.length+1))) 145
   have hzc:∀n,(Builtin.zeroCells ((.agg #[eS,eS]):Value).cells n).toList.length=n*2:=fun n=>by
    have:((.agg #[eS,eS]):Value).cells.size=2:=by kernel_rfl
    simp [Builtin.zeroCells,this]
   generalize hl0:(LAt.all (xs.take i)).toArray++Builtin.zeroCells ((.agg #[eS,eS]):Value).cells (xs.length+1-i)++Builtin.zeroCells ((.agg #[eS,eS]):Value).cells (q-(xs.length+1))=l0 at hb1 hB1 |-
   have hl0':l0.toList=LAt.all (xs.take i)++((Builtin.zeroCells ((.agg #[eS,eS]):Value).cells (xs.length+1-i)).toList++(Builtin.zeroCells ((.agg #[eS,eS]):Value).cells (q-(xs.length+1))).toList):=by rw [<-hl0];simp
   have hti:(LAt.all (xs.take i)).length=i*2:=by rw [LAt.all_length,ltk,Nat.min_eq_left hi];rfl
   have hl0l:l0.toList.length=q*2:=by
    rw [hl0',lap,lap,hzc,hzc,hti];omega
   generalize w.drew.alloc (.cells l0 145)=w1 at hb1 hB1 |-
   have hB1':Blk w1 w.heap.size l0.toList.toArray 145:=by simpa using hB1
   have hx1:=hx'.keep hb1
   have hg1:=hB.keep hb1
   refine copy_blk (o:=i*2) hB1' hst hsz (cs:=cx.toList) ?_ (cell_add (o:=0) hx1 fun j u hj=>by rw [nza];exact hj) (by rw [hxl,hl0l];omega) ?_ fun w2 hB2 f2=>⟨_,rfl,?_⟩
   ·rw [hxl,show Nat.min 1 (xs.length+1-i)=1 from (by simp only [Nat.min_def];split <;> omega)]
   ·rw [hcx];exact LAt.one x
   have hd2:Below w2.heap.size w2 w2.drew:=(Below.refl _ _).drew
   refine⟨fun w'=>Below w2.heap.size w2 w',hd2,inR_i64 om om,om,om,om,om,om,om,?_⟩
   have e3:((i:Int)+((1:Nat):Int)).toNat=i+1:=by omega
   simp only [e3,tnc]
   have hrow2:w.heap.size≠g:=by omega
   have hg2:Blk w2.drew g (LAt.all xs++rest).toArray 145:=(f2.blk hg1 (fun e=>hrow2 e.symm))
   have hS3:SlA (some ⟨g,0,none⟩) c i 2=some ⟨g,i*2,none⟩:=by unfold SlA;rw [if_neg om];simp [Addr.add_mk]
   rw [hS3]
   have hfin:∀l3 rest3 w3,Blk w3 w.heap.size l3 145->l3.toList=LAt.all (xs.take i++x :: xs.drop i)++rest3->l3.toList.length=q*2->Fm (·=w.heap.size) w2.drew w3->R (.returned (.slice (some ⟨w.heap.size,0,none⟩) (xs.length+1) q)) w3:=by
    intro l3 rest3 w3 hB3 he3 hl3 f3
    have hln:(xs.take i++x :: xs.drop i).length=xs.length+1:=by simp;omega
    have hB3':Blk w3 w.heap.size (LAt.all (xs.take i++x :: xs.drop i)++rest3).toArray 145:=by rw [<-he3];simpa using hB3
    have hO3:=Own.ofBlk (k:=0) (c:=q) hB3' (Nat.zero_le _) (by rw [hln];exact hge) om hcm (by rw [<-he3];exact hl3)
    rw [hln] at hO3
    refine h (some ⟨w.heap.size,0,none⟩,xs.length+1,q) w3 hO3 ?_ (.inr (.inr ⟨w.heap.size,?_,nlr _⟩))
    ·have F1:Fm (fun b=>rowOf (slV (some ⟨g,0,none⟩,xs.length,c))=some b) w w1:=.below hb1
     exact ((F1.trans' f2 fun b hb e=>by have e:b=w.heap.size:=e;omega).tr hd2).trans' f3 fun b hb e=>by have e:b=w.heap.size:=e;omega
    ·obtain⟨q',rfl⟩:∃q',q=q'+1:=⟨q-1,om⟩
     rfl
   have hl2l:(l0.toList.take (i*2)++cx.toList++l0.toList.drop (i*2+cx.toList.length)).length=q*2:=by
    simp only [lap,ltk,ldp,hl0l,hxl];omega
   have hl2p:l0.toList.take (i*2)++cx.toList=LAt.all (xs.take i++[x]):=by
    rw [LAt.all_append,LAt.all_one,<-hcx,hl0',<-hti,List.take_left]
   have hl2q:(l0.toList.take (i*2)++cx.toList++l0.toList.drop (i*2+cx.toList.length)).take ((i+1)*2)=LAt.all (xs.take i++[x]):=by
    rw [hl2p,List.take_left' (by rw [LAt.all_length];simp [hLn];omega)]
   generalize l0.toList.take (i*2)++cx.toList++l0.toList.drop (i*2+cx.toList.length)=l2 at hl2l hl2q hB2
   have hdl:(LAt.all (xs.drop i)).length=(xs.length-i)*2:=by rw [LAt.all_length,ldp];rfl
   have hS4:SlA (some ⟨w.heap.size,0,none⟩) q (i+1) 2=some ⟨w.heap.size,(i+1)*2,none⟩\/(xs.length-i=0):=by
    rcases Nat.lt_or_ge (i+1) q with h4 | h4
    ·exact .inl (hSl _ h4)
    ·omega
   rcases hS4 with hS4 | hS4
   ·rw [hS4]
    have hB2':Blk w2.drew w.heap.size l2.toArray 145:=hB2
    refine copy_blk (o:=(i+1)*2) hB2' hst hsz (cs:=LAt.all (xs.drop i)) ?_ (cell_add (o:=i*2) hg2 fun j u hj=>?_) (by rw [hdl,hl2l];omega) (LAt.all_ones _) fun w3 hB3 f3=>⟨_,rfl,?_⟩
    ·rw [hdl,show Nat.min (xs.length-i) (xs.length+1-(i+1))=xs.length-i from (by simp only [Nat.min_def];split <;> omega)]
    ·have hjl:=(gsi.1 hj).1
     rw [hdl] at hjl
     rw [gal om]
     rw [LAt.all_drop _ _ hi,List.getElem?_drop] at hj
     exact hj
    ·refine hfin _ (l2.drop ((i+1)*2+(LAt.all (xs.drop i)).length)) w3 hB3 ?_ ?_ f3
     ·rw [List.toList_toArray,hl2q]
      have:xs.take i++x :: xs.drop i=(xs.take i++[x])++xs.drop i:=by simp
      rw [this,LAt.all_append (xs.take i++[x]) (xs.drop i)]
     ·rw [List.toList_toArray,lap,lap,ltk,ldp,hdl,hl2l];omega
   ·omega
  ·-- in place
   refine⟨inR_i64 om om,om,om,om,inR_i64 om om,om,om,om,?_⟩
   have e3:((i:Int)+((1:Nat):Int)).toNat=i+1:=by omega
   have e4:(((xs.length:Nat):Int)+((1:Nat):Int)).toNat=xs.length+1:=by omega
   simp only [e3,e4,tnc]
   have hS:∀j:Nat,j<c->SlA (some ⟨g,0,none⟩) c j 2=some ⟨g,j*2,none⟩:=fun j hj=>by
    unfold SlA;rw [if_neg om];simp [Addr.add_mk]
   rw [hS (i+1) om,hS i om]
   have hov:∀la ca lb cb,(callFunc 229 #[.slice (some ⟨gx,0,none⟩) la ca,.slice (some ⟨g,(i+1)*2,none⟩) lb cb]).run P0 w=.ok (.value (.bool false)) w:=fun la ca lb cb=>by
    rw [run_callFunc_extern Tryz.func229 kr kr kr (e:=Extern.SlicesOverlaps.overlaps #[45,45] #[4]) kr,
     Lib.run_overlaps_apart w 45 4 145 hst 2 (run_size hsz) ⟨gx,0,none⟩ ⟨g,(i+1)*2,none⟩ la ca lb cb (Ne.symm hgg) 145 145 cx.size (LAt.all xs++rest).length (by unfold Blk at hx;simp [World.shape?,hx]) (by unfold Blk at hB;simp [World.shape?,hB]) (by rw [hc3];omega) (hx.frozen 0) (hx.frozen _)]
    rfl
   refine⟨.bool false,w,hov _ _ _ _,false,rfl,?_⟩
   rw [Bool.not_false,Br_t]
   have hd2:Below w.heap.size w w.drew:=(Below.refl _ _).drew
   refine⟨fun w'=>True,trivial,inR_i64 om om,om,om,om,om,om,om,?_⟩
   have hdl:(LAt.all (xs.drop i)).length=(xs.length-i)*2:=by rw [LAt.all_length,ldp];rfl
   have hB1:Blk w.drew g (LAt.all xs++rest).toArray 145:=hB
   refine copy_blk (o:=(i+1)*2) hB1 hst hsz (cs:=LAt.all (xs.drop i)) ?_ (cell_add (o:=i*2) hB1 fun j u hj=>?_) (by rw [hdl,hc3];omega) (LAt.all_ones _) fun w2 hB2 f2=>⟨_,rfl,?_⟩
   ·rw [hdl,show Nat.min (xs.length+1-i) (xs.length+1-(i+1))=xs.length-i from (by simp only [Nat.min_def];split <;> omega)]
   ·have hjl:=(gsi.1 hj).1
    rw [hdl] at hjl
    rw [gal om]
    rw [LAt.all_drop _ _ hi,List.getElem?_drop] at hj
    exact hj
   have hx2:Blk w2 gx cx.toList.toArray 145:=f2.blk (show Blk w.drew gx cx.toList.toArray 145 from hx') (fun e=>hgg e.symm)
   have hl2l:((LAt.all xs++rest).take ((i+1)*2)++LAt.all (xs.drop i)++(LAt.all xs++rest).drop ((i+1)*2+(LAt.all (xs.drop i)).length)).length=c*2:=by
    rw [lap,lap,ltk,ldp,hdl,hc3];omega
   have hl2t:((LAt.all xs++rest).take ((i+1)*2)++LAt.all (xs.drop i)++(LAt.all xs++rest).drop ((i+1)*2+(LAt.all (xs.drop i)).length)).take (i*2)=LAt.all (xs.take i):=by
    rw [laa,List.take_append_of_le_length (by rw [ltk,hc3];omega),List.take_take,Nat.min_eq_left om,List.take_append_of_le_length om,LAt.all_take];rfl
   have hl2d:∃r3,((LAt.all xs++rest).take ((i+1)*2)++LAt.all (xs.drop i)++(LAt.all xs++rest).drop ((i+1)*2+(LAt.all (xs.drop i)).length)).drop ((i+1)*2)=LAt.all (xs.drop i)++r3:=by
    refine⟨(LAt.all xs++rest).drop ((i+1)*2+(LAt.all (xs.drop i)).length),?_⟩
    rw [laa,List.drop_left' (by rw [ltk,hc3];omega)]
   generalize (LAt.all xs++rest).take ((i+1)*2)++LAt.all (xs.drop i)++(LAt.all xs++rest).drop ((i+1)*2+(LAt.all (xs.drop i)).length)=l2 at hl2l hl2t hl2d hB2
   obtain⟨r3,hl2d⟩:=hl2d
   refine⟨om,om,om,?_⟩
   refine copy_blk (o:=i*2) hB2 hst hsz (cs:=cx.toList) ?_ (cell_add (o:=0) hx2 fun j u hj=>by rw [nza];exact hj) (by rw [hxl,hl2l];omega) ?_ fun w3 hB3 f3=>⟨_,rfl,?_⟩
   ·rw [hxl,show Nat.min 1 (xs.length+1-i)=1 from (by simp only [Nat.min_def];split <;> omega)]
   ·rw [hcx];exact LAt.one x
   have e5:i*2+cx.toList.length=(i+1)*2:=by rw [hxl];omega
   rw [hl2t,e5,hl2d,hcx] at hB3
   have hln:(xs.take i++x :: xs.drop i).length=xs.length+1:=by simp;omega
   have he3:LAt.all (xs.take i)++LAt.cells x++(LAt.all (xs.drop i)++r3)=LAt.all (xs.take i++x :: xs.drop i)++r3:=by
    have:xs.take i++x :: xs.drop i=xs.take i++([x]++xs.drop i):=by simp
    rw [this,LAt.all_append,LAt.all_append,LAt.all_one];simp
   rw [he3] at hB3
   have hl3l:(LAt.all (xs.take i++x :: xs.drop i)++r3).length=c*2:=by
    have h6:(l2.drop ((i+1)*2)).length=c*2-(i+1)*2:=by rw [ldp,hl2l]
    rw [hl2d,lap,hdl] at h6
    rw [lap,LAt.all_length,hln,hLn]
    omega
   have hO3:=Own.ofBlk (k:=0) (c:=c) hB3 (Nat.zero_le _) (by rw [hln];omega) om hc2 hl3l
   rw [hln] at hO3
   refine h (some ⟨g,0,none⟩,xs.length+1,c) w3 hO3 ?_ (.inl ?_)
   ·have F2:Fm (fun b=>rowOf (slV (some ⟨g,0,none⟩,xs.length,c))=some b) w w2:=(Fm.below (w:=w) (w1:=w.drew) hd2).trans (f2.mono fun b _ e=>by have e:b=g:=e;rw [hrow,e])
    exact F2.trans (f3.mono fun b _ e=>by have e:b=g:=e;rw [hrow,e])
   ·obtain⟨c',rfl⟩:∃c',c=c'+1:=⟨c-1,om⟩
    rfl
theorem delA_calls {w:Wd}{v:Sv}{xs:List At}{i j:Nat} (hO:Own LAt w 0 145 (slV v) xs) (hi:i<j) (hj:j<=xs.length) {R:RT}
  (h:∀v' w',Own LAt w' 0 145 (slV v') (xs.take i++xs.drop j)->Fm (fun b=>rowOf (slV v)=some b) w w'->(rowOf (slV v')=rowOf (slV v)\/rowOf (slV v')=none\/∃g,rowOf (slV v')=some g/\w.heap.size<=g)->R (.returned (slV v')) w') :
  CL 199 #[slV v,.int .i64 (i:Nat),.int .i64 (j:Nat)] w R:=by
 have hz:zeroT P0 145=some (.agg #[eS,eS]):=by kernel_rfl
 have hst:Tryz.prog.underlying 45=some (.slice 145):=by kernel_rfl
 obtain⟨g,c,rest,rfl,hrow,_,hB,hc1,hc2,hc3⟩:=hO.row1 om
 have hLn:LAt.n=2:=rfl
 have hmx:=hc2
 unfold maxLen at hmx
 have hall:=LAt.all_length xs
 rw [hLn] at hall hc3
 refine ok199 (some ⟨g,0,none⟩) xs.length c (i:Nat) (j:Nat) ?_
 unfold F199
 refine⟨om,om,om,om,bre (fun h0=>by omega) (fun _=>?_)⟩
 have hd:Below w.heap.size w w.drew:=(Below.refl _ _).drew
 refine⟨fun _=>True,trivial,om,om,om,om,om,om,?_⟩
 simp only [tnc]
 have hti:(xs.take i).length=i:=by rw [ltk];omega
 have hdj:(xs.drop j).length=xs.length-j:=ldp
 have hdl:(LAt.all (xs.drop j)).length=(xs.length-j)*2:=by rw [LAt.all_length,hdj];rfl
 have hil:(LAt.all (xs.take i)).length=i*2:=by rw [LAt.all_length,hti];rfl
 have hB1:Blk w.drew g (LAt.all xs++rest).toArray 145:=hB
 obtain⟨a,hSA,hsrc⟩:∃a:Addr,SlA (some ⟨g,0,none⟩) c j 2=some a/\∀k u,(LAt.all (xs.drop j))[k]?=some u->w.drew.cell? (a.add k)=some u:=by
  unfold SlA
  by_cases hcj:c=j
  ·rw [if_pos hcj]
   refine⟨_,rfl,fun k u hk=>?_⟩
   have:=(gsi.1 hk).1
   rw [hdl] at this;omega
  ·rw [if_neg hcj]
   refine⟨_,rfl,?_⟩
   dsimp only
   rw [Addr.add_mk,nza]
   refine cell_add (o:=j*2) hB1 fun k u hk=>?_
   have hkl:=(gsi.1 hk).1
   rw [hdl] at hkl
   rw [gal om]
   rw [LAt.all_drop _ _ hj,List.getElem?_drop] at hk
   exact hk
 rw [hSA]
 refine app_room hB1 hst (show sizeT P0 145=some 2 by kernel_rfl) (cs:=LAt.all (xs.drop j)) hdl hsrc om (by rw [hdl,hc3];omega) (LAt.all_ones _) fun w2 hB2 f2=>⟨_,_,_,rfl,?_⟩
 have hp:(LAt.all xs++rest).take (i*2)++LAt.all (xs.drop j)=LAt.all (xs.take i++xs.drop j):=by
  rw [LAt.all_append,LAt.all_take,List.take_append_of_le_length om];rfl
 rw [hp] at hB2
 have hln:(xs.take i++xs.drop j).length=i+(xs.length-j):=by rw [lap,hti,hdj]
 have hpl:(LAt.all (xs.take i++xs.drop j)).length=(i+(xs.length-j))*2:=by rw [LAt.all_length,hln];rfl
 have hl2:(LAt.all (xs.take i++xs.drop j)++(LAt.all xs++rest).drop (i*2+(LAt.all (xs.drop j)).length)).length=c*2:=by
  rw [lap,ldp,hdl,hpl,hc3];omega
 generalize (LAt.all xs++rest).drop (i*2+(LAt.all (xs.drop j)).length)=r2 at hB2 hl2
 refine⟨om,om,om,?_⟩
 have hS:SlA (some ⟨g,0,none⟩) c (i+(xs.length-j)) 2=some ⟨g,(i+(xs.length-j))*2,none⟩:=by
  unfold SlA;rw [if_neg om];simp [Addr.add_mk]
 rw [hS]
 have hzs:((.agg #[eS,eS]):Value).cells.size=2:=by kernel_rfl
 refine clear_blk hB2 hst hz (by rw [hzs,hl2];omega) ?_ fun w3 cs hcs hB3 f3=>?_
 ·simp [Value.cells,Value.oneCell']
 rw [hzs] at hcs hB3
 rw [List.take_left' hpl,laa] at hB3
 have hl3:(LAt.all (xs.take i++xs.drop j)++(cs++(LAt.all (xs.take i++xs.drop j)++r2).drop ((i+(xs.length-j))*2+(xs.length-(i+(xs.length-j)))*2))).length=c*2:=by
  rw [lap,lap,ldp,hl2,hpl,hcs];omega
 have hO3:=Own.ofBlk (k:=0) (c:=c) hB3 (Nat.zero_le _) (by rw [hln];omega) om hc2 hl3
 rw [hln] at hO3
 have hd:Below w.heap.size w w.drew:=(Below.refl _ _).drew
 refine h (some ⟨g,0,none⟩,i+(xs.length-j),c) w3 hO3 ?_ (.inl ?_)
 ·exact ((Fm.below (w:=w) (w1:=w.drew) hd).trans (f2.mono fun b _ e=>by have e:b=g:=e;rw [hrow,e])).trans (f3.mono fun b _ e=>by have e:b=g:=e;rw [hrow,e])
 ·obtain⟨c',rfl⟩:∃c',c=c'+1:=⟨c-1,om⟩
  rfl
def pb (bs:List Nat) (h:Nat):Nat:=bs.getD (h % 4294967296-1) 0
def ptrH (bs:List Nat) (h:Nat):OA:=if h=0 then none else some ⟨pb bs h,0,none⟩
def pc (c:Nat):Prop:=c=1\/c=2\/c=3\/(8<=c/\c % 4≠3)
structure NodeR (w:Wd) (o:Nat->Nat) (bs:List Nat) (i b:Nat) (s:Sl) (a kv:Sv):Prop where
 blk:Blk w b (nodeC i s a (ptrH bs s.parent) kv) 142
 at1:Own LAt w 0 145 (slV a) s.attrs
 at2:∀x,rowOf (slV a)=some x->o x=10+4*i
 kd1:Own LPt w 0 140 (slV kv) (s.kids.map (pb bs))
 kd2:∀x,rowOf (slV kv)=some x->o x=9+4*i
def inN (n h:Nat):Prop:=1<=h % 4294967296/\h % 4294967296<=n
structure RngS (n:Nat) (s:Sl):Prop where
 gen:s.gen<4294967296
 par:s.parent=0\/inN n s.parent
 kids:∀h∈s.kids,inN n h
 few:s.kids.length<=1048576
 atf:s.attrs.length<=1048576
structure Th where
 g:Nat
 t:TypeId
 tl:List Value
structure PS where
 D:Im
 bs:List Nat
 lv:Nat
 wn:Nat
 lo:Nat
def docC (nv rv:Sv) (lv wn lo:Nat) (tl:List Value):Array Value:=(slV nv :: slV rv :: .int .i64 (lv:Nat) :: .int .i64 (wn:Nat) :: .int .i64 (lo:Nat) :: tl).toArray
structure DocR (w:Wd) (o:Nat->Nat) (θ:Th) (S:PS) (nv rv:Sv):Prop where
 blk:Blk w θ.g (docC nv rv S.lv S.wn S.lo θ.tl) θ.t
 n1:Own LPt w 0 140 (slV nv) S.bs
 n2:∀x,rowOf (slV nv)=some x->o x=2
 r1:Own LPt w 0 140 (slV rv) (S.D.roots.map (pb S.bs))
 r2:∀x,rowOf (slV rv)=some x->o x=3
structure PM (w:Wd) (o:Nat->Nat) (θ:Th) (S:PS):Prop where
 col:o θ.g=1
 lt:∀b,o b≠0->b<w.heap.size
 len:S.bs.length=S.D.sl.length
 few:S.D.sl.length<=4096
 nc:∀(i b:Nat),S.bs[i]?=some b->o b=8+4*i
 doc:∃nv rv,DocR w o θ S nv rv
 nodes:∀(i b:Nat) (s:Sl),S.bs[i]?=some b->S.D.sl[i]?=some s->∃a kv,NodeR w o S.bs i b s a kv
 rng:∀s∈S.D.sl,RngS S.D.sl.length s
 rts:(∀h∈S.D.roots,inN S.D.sl.length h)/\S.D.roots.length<=1048576
 cnt:S.lv<=4096/\S.wn<=4096/\S.lo<=4096
structure EvC (C:Nat->Prop) (w:Wd) (o:Nat->Nat) (w1:Wd) (o1:Nat->Nat):Prop where
 fm:Fm (fun b=>C (o b)) w w1
 same:∀b,o b≠0->o1 b=o b
 old:∀b,b<w.heap.size->o b=0->o1 b=0
 new:∀b,o1 b≠0->o b≠0\/pc (o1 b)
abbrev EvP:=EvC pc
section
variable {w w1 w2:Wd}{o o1 o2:Nat->Nat}{θ:Th}{S:PS}{M:Nat->Prop}{bs:List Nat}
theorem EvC.refl {C:Nat->Prop}:EvC C w o w o:=⟨Fm.refl _ _,fun _ _=>rfl,fun _ _ h=>h,fun _ h=>.inl h⟩
theorem EvC.mono {C C':Nat->Prop} (h:EvC C w o w1 o1) (hc:∀c,C c->C' c):EvC C' w o w1 o1:=⟨h.fm.mono fun b _ k=>hc _ k,h.same,h.old,h.new⟩
theorem EvC.trans {C C':Nat->Prop} (h:EvC C w o w1 o1) (h0:¬C 0) (hlt:∀b,o b≠0->b<w.heap.size) (hc':∀b,b<w.heap.size->C' (o b)->C (o b)) (k:EvC C' w1 o1 w2 o2):EvC C w o w2 o2:=by
 refine⟨⟨k.fm.os.trans h.fm.os,k.fm.tape.trans h.fm.tape,k.fm.output.trans h.fm.output,nlt h.fm.size k.fm.size,fun b hb hm=>?_⟩,fun b hb=>?_,fun b hb h1=>k.old b (nll hb h.fm.size) (h.old b hb h1),fun b hb=>?_⟩
 ·rw [k.fm.block b (nll hb h.fm.size) fun e=>?_]
  ·exact h.fm.block b hb hm
  ·by_cases h1:o b=0
   ·rw [h.old b hb h1] at e
    exact hm (hc' b hb (by rw [h1];exact e))
   ·rw [h.same b h1] at e
    exact hm (hc' b hb e)
 ·rw [k.same b (by rw [h.same b hb];exact hb),h.same b hb]
 ·rcases k.new b hb with h1 | h1
  ·rcases h.new b h1 with h2 | h2
   ·exact .inl h2
   ·rw [k.same b h1];exact .inr h2
  ·exact .inr h1
theorem EvP.trans (h:EvP w o w1 o1) (k:EvP w1 o1 w2 o2):EvP w o w2 o2:=by
 refine⟨⟨k.fm.os.trans h.fm.os,k.fm.tape.trans h.fm.tape,k.fm.output.trans h.fm.output,nlt h.fm.size k.fm.size,fun b hb hm=>?_⟩,fun b hb=>?_,fun b hb h1=>k.old b (nll hb h.fm.size) (h.old b hb h1),fun b hb=>?_⟩
 ·rw [k.fm.block b (nll hb h.fm.size) fun e=>?_]
  ·exact h.fm.block b hb hm
  ·by_cases h1:o b=0
   ·rw [h.old b hb h1] at e;exact hm (by rw [h1];exact e)
   ·rw [h.same b h1] at e;exact hm e
 ·rw [k.same b (by rw [h.same b hb];exact hb),h.same b hb]
 ·rcases k.new b hb with h1 | h1
  ·rcases h.new b h1 with h2 | h2
   ·exact .inl h2
   ·rw [k.same b h1];exact .inr h2
  ·exact .inr h1
theorem EvC.below {C:Nat->Prop} (hb:Below w.heap.size w w1):EvC C w o w1 o:=⟨.below hb,fun _ _=>rfl,fun _ _ h=>h,fun _ h=>.inl h⟩
theorem not_pc0:¬pc 0:=by rintro (h3 | h3 | h3 | h3) <;> omega
def wc (o:Nat->Nat) (w:Wd):Wd:=wOnly (fun b=>Nat.beq (o b) 0) w
theorem EvP.sub (h:EvP w o w1 o1):Sub (wc o w) (wc o1 w1):=
 sub_only (fun b hb h1=>by
  have h2:=nbe h1
  rw [h.old b hb h2];rfl) fun b hb h1=>by
  have h2:=nbe h1
  exact h.fm.block b hb (by rw [h2];exact not_pc0)
theorem NodeR.keep {i b:Nat}{s:Sl}{a kv:Sv} (h:NodeR w o bs i b s a kv) (hb:o b=8+4*i) (hf:Fm M w w1) (hm:∀x,(o x=8+4*i\/o x=9+4*i\/o x=10+4*i)->¬M x) (ho:∀x,(o x=9+4*i\/o x=10+4*i)->o1 x=o x):NodeR w1 o1 bs i b s a kv:=
 ⟨hf.blk h.blk (hm b (.inl hb)),own_fm h.at1 hf fun x hx=>hm x (.inr (.inr (h.at2 x hx))),fun x hx=>by rw [ho x (.inr (h.at2 x hx))];exact h.at2 x hx,
  own_fm h.kd1 hf fun x hx=>hm x (.inr (.inl (h.kd2 x hx))),fun x hx=>by rw [ho x (.inl (h.kd2 x hx))];exact h.kd2 x hx⟩
theorem DocR.keep {nv rv:Sv} (h:DocR w o θ S nv rv) (hc:o θ.g=1) (hf:Fm M w w1) (hm:∀x,(o x=1\/o x=2\/o x=3)->¬M x) (ho:∀x,(o x=2\/o x=3)->o1 x=o x):DocR w1 o1 θ S nv rv:=
 ⟨hf.blk h.blk (hm _ (.inl hc)),own_fm h.n1 hf fun x hx=>hm x (.inr (.inl (h.n2 x hx))),fun x hx=>by rw [ho x (.inl (h.n2 x hx))];exact h.n2 x hx,
  own_fm h.r1 hf fun x hx=>hm x (.inr (.inr (h.r2 x hx))),fun x hx=>by rw [ho x (.inr (h.r2 x hx))];exact h.r2 x hx⟩
theorem pc_nd (i:Nat):pc (8+4*i)/\pc (9+4*i)/\pc (10+4*i):=by unfold pc;omega
theorem PM.keep (h:PM w o θ S) (hf:Fm M w w1) (hm:∀b,pc (o b)->¬M b) (ho:∀b,pc (o b)->o1 b=o b) (hl:∀b,o1 b≠0->b<w1.heap.size):PM w1 o1 θ S:=by
 have p1:pc 1:=.inl rfl
 have p2:pc 2:=.inr (.inl rfl)
 have p3:pc 3:=.inr (.inr (.inl rfl))
 obtain⟨nv,rv,hd⟩:=h.doc
 refine⟨by rw [ho _ (by rw [h.col];exact p1)];exact h.col,hl,h.len,h.few,fun i b hb=>?_,⟨nv,rv,hd.keep h.col hf (fun x hx=>hm x ?_) (fun x hx=>ho x ?_)⟩,fun i b s hb hs=>?_,h.rng,h.rts,h.cnt⟩
 ·have:=h.nc i b hb
  rw [ho b (by rw [this];exact (pc_nd i).1)];exact this
 ·rcases hx with e | e | e <;> rw [e] <;> assumption
 ·rcases hx with e | e <;> rw [e] <;> assumption
 ·obtain⟨a,kv,hn⟩:=h.nodes i b s hb hs
  obtain⟨q1,q2,q3⟩:=pc_nd i
  refine⟨a,kv,hn.keep (h.nc i b hb) hf (fun x hx=>hm x ?_) (fun x hx=>ho x ?_)⟩
  ·rcases hx with e | e | e <;> rw [e] <;> assumption
  ·rcases hx with e | e <;> rw [e] <;> assumption
theorem PM.below (h:PM w o θ S) (hb:Below w.heap.size w w1):PM w1 o θ S:=
 h.keep (M:=fun _=>False) (.below hb) (fun _ _ h=>h) (fun _ _=>rfl) fun b hb2=>nll (h.lt b hb2) hb.size
def cl (o:Nat->Nat) (r:Option Nat) (c:Nat):Nat->Nat:=fun x=>if r=some x/\o x=0 then c else o x
theorem cl_old {r:Option Nat}{c x:Nat} (h:o x≠0):cl o r c x=o x:=by unfold cl;rw [if_neg (fun e=>h e.2)]
theorem cl_none {c:Nat}:cl o none c=o:=funext fun x=>by unfold cl;rw [if_neg (fun e=>by cases e.1)]
theorem cl_row {r:Option Nat}{c x:Nat} (h:r=some x) (hx:o x=0\/o x=c):cl o r c x=c:=by
 unfold cl
 rcases hx with hx | hx
 ·rw [if_pos ⟨h,hx⟩]
 ·split
  ·rfl
  ·exact hx
def PS.setS (S:PS) (i:Nat) (s:Sl):PS:={ S with D:={ S.D with sl:=S.D.sl.set i s } }
theorem nodup_col (h:PM w o θ S) {i j b:Nat} (hi:S.bs[i]?=some b) (hj:S.bs[j]?=some b):i=j:=by
 have h1:=h.nc i b hi
 have h2:=h.nc j b hj
 omega
theorem PM.setNode (h:PM w o θ S) {i b:Nat}{s s':Sl}{a kv:Sv} (hb:S.bs[i]?=some b) (hs:S.D.sl[i]?=some s) (hf:Fm M w w1) (hM:∀x,M x->(o x=8+4*i\/o x=9+4*i\/o x=10+4*i)\/w.heap.size<=x)
  {r:Option Nat}{c:Nat} (hc:c=9+4*i\/c=10+4*i) (hr:∀x,r=some x->(o x=0->w.heap.size<=x)/\x<w1.heap.size) (hN:NodeR w1 (cl o r c) S.bs i b s' a kv) (hg:RngS S.D.sl.length s') :
  PM w1 (cl o r c) θ (S.setS i s')/\EvC (fun c=>c=8+4*i\/c=9+4*i\/c=10+4*i) w o w1 (cl o r c):=by
 have hlt:i<S.D.sl.length:=(gsi.1 hs).1
 have hold:∀x,o x≠0->cl o r c x=o x:=fun x hx=>cl_old hx
 have hMc:∀x,M x->x<w.heap.size->(o x=8+4*i\/o x=9+4*i\/o x=10+4*i):=fun x hx hl=>(hM x hx).resolve_right om
 have hMn:∀x,o x≠0->(o x≠8+4*i/\o x≠9+4*i/\o x≠10+4*i)->¬M x:=fun x h0 hx hm=>by
  have:=hMc x hm (h.lt x h0);omega
 obtain⟨nv,rv,hd⟩:=h.doc
 refine⟨⟨by rw [hold _ (by rw [h.col];decide)];exact h.col,fun x hx=>?_,by simpa [PS.setS] using h.len,by simpa [PS.setS] using h.few,fun j b' hb'=>?_,⟨nv,rv,?_⟩,fun j b' s2 hb' hs2=>?_,fun s2 hs2=>?_,by simpa [PS.setS] using h.rts,h.cnt⟩,⟨?_,hold,fun x hx hp=>?_,fun x hx=>?_⟩⟩
 ·unfold cl at hx
  split at hx
  ·rename_i e;exact (hr x e.1).2
  ·exact nll (h.lt x hx) hf.size
 ·rw [hold _ (by rw [h.nc j b' hb'];omega)];exact h.nc j b' hb'
 ·have k:=hd.keep (o1:=cl o r c) h.col hf (fun x hx=>hMn x om om) fun x hx=>hold x om
  exact⟨k.blk,k.n1,k.n2,k.r1,k.r2⟩
 ·by_cases e:i=j
  ·subst e
   have hb':S.bs[i]?=some b':=hb'
   rw [hb] at hb';cases hb'
   have hs2:(S.D.sl.set i s')[i]?=some s2:=hs2
   rw [List.getElem?_set_self hlt] at hs2;cases hs2
   exact⟨a,kv,hN⟩
  ·have hs2:(S.D.sl.set i s')[j]?=some s2:=hs2
   rw [gsn e] at hs2
   obtain⟨a',kv',hn⟩:=h.nodes j b' s2 hb' hs2
   exact⟨a',kv',hn.keep (h.nc j b' hb') hf (fun x hx=>hMn x om om) fun x hx=>hold x om⟩
 ·have e:(S.setS i s').D.sl.length=S.D.sl.length:=by simp [PS.setS]
  rw [e]
  rcases List.mem_or_eq_of_mem_set hs2 with h3 | h3
  ·exact h.rng s2 h3
  ·rw [h3];exact hg
 ·exact⟨hf.os,hf.tape,hf.output,hf.size,fun x hx hp=>hf.block x hx fun hm=>hp (hMc x hm hx)⟩
 ·unfold cl
  rw [if_neg]
  ·exact hp
  ·rintro ⟨e1,e2⟩
   have:=(hr x e1).1 e2;omega
 ·obtain⟨q1,q2,q3⟩:=pc_nd i
  unfold cl at hx |-
  split
  ·rcases hc with e | e <;> rw [e] <;> exact .inr (by assumption)
  ·rename_i e
   rw [if_neg e] at hx
   exact .inl hx
end
structure RDr (w:Wd) (g:Nat) (D:Im) (vs vr:Sv):Prop where
 c0:w.cell? ⟨g,0,none⟩=some (.slice vs.1 vs.2.1 vs.2.2)
 c1:w.cell? ⟨g,1,none⟩=some (.slice vr.1 vr.2.1 vr.2.2)
 im:RIm w D vs vr
theorem inR_u64 {z:Int} (h0:0<=z) (h1:z<=18446744073709551615):InR .u64 z:=⟨by simpa [IntKind.min,IntKind.signed,IntKind.bits] using h0,by simpa [IntKind.max,IntKind.signed,IntKind.bits] using h1⟩
section
variable {w w1:Wd}{g:Nat}{D:Im}{vs vr:Sv}
theorem RDr.sub (hs:Sub w w1) (h:RDr w g D vs vr):RDr w1 g D vs vr:=⟨hs.cell h.c0,hs.cell h.c1,h.im.sub hs⟩
theorem RDr.keep (h:RDr w g D vs vr) (hb:Below w.heap.size w w1):RDr w1 g D vs vr:=h.sub (sub_below hb)
theorem RDr.slot (h:RDr w g D vs vr) {i:Int}{k:Nat} (hi:i=k) (hk:k<D.sl.length) {K:Addr->Prop}
  (hK:∀b o e,RSl w D.sl[k] e->w.cell? ⟨b,o,none⟩=some (.int .u32 (D.sl[k].gen:Nat))->w.cell? ⟨b,o+1,none⟩=some (.bool D.sl[k].live)->w.cell? ⟨b,o+2,none⟩=some (.int .i64 D.sl[k].kind) ->
   w.cell? ⟨b,o+6,none⟩=some (.int .u64 (D.sl[k].parent:Nat))->w.cell? ⟨b,o+7,none⟩=some (.slice e.kids.1 e.kids.2.1 e.kids.2.2)->K ⟨b,o,none⟩):IdxA vs.1 vs.2.1 i 8 K:=by
 obtain⟨es,hn,hr,hes⟩:=h.im.row
 have hel:=hes.len
 refine hr.s8 hn hi (k:=k) om fun b o c0 c1 c2 c3 c4 c5 c6 c7=>?_
 have he:=hes.get k hk om
 exact hK b o es[k] he (by rw [c0,he.gen]) (by rw [c1,he.live]) (by rw [c2,he.kind]) (by rw [c6,he.parent]) c7
theorem RDr.n (h:RDr w g D vs vr):vs.2.1=D.sl.length:=by
 obtain⟨es,hn,hr,hes⟩:=h.im.row
 rw [hn,hes.len]
def atI (o:Option Nat):Int:=match o with | some k=>k | none=>-1
theorem liveN_take (l:List Sl) {k:Nat} (h:k<l.length):liveN (l.take (k+1))=liveN (l.take k)+if l[k].live then 1 else 0:=by
 unfold liveN
 rw [tsa h,List.filter_append,lap]
 congr 1
 cases hl:l[k].live <;> simp [hl]
end
structure PRd (w:Wd) (dg:Nat) (sl:List Sl) (bs:List Nat):Prop where
 len:bs.length=sl.length
 few:sl.length<=1048576
 row:∃A c,w.cell? ⟨dg,0,none⟩=some (.slice A bs.length c)/\Rd LPt w A c bs
 c0:∀i (h:i<bs.length),w.cell? ⟨bs[i],0,none⟩=some (.int .u32 (i+1:Nat))
 c1:∀i (h:i<bs.length) (h':i<sl.length),w.cell? ⟨bs[i],1,none⟩=some (.int .u32 (sl[i].gen:Nat))
 c2:∀i (h:i<bs.length) (h':i<sl.length),w.cell? ⟨bs[i],2,none⟩=some (.bool sl[i].live)
 gen:∀s∈sl,s.gen<4294967296
section
variable {w w1:Wd}{dg:Nat}{sl:List Sl}{bs:List Nat}
theorem PRd.sub (hs:Sub w w1) (h:PRd w dg sl bs):PRd w1 dg sl bs:=by
 obtain⟨A,c,h1,h2⟩:=h.row
 exact⟨h.len,h.few,⟨A,c,hs.cell h1,hs.rd h2⟩,fun i h'=>hs.cell (h.c0 i h'),fun i h' h2=>hs.cell (h.c1 i h' h2),fun i h' h2=>hs.cell (h.c2 i h' h2),h.gen⟩
theorem PRd.keep (h:PRd w dg sl bs) (hb:Below w.heap.size w w1):PRd w1 dg sl bs:=h.sub (sub_below hb)
theorem hndP_calls (h:PRd w dg sl bs) {i:Nat} (hi:i<bs.length) (hi':i<sl.length) {R:RT} (hK:∀w',Below w.heap.size w w'->R (.returned (.int .u64 (hnd sl[i].gen i:Nat))) w') :
  CL 79 #[.pointer (some ⟨bs[i],0,none⟩)] w R:=by
 have hfew:=h.few
 have hg:=h.gen _ (gem hi')
 refine ok79 (some ⟨bs[i],0,none⟩) ?_
 unfold F79
 rw [show (some (⟨bs[i],0,none⟩:Addr)).isNone=false from rfl,Br_f]
 refine dr fun w2 hb2 _=>?_
 have h2:=h.keep hb2
 simp only [NonNil_some,Addr.add_mk,nza,h2.c0 i hi,h2.c1 i hi hi',lds]
 have e1:((sl[i].gen:Nat):Int)*(2 ^ (min ((32:Int)).toNat 64))=((sl[i].gen*4294967296:Nat):Int):=by simp
 rw [e1,bOr_hnd hg om]
 exact⟨inR_u64 om om,inR_u64 om om,inR_u64 om om,hK w2 hb2⟩
theorem hndN_calls {R:RT} (hK:R (.returned (.int .u64 0)) w):CL 79 #[.pointer none] w R:=by
 refine ok79 none ?_
 unfold F79
 rw [show (none:OA).isNone=true from rfl,Br_t]
 exact hK
def ptrN (bs:List Nat) (o:Option Nat):OA:=match o with | some k=>(bs[k]?).map fun b=>⟨b,0,none⟩ | none=>none
theorem ptrN_some {k:Nat} (h:k<bs.length):ptrN bs (some k)=some ⟨bs[k],0,none⟩:=by
 unfold ptrN;simp only [gge h,oms]
theorem atP_calls (h:PRd w dg sl bs) {x:Nat} (hx:x<18446744073709551616) {R:RT} (hK:∀w',Below w.heap.size w w'->R (.returned (.pointer (ptrN bs (atF sl x)))) w') :
  CL 114 #[.pointer (some ⟨dg,0,none⟩),.int .u64 (x:Nat)] w R:=by
 have hfew:=h.few
 have hbl:=h.len
 obtain⟨A,c,h1,h2⟩:=h.row
 refine ok114 (some ⟨dg,0,none⟩) x ?_
 unfold F114
 rw [bAnd_low hx]
 have H:=hK w (Below.refl _ _)
 refine⟨fun w'=>w=w'/\0<x % 4294967296/\x % 4294967296<=bs.length,?_,?_⟩
 ·rintro _ ⟨rfl,hp,hle⟩
  unfold F114_j4
  rw [bAnd_low hx]
  simp only [NonNil_some,h1,lds]
  have hk:x % 4294967296-1<bs.length:=by omega
  have hk':x % 4294967296-1<sl.length:=by omega
  have e1:((x % 4294967296:Nat):Int)-1=((x % 4294967296-1:Nat):Int):=by omega
  refine⟨inR_u64 om om,?_⟩
  refine h2.pt rfl e1 hk fun b o c0=>?_
  simp only [c0,lds]
  have hat:atF sl x=if sl[x % 4294967296-1].live=true/\hnd sl[x % 4294967296-1].gen (x % 4294967296-1)=x then some (x % 4294967296-1) else none:=by
   unfold atF;rw [if_neg om,gge hk']
  refine⟨fun w'=>Below w.heap.size w w'/\atF sl x=some (x % 4294967296-1),?_,?_⟩
  ·rintro w' ⟨hb,ha⟩
   unfold F114_j7
   have H:=hK w' hb
   rw [ha,ptrN_some hk] at H;exact H
  ·simp only [NonNil_some,Addr.add_mk,nza,h.c2 _ hk hk',lds]
   rw [brnot]
   refine br (fun hl=>?_) (fun hl=>?_)
   ·refine hndP_calls h hk hk' fun w' hb=>⟨_,rfl,?_⟩
    refine brn (fun hne=>?_) (fun he=>⟨hb,by rw [hat,if_pos ⟨hl,om⟩]⟩)
    have H:=hK w' hb
    rw [hat,if_neg (by rintro ⟨-,h3⟩;exact hne (by rw [h3]))] at H
    exact H
   ·rw [hat,if_neg (by rintro ⟨h3,-⟩;rw [hl] at h3;cases h3)] at H
    exact H
 ·refine bre (fun h0=>?_) (fun h0=>?_)
  ·have:atF sl x=none:=by unfold atF;rw [if_pos om]
   rw [this] at H;exact H
  ·simp only [NonNil_some,h1,lds]
   refine⟨inR_u64 om om,?_⟩
   refine brd (fun hgt=>?_) (fun hle=>⟨trivial,om,om⟩)
   have:atF sl x=none:=by unfold atF;rw [if_neg om,List.getElem?_eq_none om]
   rw [this] at H;exact H
end
section
variable {w w1 w2:Wd}{o o1 o2:Nat->Nat}{θ:Th}{S:PS}{M:Nat->Prop}{bs:List Nat}
theorem PM.setDoc (h:PM w o θ S) {nv rv:Sv}{ro:List Nat}{lv wn lo:Nat} (hf:Fm M w w1) (hM:∀x,M x->(o x=1\/o x=2\/o x=3)\/w.heap.size<=x)
  {r:Option Nat}{c:Nat} (hc:c=2\/c=3) (hr:∀x,r=some x->(o x=0->w.heap.size<=x)/\x<w1.heap.size) (hN:DocR w1 (cl o r c) θ { S with D:={ S.D with roots:=ro },lv:=lv,wn:=wn,lo:=lo } nv rv)
  (hro:(∀h∈ro,inN S.D.sl.length h)/\ro.length<=1048576) (hcn:lv<=4096/\wn<=4096/\lo<=4096) :
  PM w1 (cl o r c) θ { S with D:={ S.D with roots:=ro },lv:=lv,wn:=wn,lo:=lo }/\EvC (fun c=>c=1\/c=2\/c=3) w o w1 (cl o r c):=by
 have hold:∀x,o x≠0->cl o r c x=o x:=fun x hx=>cl_old hx
 have hMc:∀x,M x->x<w.heap.size->(o x=1\/o x=2\/o x=3):=fun x hx hl=>(hM x hx).resolve_right om
 have hMn:∀x,o x≠0->(o x≠1/\o x≠2/\o x≠3)->¬M x:=fun x h0 hx hm=>by
  have:=hMc x hm (h.lt x h0);omega
 refine⟨⟨by rw [hold _ (by rw [h.col];decide)];exact h.col,fun x hx=>?_,h.len,h.few,fun j b' hb'=>?_,⟨nv,rv,hN⟩,fun j b' s2 hb' hs2=>?_,h.rng,hro,hcn⟩,⟨?_,hold,fun x hx hp=>?_,fun x hx=>?_⟩⟩
 ·unfold cl at hx
  split at hx
  ·rename_i e;exact (hr x e.1).2
  ·exact nll (h.lt x hx) hf.size
 ·rw [hold _ (by rw [h.nc j b' hb'];omega)];exact h.nc j b' hb'
 ·obtain⟨a',kv',hn⟩:=h.nodes j b' s2 hb' hs2
  exact⟨a',kv',hn.keep (h.nc j b' hb') hf (fun x hx=>hMn x om om) fun x hx=>hold x om⟩
 ·exact⟨hf.os,hf.tape,hf.output,hf.size,fun x hx hp=>hf.block x hx fun hm=>hp (hMc x hm hx)⟩
 ·unfold cl
  rw [if_neg]
  ·exact hp
  ·rintro ⟨e1,e2⟩
   have:=(hr x e1).1 e2;omega
 ·unfold cl at hx |-
  split
  ·rcases hc with e | e <;> rw [e]
   ·exact .inr (.inr (.inl rfl))
   ·exact .inr (.inr (.inr (.inl rfl)))
  ·rename_i e
   rw [if_neg e] at hx
   exact .inl hx
theorem PM.cells (h:PM w o θ S):(∃v:Sv,w.cell? ⟨θ.g,0,none⟩=some (slV v)/\Own LPt w 0 140 (slV v) S.bs/\∀x,rowOf (slV v)=some x->o x=2)/\w.cell? ⟨θ.g,2,none⟩=some (.int .i64 (S.lv:Nat))/\w.cell? ⟨θ.g,3,none⟩=some (.int .i64 (S.wn:Nat))/\w.cell? ⟨θ.g,4,none⟩=some (.int .i64 (S.lo:Nat)):=by
 obtain⟨nv,rv,hd⟩:=h.doc
 exact⟨⟨nv,by rw [hd.blk.cell];rfl,hd.n1,hd.n2⟩,by rw [hd.blk.cell];rfl,by rw [hd.blk.cell];rfl,by rw [hd.blk.cell];rfl⟩
theorem doc_set2 {nv rv:Sv}{lv wn lo:Nat}{tl:List Value} (x:Nat):(docC nv rv lv wn lo tl).setIfInBounds 2 (.int .i64 (x:Nat))=docC nv rv x wn lo tl:=by simp [docC]
theorem doc_set3 {nv rv:Sv}{lv wn lo:Nat}{tl:List Value} (x:Nat):(docC nv rv lv wn lo tl).setIfInBounds 3 (.int .i64 (x:Nat))=docC nv rv lv x lo tl:=by simp [docC]
theorem doc_set4 {nv rv:Sv}{lv wn lo:Nat}{tl:List Value} (x:Nat):(docC nv rv lv wn lo tl).setIfInBounds 4 (.int .i64 (x:Nat))=docC nv rv lv wn x tl:=by simp [docC]
theorem doc_set1 {nv rv v:Sv}{lv wn lo:Nat}{tl:List Value}:(docC nv rv lv wn lo tl).setIfInBounds 1 (slV v)=docC nv v lv wn lo tl:=by simp [docC]
theorem doc_set0 {nv rv v:Sv}{lv wn lo:Nat}{tl:List Value}:(docC nv rv lv wn lo tl).setIfInBounds 0 (slV v)=docC v rv lv wn lo tl:=by simp [docC]
theorem doc_size {nv rv:Sv}{lv wn lo:Nat}{tl:List Value}:5<=(docC nv rv lv wn lo tl).size:=by simp [docC]
theorem PM.stC (h:PM w o θ S) {j:Nat}{v:Value}{lv wn lo:Nat} (hcn:lv<=4096/\wn<=4096/\lo<=4096) (hj:j<5) (he:∀nv rv,(docC nv rv S.lv S.wn S.lo θ.tl).setIfInBounds j v=docC nv rv lv wn lo θ.tl) {K:Wd->Prop}
  (hK:∀w1,PM w1 o θ { S with lv:=lv,wn:=wn,lo:=lo }->EvC (fun c=>c=1\/c=2\/c=3) w o w1 o->K w1):St w ⟨θ.g,j,none⟩ v K:=by
 obtain⟨nv,rv,hd⟩:=h.doc
 refine st_blk hd.blk (nll hj doc_size) fun w1 b1 f1=>?_
 rw [he] at b1
 have hcol:=h.col
 have hd1:DocR w1 o θ { S with lv:=lv,wn:=wn,lo:=lo } nv rv:=⟨b1,
  own_fm hd.n1 f1 fun x hx e=>by have e:x=θ.g:=e;have:=hd.n2 x hx;rw [e,hcol] at this;omega,hd.n2,
  own_fm hd.r1 f1 fun x hx e=>by have e:x=θ.g:=e;have:=hd.r2 x hx;rw [e,hcol] at this;omega,hd.r2⟩
 have:=h.setDoc (r:=none) (c:=2) (ro:=S.D.roots) (nv:=nv) (rv:=rv) (lv:=lv) (wn:=wn) (lo:=lo) f1 (fun x hx=>.inl (.inl (by have e:x=θ.g:=hx;rw [e];exact hcol))) (.inl rfl) (fun x hx=>by cases hx) (by rw [cl_none];exact hd1) h.rts hcn
 rw [cl_none] at this
 exact hK w1 this.1 this.2
theorem PM.stLive (h:PM w o θ S) (x:Nat) (hx:x<=4096) {K:Wd->Prop} (hK:∀w1,PM w1 o θ { S with lv:=x }->EvC (fun c=>c=1\/c=2\/c=3) w o w1 o->K w1):St w ⟨θ.g,2,none⟩ (.int .i64 (x:Nat)) K:=
 h.stC ⟨hx,h.cnt.2.1,h.cnt.2.2⟩ om (fun _ _=>doc_set2 x) hK
theorem PM.stWorn (h:PM w o θ S) (x:Nat) (hx:x<=4096) {K:Wd->Prop} (hK:∀w1,PM w1 o θ { S with wn:=x }->EvC (fun c=>c=1\/c=2\/c=3) w o w1 o->K w1):St w ⟨θ.g,3,none⟩ (.int .i64 (x:Nat)) K:=
 h.stC ⟨h.cnt.1,hx,h.cnt.2.2⟩ om (fun _ _=>doc_set3 x) hK
theorem PM.stLow (h:PM w o θ S) (x:Nat) (hx:x<=4096) {K:Wd->Prop} (hK:∀w1,PM w1 o θ { S with lo:=x }->EvC (fun c=>c=1\/c=2\/c=3) w o w1 o->K w1):St w ⟨θ.g,4,none⟩ (.int .i64 (x:Nat)) K:=
 h.stC ⟨h.cnt.1,h.cnt.2.1,hx⟩ om (fun _ _=>doc_set4 x) hK
def lad (g:Nat) (bs:List Nat) (p:Nat):Addr:=if p=0 then ⟨g,1,none⟩ else ⟨pb bs p,8,none⟩
def lcC (p:Nat) (c:Nat):Prop:=if p=0 then c=1\/c=2\/c=3 else c=8+4*(p % 4294967296-1)\/c=9+4*(p % 4294967296-1)\/c=10+4*(p % 4294967296-1)
def lcl (p:Nat):Nat:=if p=0 then 3 else 9+4*(p % 4294967296-1)
def lstR (D:Im) (p:Nat):List Nat:=if p=0 then D.roots else match D.sl[p % 4294967296-1]? with | some s=>s.kids | none=>[]
theorem pb_get (hl:S.bs.length=S.D.sl.length) {p:Nat} (hp:inN S.D.sl.length p):S.bs[p % 4294967296-1]?=some (pb S.bs p)/\∃s,S.D.sl[p % 4294967296-1]?=some s:=by
 obtain⟨h1,h2⟩:=hp
 have h3:p % 4294967296-1<S.bs.length:=by omega
 unfold pb
 refine⟨by rw [gdd,gge h3];rfl,_,gge om⟩
theorem PM.list (h:PM w o θ S) {p:Nat} (hp:p=0\/inN S.D.sl.length p):∃v:Sv,w.cell? (lad θ.g S.bs p)=some (slV v)/\Own LPt w 0 140 (slV v) ((lstR S.D p).map (pb S.bs))/\(∀x,rowOf (slV v)=some x->o x=lcl p)/\(lstR S.D p).length<=1048576:=by
 unfold lad lcl lstR
 by_cases h0:p=0
 ·simp only [if_pos h0]
  obtain⟨nv,rv,hd⟩:=h.doc
  exact⟨rv,by rw [hd.blk.cell];rfl,hd.r1,hd.r2,h.rts.2⟩
 ·simp only [if_neg h0]
  obtain⟨h1,s,h2⟩:=pb_get h.len (hp.resolve_left h0)
  obtain⟨a,kv,hn⟩:=h.nodes _ _ _ h1 h2
  simp only [h2]
  exact⟨kv,by rw [hn.blk.cell];rfl,hn.kd1,hn.kd2,(h.rng s (mog h2)).few⟩
theorem node_set8 {i:Nat}{s:Sl}{a kv v:Sv}{par:OA}{l:List Nat}:(nodeC i s a par kv).setIfInBounds 8 (slV v)=nodeC i { s with kids:=l } a par v:=by simp [nodeC,slV]
theorem PM.setList (h:PM w o θ S) {p:Nat} (hp:p=0\/inN S.D.sl.length p) {v v':Sv}{l:List Nat} (hc:∀x,rowOf (slV v)=some x->o x=lcl p) (hfm:Fm (fun x=>rowOf (slV v)=some x) w w1)
  (hO:Own LPt w1 0 140 (slV v') (l.map (pb S.bs))) (hr:rowOf (slV v')=rowOf (slV v)\/rowOf (slV v')=none\/∃g,rowOf (slV v')=some g/\w.heap.size<=g) (hl:(∀x∈l,inN S.D.sl.length x)/\l.length<=1048576) {K:Wd->Prop}
  (hK:∀w2 o2,PM w2 o2 θ { S with D:=setI S.D p l }->EvC (lcC p) w o w2 o2->K w2):St w1 (lad θ.g S.bs p) (slV v') K:=by
 have hrc:∀x,rowOf (slV v')=some x->(o x=lcl p\/(o x=0/\w.heap.size<=x)):=fun x hx=>by
  rcases hr with e | e | ⟨g,e,hge⟩
  ·exact .inl (hc x (by rw [<-e];exact hx))
  ·rw [e] at hx;cases hx
  ·rw [e] at hx;cases hx
   refine .inr ⟨byc fun h0=>?_,hge⟩
   have:=h.lt _ h0;omega
 have hpos:lcl p≠0:=by unfold lcl;split <;> omega
 unfold lad lcl at *
 by_cases h0:p=0
 ·simp only [if_pos h0] at *
  obtain⟨nv,rv,hd⟩:=h.doc
  have hb1:Blk w1 θ.g (docC nv rv S.lv S.wn S.lo θ.tl) θ.t:=hfm.blk hd.blk fun e=>by have:=hc _ e;rw [h.col] at this;omega
  refine st_blk hb1 (nll om doc_size) fun w2 b2 f2=>?_
  rw [doc_set1] at b2
  have hg1:o θ.g=1:=h.col
  have F:Fm (fun x=>o x=1\/o x=2\/o x=3) w w2:=(hfm.mono fun x _ e=>.inr (.inr (hc x e))).trans (f2.mono fun x _ e=>.inl (by have e:x=θ.g:=e;rw [e];exact hg1))
  have hrow:∀x,rowOf (slV v')=some x->x≠θ.g:=fun x hx e=>by
   rcases hrc x hx with e2 | ⟨e2,_⟩ <;> rw [e,hg1] at e2 <;> omega
  have hlt2:∀x,rowOf (slV v')=some x->x<w2.heap.size:=fun x hx=>nll (hO.lt x hx).2 f2.size
  have hN:DocR w2 (cl o (rowOf (slV v')) 3) θ { S with D:={ S.D with roots:=l },lv:=S.lv,wn:=S.wn,lo:=S.lo } nv v':=by
   refine⟨b2,own_fm (own_fm hd.n1 hfm fun x hx e=>?_) f2 fun x hx e=>?_,fun x hx=>?_,own_fm hO f2 fun x hx e=>hrow x hx e,fun x hx=>cl_row hx ?_⟩
   ·have:=hd.n2 x hx;rw [hc x e] at this;omega
   ·have e:x=θ.g:=e
    have:=hd.n2 x hx;rw [e,hg1] at this;omega
   ·have:=hd.n2 x hx
    rw [cl_old om];exact this
   ·rcases hrc x hx with e | ⟨e,_⟩
    ·exact .inr e
    ·exact .inl e
  have:=h.setDoc (r:=rowOf (slV v')) (c:=3) (nv:=nv) (rv:=v') (ro:=l) (lv:=S.lv) (wn:=S.wn) (lo:=S.lo) F (fun x hx=>.inl hx) (.inr rfl) (fun x hx=>⟨fun e=>?_,hlt2 x hx⟩) hN hl h.cnt
  ·refine hK w2 _ ?_ (this.2.mono fun c hc=>by unfold lcC;rw [if_pos h0];exact hc)
   unfold setI
   rw [if_pos h0];exact this.1
  ·rcases hrc x hx with e2 | ⟨_,e2⟩
   ·rw [e] at e2;omega
   ·exact e2
 ·simp only [if_neg h0] at *
  have hp':=hp.resolve_left h0
  obtain⟨k1,s,k2⟩:=pb_get h.len hp'
  generalize hi:p % 4294967296-1=i at *
  generalize hb:pb S.bs p=b at *
  obtain⟨a,kv,hn⟩:=h.nodes i b s k1 k2
  have hcb:=h.nc i b k1
  have hb1:Blk w1 b (nodeC i s a (ptrH S.bs s.parent) kv) 142:=hfm.blk hn.blk fun e=>by have:=hc _ e;omega
  refine st_blk hb1 (by simp [nodeC]) fun w2 b2 f2=>?_
  have b2:Blk w2 b (nodeC i { s with kids:=l } a (ptrH S.bs s.parent) v') 142:=by rw [node_set8] at b2;exact b2
  have F:Fm (fun x=>o x=8+4*i\/o x=9+4*i\/o x=10+4*i) w w2:=(hfm.mono fun x _ e=>.inr (.inl (hc x e))).trans (f2.mono fun x _ e=>.inl (by have e:x=b:=e;rw [e];exact hcb))
  have hrow:∀x,rowOf (slV v')=some x->x≠b:=fun x hx e=>by
   rcases hrc x hx with e2 | ⟨e2,_⟩ <;> rw [e,hcb] at e2 <;> omega
  have hlt2:∀x,rowOf (slV v')=some x->x<w2.heap.size:=fun x hx=>nll (hO.lt x hx).2 f2.size
  have hN:NodeR w2 (cl o (rowOf (slV v')) (9+4*i)) S.bs i b { s with kids:=l } a v':=by
   refine⟨b2,own_fm (own_fm hn.at1 hfm fun x hx e=>?_) f2 fun x hx e=>?_,fun x hx=>?_,own_fm hO f2 fun x hx e=>hrow x hx e,fun x hx=>cl_row hx ?_⟩
   ·have:=hn.at2 x hx;rw [hc x e] at this;omega
   ·have e:x=b:=e
    have:=hn.at2 x hx;rw [e,hcb] at this;omega
   ·have:=hn.at2 x hx
    rw [cl_old om];exact this
   ·rcases hrc x hx with e | ⟨e,_⟩
    ·exact .inr e
    ·exact .inl e
  have hrs:=h.rng s (mog k2)
  have:=h.setNode (r:=rowOf (slV v')) (c:=9+4*i) k1 k2 F (fun x hx=>.inl hx) (.inl rfl) (fun x hx=>⟨fun e=>?_,hlt2 x hx⟩) hN ⟨hrs.gen,hrs.par,hl.1,hl.2,hrs.atf⟩
  ·refine hK w2 _ ?_ (this.2.mono fun c hc=>by unfold lcC;rw [if_neg h0,hi];exact hc)
   unfold setI
   rw [if_neg h0,hi,modify_set _ _ _ _ k2];exact this.1
  ·rcases hrc x hx with e2 | ⟨_,e2⟩
   ·rw [e] at e2;omega
   ·exact e2
end
section
variable {w w1 w2:Wd}{o o1 o2:Nat->Nat}{θ:Th}{S:PS}{M:Nat->Prop}{bs:List Nat}
theorem PM.stN (h:PM w o θ S) {i b:Nat}{s s':Sl} (hb:S.bs[i]?=some b) (hs:S.D.sl[i]?=some s) {j:Nat}{v:Value} (hj:j<9) (he:∀a kv,(nodeC i s a (ptrH S.bs s.parent) kv).setIfInBounds j v=nodeC i s' a (ptrH S.bs s'.parent) kv)
  (ha:s'.attrs=s.attrs) (hk:s'.kids=s.kids) (hg:s'.gen<4294967296) (hp:s'.parent=0\/inN S.D.sl.length s'.parent) {K:Wd->Prop} (hK:∀w1,PM w1 o θ (S.setS i s')->EvC (fun c=>c=8+4*i\/c=9+4*i\/c=10+4*i) w o w1 o->K w1):St w ⟨b,j,none⟩ v K:=by
 obtain⟨a,kv,hn⟩:=h.nodes i b s hb hs
 have hcb:=h.nc i b hb
 refine st_blk hn.blk (by simpa [nodeC] using hj) fun w1 b1 f1=>?_
 rw [he] at b1
 have hrs:=h.rng s (mog hs)
 have hN:NodeR w1 (cl o none (9+4*i)) S.bs i b s' a kv:=by
  rw [cl_none]
  refine⟨b1,?_,hn.at2,?_,hn.kd2⟩
  ·rw [ha]
   refine own_fm hn.at1 f1 fun x hx e=>?_
   have e:x=b:=e
   have:=hn.at2 x hx;rw [e,hcb] at this;omega
  ·rw [hk]
   refine own_fm hn.kd1 f1 fun x hx e=>?_
   have e:x=b:=e
   have:=hn.kd2 x hx;rw [e,hcb] at this;omega
 have:=h.setNode (r:=none) (c:=9+4*i) hb hs f1 (fun x hx=>.inl (.inl (by have e:x=b:=hx;rw [e];exact hcb))) (.inl rfl) (fun x hx=>by cases hx) hN ⟨hg,hp,by rw [hk];exact hrs.kids,by rw [hk];exact hrs.few,by rw [ha];exact hrs.atf⟩
 rw [cl_none] at this
 exact hK w1 this.1 this.2
theorem node_set1 {i:Nat}{s:Sl}{a kv:Sv}{par:OA} (g:Nat):(nodeC i s a par kv).setIfInBounds 1 (.int .u32 (g:Nat))=nodeC i { s with gen:=g } a par kv:=by simp [nodeC]
theorem node_set2 {i:Nat}{s:Sl}{a kv:Sv}{par:OA} (l:Bool):(nodeC i s a par kv).setIfInBounds 2 (.bool l)=nodeC i { s with live:=l } a par kv:=by simp [nodeC]
theorem node_set3 {i:Nat}{s:Sl}{a kv:Sv}{par:OA} (k:Int):(nodeC i s a par kv).setIfInBounds 3 (.int .i64 k)=nodeC i { s with kind:=k } a par kv:=by simp [nodeC]
theorem node_set4 {i:Nat}{s:Sl}{a kv:Sv}{par:OA} (n:ByteArray):(nodeC i s a par kv).setIfInBounds 4 (.string n)=nodeC i { s with nm:=n } a par kv:=by simp [nodeC]
theorem node_set6 {i:Nat}{s:Sl}{a kv:Sv}{par:OA} (n:ByteArray):(nodeC i s a par kv).setIfInBounds 6 (.string n)=nodeC i { s with text:=n } a par kv:=by simp [nodeC]
theorem node_set7 {i:Nat}{s:Sl}{a kv:Sv}{par q:OA} (p:Nat):(nodeC i s a par kv).setIfInBounds 7 (.pointer q)=nodeC i { s with parent:=p } a q kv:=by simp [nodeC]
theorem node_set5 {i:Nat}{s:Sl}{a kv v:Sv}{par:OA}{l:List At}:(nodeC i s a par kv).setIfInBounds 5 (slV v)=nodeC i { s with attrs:=l } v par kv:=by simp [nodeC,slV]
theorem PM.stGen (h:PM w o θ S) {i b:Nat}{s:Sl} (hb:S.bs[i]?=some b) (hs:S.D.sl[i]?=some s) {g:Nat} (hg:g<4294967296) {K:Wd->Prop} (hK:∀w1,PM w1 o θ (S.setS i { s with gen:=g })->EvC (fun c=>c=8+4*i\/c=9+4*i\/c=10+4*i) w o w1 o->K w1):St w ⟨b,1,none⟩ (.int .u32 (g:Nat)) K:=
 h.stN (s':={ s with gen:=g }) hb hs om (fun _ _=>node_set1 g) rfl rfl hg (h.rng s (mog hs)).par hK
theorem PM.stLiv (h:PM w o θ S) {i b:Nat}{s:Sl} (hb:S.bs[i]?=some b) (hs:S.D.sl[i]?=some s) (l:Bool) {K:Wd->Prop} (hK:∀w1,PM w1 o θ (S.setS i { s with live:=l })->EvC (fun c=>c=8+4*i\/c=9+4*i\/c=10+4*i) w o w1 o->K w1):St w ⟨b,2,none⟩ (.bool l) K:=
 h.stN (s':={ s with live:=l }) hb hs om (fun _ _=>node_set2 l) rfl rfl (h.rng s (mog hs)).gen (h.rng s (mog hs)).par hK
theorem PM.stKind (h:PM w o θ S) {i b:Nat}{s:Sl} (hb:S.bs[i]?=some b) (hs:S.D.sl[i]?=some s) (k:Int) {K:Wd->Prop} (hK:∀w1,PM w1 o θ (S.setS i { s with kind:=k })->EvC (fun c=>c=8+4*i\/c=9+4*i\/c=10+4*i) w o w1 o->K w1):St w ⟨b,3,none⟩ (.int .i64 k) K:=
 h.stN (s':={ s with kind:=k }) hb hs om (fun _ _=>node_set3 k) rfl rfl (h.rng s (mog hs)).gen (h.rng s (mog hs)).par hK
theorem PM.stName (h:PM w o θ S) {i b:Nat}{s:Sl} (hb:S.bs[i]?=some b) (hs:S.D.sl[i]?=some s) (n:ByteArray) {K:Wd->Prop} (hK:∀w1,PM w1 o θ (S.setS i { s with nm:=n })->EvC (fun c=>c=8+4*i\/c=9+4*i\/c=10+4*i) w o w1 o->K w1):St w ⟨b,4,none⟩ (.string n) K:=
 h.stN (s':={ s with nm:=n }) hb hs om (fun _ _=>node_set4 n) rfl rfl (h.rng s (mog hs)).gen (h.rng s (mog hs)).par hK
theorem PM.stText (h:PM w o θ S) {i b:Nat}{s:Sl} (hb:S.bs[i]?=some b) (hs:S.D.sl[i]?=some s) (n:ByteArray) {K:Wd->Prop} (hK:∀w1,PM w1 o θ (S.setS i { s with text:=n })->EvC (fun c=>c=8+4*i\/c=9+4*i\/c=10+4*i) w o w1 o->K w1):St w ⟨b,6,none⟩ (.string n) K:=
 h.stN (s':={ s with text:=n }) hb hs om (fun _ _=>node_set6 n) rfl rfl (h.rng s (mog hs)).gen (h.rng s (mog hs)).par hK
theorem PM.stPar (h:PM w o θ S) {i b:Nat}{s:Sl} (hb:S.bs[i]?=some b) (hs:S.D.sl[i]?=some s) {p:Nat} (hp:p=0\/inN S.D.sl.length p) {K:Wd->Prop} (hK:∀w1,PM w1 o θ (S.setS i { s with parent:=p })->EvC (fun c=>c=8+4*i\/c=9+4*i\/c=10+4*i) w o w1 o->K w1):St w ⟨b,7,none⟩ (.pointer (ptrH S.bs p)) K:=
 h.stN (s':={ s with parent:=p }) hb hs om (fun _ _=>node_set7 p) rfl rfl (h.rng s (mog hs)).gen hp hK
theorem PM.setAts (h:PM w o θ S) {i b:Nat}{s:Sl} (hb:S.bs[i]?=some b) (hs:S.D.sl[i]?=some s) {v v':Sv}{l:List At} (hc:∀x,rowOf (slV v)=some x->o x=10+4*i) (hf:Fm (fun x=>rowOf (slV v)=some x) w w1)
  (hO:Own LAt w1 0 145 (slV v') l) (hr:rowOf (slV v')=rowOf (slV v)\/rowOf (slV v')=none\/∃g,rowOf (slV v')=some g/\w.heap.size<=g) (hl:l.length<=1048576) {K:Wd->Prop}
  (hK:∀w2 o2,PM w2 o2 θ (S.setS i { s with attrs:=l })->EvC (fun c=>c=8+4*i\/c=9+4*i\/c=10+4*i) w o w2 o2->K w2):St w1 ⟨b,5,none⟩ (slV v') K:=by
 have hrc:∀x,rowOf (slV v')=some x->(o x=10+4*i\/(o x=0/\w.heap.size<=x)):=fun x hx=>by
  rcases hr with e | e | ⟨g,e,hge⟩
  ·exact .inl (hc x (by rw [<-e];exact hx))
  ·rw [e] at hx;cases hx
  ·rw [e] at hx;cases hx
   refine .inr ⟨byc fun h0=>?_,hge⟩
   have:=h.lt _ h0;omega
 obtain⟨a,kv,hn⟩:=h.nodes i b s hb hs
 have hcb:=h.nc i b hb
 have hb1:Blk w1 b (nodeC i s a (ptrH S.bs s.parent) kv) 142:=hf.blk hn.blk fun e=>by have:=hc _ e;omega
 refine st_blk hb1 (by simp [nodeC]) fun w2 b2 f2=>?_
 have b2:Blk w2 b (nodeC i { s with attrs:=l } v' (ptrH S.bs s.parent) kv) 142:=by rw [node_set5] at b2;exact b2
 have F:Fm (fun x=>o x=8+4*i\/o x=9+4*i\/o x=10+4*i) w w2:=(hf.mono fun x _ e=>.inr (.inr (hc x e))).trans (f2.mono fun x _ e=>.inl (by have e:x=b:=e;rw [e];exact hcb))
 have hrow:∀x,rowOf (slV v')=some x->x≠b:=fun x hx e=>by
  rcases hrc x hx with e2 | ⟨e2,_⟩ <;> rw [e,hcb] at e2 <;> omega
 have hlt2:∀x,rowOf (slV v')=some x->x<w2.heap.size:=fun x hx=>nll (hO.lt x hx).2 f2.size
 have hN:NodeR w2 (cl o (rowOf (slV v')) (10+4*i)) S.bs i b { s with attrs:=l } v' kv:=by
  refine⟨b2,own_fm hO f2 fun x hx e=>hrow x hx e,fun x hx=>cl_row hx ?_,own_fm (own_fm hn.kd1 hf fun x hx e=>?_) f2 fun x hx e=>?_,fun x hx=>?_⟩
  ·rcases hrc x hx with e | ⟨e,_⟩
   ·exact .inr e
   ·exact .inl e
  ·have:=hn.kd2 x hx;rw [hc x e] at this;omega
  ·have e:x=b:=e
   have:=hn.kd2 x hx;rw [e,hcb] at this;omega
  ·have:=hn.kd2 x hx
   rw [cl_old om];exact this
 have hrs:=h.rng s (mog hs)
 have:=h.setNode (r:=rowOf (slV v')) (c:=10+4*i) hb hs F (fun x hx=>.inl hx) (.inr rfl) (fun x hx=>⟨fun e=>?_,hlt2 x hx⟩) hN ⟨hrs.gen,hrs.par,hrs.kids,hrs.few,hl⟩
 ·exact hK w2 _ this.1 this.2
 ·rcases hrc x hx with e2 | ⟨_,e2⟩
  ·rw [e] at e2;omega
  ·exact e2
theorem pb_app {b h:Nat} (hh:inN bs.length h):pb (bs++[b]) h=pb bs h:=by
 obtain⟨h1,h2⟩:=hh
 unfold pb
 rw [gdd,gdd,gal om]
theorem ptr_app {b h:Nat} (hh:h=0\/inN bs.length h):ptrH (bs++[b]) h=ptrH bs h:=by
 unfold ptrH
 split
 ·rfl
 ·rw [pb_app (hh.resolve_left (by assumption))]
theorem map_pb_app {b:Nat}{l:List Nat} (hl:∀h∈l,inN bs.length h):l.map (pb (bs++[b]))=l.map (pb bs):=List.map_congr_left fun h hh=>pb_app (hl h hh)
theorem PM.grow (h:PM w o θ S) {b:Nat} (hb0:w.heap.size<=b) (hB:Blk w1 b (nodeC S.D.sl.length (deadS 0) (none,0,0) none (none,0,0)) 142) {v v':Sv} (hc:∀x,rowOf (slV v)=some x->o x=2) (hf:Fm (fun x=>rowOf (slV v)=some x) w w1)
  (hO:Own LPt w1 0 140 (slV v') (S.bs++[b])) (hr:rowOf (slV v')=rowOf (slV v)\/rowOf (slV v')=none\/∃g,rowOf (slV v')=some g/\w.heap.size<=g/\g≠b) (hl:S.D.sl.length<4096) {K:Wd->Prop}
  (hK:∀w2 o2,PM w2 o2 θ { S with D:={ S.D with sl:=S.D.sl++[deadS 0] },bs:=S.bs++[b] }->EvC (fun c=>c=1\/c=2) w o w2 o2->K w2):St w1 ⟨θ.g,0,none⟩ (slV v') K:=by
 have ob0:o b=0:=byc fun h0=>by have:=h.lt b h0;omega
 have hrc:∀x,rowOf (slV v')=some x->(o x=2\/(o x=0/\w.heap.size<=x))/\x≠b:=fun x hx=>by
  rcases hr with e | e | ⟨g,e,hge,hgb⟩
  ·have:=hc x (by rw [<-e];exact hx)
   exact⟨.inl this,fun e=>by rw [e,ob0] at this;omega⟩
  ·rw [e] at hx;cases hx
  ·rw [e] at hx;cases hx
   refine⟨.inr ⟨byc fun h0=>?_,hge⟩,hgb⟩
   have:=h.lt _ h0;omega
 obtain⟨nv,rv,hd⟩:=h.doc
 have hg1:=h.col
 have hbl:=h.len
 have hb1:Blk w1 θ.g (docC nv rv S.lv S.wn S.lo θ.tl) θ.t:=hf.blk hd.blk fun e=>by have:=hc _ e;omega
 refine st_blk hb1 (nll om doc_size) fun w2 b2 f2=>?_
 rw [doc_set0] at b2
 have hbg:b≠θ.g:=fun e=>by rw [e,hg1] at ob0;omega
 have F:Fm (fun x=>o x=1\/o x=2) w w2:=(hf.mono fun x _ e=>.inr (hc x e)).trans (f2.mono fun x _ e=>.inl (by have e:x=θ.g:=e;rw [e];exact hg1))
 have hlt2:∀x,rowOf (slV v')=some x->x<w2.heap.size:=fun x hx=>nll (hO.lt x hx).2 f2.size
 have hbl2:b<w2.heap.size:=nll hB.lt f2.size
 let o2:Nat->Nat:=fun x=>if x=b then 8+4*S.D.sl.length else cl o (rowOf (slV v')) 2 x
 have hold:∀x,o x≠0->o2 x=o x:=fun x hx=>by
  show (if x=b then _ else _)=_
  rw [if_neg (fun e=>hx (by rw [e];exact ob0)),cl_old hx]
 have hob:o2 b=8+4*S.D.sl.length:=by
  show (if b=b then _ else _)=_
  rw [if_pos rfl]
 have hrow2:∀x,rowOf (slV v')=some x->o2 x=2:=fun x hx=>by
  show (if x=b then _ else _)=_
  obtain⟨e1,e2⟩:=hrc x hx
  rw [if_neg e2]
  exact cl_row hx (e1.elim .inr fun e=>.inl e.1)
 have hnew:∀x,o x=0->o2 x≠0->w.heap.size<=x/\x<w2.heap.size/\(o2 x=2\/o2 x=8+4*S.D.sl.length):=fun x h0 h2=>by
  by_cases e:x=b
  ·subst e;exact⟨hb0,hbl2,.inr hob⟩
  ·have e3:o2 x=cl o (rowOf (slV v')) 2 x:=by
    show (if x=b then _ else _)=_
    rw [if_neg e]
   by_cases e4:rowOf (slV v')=some x
   ·refine⟨?_,hlt2 x e4,.inl (hrow2 x e4)⟩
    rcases (hrc x e4).1 with e5 | e5
    ·rw [h0] at e5;omega
    ·exact e5.2
   ·rw [e3] at h2
    unfold cl at h2
    rw [if_neg (fun e=>e4 e.1)] at h2
    exact absurd h0 h2
 have Fn:∀x,o x≠0->o x≠1->o x≠2->¬(o x=1\/o x=2):=fun x _ h1 h2 h3=>h3.elim h1 h2
 have hkid:∀s∈S.D.sl,∀x∈s.kids,inN S.bs.length x:=fun s hs x hx=>by rw [hbl];exact (h.rng s hs).kids x hx
 have inN1:∀x,inN S.D.sl.length x->inN (S.D.sl++[deadS 0]).length x:=fun x hx=>⟨hx.1,by have:=hx.2;simp;omega⟩
 refine hK w2 o2 ⟨by rw [hold _ om];exact hg1,fun x hx=>?_,by simp [hbl],by simp;omega,fun i b' hb'=>?_,⟨v',rv,?_⟩,fun i b' s hb' hs=>?_,fun s hs=>?_,⟨fun x hx=>inN1 x (h.rts.1 x hx),h.rts.2⟩,h.cnt⟩ ⟨F,hold,fun x hx h0=>?_,fun x hx=>?_⟩
 ·by_cases h0:o x=0
  ·exact (hnew x h0 hx).2.1
  ·exact nll (h.lt x h0) F.size
 ·rcases Nat.lt_or_ge i S.bs.length with hi | hi
  ·have hb':S.bs[i]?=some b':=by rw [<-hb'];exact (gal hi).symm
   have:=h.nc i b' hb'
   rw [hold _ om];exact this
  ·have hb':(S.bs++[b])[i]?=some b':=hb'
   rw [gar hi] at hb'
   have hi2:i-S.bs.length=0:=by
    have:=(gsi.1 hb').1
    simp at this;omega
   rw [hi2] at hb'
   simp at hb'
   subst hb'
   rw [hob];omega
 ·refine⟨b2,own_fm hO f2 fun x hx e=>?_,hrow2,?_,fun x hx=>?_⟩
  ·have e:x=θ.g:=e
   rcases (hrc x hx).1 with e2 | ⟨e2,_⟩ <;> rw [e,hg1] at e2 <;> omega
  ·show Own LPt w2 0 _ (slV rv) (S.D.roots.map (pb (S.bs++[b])))
   rw [map_pb_app (fun x hx=>by rw [hbl];exact h.rts.1 x hx)]
   exact own_fm hd.r1 F fun x hx=>by have:=hd.r2 x hx;omega
  ·have:=hd.r2 x hx
   rw [hold _ om];exact this
 ·rcases Nat.lt_or_ge i S.bs.length with hi | hi
  ·have hb':S.bs[i]?=some b':=by rw [<-hb'];exact (gal hi).symm
   have hs:S.D.sl[i]?=some s:=by rw [<-hs];exact (gal om).symm
   obtain⟨a,kv,hn⟩:=h.nodes i b' s hb' hs
   have hn2:=hn.keep (o1:=o2) (h.nc i b' hb') F (fun x hx=>Fn x om om om) fun x hx=>hold x om
   have hsm:=mog hs
   refine⟨a,kv,⟨?_,hn2.at1,hn2.at2,?_,hn2.kd2⟩⟩
   ·show Blk w2 b' (nodeC i s a (ptrH (S.bs++[b]) s.parent) kv) _
    rw [ptr_app (by rw [hbl];exact (h.rng s hsm).par)];exact hn2.blk
   ·show Own LPt w2 0 _ (slV kv) (s.kids.map (pb (S.bs++[b])))
    rw [map_pb_app (hkid s hsm)];exact hn2.kd1
  ·have hb':(S.bs++[b])[i]?=some b':=hb'
   have hs:(S.D.sl++[deadS 0])[i]?=some s:=hs
   rw [gar hi] at hb'
   rw [gar om] at hs
   have hi2:i-S.bs.length=0:=by
    have:=(gsi.1 hb').1
    simp at this;omega
   rw [hi2] at hb'
   rw [show i-S.D.sl.length=0 by omega] at hs
   simp at hb' hs
   subst hb' hs
   have e:i=S.D.sl.length:=by omega
   subst e
   refine⟨(none,0,0),(none,0,0),⟨f2.blk hB hbg,Own.nil _ _ _ _,fun x hx=>(by cases hx),Own.nil _ _ _ _,fun x hx=>(by cases hx)⟩⟩
 ·rcases List.mem_append.1 hs with hs | hs
  ·have r:=h.rng s hs
   exact⟨r.gen,r.par.imp id (inN1 _),fun x hx=>inN1 x (r.kids x hx),r.few,r.atf⟩
  ·rw [msg] at hs
   subst hs
   exact⟨by simp [deadS],.inl rfl,by simp [deadS],by simp [deadS],by simp [deadS]⟩
 ·refine byc fun h2=>?_
  have:=(hnew x h0 h2).1
  omega
 ·by_cases h0:o x=0
  ·refine .inr ?_
   rcases (hnew x h0 hx).2.2 with e | e <;> rw [e]
   ·exact .inr (.inl rfl)
   ·exact (pc_nd _).1
  ·exact .inl h0
end
section
variable {w w1 w2:Wd}{o o1 o2:Nat->Nat}{θ:Th}{S:PS}{M:Nat->Prop}{bs:List Nat}{R:RT}
theorem PM.cGen (h:PM w o θ S) {i b:Nat}{s:Sl} (hb:S.bs[i]?=some b) (hs:S.D.sl[i]?=some s):w.cell? ⟨b,1,none⟩=some (.int .u32 (s.gen:Nat)):=by
 obtain⟨a,kv,hn⟩:=h.nodes i b s hb hs;rw [hn.blk.cell];rfl
theorem PM.cIdx (h:PM w o θ S) {i b:Nat}{s:Sl} (hb:S.bs[i]?=some b) (hs:S.D.sl[i]?=some s):w.cell? ⟨b,0,none⟩=some (.int .u32 (i+1:Nat)):=by
 obtain⟨a,kv,hn⟩:=h.nodes i b s hb hs;rw [hn.blk.cell];rfl
theorem PM.cLive (h:PM w o θ S) {i b:Nat}{s:Sl} (hb:S.bs[i]?=some b) (hs:S.D.sl[i]?=some s):w.cell? ⟨b,2,none⟩=some (.bool s.live):=by
 obtain⟨a,kv,hn⟩:=h.nodes i b s hb hs;rw [hn.blk.cell];rfl
theorem PM.cKind (h:PM w o θ S) {i b:Nat}{s:Sl} (hb:S.bs[i]?=some b) (hs:S.D.sl[i]?=some s):w.cell? ⟨b,3,none⟩=some (.int .i64 s.kind):=by
 obtain⟨a,kv,hn⟩:=h.nodes i b s hb hs;rw [hn.blk.cell];rfl
theorem PM.cPar (h:PM w o θ S) {i b:Nat}{s:Sl} (hb:S.bs[i]?=some b) (hs:S.D.sl[i]?=some s):w.cell? ⟨b,7,none⟩=some (.pointer (ptrH S.bs s.parent)):=by
 obtain⟨a,kv,hn⟩:=h.nodes i b s hb hs;rw [hn.blk.cell];rfl
theorem PM.cAts (h:PM w o θ S) {i b:Nat}{s:Sl} (hb:S.bs[i]?=some b) (hs:S.D.sl[i]?=some s):∃a:Sv,w.cell? ⟨b,5,none⟩=some (slV a)/\Own LAt w 0 145 (slV a) s.attrs/\∀x,rowOf (slV a)=some x->o x=10+4*i:=by
 obtain⟨a,kv,hn⟩:=h.nodes i b s hb hs
 exact⟨a,by rw [hn.blk.cell];rfl,hn.at1,hn.at2⟩
theorem PM.cKids (h:PM w o θ S) {i b:Nat}{s:Sl} (hb:S.bs[i]?=some b) (hs:S.D.sl[i]?=some s):∃v:Sv,w.cell? ⟨b,8,none⟩=some (slV v)/\Own LPt w 0 140 (slV v) (s.kids.map (pb S.bs))/\∀x,rowOf (slV v)=some x->o x=9+4*i:=by
 obtain⟨a,kv,hn⟩:=h.nodes i b s hb hs
 exact⟨kv,by rw [hn.blk.cell];rfl,hn.kd1,hn.kd2⟩
theorem PM.of (h:PM w o θ S) {x:Nat}{s:Sl} (hx:slA S.D.sl x=some s):∃i,x % 4294967296=i+1/\S.bs[i]?=some (pb S.bs x)/\S.D.sl[i]?=some s/\inN S.D.sl.length x:=by
 obtain⟨i,h1,h2,h3,h4⟩:=slA_iff.1 hx
 have hl:=(gsi.1 h2).1
 have hin:inN S.D.sl.length x:=⟨om,om⟩
 obtain⟨k1,_⟩:=pb_get h.len hin
 rw [h1,nasc] at k1
 exact⟨i,h1,k1,h2,hin⟩
theorem PM.prd (h:PM w o θ S):PRd w θ.g S.D.sl S.bs:=by
 obtain⟨⟨v,v1,v2,_⟩,_⟩:=h.cells
 obtain⟨A,c,e,hr⟩:=v2.form
 have hfew:=h.few
 refine⟨h.len,om,⟨A,c,by rw [v1,e],hr⟩,fun i hi=>?_,fun i hi hi'=>h.cGen (gge hi) (gge hi'),fun i hi hi'=>h.cLive (gge hi) (gge hi'),fun s hs=>(h.rng s hs).gen⟩
 exact h.cIdx (gge hi) (gge (by rw [<-h.len];exact hi))
def ptrL (S:PS) (x:Nat):OA:=if (slA S.D.sl x).isSome then some ⟨pb S.bs x,0,none⟩ else none
theorem ptrN_L (hl:S.bs.length=S.D.sl.length) (x:Nat):ptrN S.bs (atF S.D.sl x)=ptrL S x:=by
 unfold ptrL slA
 cases ha:atF S.D.sl x with
 | none=>rfl
 | some k=>
  obtain⟨h1,s,h2,_⟩:=atF_iff.1 ha
  have hk:k<S.bs.length:=by rw [hl];exact (gsi.1 h2).1
  rw [ptrN_some hk]
  have:pb S.bs x=S.bs[k]:=by
   unfold pb;rw [h1,nasc,gdd,gge hk];rfl
  simp only [Option.bind_some,h2,Option.isSome_some,if_true,this]
theorem atL_calls (h:PM w o θ S) {x:Nat} (hx:x<18446744073709551616) (hK:∀w',Below w.heap.size w w'->R (.returned (.pointer (ptrL S x))) w'):CL 114 #[.pointer (some ⟨θ.g,0,none⟩),.int .u64 (x:Nat)] w R:=
 atP_calls h.prd hx fun w' hb=>by rw [ptrN_L h.len];exact hK w' hb
theorem hnd_calls (h:PM w o θ S) {x:Nat}{s:Sl} (hx:slA S.D.sl x=some s) (hK:∀w',Below w.heap.size w w'->R (.returned (.int .u64 (x:Nat))) w'):CL 79 #[.pointer (some ⟨pb S.bs x,0,none⟩)] w R:=by
 obtain⟨i,h1,h2,h3,h4⟩:=h.of hx
 obtain⟨j,j1,j2,j3,j4⟩:=slA_iff.1 hx
 obtain rfl:j=i:=by omega
 obtain⟨hi,e1⟩:=gsi.1 h2
 obtain⟨hi',e2⟩:=gsi.1 h3
 rw [<-e1]
 refine hndP_calls h.prd hi hi' fun w' hb=>?_
 rw [e2,j4];exact hK w' hb
theorem list_calls {p:Nat} (hK:R (.returned (.pointer (some (lad θ.g S.bs p)))) w):CL 169 #[.pointer (some ⟨θ.g,0,none⟩),.pointer (ptrH S.bs p)] w R:=by
 refine ok169 (some ⟨θ.g,0,none⟩) (ptrH S.bs p) ?_
 unfold F169
 unfold ptrH lad at *
 by_cases h0:p=0
 ·rw [if_pos h0] at *
  exact hK
 ·rw [if_neg h0] at *
  simpa [Br,NonNil,Addr.add_mk] using hK
theorem level_calls (h:PM w o θ S) (h0:slA S.D.sl 0=none) {p c:Nat} (hc:Ch (slA S.D.sl) p c) (hc2:c<=64) (hK:R (.returned (.int .i64 ((c:Nat)-1))) w):CL 116 #[.pointer (ptrH S.bs p)] w R:=by
 refine ok116 (ptrH S.bs p) ?_
 unfold F116
 refine⟨fun n i w'=>∃(q d:Nat),n=ptrH S.bs q/\Ch (slA S.D.sl) q d/\d<=c/\i=(c:Nat)-1-(d:Nat)/\w=w',fun n i w'=>((c:Nat)-i).toNat,⟨p,c,rfl,hc,nlr _,om,rfl⟩,?_⟩
 rintro n i _ ⟨q,d,rfl,hd,hdc,rfl,rfl⟩
 unfold F116_l2
 cases hd with
 | zero=>
  have e:(ptrH S.bs 0).isNone=true:=by simp [ptrH]
  rw [e]
  simp only [Bool.not_true,Br_f]
  simpa using hK
 | @succ q d s hq0 ha h3=>
  have e:ptrH S.bs q=some ⟨pb S.bs q,0,none⟩:=by unfold ptrH;rw [if_neg hq0]
  rw [e]
  obtain⟨k,k1,k2,k3,_⟩:=h.of ha
  simp only [oin,Bool.not_false,Br_t,NonNil_some,Addr.add_mk,nza,h.cPar k2 k3,lds]
  exact⟨inR_i64 om om,⟨s.parent,d,rfl,h3,om,om,trivial⟩,odz⟩
theorem shaped_calls {wh:Int}{a:Nat} (hK:R (.returned (.bool (!decide (wh<1\/4<wh\/(a=0/\2<wh))))) w):CL 112 #[.int .i64 wh,.int .u64 (a:Nat)] w R:=by
 refine ok112 wh a ?_
 unfold F112
 refine brd (fun h1=>brd (fun h2=>brn (fun h3=>?_) (fun h3=>?_)) (fun h2=>?_)) (fun h1=>?_)
 ·rw [show decide (wh<1\/4<wh\/(a=0/\2<wh))=false from def0 om] at hK;exact hK
 ·have e:(!decide (wh<1\/4<wh\/(a=0/\2<wh)))=decide (wh<=2):=by
   by_cases h:wh<=2
   ·rw [det h,def0 om];rfl
   ·rw [def0 h,det om];rfl
  rw [e] at hK;exact hK
 ·rw [show decide (wh<1\/4<wh\/(a=0/\2<wh))=true from det om] at hK;exact hK
 ·rw [show decide (wh<1\/4<wh\/(a=0/\2<wh))=true from det om] at hK;exact hK
theorem par_calls (h:PM w o θ S) {wh:Int}{a:Nat} (hsh:¬(wh<1\/4<wh\/(a=0/\2<wh))) (ha:a=0\/∃s,slA S.D.sl a=some s)
  (hK:R (.returned (.tuple #[.pointer (ptrH S.bs (placeF S.D wh a).1),.int .i64 (placeF S.D wh a).2])) w):CL 115 #[.pointer (some ⟨θ.g,0,none⟩),.int .i64 wh,.pointer (ptrH S.bs a)] w R:=by
 refine ok115 (some ⟨θ.g,0,none⟩) wh (ptrH S.bs a) ?_
 unfold F115
 unfold placeF at hK
 rw [if_neg hsh] at hK
 by_cases h0:a=0
 ·rw [if_pos h0] at hK
  have e:ptrH S.bs a=none:=by unfold ptrH;rw [if_pos h0]
  have e0:ptrH S.bs 0=none:=rfl
  rw [e]
  rw [e0] at hK
  refine⟨fun w'=>w=w',fun w' e=>by subst e;unfold F115_j5;exact hK,?_⟩
  refine brd (fun h1=>by omega) (fun h1=>?_)
  exact rfl
 ·rw [if_neg h0] at hK
  obtain⟨s,hs⟩:=ha.resolve_left h0
  rw [hs] at hK
  obtain⟨k,k1,k2,k3,_⟩:=h.of hs
  have e:ptrH S.bs a=some ⟨pb S.bs a,0,none⟩:=by unfold ptrH;rw [if_neg h0]
  rw [e]
  dsimp only at hK
  refine⟨fun w'=>w=w'/\wh<=2/\s.kind≠2,?_,?_⟩
  ·rintro _ ⟨rfl,h1,h2⟩
   unfold F115_j5
   rw [if_pos h1,if_neg h2,e] at hK;exact hK
  ·refine brd (fun h1=>?_) (fun h1=>?_)
   ·rw [if_neg om] at hK
    simp only [NonNil_some,Addr.add_mk,nza,h.cPar k2 k3,lds]
    exact hK
   ·rw [if_pos om] at hK
    simp only [oin,Bool.not_false,Br_t,NonNil_some,Addr.add_mk,nza,h.cKind k2 k3,lds]
    refine bre (fun h2=>?_) (fun h2=>⟨trivial,om,h2⟩)
    rw [if_pos h2] at hK
    exact hK
theorem idx_calls {l:List Nat}{v:Sv}{b:Nat} (hv:v.2.1=l.length) (hr:Rd LPt w v.1 v.2.2 l) (hl:l.length<=1048576) (hok:∀x,x=b\/x∈l->∃c t,w.heap[x]?=some (.cells c t (0,0))) (hm:b∈l)
  (hK:R (.returned (.int .i64 (l.idxOf b:Nat))) w):CL 170 #[slV v,.pointer (some ⟨b,0,none⟩)] w R:=by
 refine ok170 v.1 v.2.1 v.2.2 (some ⟨b,0,none⟩) ?_
 unfold F170
 refine⟨fun i w'=>∃k:Nat,i=k/\k<=l.idxOf b/\w=w',fun i _=>l.length-i.toNat,⟨0,rfl,om,rfl⟩,?_⟩
 rintro i _ ⟨k,rfl,hk,rfl⟩
 unfold F170_l2
 have hlt:l.idxOf b<l.length:=ioi.2 hm
 refine brd (fun h1=>?_) (fun h1=>by omega)
 have hk2:k<l.length:=by omega
 refine hr.pt hv rfl hk2 fun x y c0=>?_
 simp only [c0,lds]
 refine⟨fun p q e1 e2 hne=>?_,brd (fun e=>?_) (fun e=>?_)⟩
 ·cases e1;cases e2
  exact⟨hok _ (.inl rfl),hok _ (.inr (gem hk2))⟩
 ·have e:b=l[k]:=by simpa using e
  have:l.idxOf b=k:=by
   rcases Nat.lt_or_ge k (l.idxOf b) with h2 | h2
   ·have:=List.not_of_lt_findIdx (p:=(· == b)) (xs:=l) h2
    exact absurd e.symm (by simpa using this)
   ·omega
  rw [this] at hK;exact hK
 ·have e:l[k]≠b:=fun h2=>e (by rw [h2])
  have:k≠l.idxOf b:=fun h2=>e (by
   have:=List.getElem_idxOf hlt
   simp only [<-h2] at this
   exact this)
  exact⟨inR_i64 om om,⟨k+1,sm,om,trivial⟩,odz⟩
end
def wornN (sl:List Sl):Nat:=(sl.filter fun s=>!s.live && decide (4294967295<=s.gen)).length
theorem tk_sum (sl:List Sl):tk sl=liveN sl+wornN sl:=by
 induction sl with
 | nil=>rfl
 | cons s l ih=>
  unfold tk liveN wornN at *
  simp only [List.filter_cons]
  cases hl:s.live <;> cases hd:decide (4294967295<=s.gen) <;> simp_all <;> omega
theorem live_set {sl:List Sl}{k:Nat}{a b:Sl} (h:sl[k]?=some a):liveN (sl.set k b)+(if a.live then 1 else 0)=liveN sl+(if b.live then 1 else 0):=filter_set_len (fun s:Sl=>s.live) sl k a b h
theorem worn_set {sl:List Sl}{k:Nat}{a b:Sl} (h:sl[k]?=some a):wornN (sl.set k b)+(if (!a.live && decide (4294967295<=a.gen)) then 1 else 0)=wornN sl+(if (!b.live && decide (4294967295<=b.gen)) then 1 else 0):=filter_set_len (fun s:Sl=>!s.live && decide (4294967295<=s.gen)) sl k a b h
theorem live_room {sl:List Sl}:liveN (roomF sl)=liveN sl/\wornN (roomF sl)=wornN sl:=by
 unfold roomF liveN wornN
 split
 ·exact⟨rfl,rfl⟩
 ·rw [List.filter_append,List.filter_append];simp [deadS]
def bornS (g:Nat):Sl:=⟨g,true,0,noB,[],noB,0,[]⟩
structure PI (S:PS):Prop where
 lv:S.lv=liveN S.D.sl
 wn:S.wn=wornN S.D.sl
 lo:S.lo<=S.D.sl.length
 lo2:∀(i:Nat) (s:Sl),i<S.lo->S.D.sl[i]?=some s->s.live=true\/4294967295<=s.gen
def Cl (S:PS) (c:Nat):Prop:=pc c/\∀(i:Nat) (s:Sl),S.D.sl[i]?=some s->s.live=true->c≠8+4*i
theorem free_low {sl:List Sl}{n:Nat} (h:∀(i:Nat) (s:Sl),i<n->sl[i]?=some s->s.live=true\/4294967295<=s.gen) (hn:n<=sl.length):n<=freeI sl:=by
 refine byc fun hlt=>?_
 have hf:freeI sl<sl.length:=by omega
 obtain⟨s,h1,h2,h3⟩:=freeI_lt hf
 rcases h _ s om h1 with h4 | h4
 ·rw [h2] at h4;cases h4
 ·omega
theorem below_free {sl:List Sl}{i:Nat}{s:Sl} (hi:i<freeI sl) (hs:sl[i]?=some s):s.live=true\/4294967295<=s.gen:=by
 have h1:=List.not_of_lt_findIdx (p:=fun s:Sl=>!s.live && decide (s.gen<4294967295)) (xs:=sl) hi
 obtain⟨hl,e⟩:=gsi.1 hs
 rw [e] at h1
 cases hv:s.live
 ·simp [hv] at h1;exact .inr h1
 ·exact .inl rfl
def lowIn (g:Nat) (w:Wd):Nat:=match w.cell? ⟨g,4,none⟩ with | some (.int _ n)=>n.toNat | _=>0
section
variable {w w1 w2:Wd}{o o1 o2:Nat->Nat}{θ:Th}{S:PS}{M:Nat->Prop}{bs:List Nat}{R:RT}
theorem Cl_zero:¬Cl S 0:=fun h=>not_pc0 h.1
theorem Cl_doc {c:Nat} (h:c=1\/c=2\/c=3):Cl S c:=by
 refine⟨?_,fun i s _ _=>by omega⟩
 unfold pc;omega
theorem Cl_node {c i:Nat} (h:c=8+4*i\/c=9+4*i\/c=10+4*i) (hd:∀s,S.D.sl[i]?=some s->s.live=false):Cl S c:=by
 refine⟨?_,fun j s hs hl e=>?_⟩
 ·unfold pc;omega
 ·have:j=i:=by omega
  subst this
  rw [hd s hs] at hl;cases hl
theorem lowIn_pm (h:PM w o θ S):lowIn θ.g w=S.lo:=by unfold lowIn;rw [h.cells.2.2.2];simp
theorem fresh_calls (h:PM w o θ S) (hp:PI S) (hw:WfS S.D.sl) (ht:tk S.D.sl<4096) (hK:∀w' o' S' b,PM w' o' θ S'->PI S'->S'.D={ S.D with sl:=(roomF S.D.sl).set (freeI S.D.sl) (bornS (genI S.D.sl)) }->(∃x,S'.bs=S.bs++x) ->
   S'.bs[freeI S.D.sl]?=some b->EvC (Cl S) w o w' o'->R (.returned (.pointer (some ⟨b,0,none⟩))) w'):CL 168 #[.pointer (some ⟨θ.g,0,none⟩)] w R:=by
 refine ok168 (some ⟨θ.g,0,none⟩) ?_
 unfold F168
 have hlo:=free_low hp.lo2 hp.lo
 have hfl:=freeI_le (sl:=S.D.sl)
 have hfew:=h.few
 have hlt:=h.lt
 have tr:∀{w1 w2:Wd}{o1 o2:Nat->Nat},EvC (Cl S) w o w1 o1->EvC (Cl S) w1 o1 w2 o2->EvC (Cl S) w o w2 o2:=fun a b=>a.trans Cl_zero hlt (fun _ _ h=>h) b
 refine⟨fun w'=>PM w' o θ { S with lo:=freeI S.D.sl }/\EvC (Cl S) w o w' o,?_,?_⟩
 ·rintro w1 ⟨h1,e1⟩
  unfold F168_j3
  refine⟨fun w'=>∃o' S',PM w' o' θ S'/\S'.D={ S.D with sl:=roomF S.D.sl }/\S'.lv=S.lv/\S'.wn=S.wn/\S'.lo=freeI S.D.sl/\(∃x,S'.bs=S.bs++x)/\EvC (Cl S) w o w' o',?_,?_⟩
  ·rintro w2 ⟨o2,S2,h2,hD,hlv,hwn,hlo2,hbs,e2⟩
   unfold F168_j5
   refine dr fun w3 hb3 _=>?_
   have h3:=h2.below hb3
   obtain⟨⟨v,v1,v2,v3⟩,_,_,c4⟩:=h3.cells
   obtain⟨A,c,ev,hr⟩:=v2.form
   obtain⟨s,s1,s2,s3,s4⟩:=room_get hw
   have hsl:S2.D.sl=roomF S.D.sl:=by rw [hD]
   have hgl:=(gsi.1 s1).1
   have hlen:=h3.len
   rw [hsl] at hlen
   have hgb:freeI S.D.sl<S2.bs.length:=by omega
   have k1:S2.bs[freeI S.D.sl]?=some S2.bs[freeI S.D.sl]:=gge hgb
   generalize hb:S2.bs[freeI S.D.sl]=b at k1
   have k2:S2.D.sl[freeI S.D.sl]?=some s:=by rw [hsl];exact s1
   rw [hlo2] at c4
   rw [ev] at v1
   have hdead:∀t,S.D.sl[freeI S.D.sl]?=some t->t.live=false:=fun t ht=>by
    have:=room_old ht
    rw [s1] at this;cases this;exact s4
   simp only [NonNil_some,v1,c4,lds]
   refine hr.pt rfl rfl hgb fun x y c0=>?_
   rw [hb] at c0
   simp only [c0,NonNil_some,h3.cGen k1 k2,lds]
   have e5:((s.gen:Nat):Int)+1=((s.gen+1:Nat):Int):=by omega
   rw [e5]
   refine⟨⟨by simp [IntKind.min,IntKind.signed];omega,by simp [IntKind.max,IntKind.signed,IntKind.bits];omega⟩,?_⟩
   refine h3.stGen k1 k2 (g:=s.gen+1) om fun w4 h4 e4=>?_
   have k3:(S2.setS (freeI S.D.sl) { s with gen:=s.gen+1 }).D.sl[freeI S.D.sl]?=some { s with gen:=s.gen+1 }:=by simp [PS.setS,hsl,hgl]
   refine h4.stLiv (b:=b) k1 k3 true fun w5 h5 e5'=>?_
   obtain⟨_,d2,_,_⟩:=h5.cells
   have d2:w5.cell? ⟨θ.g,2,none⟩=some (.int .i64 (S.lv:Nat)):=by rw [<-hlv];exact d2
   simp only [d2,lds]
   have hlvn:=hp.lv
   have htk:=tk_sum S.D.sl
   have e6:((S.lv:Nat):Int)+1=((S.lv+1:Nat):Int):=by omega
   rw [e6]
   refine⟨inR_i64 om om,h5.stLive (S.lv+1) om fun w6 h6 e7=>?_⟩
   have hev:EvC (Cl S) w o w6 o2:=by
    refine tr (tr (tr (tr e2 (EvC.below hb3)) (e4.mono fun c hc=>Cl_node hc hdead)) (e5'.mono fun c hc=>Cl_node hc hdead)) (e7.mono fun c hc=>Cl_doc hc)
   obtain⟨S6,hS6⟩:∃S6:PS,S6={ (S2.setS (freeI S.D.sl) { s with gen:=s.gen+1 }).setS (freeI S.D.sl) { { s with gen:=s.gen+1 } with live:=true } with lv:=S.lv+1 }:=⟨_,rfl⟩
   have h6':PM w6 o2 θ S6:=by rw [hS6];exact h6
   have hfin:S6.D.sl=(roomF S.D.sl).set (freeI S.D.sl) (bornS (genI S.D.sl)):=by
    rw [hS6]
    show (S2.D.sl.set _ _).set _ _=_
    rw [List.set_set,hsl,genI_eq s1]
    congr 1
    rw [s2];rfl
   have f1:S6.lv=S.lv+1:=by rw [hS6]
   have f2:S6.wn=S2.wn:=by rw [hS6];rfl
   have f3:S6.lo=S2.lo:=by rw [hS6];rfl
   have f4:S6.bs=S2.bs:=by rw [hS6];rfl
   have f5:S6.D.roots=S2.D.roots:=by rw [hS6];rfl
   have hset:=live_set (b:=(bornS (genI S.D.sl))) s1
   have wset:=worn_set (b:=(bornS (genI S.D.sl))) s1
   rw [s4] at hset wset
   have hg2:¬4294967295<=s.gen:=by omega
   simp [live_room.1,live_room.2,hg2,show (bornS (genI S.D.sl)).live=true from rfl] at hset wset
   refine hK w6 o2 S6 b h6' ⟨?_,?_,?_,?_⟩ ?_ (by rw [f4];exact hbs) (by rw [f4];exact k1) hev
   ·rw [f1,hfin];omega
   ·rw [f2,hfin,hwn,hp.wn];omega
   ·rw [f3,hfin,hlo2,List.length_set];omega
   ·intro i t hi ht2
    rw [f3,hlo2] at hi
    rw [hfin,gsn om] at ht2
    have hi2:i<S.D.sl.length:=by omega
    have:=room_old (gge hi2)
    rw [this] at ht2
    exact below_free hi (by rw [<-ht2];exact gge hi2)
   ·cases hS:S6.D with
    | mk l r=>
     rw [hS] at hfin f5
     dsimp only at hfin f5
     rw [hfin,f5,hD]
  ·refine dr fun w2 hb2 _=>?_
   have h2:=h1.below hb2
   obtain⟨⟨v,v1,v2,v3⟩,_,_,c4⟩:=h2.cells
   obtain⟨A,c,ev,hr⟩:=v2.form
   rw [ev] at v1
   have c4:w2.cell? ⟨θ.g,4,none⟩=some (.int .i64 (freeI S.D.sl:Nat)):=c4
   have hlen:S.bs.length=S.D.sl.length:=h2.len
   simp only [NonNil_some,v1,c4,lds]
   refine bre (fun heq=>?_) (fun hne=>?_)
   ·have heq:freeI S.D.sl=S.bs.length:=Int.ofNat.inj heq
    have hfull:¬freeI S.D.sl<S.D.sl.length:=by omega
    have hl4:S.D.sl.length<4096:=by have:=tk_full hfull;omega
    refine⟨fun w'=>Below w2.heap.size w2 w',(Below.refl _ _).drew,?_⟩
    refine⟨_,_,_,fun w' hb=>by rw [(sub_below hb).cell v1],?_⟩
    refine⟨_,fun w' hb=>by rw [(sub_below hb).cell c4],?_⟩
    have e5:((freeI S.D.sl:Nat):Int)+1=((freeI S.D.sl+1:Nat):Int):=by omega
    rw [e5]
    refine⟨inR_i64 om om,⟨by simp [IntKind.min,IntKind.signed];omega,by simp [IntKind.max,IntKind.signed,IntKind.bits];omega⟩,?_⟩
    refine al fun b w3 hb3 bn hge3=>?_
    have D3:Below w2.heap.size w2 w3:=btr ((Below.refl _ w2).drew) sm hb3
    refine⟨D3,al fun g5 w4 hb4 b5 hge4=>?_⟩
    have D4:=btr D3 D3.size hb4
    refine⟨D4,?_⟩
    have hO4:Own LPt w4 0 140 (.slice A S.bs.length c) S.bs:=by rw [<-ev];exact v2.keep D4
    have hbl:=bn.lt
    have hgeb:w2.heap.size<=b:=by simpa using hge3
    refine ap (L:=LPt) (xs:=S.bs) (ys:=[b]) (base:=0) (.pointer none) 8 rfl kr kr kr hO4 ?_ (Nat.zero_le _) (by simp;omega) (by simp [maxLen];omega) fun A' c' w5 o5 g5'=>⟨A',_,c',rfl,?_⟩
    ·refine⟨sm,by simp [maxLen],fun h0=>(by cases h0),fun _=>⟨g5,0,rfl,fun j u hj=>?_⟩⟩
     rw [LPt.all_one] at hj
     rw [b5.cell];simpa [LPt] using hj
    ·have F5:Fm (fun x=>rowOf (slV (A,S.bs.length,c))=some x) w2 w5:=(Fm.below D4).trans (Fm.grown g5'.grown fun x hx=>hx)
     have hbn5:Blk w5 b (nodeC S.D.sl.length (deadS 0) (none,0,0) none (none,0,0)) 142:=by
      have bn4:=bn.keep hb4
      have:Blk w5 b _ 142:=(Fm.grown g5'.grown (M:=fun x=>rowOf (slV (A,S.bs.length,c))=some x) fun x hx=>hx).blk bn4 fun e=>by
       have:=v3 b (by rw [ev];exact e)
       have:=h2.lt b (by rw [this];decide)
       omega
      rw [heq,hlen] at this
      exact this
     refine h2.grow (v:=(A,S.bs.length,c)) (v':=(A',S.bs.length+1,c')) hgeb hbn5 (fun x hx=>v3 x (by rw [ev];exact hx)) F5 o5 ?_ hl4 fun w6 o6 h6 e6=>?_
     ·rcases g5'.row with e | e | ⟨g,e,hge⟩
      ·exact .inl e
      ·exact .inr (.inl e)
      ·refine .inr (.inr ⟨g,e,?_,?_⟩)
       ·have:=D4.size;omega
       ·have:=hb4.size;omega
     ·refine⟨o6,_,h6,?_,rfl,rfl,rfl,⟨[b],rfl⟩,tr (tr e1 (EvC.below hb2)) (e6.mono fun c hc=>Cl_doc om)⟩
      show { S.D with sl:=S.D.sl++[deadS 0] }=_
      unfold roomF
      rw [if_neg hfull]
   ·have hne:freeI S.D.sl≠S.bs.length:=fun e=>hne (by rw [e])
    refine⟨o,_,h2,?_,rfl,rfl,rfl,⟨[],sm⟩,tr e1 (EvC.below hb2)⟩
    show S.D=_
    unfold roomF
    rw [if_pos om]
 ·refine⟨fun w'=>∃n,n<=freeI S.D.sl/\PM w' o θ { S with lo:=n }/\EvC (Cl S) w o w' o,fun w'=>4097-lowIn θ.g w',⟨S.lo,hlo,h,EvC.refl⟩,?_⟩
  rintro w1 ⟨n,hn,h1,e1⟩
  have hlw:lowIn θ.g w1=n:=lowIn_pm h1
  unfold F168_l1
  refine⟨fun w'=>n<freeI S.D.sl/\PM w' o θ { S with lo:=n }/\EvC (Cl S) w o w' o,?_,?_⟩
  ·rintro w2 ⟨hn2,h2,e2⟩
   unfold F168_j2
   obtain⟨_,_,_,c4⟩:=h2.cells
   have c4:w2.cell? ⟨θ.g,4,none⟩=some (.int .i64 (n:Nat)):=c4
   simp only [NonNil_some,c4,lds]
   have e5:(n:Int)+1=((n+1:Nat):Int):=by omega
   rw [e5]
   refine⟨inR_i64 om om,h2.stLow (n+1) om fun w3 h3 e3=>⟨⟨n+1,om,h3,tr e2 (e3.mono fun c hc=>Cl_doc hc)⟩,?_⟩⟩
   have:=lowIn_pm h3
   dsimp only at this
   rw [this,hlw];omega
  ·refine dr fun w2 hb2 _=>?_
   have h2:=h1.below hb2
   have e2:=tr e1 (EvC.below hb2)
   obtain⟨⟨v,v1,v2,v3⟩,_,_,c4⟩:=h2.cells
   obtain⟨A,c,ev,hr⟩:=v2.form
   rw [ev] at v1
   have c4:w2.cell? ⟨θ.g,4,none⟩=some (.int .i64 (n:Nat)):=c4
   have hlen:S.bs.length=S.D.sl.length:=h2.len
   simp only [NonNil_some,v1,c4,lds]
   have exit:(∀s,S.D.sl[n]?=some s->s.live=false/\s.gen<4294967295)->n=freeI S.D.sl:=fun hs=>by
    refine byc fun hne=>?_
    have hlt2:n<freeI S.D.sl:=by omega
    have hl:n<S.D.sl.length:=by omega
    have:=below_free hlt2 (gge hl)
    obtain⟨a,b⟩:=hs _ (gge hl)
    rcases this with h3 | h3
    ·rw [a] at h3;cases h3
    ·omega
   refine brd (fun hlt2=>?_) (fun hge=>?_)
   ·have hnl:n<S.bs.length:=by simpa using hlt2
    have k1:S.bs[n]?=some S.bs[n]:=gge hnl
    have k2:S.D.sl[n]?=some (S.D.sl[n]'om):=gge om
    generalize hb:S.bs[n]=b at k1
    generalize (S.D.sl[n]'om)=s at k2
    refine hr.pt rfl rfl hnl fun x y c0=>?_
    rw [hb] at c0
    have gl:=h2.cLive k1 k2
    have gg:=h2.cGen k1 k2
    simp only [c0,gl,NonNil_some,lds]
    have notfree:(s.live=true\/4294967295<=s.gen)->n<freeI S.D.sl:=fun hs=>by
     refine Nat.lt_of_le_of_ne hn fun e=>?_
     have hf:freeI S.D.sl<S.D.sl.length:=by omega
     obtain⟨t,t1,t2,t3⟩:=freeI_lt hf
     rw [<-e,k2] at t1;cases t1
     rcases hs with h3 | h3
     ·rw [t2] at h3;cases h3
     ·omega
    refine br (fun hl=>⟨notfree (.inl hl),h2,e2⟩) (fun hl=>?_)
    refine hr.pt rfl rfl hnl fun x y c0=>?_
    rw [hb] at c0
    simp only [c0,gg,NonNil_some,lds]
    refine bre (fun hg=>⟨notfree (.inr om),h2,e2⟩) (fun hg=>?_)
    have hsg:=(h.rng s (mog k2)).gen
    have:=exit fun t ht=>by rw [k2] at ht;cases ht;exact⟨hl,om⟩
    rw [<-this]
    exact⟨h2,e2⟩
   ·have:=exit fun t ht=>by
     have:=(gsi.1 ht).1
     have hge:¬(n:Int)<((S.bs.length:Nat):Int):=hge
     omega
    rw [<-this]
    exact⟨h2,e2⟩
end
theorem cloneOwn_calls (l:List At) (v:Sv) {w:Wd}{R:RT} (hl:RR LAt w l v) (h:∀v' w',Below w.heap.size w w'->Own LAt w' w.heap.size 145 (slV v') l->R (.returned (slV v')) w') :
  CL 78 #[slV v] w R:=by
 refine ok78 v.1 v.2.1 v.2.2 ?_
 unfold F78
 refine br (fun hz=>?_) (fun hz=>?_)
 ·have h1:v.1=none:=by simpa using hz
  have h2:=hl.2.2.2.2.1 h1
  have h3:=hl.2.2.1
  have:l=[]:=enl om
  subst this
  exact h (none,0,0) w (Below.refl _ _) (Own.nil _ _ _ _)
 ·refine al fun g w1 hb1 b1 hge=>?_
  obtain⟨h1,h2,h3⟩:=hl.keep hb1
  have hm:l.length*32<=1048576*32:=Nat.mul_le_mul h1 (nlr _)
  refine ap (L:=LAt) (xs:=[]) (ys:=l) (base:=w.heap.size) (.agg #[.string ⟨#[]⟩,.string ⟨#[]⟩]) 32 h2 rfl rfl rfl (Own.bare _ _ _ _ _) h3 hb1.size (by simp only [List.length_nil,nza];omega) (by simp [maxLen];omega) fun A' c' w2 o2 g2=>⟨_,_,_,rfl,?_⟩
  exact h (A',_,c') w2 (hb1.trans g2.below) (by rw [lna] at o2;exact o2)
theorem makesF_snoc {x:Tr}{h i:Nat}:∀(l:List Tr) (sl:List Sl),makesF (l++[x]) h i sl=(makeF x h (makesF l h i sl)).modify i fun s=>{ s with kids:=s.kids++[freshH (makesF l h i sl)] }
 | [],sl=>by
  rw [lna,makesF]
  simp only [makesF]
 | y :: l,sl=>by
  rw [List.cons_append,makesF]
  conv=>rhs;simp only [makesF]
  exact makesF_snoc l _
theorem okL_take:∀(l:List Tr) (k:Nat),okL l->okL (l.take k)
 | [],k,h=>by simp [okL]
 | x :: l,0,h=>by simp [okL]
 | x :: l,k+1,h=>by
  simp only [List.take_succ_cons,okL] at *
  exact⟨h.1,okL_take l k h.2⟩
theorem okL_get:∀(l:List Tr) (k:Nat) (hk:k<l.length),okL l->okT l[k]
 | [],k,hk,h=>by simp at hk
 | x :: l,0,hk,h=>by simp only [okL] at h;exact h.1
 | x :: l,k+1,hk,h=>by simp only [okL] at h;exact okL_get l k (by simpa using hk) h.2
theorem dpL_take:∀(l:List Tr) (k:Nat),dpL (l.take k)<=dpL l
 | [],k=>by simp [dpL]
 | x :: l,0=>by simp [dpL]
 | x :: l,k+1=>by
  have:=dpL_take l k
  simp only [List.take_succ_cons,dpL];omega
theorem dpL_get:∀(l:List Tr) (k:Nat) (hk:k<l.length),dpT l[k]<=dpL l
 | [],k,hk=>by simp at hk
 | x :: l,0,hk=>by simp only [List.getElem_cons_zero,dpL];omega
 | x :: l,k+1,hk=>by
  have:=dpL_get l k (by simpa using hk)
  simp only [List.getElem_cons_succ,dpL];omega
theorem szL_get:∀(l:List Tr) (k:Nat) (hk:k<l.length),szL (l.take k)+szT l[k]<=szL l
 | [],k,hk=>by simp at hk
 | x :: l,0,hk=>by simp only [List.take_zero,List.getElem_cons_zero,szL];omega
 | x :: l,k+1,hk=>by
  have:=szL_get l k (by simpa using hk)
  simp only [List.take_succ_cons,List.getElem_cons_succ,szL];omega
theorem szL_take:∀(l:List Tr) (k:Nat),szL (l.take k)<=szL l
 | [],k=>by simp
 | x :: l,0=>by simp [szL]
 | x :: l,k+1=>by
  have:=szL_take l k
  simp only [List.take_succ_cons,szL];omega
section
variable {w w1 w2:Wd}{o o1 o2:Nat->Nat}{θ:Th}{S:PS}{M:Nat->Prop}{bs:List Nat}{R:RT}
theorem PI.set (h:PI S) {i:Nat}{s s':Sl} (hs:S.D.sl[i]?=some s) (hl:s'.live=s.live) (hg:s'.gen=s.gen):PI (S.setS i s'):=by
 have h1:=live_set (b:=s') hs
 have h2:=worn_set (b:=s') hs
 rw [hl] at h1
 rw [hl,hg] at h2
 refine⟨?_,?_,?_,fun j t hj ht=>?_⟩
 ·show S.lv=liveN (S.D.sl.set i s');rw [h.lv];omega
 ·show S.wn=wornN (S.D.sl.set i s');rw [h.wn];omega
 ·show S.lo<=(S.D.sl.set i s').length;rw [List.length_set];exact h.lo
 ·have ht:(S.D.sl.set i s')[j]?=some t:=ht
  by_cases e:i=j
  ·subst e
   rw [List.getElem?_set_self (gsi.1 hs).1] at ht
   cases ht
   rw [hl,hg];exact h.lo2 i s hj hs
  ·rw [gsn e] at ht
   exact h.lo2 j t hj ht
theorem pb_ext {y:List Nat}{h:Nat} (hh:inN bs.length h):pb (bs++y) h=pb bs h:=by
 obtain⟨h1,h2⟩:=hh
 unfold pb
 rw [gdd,gdd,gal om]
theorem ptr_ext {y:List Nat}{h:Nat} (hh:h=0\/inN bs.length h):ptrH (bs++y) h=ptrH bs h:=by
 unfold ptrH
 split
 ·rfl
 ·rw [pb_ext (hh.resolve_left (by assumption))]
theorem live_inN {sl:List Sl}{p:Nat} (hp:p=0\/∃t,slA sl p=some t/\t.kind=1):p=0\/inN sl.length p:=by
 rcases hp with hp | ⟨t,ht,_⟩
 ·exact .inl hp
 ·obtain⟨k,h1,h2,_⟩:=slA_iff.1 ht
  have:=(gsi.1 h2).1
  exact .inr ⟨om,om⟩
theorem live_few {sl:List Sl}{l:List Nat} (hl:∀h∈l,∃s,slA sl h=some s) (hn:l.Nodup):l.length<=sl.length:=by
 have h1:(l.map fun h=>h % 4294967296-1).Nodup:=by
  refine List.pairwise_map.2 (List.Pairwise.imp_of_mem (fun {a b} ha hb hab e=>?_) hn)
  obtain⟨s,hs⟩:=hl a ha
  obtain⟨t,ht⟩:=hl b hb
  obtain⟨i,i1,i2,i3,i4⟩:=slA_iff.1 hs
  obtain⟨j,j1,j2,j3,j4⟩:=slA_iff.1 ht
  obtain rfl:i=j:=by omega
  rw [i2] at j2;cases j2
  exact hab (i4.symm.trans j4)
 have h2:=nodup_sub h1 (b:=List.range sl.length) fun x hx=>by
  obtain⟨h,hh,rfl⟩:=List.mem_map.1 hx
  obtain⟨s,hs⟩:=hl h hh
  obtain⟨i,i1,i2,i3,i4⟩:=slA_iff.1 hs
  have:=(gsi.1 i2).1
  exact List.mem_range.2 om
 simpa using h2
theorem setS_setS {i:Nat}{a b:Sl}:(S.setS i a).setS i b=S.setS i b:=by unfold PS.setS;dsimp only;rw [List.set_set]
theorem make_calls:∀(x:Tr) {w:Wd}{o:Nat->Nat}{S:PS}{p c:Nat}{loose:List Nat}{e:E5}{R:RT},PM w o θ S->PI S->okT x->WfS S.D.sl->WfA (slA S.D.sl) S.D.roots loose->(p=0\/∃t,slA S.D.sl p=some t/\t.kind=1) ->
  Ch (slA S.D.sl) p c->c+dpT x<=64->tk S.D.sl+szT x<=4096->RTr (wc o w) x e ->
  (∀w' o' S',PM w' o' θ S'->PI S'->S'.D={ S.D with sl:=makeF x p S.D.sl }->(∃y,S'.bs=S.bs++y)->EvC (Cl S) w o w' o'->R (.returned (.pointer (ptrH S'.bs (freshH S.D.sl)))) w') ->
  CL 117 #[.pointer (some ⟨θ.g,0,none⟩),.agg #[.int .i64 e.kind,.string e.nm,slV e.ats,.string e.text,slV e.kids],.pointer (ptrH S.bs p)] w R:=by
 refine Tr.ind fun kind nm attrs text kids ih=>?_
 intro w o S p c loose e R h hp hok hw hA hpp hc hd ht hT hK
 simp only [RTr] at hT
 obtain⟨t1,t2,t3,t4,t5,es,t6,t7,t8⟩:=hT
 have hel:=t8.len
 have hW:=make_wf (.mk kind nm attrs text kids) hok hw hA hpp hc hd ht
 unfold okT at hok
 obtain⟨ok1,ok2,ok3⟩:=hok
 unfold dpT at hd
 unfold szT at ht
 have htk:tk S.D.sl<4096:=by split at ht <;> omega
 have hlt:=h.lt
 refine ok117 (some ⟨θ.g,0,none⟩) e.kind e.nm e.ats.1 e.ats.2.1 e.ats.2.2 e.text e.kids.1 e.kids.2.1 e.kids.2.2 (ptrH S.bs p) ?_
 unfold F117
 refine al fun g4 w1 hb1 b4 hge4=>?_
 have h1:=h.below hb1
 have o4:o g4=0:=byc fun h0=>by have:=hlt g4 h0;omega
 refine fresh_calls h1 hp hw htk fun w2 o2 S2 b h2 p2 hD2 ⟨y2,hy2⟩ hb2 e2=>⟨_,rfl,?_⟩
 have tr:∀{w1 w2:Wd}{o1 o2:Nat->Nat},EvC (Cl S) w o w1 o1->EvC (Cl S) w1 o1 w2 o2->EvC (Cl S) w o w2 o2:=fun a b=>a.trans Cl_zero hlt (fun _ _ h=>h) b
 have E2:EvC (Cl S) w o w2 o2:=tr (EvC.below hb1) e2
 obtain⟨sd,d1,d2,d3,d4⟩:=room_get hw
 generalize hi:freeI S.D.sl=i at *
 generalize hg:genI S.D.sl=g at *
 have hgl:=(gsi.1 d1).1
 have hsl2:S2.D.sl=(roomF S.D.sl).set i (bornS g):=by rw [hD2]
 have k2:S2.D.sl[i]?=some (bornS g):=by rw [hsl2];simp [hgl]
 have hdead:∀t,S.D.sl[i]?=some t->t.live=false:=fun t ht=>by
  have:=room_old ht
  rw [d1] at this;cases this;exact d4
 have g4k:∀{w':Wd}{o':Nat->Nat}{ce:Array Value}{ty:TypeId},EvC (Cl S) w1 o w' o'->Blk w1 g4 ce ty->Blk w' g4 ce ty:=fun ev hb=>ev.fm.blk hb (by rw [o4];exact Cl_zero)
 have B2:=g4k e2 b4
 simp only [NonNil_some,B2.cell,lds]
 refine h2.stKind hb2 k2 e.kind fun w3 h3 e3=>?_
 have h3:PM w3 o2 θ (S2.setS i ⟨g,true,e.kind,noB,[],noB,0,[]⟩):=h3
 have kS:∀s',(S2.setS i s').D.sl[i]?=some s':=fun s'=>by simp [PS.setS,hsl2,hgl]
 have hpn:p=0\/inN S.bs.length p:=by rw [h.len];exact live_inN hpp
 have hlen2:S.D.sl.length<=S2.D.sl.length:=by
  rw [hsl2,List.length_set]
  rcases room_len (sl:=S.D.sl) with h | h <;> omega
 have hlenS:∀s',(S2.setS i s').D.sl.length=S2.D.sl.length:=fun s'=>by simp [PS.setS]
 have hpn2:p=0\/inN (S2.setS i ⟨g,true,e.kind,noB,[],noB,0,[]⟩).D.sl.length p:=by
  rcases hpn with e | ⟨a,b⟩
  ·exact .inl e
  ·refine .inr ⟨a,?_⟩
   rw [h.len] at b
   rw [hlenS];omega
 have hpe:ptrH S.bs p=ptrH (S2.setS i ⟨g,true,e.kind,noB,[],noB,0,[]⟩).bs p:=by
  show _=ptrH S2.bs p
  rw [hy2];exact (ptr_ext hpn).symm
 rw [hpe]
 refine h3.stPar (b:=b) hb2 (kS _) hpn2 fun w4 h4 e4=>?_
 have h4:PM w4 o2 θ (S2.setS i ⟨g,true,e.kind,noB,[],noB,p,[]⟩):=by rw [setS_setS] at h4;exact h4
 have nd:∀{c:Nat},(c=8+4*i\/c=9+4*i\/c=10+4*i)->Cl S c:=fun hc=>Cl_node hc hdead
 have e24:EvC (Cl S) w1 o w4 o2:=(e2.trans Cl_zero h1.lt (fun _ _ h=>h) (e3.mono fun c hc=>nd hc)).trans Cl_zero h1.lt (fun _ _ h=>h) (e4.mono fun c hc=>nd hc)
 have E4:EvC (Cl S) w o w4 o2:=tr (EvC.below hb1) e24
 have B4:=g4k e24 b4
 have p4:PI (S2.setS i ⟨g,true,e.kind,noB,[],noB,p,[]⟩):=p2.set k2 rfl rfl
 have hh:freshH S.D.sl % 4294967296=i+1:=by
  have:=(room_wf hw htk).few
  unfold freshH;rw [hi];exact hnd_mod om
 have hne:freshH S.D.sl≠0:=by unfold freshH hnd;omega
 have hfin:∀{bs':List Nat},(∃y,bs'=S2.bs++y)->pb bs' (freshH S.D.sl)=b:=fun {bs'} ⟨y,hy⟩=>by
  unfold pb
  rw [hh,nasc,hy,gdd,gal (gsi.1 hb2).1,hb2];rfl
 have hfinp:∀{bs':List Nat},(∃y,bs'=S2.bs++y)->ptrH bs' (freshH S.D.sl)=some ⟨b,0,none⟩:=fun {bs'} hy=>by
  unfold ptrH
  rw [if_neg hne,hfin hy]
 have hDS:∀s',(S2.setS i s').D={ S.D with sl:=(roomF S.D.sl).set i s' }:=fun s'=>by
  show { S2.D with sl:=S2.D.sl.set i s' }=_
  rw [hD2]
  dsimp only
  rw [List.set_set]
 simp only [NonNil_some,B4.cell,lds]
 refine bre (fun hk=>?_) (fun hk=>?_)
 ·-- a text
  refine h4.stText (b:=b) hb2 (kS _) e.text fun w5 h5 e5=>?_
  have h5:PM w5 o2 θ (S2.setS i ⟨g,true,e.kind,noB,[],e.text,p,[]⟩):=by rw [setS_setS] at h5;exact h5
  have:=hK w5 o2 _ h5 (p2.set k2 rfl rfl) ?_ ⟨y2,hy2⟩ (tr E4 (e5.mono fun c hc=>nd hc))
  ·have e6:=hfinp (bs':=S2.bs) ⟨[],sm⟩
   rw [<-e6];exact this
  ·rw [hDS]
   unfold makeF
   rw [if_pos (by rw [<-t1];exact hk),hi,hg,<-t1,<-t3]
 ·-- an element
  have hk1:kind≠2:=by rw [<-t1];exact hk
  have hkk:kind=1:=ok2.resolve_right hk1
  rw [if_neg hk1] at hd ht
  have hd4:Below w4.heap.size w4 w4.drew:=(Below.refl _ _).drew
  refine⟨fun w'=>Below w4.heap.size w4 w',hd4,?_⟩
  refine⟨_,fun w' hb=>by rw [(B4.keep hb).cell];rfl,?_⟩
  refine⟨_,_,_,fun w' hb=>by rw [(B4.keep hb).cell];rfl,?_⟩
  have E4d:EvC (Cl S) w o w4.drew o2:=tr E4 (EvC.below hd4)
  have hats:RR LAt w4.drew attrs e.ats:=(t4.sub (EvP.sub (E4d.mono fun c h=>h.1))).sub sub_of_only
  refine cloneOwn_calls attrs e.ats hats fun a w5 hb5 ha=>⟨_,_,_,rfl,?_⟩
  have D5:Below w4.heap.size w4 w5:=btr hd4 sm hb5
  refine⟨D5,?_⟩
  obtain⟨a0,kv0,hn⟩:=h4.nodes i b _ hb2 (kS _)
  have hb6:o2 b=8+4*i:=h4.nc i b hb2
  have hbl:=hn.blk.lt
  refine st_blk (hn.blk.keep D5) (by simp [nodeC]) fun w6 b6 f6=>st_blk b6 (by simp [nodeC]) fun w7 b7 f7=>?_
  have b7:Blk w7 b (nodeC i ⟨g,true,e.kind,e.nm,attrs,noB,p,[]⟩ a (ptrH S2.bs p) kv0) 142:=by
   simpa [nodeC,slV,PS.setS] using b7
  have F67:Fm (·=b) w5 w7:=Fm.trans f6 f7
  have harow:∀x,rowOf (slV a)=some x->w4.heap.size<=x:=fun x hx=>by have:=(ha.lt x hx).1;simpa using this
  have F47b:Fm (·=b) w4 w7:=(Fm.below D5).trans F67
  have F47:Fm (fun x=>o2 x=8+4*i\/o2 x=9+4*i\/o2 x=10+4*i) w4 w7:=F47b.mono fun x _ e=>.inl (by have e:x=b:=e;rw [e];exact hb6)
  have oz:∀x,w4.heap.size<=x->o2 x=0:=fun x hx=>byc fun h0=>by have:=h4.lt x h0;omega
  have hN:NodeR w7 (cl o2 (rowOf (slV a)) (10+4*i)) S2.bs i b ⟨g,true,e.kind,e.nm,attrs,noB,p,[]⟩ a kv0:=by
   refine⟨b7,(own_fm ha F67 fun x hx e=>?_).rebase fun k _=>Nat.zero_le _,fun x hx=>cl_row hx (.inl (oz x (harow x hx))),own_fm hn.kd1 F47b fun x hx e=>?_,fun x hx=>?_⟩
   ·have e:x=b:=e
    have:=harow x hx;omega
   ·have e:x=b:=e
    have:=hn.kd2 x hx;rw [e,hb6] at this;omega
   ·have:=hn.kd2 x hx
    rw [cl_old om];exact this
  have rg4:=h4.rng _ (mog (kS _))
  obtain⟨h7,e7⟩:=h4.setNode (r:=rowOf (slV a)) (c:=10+4*i) hb2 (kS _) F47 (fun x hx=>.inl hx) (.inr rfl) (fun x hx=>⟨fun _=>harow x hx,nll (ha.lt x hx).2 F67.size⟩) hN ⟨rg4.gen,rg4.par,sm,sm,t4.1⟩
  generalize cl o2 (rowOf (slV a)) (10+4*i)=o7 at h7 e7
  rw [setS_setS] at h7
  have e17:EvC (Cl S) w1 o w7 o7:=e24.trans Cl_zero h1.lt (fun _ _ h=>h) (e7.mono fun c hc=>nd hc)
  have E7:EvC (Cl S) w o w7 o7:=tr (EvC.below hb1) e17
  have B7:=g4k e17 b4
  simp only [NonNil_some,B7.cell,lds]
  clear hN F47 F47b F67 b7 b6 f6 f7 hn ha hats D5 hd4 B4 e4 e3 h3 h4 hb5 E4d E4 e24
  have hok7:okSl ⟨g,true,1,nm,attrs,noB,p,[]⟩:=⟨by rw [hkk] at ok1;unfold ownF at ok1 |-;exact ok1,.inl ⟨rfl,rfl⟩⟩
  obtain⟨M7,hs7⟩:=one_wf (s:=⟨g,true,1,nm,attrs,noB,p,[]⟩) hok7 rfl rfl rfl hg.symm hw hA hpp hc om om
  rw [hi] at M7 hs7
  generalize hsl7:(roomF S.D.sl).set i ⟨g,true,1,nm,attrs,noB,p,[]⟩=sl7 at M7 hs7
  have hD7:(S2.setS i ⟨g,true,e.kind,e.nm,attrs,noB,p,[]⟩).D={ S.D with sl:=sl7 }:=by rw [hDS,<-hsl7,t1,hkk,t2]
  have p7:PI (S2.setS i ⟨g,true,e.kind,e.nm,attrs,noB,p,[]⟩):=p2.set k2 rfl rfl
  have hbs7:(S2.setS i ⟨g,true,e.kind,e.nm,attrs,noB,p,[]⟩).bs=S2.bs:=rfl
  generalize S2.setS i ⟨g,true,e.kind,e.nm,attrs,noB,p,[]⟩=S7 at h7 hD7 p7 hbs7
  generalize hH:freshH S.D.sl=hh0 at *
  have hc7:Ch (slA sl7) hh0 (c+1):=.succ hne hs7 (hc.mono fun y t hy=>⟨t,M7.ext y t hy,rfl⟩)
  have mt7:=M7.tk
  have hmake:makeF (.mk kind nm attrs text kids) p S.D.sl=makesF kids hh0 i sl7:=by
   unfold makeF
   rw [if_neg hk1,hi,hg,hkk,hsl7,hH]
  rw [hmake] at hK
  have WK:∀k,k<=kids.length->WfS (makesF (kids.take k) hh0 i sl7)/\WfA (slA (makesF (kids.take k) hh0 i sl7)) S.D.roots (hh0 :: loose)/\(∃ks,slA (makesF (kids.take k) hh0 i sl7) hh0=some { (⟨g,true,1,nm,attrs,noB,p,[]⟩:Sl) with kids:=[]++ks })/\tk (makesF (kids.take k) hh0 i sl7)=tk sl7+szL (kids.take k)/\(∀y t,slA S.D.sl y=some t->slA (makesF (kids.take k) hh0 i sl7) y=some t):=fun k hk=>by
   have ht2:=szL_take kids k
   have hd2:=dpL_take kids k
   obtain⟨r1,r2,r3,r4,r5,r6⟩:=makes_wf (kids.take k) (fun x hx {sl loose p c}=>make_wf x (roots:=S.D.roots)) (sl:=sl7) (loose:=hh0 :: loose) (h:=hh0) (c:=c+1) (i:=i) (okL_take _ _ (ok3 hkk)) M7.wfs M7.wf hh hs7 rfl hc7 om om
   refine⟨r1,r2,r4,r5,fun y t hy=>r3 y t ?_ (M7.ext y t hy)⟩
   rintro rfl
   have:=M7.new
   rw [this] at hy;cases hy
  refine⟨fun j w'=>∃(k:Nat) (o':Nat->Nat) (S':PS),j=k/\k<=kids.length/\PM w' o' θ S'/\PI S'/\S'.D={ S.D with sl:=makesF (kids.take k) hh0 i sl7 }/\(∃y,S'.bs=S2.bs++y)/\EvC (Cl S) w1 o w' o',fun j _=>kids.length-j.toNat,
   ⟨0,o7,S7,rfl,om,h7,p7,by simpa [makesF] using hD7,⟨[],by simp [hbs7]⟩,e17⟩,?_⟩
  rintro j w8 ⟨k,o8,S8,rfl,hk8,h8,p8,hD8,⟨y8,hy8⟩,e8⟩
  unfold F117_l8
  have hsub8:Sub (wc o w) (wc o8 w8):=EvP.sub ((tr (EvC.below hb1) e8).mono fun c h=>h.1)
  have hr8:Rd LE5 w8 e.kids.1 e.kids.2.2 es:=sub_of_only.rd (hsub8.rd t7)
  refine brd (fun hlt8=>?_) (fun hge8=>?_)
  rotate_left
  ·have hk9:k=kids.length:=by omega
   subst hk9
   rw [tkl] at hD8
   have:=hK w8 o8 S8 h8 p8 hD8 ⟨y2++y8,by rw [hy8,hy2,laa]⟩ (tr (EvC.below hb1) e8)
   rw [hfinp ⟨y8,hy8⟩] at this
   exact this
  ·have hk9:k<kids.length:=by omega
   have hk10:k<es.length:=by omega
   obtain⟨r1,r2,⟨ks,r4⟩,r5,r6⟩:=WK k hk8
   have hsnoc:=makesF_snoc (x:=kids[k]) (h:=hh0) (i:=i) (kids.take k) sl7
   generalize hslk:makesF (kids.take k) hh0 i sl7=slk at *
   have hsl8:S8.D.sl=slk:=by rw [hD8]
   have hro8:S8.D.roots=S.D.roots:=by rw [hD8]
   rw [lna] at r4
   have hs8:slA S8.D.sl hh0=some ⟨g,true,1,nm,attrs,noB,p,ks⟩:=by rw [hsl8];exact r4
   refine hr8.e5 t6 rfl (k:=k) hk10 fun bb oo c0 c1 c2 c3 c4=>?_
   simp only [c0,c1,c2,c3,c4,lds]
   refine al fun kb w9 hb9 bk9 hge9=>?_
   refine st_blk bk9 sm fun u1 q1 f1=>st_blk q1 sm fun u2 q2 f2=>st_blk q2 sm fun u3 q3 f3=>st_blk q3 sm fun u4 q4 f4=>st_blk q4 sm fun w10 q5 f5=>?_
   simp only [sls] at q5
   have FK:Fm (·=kb) w9 w10:=(((f1.trans f2).trans f3).trans f4).trans f5
   have D10:Below w8.heap.size w8 w10:=hb9.trans (FK.toBelow hb9.size fun b hb e=>by have e:b=kb:=e;omega)
   have D10d:Below w8.heap.size w8 w10.drew:=btr D10 D10.size ((Below.refl _ _).drew)
   have h10:=h8.below D10d
   obtain⟨i8,i8a,i8b,i8c,i8d⟩:=h10.of hs8
   obtain rfl:i=i8:=by omega
   have hpb8:pb S8.bs hh0=b:=hfin ⟨y8,hy8⟩
   rw [hpb8] at i8b
   obtain⟨v,cv,ov,rv,lv⟩:=h10.list (.inr i8d)
   have hlad:lad θ.g S8.bs hh0=⟨b,8,none⟩:=by unfold lad;rw [if_neg hne,hpb8]
   rw [hlad] at cv
   have okb:o8 kb=0:=byc fun h0=>by have:=h8.lt kb h0;omega
   simp only [nds]
   refine⟨fun w'=>w'.cell? ⟨b,8,none⟩=some (slV v)/\Blk w' kb #[.int .i64 es[k].kind,.string es[k].nm,slV es[k].ats,.string es[k].text,slV es[k].kids] 48,⟨cv,q5⟩,?_⟩
   refine⟨_,_,_,fun w' hw'=>hw'.1,?_⟩
   refine⟨_,fun w' hw'=>by rw [hw'.2.cell];rfl,?_⟩
   refine⟨_,fun w' hw'=>by rw [hw'.2.cell];rfl,?_⟩
   refine⟨_,_,_,fun w' hw'=>by rw [hw'.2.cell];rfl,?_⟩
   refine⟨_,fun w' hw'=>by rw [hw'.2.cell];rfl,?_⟩
   refine⟨_,_,_,fun w' hw'=>by rw [hw'.2.cell];rfl,?_⟩
   have hdk:=dpL_get kids k hk9
   have hzk:=szL_get kids k hk9
   have hA8:WfA (slA S8.D.sl) S8.D.roots (hh0 :: loose):=by rw [hsl8,hro8];exact r2
   have hw8:WfS S8.D.sl:=by rw [hsl8];exact r1
   have hck:Ch (slA S8.D.sl) hh0 (c+1):=by
    rw [hsl8]
    exact .succ hne r4 (hc.mono fun y t hy=>⟨t,r6 y t hy,rfl⟩)
   have om1:c+1+dpT kids[k]<=64:=by omega
   have om2:tk S8.D.sl+szT kids[k]<=4096:=by rw [hsl8];omega
   have key:=fun R=>ih kids[k] (gem hk9) (w:=w10.drew) (o:=o8) (S:=S8) (p:=hh0) (c:=c+1) (loose:=hh0 :: loose) (e:=es[k]) (R:=R) h10 p8 (okL_get kids k hk9 (ok3 hkk)) hw8 hA8 (.inr ⟨_,hs8,rfl⟩) hck om1 om2
    (RTr.sub (EvP.sub (EvC.below D10d)) _ _ (RTr.sub hsub8 _ _ (t8.get k hk9 hk10)))
   rw [hfinp ⟨y8,hy8⟩] at key
   refine key _ fun w11 o11 S11 h11 p11 hD11 ⟨y11,hy11⟩ e11=>⟨_,rfl,?_⟩
   clear key
   have hlive8:∃s,S8.D.sl[i]?=some s/\s.live=true:=⟨_,i8c,slA_live hs8⟩
   have hbk:w11.heap[b]?=w10.drew.heap[b]?:=e11.fm.block b (agi.1 (h10.nodes i b _ i8b i8c).choose_spec.choose_spec.blk).1 (by
    rw [h10.nc i b i8b]
    rintro ⟨_,hc⟩
    exact hc i _ i8c (slA_live hs8) rfl)
   have hcell:w11.cell? ⟨b,8,none⟩=some (slV v):=by
    rw [<-cv];unfold World.cell?;rw [hbk]
   have hkb:Blk w11 kb #[.int .i64 es[k].kind,.string es[k].nm,slV es[k].ats,.string es[k].text,slV es[k].kids] 48:=e11.fm.blk (show Blk w10.drew kb _ _ from q5) (by rw [okb];exact Cl_zero)
   have Mk:=make_wf kids[k] (okL_get kids k hk9 (ok3 hkk)) hw8 hA8 (.inr ⟨_,hs8,rfl⟩) hck om1 om2
   have hne2:freshH S8.D.sl≠0:=by unfold freshH hnd;omega
   have hptr:ptrH S11.bs (freshH S8.D.sl)=some ⟨pb S11.bs (freshH S8.D.sl),0,none⟩:=by unfold ptrH;rw [if_neg hne2]
   rw [hptr]
   have hsl11:S11.D.sl=makeF kids[k] hh0 S8.D.sl:=by rw [hD11]
   have hro11:S11.D.roots=S.D.roots:=by rw [hD11,hD8]
   have hs11:slA S11.D.sl hh0=some ⟨g,true,1,nm,attrs,noB,p,ks⟩:=by rw [hsl11];exact Mk.ext _ _ hs8
   obtain⟨i11,i11a,i11b,i11c,i11d⟩:=h11.of hs11
   obtain rfl:i=i11:=by omega
   have hpb11:pb S11.bs hh0=b:=hfin ⟨y8++y11,by rw [hy11,hy8,laa]⟩
   rw [hpb11] at i11b
   obtain⟨v11,cv11,ov11,rv11,lv11⟩:=h11.list (.inr i11d)
   have hlad11:lad θ.g S11.bs hh0=⟨b,8,none⟩:=by unfold lad;rw [if_neg hne,hpb11]
   rw [hlad11,hcell] at cv11
   have hvv:v11=v:=by
    obtain⟨a1,a2,a3⟩:=v
    obtain⟨c1,c2,c3⟩:=v11
    unfold slV at cv11
    simp only [Option.some.injEq,Value.slice.injEq] at cv11
    obtain⟨rfl,rfl,rfl⟩:=cv11
    rfl
   subst hvv
   have hlst:lstR S11.D hh0=ks:=by
    unfold lstR
    rw [if_neg hne,hh,nasc,i11c]
   rw [hlst] at ov11
   refine⟨⟨hcell,hkb⟩,al fun g57 w12 hb12 b57 hge57=>⟨⟨by rw [(sub_below hb12).cell hcell],hkb.keep hb12⟩,?_⟩⟩
   obtain⟨A9,c9,hv9,hr9⟩:=ov11.form
   have hlen9:(ks.map (pb S11.bs)).length=ks.length:=lmp _
   have hks4:ks.length<=S8.D.sl.length:=live_few (fun x hx=>by
    obtain⟨_,t,ht,_⟩:=(hA8.kid hh0 _ hs8).2 x hx
    exact⟨t,ht⟩) (hA8.kid hh0 _ hs8).1
   have hfew8:=h8.few
   have hO12:Own LPt w12 0 140 (slV v11) (ks.map (pb S11.bs)):=ov11.keep hb12
   refine ap (L:=LPt) (xs:=ks.map (pb S11.bs)) (ys:=[pb S11.bs (freshH S8.D.sl)]) (base:=0) (v:=slV v11) (.pointer none) 8 rfl kr kr kr hO12 ?_ (Nat.zero_le _) (by rw [hlen9];simp;omega) (by rw [hlen9];simp [maxLen];omega) fun A' c' w13 o13 g13=>⟨A',_,c',rfl,?_⟩
   ·refine⟨sm,by simp [maxLen],fun h0=>(by cases h0),fun _=>⟨g57,0,rfl,fun j u hj=>?_⟩⟩
    rw [LPt.all_one] at hj
    rw [b57.cell];simpa [LPt] using hj
   ·obtain⟨st,hst,hstp⟩:=Mk.top
    have hst11:slA S11.D.sl (freshH S8.D.sl)=some st:=by rw [hsl11];exact hst
    have F13:Fm (fun x=>rowOf (slV v11)=some x) w11 w13:=(Fm.below hb12).trans (Fm.grown g13.grown fun x hx=>hx)
    have hrow13:rowOf (slV (A',(ks.map (pb S11.bs)).length+[pb S11.bs (freshH S8.D.sl)].length,c'))=rowOf (slV v11)\/rowOf (slV (A',(ks.map (pb S11.bs)).length+[pb S11.bs (freshH S8.D.sl)].length,c'))=none\/∃g,rowOf (slV (A',(ks.map (pb S11.bs)).length+[pb S11.bs (freshH S8.D.sl)].length,c'))=some g/\w11.heap.size<=g:=by
     rcases g13.row with e | e | ⟨g,e,hge⟩
     ·exact .inl e
     ·exact .inr (.inl e)
     ·exact .inr (.inr ⟨g,e,by have:=hb12.size;omega⟩)
    have hkin:∀x∈ks++[freshH S8.D.sl],inN S11.D.sl.length x:=fun x hx=>by
     rcases List.mem_append.1 hx with hx | hx
     ·exact (h11.rng _ (mog i11c)).kids x hx
     ·rw [msg] at hx
      subst hx
      obtain⟨_,_,_,_,hin⟩:=h11.of hst11
      exact hin
    have hst14:=fun K=>h11.setList (K:=K) (p:=hh0) (v':=(A',(ks.map (pb S11.bs)).length+[pb S11.bs (freshH S8.D.sl)].length,c')) (l:=ks++[freshH S8.D.sl]) (.inr i11d) rv11 F13 (by rw [List.map_append];exact o13) hrow13 ⟨hkin,by simp;omega⟩
    rw [hlad11] at hst14
    refine hst14 _ fun w14 o14 h14 e14=>⟨inR_i64 om om,⟨k+1,o14,_,sm,om,h14,?_,?_,⟨y8++y11,?_⟩,?_⟩,odz⟩
    ·-- the counters
     have hi11:=i11c
     have e5:(setI S11.D hh0 (ks++[freshH S8.D.sl])).sl=S11.D.sl.set i ⟨g,true,1,nm,attrs,noB,p,ks++[freshH S8.D.sl]⟩:=by
      unfold setI
      rw [if_neg hne,hh,nasc,modify_set _ _ _ _ hi11]
     have e6:(setI S11.D hh0 (ks++[freshH S8.D.sl])).roots=S11.D.roots:=by
      unfold setI
      rw [if_neg hne]
     have:=p11.set (s':=⟨g,true,1,nm,attrs,noB,p,ks++[freshH S8.D.sl]⟩) hi11 rfl rfl
     refine⟨?_,?_,?_,?_⟩
     ·show S11.lv=liveN (setI _ _ _).sl;rw [e5];exact this.lv
     ·show S11.wn=wornN (setI _ _ _).sl;rw [e5];exact this.wn
     ·show S11.lo<=(setI _ _ _).sl.length;rw [e5];exact this.lo
     ·intro j t hj ht
      have ht:(setI S11.D hh0 (ks++[freshH S8.D.sl])).sl[j]?=some t:=ht
      rw [e5] at ht
      exact this.lo2 j t hj ht
    ·show setI S11.D hh0 (ks++[freshH S8.D.sl])=_
     rw [tsa hk9,hsnoc]
     unfold setI
     rw [if_neg hne,hh,nasc]
     have hi8:(makeF kids[k] hh0 slk)[i]?=some ⟨g,true,1,nm,attrs,noB,p,ks⟩:=by rw [<-hsl8,<-hsl11];exact i11c
     rw [hD11,hD8]
     dsimp only
     rw [modify_set _ _ _ _ hi8,modify_set _ _ _ _ hi8]
    ·show S11.bs=_
     rw [hy11,hy8,laa]
    ·have hC:∀b,b<w1.heap.size->Cl S8 (o b)->Cl S (o b):=fun x _ hx=>⟨hx.1,fun j t hj hl=>by
      have hjl:j+1<4294967296:=by
       have:=(gsi.1 hj).1
       have:=hw.few
       omega
      have h1:=r6 _ _ (slA_hnd hjl hj hl)
      rw [<-hsl8] at h1
      obtain⟨j',j1,j2,j3,j4⟩:=slA_iff.1 h1
      rw [hnd_mod hjl] at j1
      obtain rfl:j'=j:=by omega
      exact hx.2 j' t j2 j3⟩
     have e18:=(e8.trans Cl_zero h1.lt (fun _ _ h=>h) (EvC.below (C:=Cl S) D10d)).trans Cl_zero h1.lt hC e11
     exact e18.trans Cl_zero h1.lt (fun x _ hx=>by
      refine nd ?_
      unfold lcC at hx
      rw [if_neg hne,hh,nasc] at hx
      exact hx) e14
end
section
variable {w w1 w2:Wd}{o o1 o2:Nat->Nat}{θ:Th}{S:PS}{M:Nat->Prop}{bs:List Nat}{R:RT}
theorem ptrL_H (h0:slA S.D.sl 0=none) {x:Nat} (hx:x=0\/∃s,slA S.D.sl x=some s):ptrL S x=ptrH S.bs x:=by
 unfold ptrL ptrH
 rcases hx with rfl | ⟨s,hs⟩
 ·rw [h0];simp
 ·have:x≠0:=fun e=>by subst e;rw [h0] at hs;cases hs
  rw [hs,if_neg this];simp
theorem lstI_R {p:Nat} (hp:p=0\/∃s,slA S.D.sl p=some s):lstR S.D p=lstI S.D p:=by
 unfold lstR lstI lstA
 by_cases h0:p=0
 ·rw [if_pos h0,if_pos h0]
 ·rw [if_neg h0,if_neg h0]
  obtain⟨s,hs⟩:=hp.resolve_left h0
  obtain⟨k,h1,h2,_⟩:=slA_iff.1 hs
  rw [h1,nasc,h2,hs]
theorem pb_inj (h:PM w o θ S) {x y:Nat}{s t:Sl} (hx:slA S.D.sl x=some s) (hy:slA S.D.sl y=some t) (e:pb S.bs x=pb S.bs y):x=y:=by
 obtain⟨i,i1,i2,i3,_⟩:=h.of hx
 obtain⟨j,j1,j2,j3,_⟩:=h.of hy
 rw [e] at i2
 obtain rfl:=nodup_col h i2 j2
 obtain⟨i',a1,a2,a3,a4⟩:=slA_iff.1 hx
 obtain⟨j',b1,b2,b3,b4⟩:=slA_iff.1 hy
 obtain rfl:i'=i:=by omega
 obtain rfl:j'=i':=by omega
 rw [a2] at b2;cases b2
 exact a4.symm.trans b4
theorem idxOf_map {f:Nat->Nat}{a:Nat}:∀{l:List Nat},(∀x∈l,f x=f a->x=a)->(l.map f).idxOf (f a)=l.idxOf a
 | [],_=>rfl
 | x :: l,h=>by
  rw [List.map_cons,List.idxOf_cons,List.idxOf_cons]
  by_cases e:x=a
  ·subst e;simp
  ·have h1:f x≠f a:=fun e2=>e (h x sm e2)
   have e1:(f x == f a)=false:=by simpa using h1
   have e2:(x == a)=false:=by simpa using e
   rw [e1,e2]
   simp only [cond_false]
   rw [idxOf_map fun y hy=>h y (by simp [hy])]
theorem take_drop_erase {a:Nat}:∀{l:List Nat},a∈l->l.take (l.idxOf a)++l.drop (l.idxOf a+1)=l.erase a
 | [],h=>by simp at h
 | x :: l,h=>by
  rw [List.idxOf_cons,List.erase_cons]
  by_cases e:x=a
  ·subst e;simp
  ·have e2:(x == a)=false:=by simpa using e
   rw [e2]
   simp only [cond_false,List.take_succ_cons,List.drop_succ_cons,List.cons_append,Bool.false_eq_true,if_false]
   rw [take_drop_erase ((mcn.1 h).resolve_left (Ne.symm e))]
theorem pb_cells (h:PM w o θ S) {x:Nat}{s:Sl} (hx:slA S.D.sl x=some s):∃c t,w.heap[pb S.bs x]?=some (.cells c t (0,0)):=by
 obtain⟨i,i1,i2,i3,_⟩:=h.of hx
 obtain⟨a,kv,hn⟩:=h.nodes _ _ _ i2 i3
 exact⟨_,_,hn.blk⟩
theorem idxH_calls (h:PM w o θ S) {l:List Nat}{v:Sv}{a:Nat}{s:Sl} (hv:v.2.1=l.length) (hr:Rd LPt w v.1 v.2.2 (l.map (pb S.bs))) (hl:l.length<=1048576) (ha:slA S.D.sl a=some s) (hll:∀x∈l,∃t,slA S.D.sl x=some t) (hm:a∈l)
  (hK:R (.returned (.int .i64 (l.idxOf a:Nat))) w):CL 170 #[slV v,.pointer (some ⟨pb S.bs a,0,none⟩)] w R:=by
 refine idx_calls (l:=l.map (pb S.bs)) (by rw [lmp];exact hv) hr (by rw [lmp];exact hl) (fun x hx=>?_) (List.mem_map.2 ⟨a,hm,rfl⟩) ?_
 ·rcases hx with rfl | hx
  ·exact pb_cells h ha
  ·obtain⟨y,hy,rfl⟩:=List.mem_map.1 hx
   obtain⟨t,ht⟩:=hll y hy
   exact pb_cells h ht
 ·rw [idxOf_map fun x hx e=>?_]
  ·exact hK
  ·obtain⟨t,ht⟩:=hll x hx
   exact pb_inj h ht ha e
theorem out_calls (h:PM w o θ S) {n:Nat}{s:Sl} (hn:slA S.D.sl n=some s) (hp:s.parent=0\/∃t,slA S.D.sl s.parent=some t) (hm:n∈lstI S.D s.parent) (hll:∀x∈lstI S.D s.parent,∃t,slA S.D.sl x=some t)
  (hK:∀w' o',PM w' o' θ { S with D:=outI S.D n }->EvC (lcC s.parent) w o w' o'->R (.returned (.tuple #[])) w'):CL 202 #[.pointer (some ⟨θ.g,0,none⟩),.pointer (some ⟨pb S.bs n,0,none⟩)] w R:=by
 obtain⟨i,i1,i2,i3,i4⟩:=h.of hn
 have hpn:s.parent=0\/inN S.D.sl.length s.parent:=(h.rng s (mog i3)).par
 refine ok202 (some ⟨θ.g,0,none⟩) (some ⟨pb S.bs n,0,none⟩) ?_
 unfold F202
 simp only [NonNil_some,Addr.add_mk,nza,h.cPar i2 i3,lds]
 refine list_calls ⟨_,rfl,?_⟩
 obtain⟨v,cv,ov,rv,lv⟩:=h.list hpn
 rw [lstI_R hp] at ov lv
 obtain⟨A,c,hv,hr⟩:=ov.form
 have hv2:v=(A,(lstI S.D s.parent).length,c):=by
  obtain⟨a1,a2,a3⟩:=v
  unfold slV at hv
  simp only [Value.slice.injEq,lmp] at hv
  obtain⟨rfl,rfl,rfl⟩:=hv
  rfl
 have cv':w.cell? (lad θ.g S.bs s.parent)=some (.slice A (lstI S.D s.parent).length c):=by rw [cv,hv2];rfl
 simp only [NonNil_some,cv',LdSl_some]
 refine idxH_calls (v:=(A,(lstI S.D s.parent).length,c)) h rfl hr lv hn hll hm ⟨_,rfl,?_⟩
 simp only [NonNil_some,cv',LdSl_some]
 have hlt:(lstI S.D s.parent).idxOf n<(lstI S.D s.parent).length:=ioi.2 hm
 refine⟨inR_i64 om om,?_⟩
 have e1:(((lstI S.D s.parent).idxOf n:Nat):Int)+1=(((lstI S.D s.parent).idxOf n+1:Nat):Int):=by omega
 rw [e1]
 rw [hv2] at ov rv
 refine delP_calls ov om (by rw [lmp];omega) fun v' w1 o1 f1 r1=>⟨_,_,_,rfl,?_⟩
 rw [<-List.map_take,<-List.map_drop,<-List.map_append,take_drop_erase hm] at o1
 refine h.setList (v':=v') hpn rv f1 o1 r1 ⟨fun x hx=>?_,?_⟩ fun w2 o2 h2 e2=>?_
 ·obtain⟨t,ht⟩:=hll x (List.mem_of_mem_erase hx)
  obtain⟨_,_,_,_,hin⟩:=h.of ht
  exact hin
 ·exact nlt List.length_erase_le lv
 ·refine hK w2 o2 ?_ e2
  unfold outI
  rw [hn];exact h2
theorem put_calls (h:PM w o θ S) {n p a:Nat}{wh:Int}{s:Sl} (hn:slA S.D.sl n=some s) (hp:p=0\/∃t,slA S.D.sl p=some t) (hll:∀x∈lstI S.D p,∃t,slA S.D.sl x=some t) (hfew:(lstI S.D p).length<=4096)
  (ha:2<wh->a∈lstI S.D p) (hnp:n≠p)
  (hK:∀w' o',PM w' o' θ { S with D:=updI (putI S.D n p wh a) n fun s=>{ s with parent:=p } }->EvP w o w' o'->R (.returned (.tuple #[])) w') :
  CL 118 #[.pointer (some ⟨θ.g,0,none⟩),.pointer (some ⟨pb S.bs n,0,none⟩),.pointer (ptrH S.bs p),.int .i64 wh,.pointer (ptrH S.bs a)] w R:=by
 obtain⟨i,i1,i2,i3,i4⟩:=h.of hn
 have hpn:p=0\/inN S.D.sl.length p:=by
  rcases hp with e | ⟨t,ht⟩
  ·exact .inl e
  ·obtain⟨_,_,_,_,hin⟩:=h.of ht;exact .inr hin
 refine ok118 (some ⟨θ.g,0,none⟩) (some ⟨pb S.bs n,0,none⟩) (ptrH S.bs p) wh (ptrH S.bs a) ?_
 unfold F118
 refine list_calls ⟨_,rfl,?_⟩
 obtain⟨v,cv,ov,rv,lv⟩:=h.list hpn
 rw [lstI_R hp] at ov lv
 generalize hL:lstI S.D p=l at *
 obtain⟨A,c,hv,hr⟩:=ov.form
 have hv2:v=(A,l.length,c):=by
  obtain⟨a1,a2,a3⟩:=v
  unfold slV at hv
  simp only [Value.slice.injEq,lmp] at hv
  obtain⟨rfl,rfl,rfl⟩:=hv
  rfl
 have cv':w.cell? (lad θ.g S.bs p)=some (.slice A l.length c):=by rw [cv,hv2];rfl
 rw [hv2] at ov rv
 have hpos:posF wh a l<=l.length:=by
  unfold posF
  split
  ·omega
  ·split
   ·exact List.idxOf_le_length
   ·split
    ·have:=ioi.2 (ha om);omega
    ·omega
 refine⟨fun j w'=>w=w'/\j=(posF wh a l:Nat),?_,?_⟩
 ·rintro j _ ⟨rfl,rfl⟩
  unfold F118_j9
  simp only [NonNil_some,cv',LdSl_some]
  refine al fun gx w1 hb1 bx hgex=>?_
  have h1:=h.below hb1
  refine insP_calls (x:=pb S.bs n) (ov.keep hb1) (by rw [lmp];exact hpos) bx rfl (fun e=>by
   have:=rv gx e
   have:=h.lt gx (by unfold lcl at this;split at this <;> omega)
   omega) (by rw [lmp];omega) fun v' w2 o2 f2 r2=>⟨_,_,_,rfl,?_⟩
  rw [<-List.map_take,<-List.map_drop,<-List.map_cons,<-List.map_append] at o2
  refine h1.setList (v':=v') (l:=insAt l (posF wh a l) n) hpn rv f2 o2 r2 ⟨fun x hx=>?_,?_⟩ fun w3 o3 h3 e3=>?_
  ·rcases mem_insAt.1 hx with rfl | hx
   ·exact i4
   ·obtain⟨t,ht⟩:=hll x hx
    obtain⟨_,_,_,_,hin⟩:=h.of ht
    exact hin
  ·unfold insAt;simp;omega
  ·have e4:slA (setI S.D p (insAt l (posF wh a l) n)).sl n=some s:=by
    rw [(setI_A (l:=insAt l (posF wh a l) n) hp).1,setA_of hn,if_neg (fun e=>hnp e.1)]
   obtain⟨j,j1,j2,j3,j4⟩:=h3.of e4
   obtain rfl:i=j:=by omega
   simp only [nds]
   have hlen3:(setI S.D p (insAt l (posF wh a l) n)).sl.length=S.D.sl.length:=by
    unfold setI;split
    ·rfl
    ·simp
   have:=fun K=>h3.stPar (K:=K) j2 j3 (p:=p) (by dsimp only;rw [hlen3];exact hpn)
   refine this _ fun w4 h4 e4'=>?_
   refine hK w4 o3 ?_ (EvP.trans (EvP.trans (EvC.below hb1) (e3.mono fun c hc=>?_)) (e4'.mono fun c hc=>?_))
   ·have e5:({ S with D:=setI S.D p (insAt l (posF wh a l) n) }:PS).setS i { s with parent:=p }={ S with D:=updI (putI S.D n p wh a) n fun s=>{ s with parent:=p } }:=by
     unfold PS.setS updI putI
     rw [hL,i1,nasc,modify_set _ _ _ _ j3]
    rw [<-e5];exact h4
   ·unfold lcC at hc
    unfold pc
    split at hc <;> omega
   ·unfold pc;omega
 ·refine bre (fun h2=>?_) (fun h2=>bre (fun h3=>?_) (fun h3=>bre (fun h4=>?_) (fun h4=>?_)))
  ·simp only [NonNil_some,cv',LdSl_some]
   exact⟨trivial,by unfold posF;rw [if_pos h2]⟩
  ·simp only [NonNil_some,cv',LdSl_some]
   have ham:=ha om
   obtain⟨t,ht⟩:=hll a ham
   have a0:ptrH S.bs a=some ⟨pb S.bs a,0,none⟩:=by
    unfold ptrH;rw [if_neg]
    rintro rfl;rw [slA_zero] at ht;cases ht
   rw [a0]
   refine idxH_calls (v:=(A,l.length,c)) h rfl hr lv ht hll ham ⟨_,rfl,rfl,?_⟩
   unfold posF;rw [if_neg h2,if_pos h3]
  ·simp only [NonNil_some,cv',LdSl_some]
   have ham:=ha om
   obtain⟨t,ht⟩:=hll a ham
   have a0:ptrH S.bs a=some ⟨pb S.bs a,0,none⟩:=by
    unfold ptrH;rw [if_neg]
    rintro rfl;rw [slA_zero] at ht;cases ht
   rw [a0]
   have hlt:=ioi.2 ham
   refine idxH_calls (v:=(A,l.length,c)) h rfl hr lv ht hll ham ⟨_,rfl,inR_i64 om om,rfl,?_⟩
   unfold posF;rw [if_neg h2,if_neg h3,if_pos h4];omega
  ·exact⟨rfl,by unfold posF;rw [if_neg h2,if_neg h3,if_neg h4];rfl⟩
noncomputable def chN (A:Nat->Option Sl) (bs:List Nat) (p:OA):Nat:=by
 classical exact if h:∃d q,p=ptrH bs q/\Ch A q d then h.choose else 0
theorem chN_eq (h:PM w o θ S) {q d:Nat} (hq:Ch (slA S.D.sl) q d):chN (slA S.D.sl) S.bs (ptrH S.bs q)=d:=by
 have hex:∃d' q',ptrH S.bs q=ptrH S.bs q'/\Ch (slA S.D.sl) q' d':=⟨d,q,rfl,hq⟩
 unfold chN
 rw [dif_pos hex]
 obtain⟨q',e1,e2⟩:=hex.choose_spec
 generalize hex.choose=d' at e2 |-
 have:q=q':=by
  cases hq with
  | zero=>
   cases e2 with
   | zero=>rfl
   | succ h0 _ _=>unfold ptrH at e1;rw [if_pos rfl,if_neg h0] at e1;cases e1
  | succ h0 ha _=>
   cases e2 with
   | zero=>unfold ptrH at e1;rw [if_neg h0,if_pos rfl] at e1;cases e1
   | succ h0' ha' _=>
    unfold ptrH at e1;rw [if_neg h0,if_neg h0'] at e1
    simp only [Option.some.injEq,Addr.mk.injEq,and_true] at e1
    exact pb_inj h ha ha' e1
 rw [<-this] at e2
 exact e2.fn hq
theorem within_calls (h:PM w o θ S) {n x c:Nat}{s:Sl} (hn:slA S.D.sl n=some s) (hc:Ch (slA S.D.sl) x c) (hc2:c<=64) (hx:x≠0)
  (hK:R (.returned (.bool (wiI S.D n x))) w):CL 200 #[.pointer (ptrH S.bs x),.pointer (some ⟨pb S.bs n,0,none⟩)] w R:=by
 refine ok200 (ptrH S.bs x) (some ⟨pb S.bs n,0,none⟩) ?_
 unfold F200
 have hok:∀q d,Ch (slA S.D.sl) q d->PtrOk w (ptrH S.bs q) (some ⟨pb S.bs n,0,none⟩):=fun q d hq p r e1 e2 hne=>by
  cases hq with
  | zero=>unfold ptrH at e1;rw [if_pos rfl] at e1;cases e1
  | succ h0 ha _=>
   unfold ptrH at e1;rw [if_neg h0] at e1;cases e1;cases e2
   exact⟨pb_cells h ha,pb_cells h hn⟩
 refine⟨fun n2 w'=>w=w'/\∃q d,n2=ptrH S.bs q/\Ch (slA S.D.sl) q d/\(wiI S.D n x=true↔q=n) ,?_,?_⟩
 ·rintro n2 _ ⟨rfl,q,d,rfl,hq,he⟩
  unfold F200_j3
  refine⟨hok q d hq,?_⟩
  have e:decide (ptrH S.bs q=some ⟨pb S.bs n,0,none⟩)=wiI S.D n x:=by
   rw [Bool.eq_iff_iff,dete,he]
   cases hq with
   | zero=>
    constructor
    ·intro e;unfold ptrH at e;rw [if_pos rfl] at e;cases e
    ·rintro rfl;rw [slA_zero] at hn;cases hn
   | succ h0 ha _=>
    unfold ptrH;rw [if_neg h0]
    constructor
    ·intro e
     simp only [Option.some.injEq,Addr.mk.injEq,and_true] at e
     exact pb_inj h ha hn e
    ·rintro rfl;rfl
  rw [e];exact hK
 ·refine⟨fun n2 w'=>w=w'/\∃q d r,n2=ptrH S.bs q/\Ch (slA S.D.sl) q d/\d<r/\wiB (slA S.D.sl) r n q=wiI S.D n x,fun n2 w'=>chN (slA S.D.sl) S.bs n2,⟨rfl,x,c,65,rfl,hc,om,rfl⟩,?_⟩
  rintro n2 _ ⟨rfl,q,d,r,rfl,hq,hr,he⟩
  have hm:=chN_eq h hq
  unfold F200_l1
  refine⟨fun w'=>w=w'/\q≠0/\q≠n,?_,?_⟩
  ·rintro _ ⟨rfl,hq0,hqn⟩
   unfold F200_j2
   cases hq with
   | zero=>exact absurd rfl hq0
   | @succ _ d' t h0 ha h3=>
    obtain⟨k,k1,k2,k3,_⟩:=h.of ha
    have e:ptrH S.bs q=some ⟨pb S.bs q,0,none⟩:=by unfold ptrH;rw [if_neg hq0]
    rw [e] at hm |-
    simp only [NonNil_some,Addr.add_mk,nza,h.cPar k2 k3,lds]
    obtain⟨r',rfl⟩:∃r',r=r'+1:=⟨r-1,om⟩
    refine⟨⟨trivial,t.parent,d',r',rfl,h3,om,?_⟩,?_⟩
    ·rw [<-he,wiB,if_neg hq0,if_neg hqn,ha]
    ·rw [chN_eq h h3,hm];omega
  ·obtain⟨r',rfl⟩:∃r',r=r'+1:=⟨r-1,om⟩
   have hJ3:(wiI S.D n x=true↔q=n)->True/\∃q' d,ptrH S.bs q=ptrH S.bs q'/\Ch (slA S.D.sl) q' d/\(wiI S.D n x=true↔q'=n):=fun e=>⟨trivial,q,d,rfl,hq,e⟩
   cases hq with
   | zero=>
    have e:(ptrH S.bs 0).isNone=true:=rfl
    rw [e]
    simp only [Bool.not_true,Br_f]
    refine hJ3 ?_
    rw [<-he,wiB,if_pos rfl]
    constructor
    ·intro h;cases h
    ·rintro rfl;rw [slA_zero] at hn;cases hn
   | @succ _ d' t h0 ha h3=>
    have e:ptrH S.bs q=some ⟨pb S.bs q,0,none⟩:=by unfold ptrH;rw [if_neg h0]
    have e1:(ptrH S.bs q).isNone=false:=by rw [e];rfl
    rw [e1]
    simp only [Bool.not_false,Br_t]
    refine⟨hok q _ (.succ h0 ha h3),?_⟩
    rw [brnot]
    refine brd (fun h4=>?_) (fun h4=>?_)
    ·have hqn:q=n:=by
      rw [e] at h4
      simp only [Option.some.injEq,Addr.mk.injEq,and_true] at h4
      exact pb_inj h ha hn h4
     refine hJ3 ?_
     rw [<-he,wiB,if_neg h0,if_pos hqn]
     exact⟨fun _=>hqn,fun _=>rfl⟩
    ·refine⟨trivial,h0,fun e2=>h4 ?_⟩
     rw [e,e2]
end
theorem Tabs.sub {w w1:Wd} (h:Tabs w) (hs:Sub w w1):Tabs w1:=⟨fun c hc=>hs.cell (h.1 c hc),fun i hi=>⟨hs.cell (h.2 i hi).1,hs.cell (h.2 i hi).2⟩⟩
theorem looks_app:∀(l m:List Tr) (deep n:Nat),looksF (l++m) deep n=if (looksF l deep n).2≠0 then looksF l deep n else looksF m deep (looksF l deep n).1
 | [],m,deep,n=>by simp [looksF]
 | x :: l,m,deep,n=>by
  rw [List.cons_append,looksF]
  conv=>rhs;rw [looksF]
  by_cases h:(lookF x deep n).2≠0
  ·simp only [if_pos h]
  ·simp only [if_neg h]
   exact looks_app l m deep _
theorem dpL_snoc (l:List Tr) (x:Tr):dpL (l++[x])=max (dpL l) (dpT x):=by
 induction l with
 | nil=>simp [dpL]
 | cons y l ih=>simp only [List.cons_append,dpL,ih];omega
theorem subB {w w':Wd}{gl:Nat} (hf:Fm (·=gl) w w'):Sub (but gl w) (but gl w'):=
 sub_only (fun b _ h=>h) fun b hb h=>hf.block b hb fun e=>by
  have e:b=gl:=e
  subst e
  rw [show Nat.beq b b=true from Nat.beq_refl b] at h;cases h
theorem look_calls:∀(x:Tr) {w:Wd}{gl deep n md:Nat}{e:E5}{R:RT},Blk w gl #[.int .i64 (n:Nat),.int .i64 (md:Nat)] 204->RTr (but gl w) x e->Tabs (but gl w)->n<=4096->deep<=65->1<=deep->md<=65 ->
  (∀w' n' md',Fm (·=gl) w w'->Blk w' gl #[.int .i64 (n':Nat),.int .i64 (md':Nat)] 204->n'=(lookF x deep n).1->((lookF x deep n).2=0->md'=max md (deep+dpT x-1))->R (.returned (.int .i64 (lookF x deep n).2)) w') ->
  CL 113 #[.pointer (some ⟨gl,0,none⟩),.agg #[.int .i64 e.kind,.string e.nm,slV e.ats,.string e.text,slV e.kids],.int .i64 (deep:Nat)] w R:=by
 refine Tr.ind fun kind nm attrs text kids ih=>?_
 intro w gl deep n md e R hB hT hTb hn hd hd1 hmd hK
 have hT0:=hT
 simp only [RTr] at hT
 obtain⟨t1,t2,t3,t4,t5,es,t6,t7,t8⟩:=hT
 have hel:=t8.len
 refine ok113 (some ⟨gl,0,none⟩) e.kind e.nm e.ats.1 e.ats.2.1 e.ats.2.2 e.text e.kids.1 e.kids.2.1 e.kids.2.2 (deep:Nat) ?_
 unfold F113
 refine al fun g4 w1 hb1 b4 hge4=>?_
 have hgl:=hB.lt
 have hB1:=hB.keep hb1
 have hne4:g4≠gl:=by omega
 have hlook:lookF (.mk kind nm attrs text kids) deep n=if 64<deep\/4096<=n then (n,2) else if ownF kind nm attrs text≠0 then (n,ownF kind nm attrs text) else if kind=2 then (n+1,0) else looksF kids (deep+1) (n+1):=by rw [lookF]
 refine⟨fun w'=>w1=w'/\¬(64<deep\/4096<=n),?_,?_⟩
 ·rintro _ ⟨rfl,hlim⟩
  rw [if_neg hlim] at hlook
  unfold F113_j3
  simp only [NonNil_some,b4.cell,lds]
  have hs1:Sub (but gl w) (but gl w1):=subB (.below hb1)
  refine own1_calls e.kind e.nm attrs e.ats e.text e.kids ((hTb.sub hs1).sub sub_of_only) ((t4.sub hs1).sub sub_of_only) fun w2 hb2=>⟨_,rfl,?_⟩
  rw [t1,t2,t3]
  have hB2:=hB1.keep hb2
  have b42:=b4.keep hb2
  refine brn (fun hne=>?_) (fun heq=>?_)
  ·rw [if_pos hne] at hlook
   have:=hK w2 n md (.below (btr hb1 hb1.size hb2)) hB2 (by rw [hlook]) (fun h=>by rw [hlook] at h;exact absurd h hne)
   rw [hlook] at this;exact this
  rw [if_neg (by rw [heq];simp)] at hlook
  simp only [NonNil_some,hB2.cell,lds]
  have e5:(n:Int)+1=((n+1:Nat):Int):=by omega
  rw [e5]
  refine⟨inR_i64 om om,st_blk hB2 sm fun w3 hB3 f3=>?_⟩
  simp only [sls] at hB3
  simp only [NonNil_some,hB3.cell,lds]
  refine st_blk hB3 sm fun w4 hB4 f4=>?_
  simp only [sls] at hB4
  have e6:(if (deep:Int) > (md:Int) then (deep:Int) else (md:Int))=((max md deep:Nat):Int):=by
   split <;> omega
  rw [e6] at hB4
  have F4:Fm (·=gl) w w4:=((Fm.below (btr hb1 hb1.size hb2)).trans f3).trans f4
  have b44:Blk w4 g4 _ 48:=(f3.trans f4).blk b42 (fun e=>hne4 e)
  simp only [NonNil_some,b44.cell,lds]
  have hpos:dpT (.mk kind nm attrs text kids)=if kind=2 then 1 else 1+dpL kids:=by rw [dpT]
  refine bre (fun hk=>?_) (fun hk=>?_)
  ·rw [if_pos (by rw [<-t1];exact hk)] at hlook hpos
   have:=hK w4 (n+1) (max md deep) F4 hB4 (by rw [hlook]) (fun _=>by rw [hpos];omega)
   rw [hlook] at this;exact this
  ·rw [if_neg (by rw [<-t1];exact hk)] at hlook hpos
   refine⟨fun j w'=>∃k n' md':Nat,j=k/\k<=kids.length/\Fm (·=gl) w w'/\Blk w' gl #[.int .i64 (n':Nat),.int .i64 (md':Nat)] 204/\(looksF (kids.take k) (deep+1) (n+1)).2=0/\n'=(looksF (kids.take k) (deep+1) (n+1)).1/\md'=max (max md deep) (deep+dpL (kids.take k))/\n'<=4096/\md'<=65,fun j _=>kids.length-j.toNat,
    ⟨0,n+1,max md deep,rfl,om,F4,hB4,by simp [looksF],by simp [looksF],by simp [dpL],om,om⟩,?_⟩
   rintro j w5 ⟨k,n5,md5,rfl,hk5,F5,hB5,q1,q2,q3,q4,q5⟩
   unfold F113_l11
   have hs5:Sub (but gl w) (but gl w5):=subB F5
   have hr5:Rd LE5 w5 e.kids.1 e.kids.2.2 es:=sub_of_only.rd (hs5.rd t7)
   refine brd (fun hlt=>?_) (fun hge=>?_)
   ·have hk6:k<kids.length:=by omega
    have hk7:k<es.length:=by omega
    refine hr5.e5 t6 rfl (k:=k) hk7 fun bb oo c0 c1 c2 c3 c4=>?_
    simp only [c0,c1,c2,c3,c4,lds]
    refine al fun kb w6 hb6 bk6 hge6=>?_
    refine st_blk bk6 sm fun u1 s1 f1=>st_blk s1 sm fun u2 s2 f2=>st_blk s2 sm fun u3 s3 f3=>st_blk s3 sm fun u4 s4 f4=>st_blk s4 sm fun w7 s5 f5=>?_
    simp only [sls] at s5
    have FK:Fm (·=kb) w6 w7:=(((f1.trans f2).trans f3).trans f4).trans f5
    have D7:Below w5.heap.size w5 w7:=hb6.trans (FK.toBelow hb6.size fun b hb e=>by have e:b=kb:=e;omega)
    simp only [NonNil_some,s5.cell,lds]
    have e8:(deep:Int)+1=((deep+1:Nat):Int):=by omega
    rw [e8]
    have hs7:Sub (but gl w) (but gl w7):=hs5.trans (subB (.below D7))
    refine⟨inR_i64 om om,?_⟩
    refine ih kids[k] (gem hk6) (gl:=gl) (n:=n5) (md:=md5) (e:=es[k]) (hB5.keep D7) (RTr.sub hs7 _ _ (t8.get k hk6 hk7)) (hTb.sub hs7) q4 om om q5 fun w8 n8 md8 F8 hB8 z1 z2=>⟨_,rfl,?_⟩
    have F58:Fm (·=gl) w w8:=(F5.trans (.below D7)).trans F8
    have hst:=looks_app (kids.take k) [kids[k]] (deep+1) (n+1)
    rw [if_neg (by rw [q1];simp),<-q2] at hst
    have hst2:looksF [kids[k]] (deep+1) n5=lookF kids[k] (deep+1) n5:=by
     rw [looksF]
     by_cases h:(lookF kids[k] (deep+1) n5).2≠0
     ·rw [if_pos h]
     ·rw [if_neg h,looksF]
      have h:(lookF kids[k] (deep+1) n5).2=0:=by simpa using h
      rw [<-h]
    rw [hst2,<-tsa hk6] at hst
    refine brn (fun hne=>?_) (fun heq=>?_)
    ·have hall:=looks_app (kids.take (k+1)) (kids.drop (k+1)) (deep+1) (n+1)
     rw [tad,hst,if_pos hne] at hall
     rw [hall] at hlook
     have:=hK w8 n8 md8 F58 hB8 (by rw [hlook];exact z1) (fun h=>by rw [hlook] at h;exact absurd h hne)
     rw [hlook] at this;exact this
    ·obtain⟨a1,a2,a3,a4⟩:=look_ok kids[k] (deep+1) n5 heq
     have z2:=z2 heq
     refine⟨inR_i64 om om,⟨k+1,n8,md8,sm,om,F58,hB8,by rw [hst];exact heq,by rw [hst];exact z1,?_,om,om⟩,odz⟩
     rw [tsa hk6,dpL_snoc]
     omega
   ·have hk6:k=kids.length:=by omega
    subst hk6
    rw [tkl] at q1 q2 q3
    have:=hK w5 n5 md5 F5 hB5 (by rw [hlook];exact q2) (fun _=>by rw [hpos];omega)
    rw [hlook,q1] at this;exact this
 ·have hbad:(64<deep\/4096<=n)->R (.returned (.int .i64 2)) w1:=fun h=>by
   rw [if_pos h] at hlook
   have:=hK w1 n md (.below hb1) hB1 (by rw [hlook]) (fun h=>by rw [hlook] at h;cases h)
   rw [hlook] at this;exact this
  refine brd (fun h=>hbad (.inl om)) (fun h=>?_)
  simp only [NonNil_some,hB1.cell,lds]
  exact brd (fun h2=>hbad (.inr om)) (fun h2=>⟨trivial,om⟩)
section
variable {w w1 w2:Wd}{o o1 o2:Nat->Nat}{θ:Th}{S:PS}{M:Nat->Prop}{bs:List Nat}{R:RT}
theorem fmax_le {f:Nat->Nat}{r:Nat}:∀(l:List Nat) (a:Nat),a<=r->(∀k∈l,f k<=r)->(l.map f).foldl max a<=r
 | [],a,ha,_=>by simpa using ha
 | x :: l,a,ha,h=>by
  rw [List.map_cons,List.foldl_cons]
  have:=h x sm
  exact fmax_le l _ om fun k hk=>h k (by simp [hk])
theorem fmax_snoc (l:List Nat) (a x:Nat):(l++[x]).foldl max a=max (l.foldl max a) x:=by simp
theorem depth_calls {loose:List Nat} (h:PM w o θ S) (hA:WfA (slA S.D.sl) S.D.roots loose):∀(r x c:Nat) {s:Sl}{R:RT},slA S.D.sl x=some s->Ch (slA S.D.sl) x c->c+r=65->R (.returned (.int .i64 (dpA (slA S.D.sl) r x:Nat))) w ->
  dpA (slA S.D.sl) r x<=r/\CL 201 #[.pointer (some ⟨pb S.bs x,0,none⟩)] w R:=by
 intro r
 induction r with
 | zero=>
  intro x c s R hx hc hr _
  obtain⟨c',h1,h2⟩:=hA.chain x s hx
  have:=hc.fn h2
  omega
 | succ r ih=>
  intro x c s R hx hc hr hK
  obtain⟨i,i1,i2,i3,i4⟩:=h.of hx
  rw [dpA_some hx] at hK |-
  have hkid:∀k∈s.kids,∃t,slA S.D.sl k=some t/\t.parent=x:=fun k hk=>((hA.kid x s hx).2 k hk).2
  have hch:∀k∈s.kids,Ch (slA S.D.sl) k (c+1):=fun k hk=>by
   obtain⟨t,t1,t2⟩:=hkid k hk
   exact .succ (hA.ne0 t1) t1 (by rw [t2];exact hc)
  have hrle:∀l:List Nat,(∀k∈l,k∈s.kids)->(l.map (dpA (slA S.D.sl) r)).foldl max 0<=r:=fun l hl=>fmax_le l 0 (Nat.zero_le _) fun k hk=>by
   obtain⟨t,t1,_⟩:=hkid k (hl k hk)
   exact (ih k (c+1) (R:=fun _ _=>True) t1 (hch k (hl k hk)) om trivial).1
  refine⟨by have:=hrle s.kids fun _ h=>h;omega,?_⟩
  obtain⟨v,cv,ov,rv⟩:=h.cKids i2 i3
  obtain⟨A,cc,hv,hrd⟩:=ov.form
  rw [lmp] at hv
  rw [hv] at cv
  refine ok201 (some ⟨pb S.bs x,0,none⟩) ?_
  unfold F201
  simp only [NonNil_some,cv,lds]
  have hfew:=(h.rng s (mog i3)).few
  refine⟨fun most j w'=>w=w'/\∃k:Nat,j=k/\k<=s.kids.length/\most=(((s.kids.take k).map (dpA (slA S.D.sl) r)).foldl max 0:Nat),fun _ j _=>s.kids.length-j.toNat,⟨rfl,0,rfl,om,sm⟩,?_⟩
  rintro most j _ ⟨rfl,k,rfl,hk,rfl⟩
  unfold F201_l3
  have hle:=hrle (s.kids.take k) fun y hy=>List.mem_of_mem_take hy
  refine brd (fun hlt=>?_) (fun hge=>?_)
  ·have hk2:k<s.kids.length:=by omega
   refine hrd.pt (by rw [lmp]) rfl (k:=k) (by rw [lmp];exact hk2) fun bb oo c0=>?_
   rw [gmp] at c0
   simp only [c0,lds]
   obtain⟨t,t1,t2⟩:=hkid _ (gem hk2)
   have hc2:=hch _ (gem hk2)
   have hle2:=(ih s.kids[k] (c+1) (R:=fun _ _=>True) t1 hc2 om trivial).1
   refine (ih s.kids[k] (c+1) t1 hc2 om ⟨_,rfl,inR_i64 om om,⟨rfl,k+1,sm,om,?_⟩,odz⟩).2
   rw [tsa hk2,List.map_append,List.map_singleton,fmax_snoc]
   split <;> omega
  ·have hk2:k=s.kids.length:=by omega
   subst hk2
   rw [tkl] at hle |-
   refine⟨inR_i64 om om,?_⟩
   have e:(((s.kids.map (dpA (slA S.D.sl) r)).foldl max 0:Nat):Int)+1=((1+(s.kids.map (dpA (slA S.D.sl) r)).foldl max 0:Nat):Int):=by omega
   rw [e];exact hK
end
section
variable {w w1 w2:Wd}{o o1 o2:Nat->Nat}{θ:Th}{S:PS}{M:Nat->Prop}{bs:List Nat}{R:RT}
theorem lst_live {loose:List Nat} (hA:WfA (slA S.D.sl) S.D.roots loose) (p:Nat):∀x∈lstI S.D p,∃t,slA S.D.sl x=some t:=fun x hx=>by
 obtain⟨_,t,ht,_⟩:=(hA.lst p).2 x hx
 exact⟨t,ht⟩
theorem lst_few {loose:List Nat} (hw:WfS S.D.sl) (hA:WfA (slA S.D.sl) S.D.roots loose) (p:Nat):(lstI S.D p).length<=4096:=
 nlt (live_few (lst_live hA p) (hA.lst p).1) hw.few
theorem upd_same {D:Im}{n:Nat}{f:Sl->Sl}{s:Sl} (hn:slA D.sl n=some s) (hf:f s=s):updI D n f=D:=by
 obtain⟨k,h1,h2,_⟩:=slA_iff.1 hn
 unfold updI
 rw [h1,nasc,modify_set _ _ _ _ h2,hf]
 have:D.sl.set k s=D.sl:=by
  refine List.ext_getElem? fun j=>?_
  by_cases e:k=j
  ·subst e;rw [List.getElem?_set_self (gsi.1 h2).1,h2]
  ·rw [gsn e]
 rw [this]
theorem insert_calls (h:PM w o θ S) (hp:PI S) (hw:Wf S.D) (hT:Tabs (wc o w)) {x:Tr}{e:E5} (hx:RTr (wc o w) x e) {wh:Int}{a:Nat} (ha:a<18446744073709551616)
  (hK:∀w' o' S',PM w' o' θ S'->PI S'->S'.D=(insF S.D wh a x).1->EvP w o w' o'->R (.returned (.tuple #[.int .u64 ((insF S.D wh a x).2.1:Nat),.int .i64 (insF S.D wh a x).2.2])) w') :
  CL 64 #[.pointer (some ⟨θ.g,0,none⟩),.int .i64 wh,.int .u64 (a:Nat),.agg #[.int .i64 e.kind,.string e.nm,slV e.ats,.string e.text,slV e.kids]] w R:=by
 have h00:=slA_zero S.D.sl
 have hfewS:=h.few
 refine ok64 (some ⟨θ.g,0,none⟩) wh (a:Nat) e.kind e.nm e.ats.1 e.ats.2.1 e.ats.2.2 e.text e.kids.1 e.kids.2.1 e.kids.2.2 ?_
 unfold F64
 refine al fun g7 w1 hb1 b7 hge7=>?_
 have h1:=h.below hb1
 refine shaped_calls ⟨_,rfl,?_⟩
 rw [Bool.not_not]
 have hpl:(placeF S.D wh a)=if wh<1\/4<wh\/(a=0/\2<wh) then ((0,1):Nat × Int) else if a=0 then (0,0) else match slA S.D.sl a with
  | none=>(0,8)
  | some s=>if wh<=2 then (if s.kind=2 then (0,31) else (a,0)) else (s.parent,0):=by unfold placeF;rfl
 refine brd (fun hsh=>?_) (fun hsh=>?_)
 ·rw [if_pos hsh] at hpl
  have e1:insF S.D wh a x=(S.D,0,1):=by unfold insF;rw [hpl,if_pos rfl]
  have:=hK w1 o S h1 hp (by rw [e1]) (EvC.below hb1)
  rw [e1] at this;exact this
 rw [if_neg hsh] at hpl
 have hne1:(placeF S.D wh a).2≠1:=by
  rw [hpl]
  split
  ·simp
  ·split
   ·simp
   ·split
    ·split <;> simp
    ·simp
 refine al fun gl w2 hb2 bl hgel=>?_
 have h2:=h1.below hb2
 have b72:=b7.keep hb2
 have B12:=btr hb1 hb1.size hb2
 simp only [NonNil_some,b72.cell,lds]
 have hlsub:Sub w (but gl w2):=old_but B12 (by have:=hb1.size;omega)
 refine look_calls x (gl:=gl) (deep:=1) (n:=0) (md:=0) (e:=e) bl (RTr.sub (sub_of_only.trans hlsub) _ _ hx) (hT.sub (sub_of_only.trans hlsub)) om om om om fun w3 n3 md3 F3 hB3 q1 q2=>⟨_,rfl,?_⟩
 have og:o gl=0:=byc fun h0=>by have:=h1.lt gl h0;have:=hb1.size;omega
 have o7:o g7=0:=byc fun h0=>by have:=h.lt g7 h0;omega
 have h3:PM w3 o θ S:=h2.keep F3 (fun b hb hm=>by have hm:b=gl:=hm;rw [hm,og] at hb;exact not_pc0 hb) (fun _ _=>rfl) fun b hb=>nll (h2.lt b hb) F3.size
 have E3:EvP w o w3 o:=⟨(Fm.below B12).trans' F3 (fun b hb hm=>by have hm:b=gl:=hm;have:=hb1.size;omega),fun _ _=>rfl,fun _ _ h=>h,fun _ h=>.inl h⟩
 refine brn (fun hne=>?_) (fun heq=>?_)
 ·have e1:insF S.D wh a x=(S.D,0,(lookF x 1 0).2):=by unfold insF;rw [if_neg hne1,if_pos hne]
  have:=hK w3 o S h3 hp (by rw [e1]) E3
  rw [e1] at this;exact this
 obtain⟨k1,k2,k3,k4⟩:=look_ok x 1 0 heq
 have q2:=q2 heq
 rw [k2] at q1
 have hdpos:=dpT_pos x
 have hmd:md3=dpT x:=by rw [q2];omega
 refine atL_calls h3 ha fun w4 hb4=>⟨_,rfl,?_⟩
 have h4:=h3.below hb4
 have E4:=EvP.trans E3 (EvC.below hb4)
 have bl4:=hB3.keep hb4
 have b74:Blk w4 g7 _ 48:=(F3.blk b72 (fun e=>by have e:g7=gl:=e;have:=b7.lt;omega)).keep hb4
 refine⟨fun w'=>w4=w'/\(a=0\/∃s,slA S.D.sl a=some s),?_,?_⟩
 ·rintro _ ⟨rfl,hae⟩
  unfold F64_j10
  rw [ptrL_H h00 hae]
  refine par_calls h4 hsh hae ⟨_,_,rfl,?_⟩
  have hins:insF S.D wh a x=if (placeF S.D wh a).2≠0 then (S.D,0,(placeF S.D wh a).2) else
    if 64<cntI S.D (placeF S.D wh a).1+dpT x then (S.D,0,32) else if 4096<tk S.D.sl+szT x then (S.D,0,33) else
    (putI { S.D with sl:=makeF x (placeF S.D wh a).1 S.D.sl } (freshH S.D.sl) (placeF S.D wh a).1 wh a,freshH S.D.sl,0):=by
   unfold insF;rw [if_neg hne1,if_neg (by rw [heq];simp)]
  refine brn (fun hne=>?_) (fun hpz=>?_)
  ·rw [if_pos hne] at hins
   have:=hK w4 o S h4 hp (by rw [hins]) E4
   rw [hins] at this;exact this
  rw [if_neg (by rw [hpz];simp)] at hins
  obtain⟨p1,p2,p3,p4,p5,p6⟩:=place_ok hw hpz
  generalize hP:(placeF S.D wh a).1=p at *
  obtain⟨c1,c2⟩:=hw.cnt (p1.imp id fun⟨t,h,_⟩=>⟨t,h⟩)
  have hd4:Below w4.heap.size w4 w4.drew:=(Below.refl _ _).drew
  refine⟨fun w'=>Below w4.heap.size w4 w',hd4,?_⟩
  simp only [Addr.add_mk,nza]
  refine⟨_,fun w' hb=>by rw [(bl4.keep hb).cell];rfl,?_⟩
  refine level_calls (h4.below hd4) h00 c2 c1 ⟨_,rfl,hd4,?_⟩
  refine⟨inR_i64 (by clear p1;omega) (by clear p1;omega),inR_i64 (by clear p1;omega) (by clear p1;omega),?_⟩
  refine brd (fun hgt=>?_) (fun hle=>?_)
  ·rw [if_pos (by clear p1;omega)] at hins
   have:=hK w4.drew o S (h4.below hd4) hp (by rw [hins]) (EvP.trans E4 (EvC.below hd4))
   rw [hins] at this;exact this
  rw [if_neg (by clear p1;omega)] at hins
  refine dr fun w5 hb5 _=>?_
  have D5:=btr hd4 sm hb5
  have h5:=h4.below D5
  have bl5:=bl4.keep D5
  obtain⟨_,d2,d3,_⟩:=h5.cells
  have htk:=tk_sum S.D.sl
  have hlv:=hp.lv
  have hwn:=hp.wn
  have htl:=tk_le (sl:=S.D.sl)
  simp only [NonNil_some,d2,d3,bl5.cell,lds]
  refine⟨inR_i64 (by clear p1;omega) (by clear p1;omega),inR_i64 (by clear p1;omega) (by clear p1;omega),?_⟩
  refine brd (fun hgt=>?_) (fun hle2=>?_)
  ·rw [if_pos (by clear p1;omega)] at hins
   have:=hK w5 o S h5 hp (by rw [hins]) (EvP.trans E4 (EvC.below D5))
   rw [hins] at this;exact this
  rw [if_neg (by clear p1;omega)] at hins
  have b75:=b74.keep D5
  simp only [NonNil_some,b75.cell,lds]
  have E5:=EvP.trans E4 (EvC.below D5)
  refine make_calls x (p:=p) (c:=cntI S.D p) (loose:=[]) h5 hp k1 hw.s hw.a p1 c2 (by clear p1;omega) (by clear p1;omega) (RTr.sub E5.sub _ _ hx) fun w6 o6 S6 h6 p6' hD6 ⟨y6,hy6⟩ e6=>⟨_,rfl,?_⟩
  have Mk:=make_wf x k1 hw.s hw.a p1 c2 (by clear p1;omega) (by clear p1;omega)
  obtain⟨st,st1,st2⟩:=Mk.top
  have hne0:freshH S.D.sl≠0:=by unfold freshH hnd;omega
  have hsl6:S6.D.sl=makeF x p S.D.sl:=by rw [hD6]
  have hro6:S6.D.roots=S.D.roots:=by rw [hD6]
  have hn6:slA S6.D.sl (freshH S.D.sl)=some st:=by rw [hsl6];exact st1
  have hA6:WfA (slA S6.D.sl) S6.D.roots [freshH S.D.sl]:=by rw [hsl6,hro6];exact Mk.wf
  have hpe:p=0\/∃t,slA S6.D.sl p=some t:=by
   rcases p1 with e | ⟨t,ht,_⟩
   ·exact .inl e
   ·exact .inr ⟨t,by rw [hsl6];exact Mk.ext _ _ ht⟩
  have hptr:ptrH S6.bs (freshH S.D.sl)=some ⟨pb S6.bs (freshH S.D.sl),0,none⟩:=by unfold ptrH;rw [if_neg hne0]
  have hpp:ptrH S.bs p=ptrH S6.bs p:=by
   rw [hy6]
   refine (ptr_ext ?_).symm
   rw [h.len];exact live_inN p1
  have hpa:ptrH S.bs a=ptrH S6.bs a:=by
   rw [hy6]
   refine (ptr_ext ?_).symm
   rw [h.len]
   rcases hae with e | ⟨s,hs⟩
   ·exact .inl e
   ·obtain⟨_,_,_,_,hin⟩:=h.of hs;exact .inr hin
  have hnp:freshH S.D.sl≠p:=fun e=>by
   rcases p1 with e1 | ⟨t,ht,_⟩
   ·exact hne0 (e.trans e1)
   ·rw [<-e,Mk.new] at ht;cases ht
  rw [hptr,hpp,hpa]
  have hlst6:lstI S6.D p=lstI S.D p:=by
   unfold lstI lstA
   rw [hro6]
   by_cases h0:p=0
   ·rw [if_pos h0,if_pos h0]
   ·rw [if_neg h0,if_neg h0]
    obtain⟨t,ht,_⟩:=p1.resolve_left h0
    rw [ht,hsl6,Mk.ext _ _ ht]
  refine put_calls h6 hn6 hpe (lst_live hA6 p) (lst_few (by rw [hsl6];exact Mk.wfs) hA6 p) (fun h2=>?_) hnp fun w7 o7 h7 e7=>⟨rfl,?_⟩
  ·rw [hlst6]
   obtain⟨s,s1,s2⟩:=p4 h2
   have:=hw.a.mem a s s1 sm
   rw [s2] at this;exact this
  have hput:updI (putI S6.D (freshH S.D.sl) p wh a) (freshH S.D.sl) (fun s=>{ s with parent:=p })=putI S6.D (freshH S.D.sl) p wh a:=by
   have e4:slA (putI S6.D (freshH S.D.sl) p wh a).sl (freshH S.D.sl)=some st:=by
    unfold putI
    rw [(setI_A (l:=insAt (lstI S6.D p) (posF wh a (lstI S6.D p)) (freshH S.D.sl)) hpe).1,setA_of hn6,if_neg (fun e=>hnp e.1)]
   refine upd_same e4 ?_
   cases st
   simp only at st2
   simp only [st2]
  rw [hput] at h7
  have e4:slA (putI S6.D (freshH S.D.sl) p wh a).sl (freshH S.D.sl)=some st:=by
   unfold putI
   rw [(setI_A (l:=insAt (lstI S6.D p) (posF wh a (lstI S6.D p)) (freshH S.D.sl)) hpe).1,setA_of hn6,if_neg (fun e=>hnp e.1)]
  refine hnd_calls h7 e4 fun w8 hb8=>⟨_,rfl,?_⟩
  have p7:PI { S6 with D:=putI S6.D (freshH S.D.sl) p wh a }:=by
   unfold putI setI
   by_cases h0:p=0
   ·rw [if_pos h0];exact⟨p6'.lv,p6'.wn,p6'.lo,p6'.lo2⟩
   ·rw [if_neg h0]
    obtain⟨t,ht⟩:=hpe.resolve_left h0
    obtain⟨k,m1,m2,_⟩:=slA_iff.1 ht
    rw [m1,nasc,modify_set _ _ _ _ m2]
    exact p6'.set (s':={ t with kids:=insAt (lstI S6.D p) (posF wh a (lstI S6.D p)) (freshH S.D.sl) }) m2 rfl rfl
  have:=hK w8 o7 { S6 with D:=putI S6.D (freshH S.D.sl) p wh a } (h7.below hb8) p7 (by rw [hins,hD6]) (EvP.trans (EvP.trans (EvP.trans E5 (e6.mono fun c h=>h.1)) e7) (EvC.below hb8))
  rw [hins] at this;exact this
 ·have hbad:slA S.D.sl a=none->a≠0->R (.returned (.tuple #[.int .u64 0,.int .i64 8])) w4:=fun hn h0=>by
   rw [if_neg h0,hn] at hpl
   have e1:insF S.D wh a x=(S.D,0,8):=by unfold insF;rw [if_neg hne1,if_neg (by rw [heq];simp),if_pos (by rw [hpl];simp),hpl]
   have:=hK w4 o S h4 hp (by rw [e1]) E4
   rw [e1] at this;exact this
  refine brn (fun h0=>?_) (fun h0=>⟨rfl,.inl om⟩)
  have h0:a≠0:=by omega
  cases hs:slA S.D.sl a with
  | none=>
   have e:ptrL S a=none:=by unfold ptrL;rw [hs];rfl
   rw [e]
   simp only [Option.isNone_none,Br_t]
   exact hbad hs h0
  | some s=>
   have e:(ptrL S a).isNone=false:=by unfold ptrL;rw [hs];rfl
   rw [e,Br_f]
   exact⟨rfl,.inr ⟨s,rfl⟩⟩
theorem PI.setI (h:PI S) {p:Nat}{l:List Nat} (hp:p=0\/∃s,slA S.D.sl p=some s):PI { S with D:=setI S.D p l }:=by
 unfold Go.Proofs.YtnbgiacnbheonaaGreatDoor.setI
 by_cases h0:p=0
 ·rw [if_pos h0];exact⟨h.lv,h.wn,h.lo,h.lo2⟩
 ·rw [if_neg h0]
  obtain⟨t,ht⟩:=hp.resolve_left h0
  obtain⟨k,m1,m2,_⟩:=slA_iff.1 ht
  rw [m1,nasc,modify_set _ _ _ _ m2]
  exact h.set (s':={ t with kids:=l }) m2 rfl rfl
theorem PI.updI (h:PI S) {n:Nat}{s:Sl}{f:Sl->Sl} (hn:slA S.D.sl n=some s) (hl:(f s).live=s.live) (hg:(f s).gen=s.gen):PI { S with D:=updI S.D n f }:=by
 unfold Go.Proofs.YtnbgiacnbheonaaGreatDoor.updI
 obtain⟨k,m1,m2,_⟩:=slA_iff.1 hn
 rw [m1,nasc,modify_set _ _ _ _ m2]
 exact h.set (s':=f s) m2 hl hg
theorem dpA_fuel {A:Nat->Option Sl}{roots loose:List Nat} (hA:WfA A roots loose):∀(r x c:Nat) {s:Sl},A x=some s->Ch A x c->c+r=65->∀r',r<=r'->dpA A r x=dpA A r' x:=by
 intro r
 induction r with
 | zero=>
  intro x c s hx hc hr r' _
  obtain⟨c',h1,h2⟩:=hA.chain x s hx
  have:=hc.fn h2
  omega
 | succ r ih=>
  intro x c s hx hc hr r' hr'
  obtain⟨q,rfl⟩:∃q,r'=q+1:=⟨r'-1,om⟩
  rw [dpA_some hx,dpA_some hx]
  congr 2
  refine List.map_congr_left fun k hk=>?_
  obtain⟨_,t,t1,t2⟩:=(hA.kid x s hx).2 k hk
  exact ih k (c+1) t1 (.succ (hA.ne0 t1) t1 (by rw [t2];exact hc)) om q om
theorem mov_facts {D:Im} (hw:Wf D) {n a:Nat}{wh:Int}{s:Sl} (hs:slA D.sl n=some s) (h3:¬(a≠0/\wiI D n a=true)) (h4:(placeF D wh a).2=0) :
  ¬Wi (slA D.sl) n (placeF D wh a).1/\n≠(placeF D wh a).1/\n≠s.parent/\n≠a:=by
 obtain⟨p1,p2,p3,p4,p5,p6⟩:=place_ok hw h4
 have n0:=hw.a.ne0 hs
 have hwa:∀t,slA D.sl a=some t->Wi (slA D.sl) n a->False:=fun t ht hwi=>h3 ⟨hw.a.ne0 ht,(hw.wi n0 ht).2 hwi⟩
 have hwp:¬Wi (slA D.sl) n (placeF D wh a).1:=fun hwi=>by
  by_cases hwh:wh<=2
  ·have:=p5 hwh
   rw [this] at hwi
   rcases p6 with e | ⟨t,ht⟩
   ·rw [e] at hwi
    cases hwi with
    | self=>exact n0 rfl
    | up ha _=>rw [hw.a.zero] at ha;cases ha
   ·exact hwa t ht hwi
  ·obtain⟨t,t1,t2⟩:=p4 om
   rw [<-t2] at hwi
   exact hwa t t1 (.up t1 hwi)
 refine⟨hwp,fun e=>hwp (by rw [<-e];exact .self),fun e=>wi_par hw.a hs (by rw [<-e];exact .self),fun e=>?_⟩
 subst e
 exact hwa s hs .self
theorem move_calls (h:PM w o θ S) (hp:PI S) (hw:Wf S.D) {wh:Int}{n a:Nat} (hn:n<18446744073709551616) (ha:a<18446744073709551616)
  (hK:∀w' o' S',PM w' o' θ S'->PI S'->S'.D=(movF S.D n wh a).1->EvP w o w' o'->R (.returned (.int .i64 (movF S.D n wh a).2)) w') :
  CL 160 #[.pointer (some ⟨θ.g,0,none⟩),.int .u64 (n:Nat),.int .i64 wh,.int .u64 (a:Nat)] w R:=by
 have h00:=slA_zero S.D.sl
 refine ok160 (some ⟨θ.g,0,none⟩) (n:Nat) wh (a:Nat) ?_
 unfold F160
 refine shaped_calls ⟨_,rfl,?_⟩
 rw [Bool.not_not]
 have hpl:(placeF S.D wh a)=if wh<1\/4<wh\/(a=0/\2<wh) then ((0,1):Nat × Int) else if a=0 then (0,0) else match slA S.D.sl a with
  | none=>(0,8)
  | some s=>if wh<=2 then (if s.kind=2 then (0,31) else (a,0)) else (s.parent,0):=by unfold placeF;rfl
 refine brd (fun hsh=>?_) (fun hsh=>?_)
 ·rw [if_pos hsh] at hpl
  have e1:movF S.D n wh a=(S.D,1):=by unfold movF;rw [hpl,if_pos rfl]
  have:=hK w o S h hp (by rw [e1]) EvC.refl
  rw [e1] at this;exact this
 rw [if_neg hsh] at hpl
 have hne1:(placeF S.D wh a).2≠1:=by
  rw [hpl]
  split
  ·simp
  ·split
   ·simp
   ·split
    ·split <;> simp
    ·simp
 refine atL_calls h hn fun w1 hb1=>⟨_,rfl,?_⟩
 have h1:=h.below hb1
 refine atL_calls h1 ha fun w2 hb2=>⟨_,rfl,?_⟩
 have h2:=h1.below hb2
 have B2:=btr hb1 hb1.size hb2
 have E2:EvP w o w2 o:=EvC.below B2
 have bad8:(slA S.D.sl n=none\/(placeF S.D wh a).2=8)->R (.returned (.int .i64 8)) w2:=fun hb=>by
  have e1:movF S.D n wh a=(S.D,8):=by unfold movF;rw [if_neg hne1,if_pos hb]
  have:=hK w2 o S h2 hp (by rw [e1]) E2
  rw [e1] at this;exact this
 refine⟨fun w'=>w2=w'/\(a=0\/∃s,slA S.D.sl a=some s)/\(∃s,slA S.D.sl n=some s)/\¬(a≠0/\wiI S.D n a=true),?_,?_⟩
 ·rintro _ ⟨rfl,hae,⟨s,hs⟩,hnw⟩
  unfold F160_j8
  have n0:=hw.a.ne0 hs
  rw [ptrL_H h00 hae,ptrL_H h00 (.inr ⟨s,hs⟩)]
  have hne8:¬(slA S.D.sl n=none\/(placeF S.D wh a).2=8):=by
   rintro (e | e)
   ·rw [hs] at e;cases e
   ·rw [hpl] at e
    rcases hae with e1 | ⟨t,ht⟩
    ·rw [if_pos e1] at e;cases e
    ·rw [if_neg (hw.a.ne0 ht),ht] at e
     dsimp only at e
     split at e
     ·split at e <;> cases e
     ·cases e
  have hmov:movF S.D n wh a=if (placeF S.D wh a).2≠0 then (S.D,(placeF S.D wh a).2) else
    if 64<cntI S.D (placeF S.D wh a).1+dpA (slA S.D.sl) 65 n then (S.D,32) else
    (updI (putI (outI S.D n) n (placeF S.D wh a).1 wh a) n fun s=>{ s with parent:=(placeF S.D wh a).1 },0):=by
   unfold movF;rw [if_neg hne1,if_neg hne8,if_neg hnw]
  refine par_calls h2 hsh hae ⟨_,_,rfl,?_⟩
  refine brn (fun hne=>?_) (fun hpz=>?_)
  ·rw [if_pos hne] at hmov
   have:=hK w2 o S h2 hp (by rw [hmov]) E2
   rw [hmov] at this;exact this
  rw [if_neg (by rw [hpz];simp)] at hmov
  obtain⟨p1,p2,p3,p4,p5,p6⟩:=place_ok hw hpz
  obtain⟨m1,m2,m3,m4⟩:=mov_facts hw hs hnw hpz
  generalize hP:(placeF S.D wh a).1=p at *
  obtain⟨c1,c2⟩:=hw.cnt (p1.imp id fun⟨t,h,_⟩=>⟨t,h⟩)
  refine level_calls h2 h00 c2 c1 ⟨_,rfl,?_⟩
  have hptr:ptrH S.bs n=some ⟨pb S.bs n,0,none⟩:=by unfold ptrH;rw [if_neg n0]
  rw [hptr]
  obtain⟨cn,cn1,cn2⟩:=hw.a.chain n s hs
  have hcn0:0<cn:=by
   cases cn2 with
   | zero=>exact absurd rfl n0
   | succ _ _ _=>omega
  have hdp:dpA (slA S.D.sl) (65-cn) n=dpA (slA S.D.sl) 65 n:=dpA_fuel hw.a (65-cn) n cn hs cn2 om 65 om
  have d1:=(depth_calls h2 hw.a (65-cn) n cn hs cn2 (by clear p1;omega) (R:=fun _ _=>True) trivial).1
  refine⟨inR_i64 (by clear p1;omega) (by clear p1;omega),(depth_calls h2 hw.a (65-cn) n cn hs cn2 (by clear p1;omega) ⟨_,rfl,?_⟩).2⟩
  rw [hdp] at d1 |-
  refine⟨inR_i64 (by clear p1;omega) (by clear p1;omega),?_⟩
  refine brd (fun hgt=>?_) (fun hle=>?_)
  ·rw [if_pos (by clear p1;omega)] at hmov
   have:=hK w2 o S h2 hp (by rw [hmov]) E2
   rw [hmov] at this;exact this
  rw [if_neg (by clear p1;omega)] at hmov
  obtain⟨o1,o2,o3,o4⟩:=out_wf hw hs
  have hpar:=(hw.a.par n s hs).imp id (fun⟨t,ht,_⟩=>(⟨t,ht⟩:∃t,slA S.D.sl s.parent=some t))
  refine out_calls h2 hs hpar (hw.a.mem n s hs sm) (lst_live hw.a _) fun w3 o3' h3 e3=>⟨rfl,?_⟩
  have hs1:slA (outI S.D n).sl n=some s:=by rw [o3,setA_of hs,if_neg (fun e=>m3 e.1)]
  have pe1:p=0\/∃t,slA (outI S.D n).sl p=some t:=by
   rcases p1 with e | ⟨t,ht,_⟩
   ·exact .inl e
   ·rw [o3]
    obtain⟨u,u1,_⟩:=setA_of' (p:=s.parent) (l:=(lstI S.D s.parent).erase n) ht
    exact .inr ⟨u,u1⟩
  have hp3:PI { S with D:=outI S.D n }:=by
   have e:outI S.D n=setI S.D s.parent ((lstI S.D s.parent).erase n):=by unfold outI;rw [hs]
   rw [e];exact hp.setI hpar
  have hlst:∀q,(q=0\/∃t,slA S.D.sl q=some t)->lstI (outI S.D n) q=if q=s.parent then (lstI S.D s.parent).erase n else lstI S.D q:=fun q hq=>by
   unfold lstI at o3 o4 |-
   rw [o3,o4]
   exact lst_setA hq hw.a.zero
  refine put_calls h3 hs1 pe1 (lst_live (S:={ S with D:=outI S.D n }) o2 p) (lst_few (S:={ S with D:=outI S.D n }) o1 o2 p) (fun h2'=>?_) m2 fun w4 o4' h4 e4=>⟨rfl,?_⟩
  ·show a∈lstI (outI S.D n) p
   obtain⟨t,t1,t2⟩:=p4 h2'
   have hmem:=hw.a.mem a t t1 sm
   rw [t2] at hmem
   rw [hlst p (p1.imp id fun⟨t,h,_⟩=>⟨t,h⟩)]
   split
   ·rename_i e
    rw [<-e]
    exact (List.mem_erase_of_ne (Ne.symm m4)).2 hmem
   ·exact hmem
  ·have hs2:slA (putI (outI S.D n) n p wh a).sl n=some s:=by
    unfold putI
    rw [(setI_A (l:=insAt (lstI (outI S.D n) p) (posF wh a (lstI (outI S.D n) p)) n) pe1).1,setA_of hs1,if_neg (fun e=>m2 e.1)]
   have hp4:PI { S with D:=putI (outI S.D n) n p wh a }:=by
    unfold putI
    exact hp3.setI pe1
   have hp5:=PI.updI (f:=fun s=>{ s with parent:=p }) hp4 hs2 rfl rfl
   have:=hK w4 o4' _ h4 hp5 (by rw [hmov]) (EvP.trans (EvP.trans E2 (e3.mono fun c hc=>?_)) e4)
   ·rw [hmov] at this;exact this
   ·unfold lcC at hc
    unfold pc
    split at hc <;> clear p1 <;> omega
 ·cases hs:slA S.D.sl n with
  | none=>
   have e:(ptrL S n).isNone=true:=by unfold ptrL;rw [hs];rfl
   rw [e,Br_t]
   exact bad8 (.inl hs)
  | some s=>
   have e:(ptrL S n).isNone=false:=by unfold ptrL;rw [hs];rfl
   rw [e,Br_f]
   have n0:=hw.a.ne0 hs
   refine brn (fun h0=>?_) (fun h0=>?_)
   ·have h0:a≠0:=by omega
    cases hsa:slA S.D.sl a with
    | none=>
     have e:(ptrL S a).isNone=true:=by unfold ptrL;rw [hsa];rfl
     rw [e,Br_t]
     refine bad8 (.inr ?_)
     rw [hpl,if_neg h0,hsa]
    | some t=>
     have e:(ptrL S a).isNone=false:=by unfold ptrL;rw [hsa];rfl
     rw [e,Br_f]
     simp only [Bool.not_false,Br_t]
     obtain⟨c,c1,c2⟩:=hw.a.chain a t hsa
     rw [ptrL_H h00 (.inr ⟨t,hsa⟩),ptrL_H h00 (.inr ⟨s,hs⟩)]
     have hptr:ptrH S.bs n=some ⟨pb S.bs n,0,none⟩:=by unfold ptrH;rw [if_neg n0]
     rw [hptr]
     refine within_calls h2 hs c2 c1 h0 ⟨_,rfl,?_⟩
     have hne8:¬(slA S.D.sl n=none\/(placeF S.D wh a).2=8):=by
      rintro (e | e)
      ·rw [hs] at e;cases e
      ·rw [hpl,if_neg h0,hsa] at e
       dsimp only at e
       split at e
       ·split at e <;> cases e
       ·cases e
     refine br (fun hwi=>?_) (fun hwi=>⟨rfl,.inr ⟨t,rfl⟩,⟨s,rfl⟩,fun e=>?_⟩)
     ·have e1:movF S.D n wh a=(S.D,34):=by unfold movF;rw [if_neg hne1,if_neg hne8,if_pos ⟨h0,hwi⟩]
      have:=hK w2 o S h2 hp (by rw [e1]) E2
      rw [e1] at this;exact this
     ·rw [hwi] at e;cases e.2
   ·have h0:a=0:=by omega
    have e:(ptrL S a).isNone=true:=by unfold ptrL;rw [h0,h00];rfl
    rw [e]
    simp only [Bool.not_true,Br_f]
    exact⟨trivial,.inl h0,⟨s,rfl⟩,fun e=>e.1 h0⟩
end
def postA (A:Nat->Option Sl):Nat->Nat->List Nat
 | 0,_=>[]
 | r+1,x=>(match A x with | some s=>s.kids.flatMap (postA A r) | none=>[])++[x]
theorem postA_some {A:Nat->Option Sl}{r x:Nat}{s:Sl} (h:A x=some s):postA A (r+1) x=s.kids.flatMap (postA A r)++[x]:=by rw [postA,h]
theorem flatMap_perm {f g:Nat->List Nat}:∀(l:List Nat),(∀a∈l,(f a).Perm (g a))->(l.flatMap f).Perm (l.flatMap g)
 | [],_=>List.Perm.refl _
 | x :: l,h=>by
  rw [fmc,fmc]
  exact (h x sm).append (flatMap_perm l fun a ha=>h a (by simp [ha]))
theorem post_perm (A:Nat->Option Sl):∀(r x:Nat),(postA A r x).Perm (allA A r x)
 | 0,x=>by simp [postA,allA]
 | r+1,x=>by
  rw [postA,allA]
  cases A x with
  | none=>exact List.Perm.refl _
  | some s=>exact (List.perm_append_singleton x _).trans (List.Perm.cons x (flatMap_perm _ fun k _=>post_perm A r k))
theorem killF_get:∀(L:List Nat) (sl:List Sl) (k:Nat),(killF sl L)[k]?=(sl[k]?).map fun s=>if (∃h∈L,h % 4294967296-1=k) then deadS s.gen else s
 | [],sl,k=>by
  unfold killF
  simp
 | h :: L,sl,k=>by
  have e:killF sl (h :: L)=killF (sl.modify (h % 4294967296-1) fun s=>deadS s.gen) L:=rfl
  have hm:(sl.modify (h % 4294967296-1) fun s=>deadS s.gen)[k]?=(sl[k]?).map fun s=>if h % 4294967296-1=k then deadS s.gen else s:=by
   rw [List.getElem?_modify];cases sl[k]? <;> rfl
  rw [e,killF_get L,hm,Option.map_map]
  congr 1
  funext s
  simp only [Function.comp]
  by_cases e2:h % 4294967296-1=k
  ·simp only [if_pos e2]
   rw [if_pos (show ∃y∈h :: L,y % 4294967296-1=k from ⟨h,sm,e2⟩)]
   split <;> rfl
  ·simp only [if_neg e2]
   by_cases e3:∃y∈L,y % 4294967296-1=k
   ·rw [if_pos e3]
    obtain⟨y,y1,y2⟩:=e3
    rw [if_pos (show ∃y∈h :: L,y % 4294967296-1=k from ⟨y,by simp [y1],y2⟩)]
   ·rw [if_neg e3,if_neg]
    rintro ⟨y,y1,y2⟩
    rcases mcn.1 y1 with rfl | y1
    ·exact e2 y2
    ·exact e3 ⟨y,y1,y2⟩
theorem killF_mem {L L':List Nat} (h:∀y,y∈L↔y∈L') (sl:List Sl):killF sl L=killF sl L':=by
 refine List.ext_getElem? fun k=>?_
 rw [killF_get,killF_get]
 have:(∃h∈L,h % 4294967296-1=k)=(∃h∈L',h % 4294967296-1=k):=by
  apply propext
  constructor <;> rintro ⟨y,y1,y2⟩
  ·exact⟨y,(h y).1 y1,y2⟩
  ·exact⟨y,(h y).2 y1,y2⟩
 simp only [this]
theorem killF_app (sl:List Sl) (L L':List Nat):killF sl (L++L')=killF (killF sl L) L':=by
 unfold killF;rw [List.foldl_append]
theorem killF_one {sl:List Sl}{x k:Nat}{s:Sl} (hk:x % 4294967296=k+1) (hs:sl[k]?=some s):killF sl [x]=sl.set k (deadS s.gen):=by
 unfold killF
 rw [List.foldl_cons,List.foldl_nil,hk,nasc,modify_set _ _ _ _ hs]
def Cg (c:Nat):Prop:=c=1\/c=2\/c=3\/(8<=c/\c % 4=0)
section
variable {w w1 w2:Wd}{o o1 o2:Nat->Nat}{θ:Th}{S:PS}{M:Nat->Prop}{bs:List Nat}{R:RT}
theorem EvG.trans {w:Wd}{o:Nat->Nat} (h:EvC Cg w o w1 o1) (k:EvC Cg w1 o1 w2 o2) (hlt:∀b,o b≠0->b<w.heap.size):EvC Cg w o w2 o2:=
 h.trans (by unfold Cg;omega) hlt (fun _ _ h=>h) k
theorem gone_calls {A:Nat->Option Sl}{roots loose:List Nat} (hA:WfA A roots loose):∀(r x c:Nat) {s:Sl}{w:Wd}{o:Nat->Nat}{S:PS}{R:RT},A x=some s->(∀z,z∈loose->z=x\/¬Wi A x z)->Ch A x c->c+r=65 ->
  PM w o θ S->PI S->WfS S.D.sl->(∀y,y∈allA A r x->slA S.D.sl y=A y) ->
  (∀w' S',PM w' o θ S'->PI S'->S'.D={ S.D with sl:=killF S.D.sl (postA A r x) }->S'.bs=S.bs->EvC Cg w o w' o->R (.returned (.tuple #[])) w') ->
  CL 221 #[.pointer (some ⟨θ.g,0,none⟩),.pointer (some ⟨pb S.bs x,0,none⟩)] w R:=by
 intro r
 induction r with
 | zero=>
  intro x c s w o S R hx hll hc hr
  obtain⟨c',h1,h2⟩:=hA.chain x s hx
  have:=hc.fn h2
  omega
 | succ r ih=>
  intro x c s w o S R hx hll hc hr h hp hw heq hK
  have hall:=allA_some (r:=r) hx
  have hpost:=postA_some (r:=r) hx
  have hnd:(allA A (r+1) x).Nodup:=all_nodup hA (r+1) x ⟨s,hx⟩ hll
  rw [hall,List.nodup_cons] at hnd
  obtain⟨hnd1,hnd2⟩:=hnd
  have hsx:slA S.D.sl x=some s:=by rw [heq x (by rw [hall];simp)];exact hx
  obtain⟨i,i1,i2,i3,i4⟩:=h.of hsx
  have hob:=h.nc i _ i2
  have hkid:∀k∈s.kids,∃t,A k=some t/\t.parent=x:=fun k hk=>((hA.kid x s hx).2 k hk).2
  obtain⟨v,cv,ov,rv⟩:=h.cKids i2 i3
  obtain⟨Ad,cc,hv,hrd0⟩:=ov.form
  rw [lmp] at hv
  have hv2:v=(Ad,s.kids.length,cc):=by
   obtain⟨a1,a2,a3⟩:=v
   unfold slV at hv
   simp only [Value.slice.injEq] at hv
   obtain⟨rfl,rfl,rfl⟩:=hv
   rfl
  rw [hv] at cv
  have hfewk:=(h.rng s (mog i3)).few
  refine ok221 (some ⟨θ.g,0,none⟩) (some ⟨pb S.bs x,0,none⟩) ?_
  unfold F221
  simp only [NonNil_some,cv,lds]
  have hlive:∀k,∀y∈(s.kids.take k).flatMap (postA A r),y∈allA A (r+1) x/\y≠x:=fun k y hy=>by
   obtain⟨z,z1,z2⟩:=mfm.1 hy
   have z3:y∈s.kids.flatMap (allA A r):=mfm.2 ⟨z,List.mem_of_mem_take z1,(post_perm A r z).mem_iff.1 z2⟩
   refine⟨by rw [hall];exact mcm _ z3,fun e=>hnd1 (e ▸ z3)⟩
  have hndk:∀k,((s.kids.take k).flatMap (postA A r)).Nodup:=fun k=>by
   have h1:((s.kids.take k).flatMap (postA A r)).Perm ((s.kids.take k).flatMap (allA A r)):=flatMap_perm _ fun y _=>post_perm A r y
   refine h1.nodup_iff.2 ?_
   have h2:s.kids.flatMap (allA A r)=(s.kids.take k).flatMap (allA A r)++(s.kids.drop k).flatMap (allA A r):=by rw [<-fma,tad]
   rw [h2,List.nodup_append] at hnd2
   exact hnd2.1
  have hex:∀y∈allA A (r+1) x,∃t,slA S.D.sl y=some t:=fun y hy=>by
   rw [heq y hy]
   exact all_live hA ⟨s,hx⟩ hll hy
  have WK:∀k,WfS (killF S.D.sl ((s.kids.take k).flatMap (postA A r)))/\∀y,slA (killF S.D.sl ((s.kids.take k).flatMap (postA A r))) y=if y∈(s.kids.take k).flatMap (postA A r) then none else slA S.D.sl y:=fun k=>
   killF_A _ _ hw (hndk k) fun y hy=>hex y (hlive k y hy).1
  refine⟨fun j w'=>∃(k:Nat) (S':PS),j=k/\k<=s.kids.length/\PM w' o θ S'/\PI S'/\S'.D={ S.D with sl:=killF S.D.sl ((s.kids.take k).flatMap (postA A r)) }/\S'.bs=S.bs/\EvC Cg w o w' o,fun j _=>s.kids.length-j.toNat,
   ⟨0,S,rfl,om,h,hp,by simp [killF],rfl,EvC.refl⟩,?_⟩
  rintro j w1 ⟨k,S1,rfl,hk,h1,hp1,hD1,hb1,e1⟩
  unfold F221_l1
  have hsl1:S1.D.sl=killF S.D.sl ((s.kids.take k).flatMap (postA A r)):=by rw [hD1]
  have ov1:Own LPt w1 0 140 (slV v) (s.kids.map (pb S.bs)):=own_fm ov e1.fm fun b hb hm=>by
   have:=rv b hb
   rw [this] at hm
   unfold Cg at hm;omega
  rw [hv2] at ov1
  obtain⟨hvn,hrd⟩:=ov1.rd
  refine brd (fun hlt=>?_) (fun hge=>?_)
  ·have hk2:k<s.kids.length:=by omega
   refine hrd.pt (by rw [lmp]) rfl (k:=k) (by rw [lmp];exact hk2) fun bb oo c0=>?_
   rw [gmp] at c0
   simp only [c0,lds]
   obtain⟨t,t1,t2⟩:=hkid _ (gem hk2)
   have hck:Ch A s.kids[k] (c+1):=.succ (hA.ne0 t1) t1 (by rw [t2];exact hc)
   rw [<-hb1]
   have hkl:∀z,z∈loose->z=s.kids[k]\/¬Wi A s.kids[k] z:=fun z hz=>by
    refine .inr fun hwi=>?_
    obtain⟨d,hd⟩:=hwi.de
    have h2:=hd.down t1 t2
    rcases hll z hz with e | e
    ·exact hA.de_ne ⟨s,hx⟩ z d h2 e
    ·exact e h2.wi
   refine ih s.kids[k] (c+1) t1 hkl hck om h1 hp1 (by rw [hsl1];exact (WK k).1) (fun y hy=>?_) fun w2 S2 h2 hp2 hD2 hb2 e2=>⟨rfl,inR_i64 om om,⟨k+1,S2,sm,om,h2,hp2,?_,by rw [hb2,hb1],EvG.trans e1 e2 h.lt⟩,odz⟩
   ·have hyall:y∈s.kids.flatMap (allA A r):=mfm.2 ⟨_,gem hk2,hy⟩
    rw [hsl1,(WK k).2,if_neg,heq y (by rw [hall];exact mcm _ hyall)]
    intro hm
    have h2:s.kids.flatMap (allA A r)=(s.kids.take k).flatMap (allA A r)++(s.kids.drop k).flatMap (allA A r):=by rw [<-fma,tad]
    rw [h2,List.nodup_append] at hnd2
    refine hnd2.2.2 y ?_ y ?_ rfl
    ·obtain⟨z,z1,z2⟩:=mfm.1 hm
     exact mfm.2 ⟨z,z1,(post_perm A r z).mem_iff.1 z2⟩
    ·rw [dgc hk2]
     exact mfm.2 ⟨s.kids[k],List.mem_cons_self,hy⟩
   ·rw [hD2,hD1]
    dsimp only
    rw [tsa hk2,fma,killF_app]
    simp
  ·have hk2:k=s.kids.length:=by omega
   subst hk2
   rw [tkl] at hsl1 hD1
   have hd1:Below w1.heap.size w1 w1.drew:=(Below.refl _ _).drew
   have WKf:=WK s.kids.length
   rw [tkl] at WKf
   have hxn:x∉s.kids.flatMap (postA A r):=fun hm=>by
    have:=hlive s.kids.length x (by rw [tkl];exact hm)
    exact this.2 rfl
   have hs1:slA S1.D.sl x=some s:=by rw [hsl1,WKf.2,if_neg hxn];exact hsx
   obtain⟨i',a1,a2,a3,a4⟩:=h1.of hs1
   obtain rfl:i=i':=by omega
   rw [hb1] at a2
   have a2':S1.bs[i]?=some (pb S.bs x):=by rw [hb1];exact a2
   generalize hbb:pb S.bs x=b at *
   have ci:=h1.cIdx a2' a3
   have cg:=h1.cGen a2' a3
   simp only [nds]
   refine⟨fun w'=>Below w1.heap.size w1 w',hd1,?_⟩
   refine⟨_,fun w' hb=>by rw [(sub_below hb).cell ci],?_⟩
   refine⟨_,fun w' hb=>by rw [(sub_below hb).cell cg],?_⟩
   obtain⟨a0,kv0,hn⟩:=h1.nodes i b s a2' a3
   have hn0:=hn.blk.keep hd1
   refine st_blk hn0 (by simp [nodeC]) fun u1 s1 f1=>st_blk s1 (by simp [nodeC]) fun u2 s2 f2=>st_blk s2 (by simp [nodeC]) fun u3 s3 f3=>st_blk s3 (by simp [nodeC]) fun u4 s4 f4=>st_blk s4 (by simp [nodeC]) fun u5 s5 f5=>st_blk s5 (by simp [nodeC]) fun u6 s6 f6=>st_blk s6 (by simp [nodeC]) fun u7 s7 f7=>st_blk s7 (by simp [nodeC]) fun u8 s8 f8=>st_blk s8 (by simp [nodeC]) fun w2 s9 f9=>?_
   have s9:Blk w2 b (nodeC i (deadS s.gen) (none,0,0) (ptrH S1.bs (deadS s.gen).parent) (none,0,0)) 142:=by simpa [nodeC,deadS,ptrH,noB] using s9
   have F2:Fm (·=b) w1 w2:=((((((((((Fm.below hd1).trans f1).trans f2).trans f3).trans f4).trans f5).trans f6).trans f7).trans f8).trans f9)
   have hob1:=h1.nc i b a2'
   have hrs:=h1.rng s (mog a3)
   obtain⟨h2,_⟩:=h1.setNode (r:=none) (c:=9+4*i) a2' a3 F2 (fun x hx=>.inl (.inl (by have e:x=b:=hx;rw [e];exact hob1))) (.inl rfl) (fun x hx=>by cases hx) (a:=(none,0,0)) (kv:=(none,0,0)) (s':=deadS s.gen)
    ⟨s9,Own.nil _ _ _ _,fun x hx=>(by cases hx),Own.nil _ _ _ _,fun x hx=>(by cases hx)⟩ ⟨hrs.gen,.inl rfl,by simp [deadS],by simp [deadS],by simp [deadS]⟩
   rw [cl_none] at h2
   have e2:EvC Cg w1 o w2 o:=⟨F2.mono fun y _ e=>by have e:y=b:=e;rw [e,hob1];unfold Cg;omega,fun _ _=>rfl,fun _ _ h=>h,fun _ h=>.inl h⟩
   have hlv1:=hp1.lv
   have hwn1:=hp1.wn
   have hll1:=slA_live hs1
   have ls:=live_set (b:=deadS s.gen) a3
   have ws:=worn_set (b:=deadS s.gen) a3
   rw [hll1] at ls ws
   simp only [show (deadS s.gen).live=false from rfl,show (deadS s.gen).gen=s.gen from rfl,if_true,Bool.false_eq_true,if_false,Bool.not_true,Bool.false_and,Bool.not_false,Bool.true_and,Nat.add_zero] at ls ws
   obtain⟨_,d2,d3,d4⟩:=h2.cells
   have d2:w2.cell? ⟨θ.g,2,none⟩=some (.int .i64 (S1.lv:Nat)):=d2
   simp only [NonNil_some,d2,lds]
   have hcn:=h1.cnt
   have e5:((S1.lv:Nat):Int)-1=((S1.lv-1:Nat):Int):=by omega
   rw [e5]
   refine⟨inR_i64 om om,h2.stLive (S1.lv-1) om fun w3 h3 e3=>?_⟩
   have e3:EvC Cg w2 o w3 o:=e3.mono fun c hc=>by unfold Cg;omega
   have hsl3:(S1.setS i (deadS s.gen)).D.sl=S1.D.sl.set i (deadS s.gen):=rfl
   have hbd3:(S1.setS i (deadS s.gen)).bs[i]?=some b:=a2'
   have hgd3:(S1.D.sl.set i (deadS s.gen))[i]?=some (deadS s.gen):=by simp [(gsi.1 a3).1]
   have fin:∀{w':Wd}{S':PS},PM w' o θ S'->S'.D=(S1.setS i (deadS s.gen)).D->S'.bs=S1.bs->S'.lv=S1.lv-1->S'.wn=wornN (S1.D.sl.set i (deadS s.gen))->S'.lo<=S1.lo->S'.lo<=i->EvC Cg w3 o w' o->R (.returned (.tuple #[])) w':=by
    intro w' S' h' hD' hbs' hlv' hwn' hlo' hlo2' e'
    have hlt:=(gsi.1 a3).1
    refine hK w' S' h' ⟨?_,?_,?_,?_⟩ ?_ (by rw [hbs',hb1]) (EvG.trans (EvG.trans (EvG.trans e1 e2 h.lt) e3 h.lt) e' h.lt)
    ·rw [hlv',hD',hsl3];omega
    ·rw [hwn',hD',hsl3]
    ·rw [hD',hsl3,List.length_set];have:=hp1.lo;omega
    ·intro j t hj ht
     rw [hD',hsl3,gsn om] at ht
     exact hp1.lo2 j t om ht
    ·rw [hD']
     show { S1.D with sl:=S1.D.sl.set i (deadS s.gen) }=_
     rw [hD1]
     dsimp only
     rw [hpost,killF_app,killF_one i1 (by rw [<-hsl1];exact a3)]
   have cg3:=h3.cGen hbd3 hgd3
   have cg3:w3.cell? ⟨b,1,none⟩=some (.int .u32 (s.gen:Nat)):=cg3
   refine⟨fun w'=>∃S',PM w' o θ S'/\S'.D=(S1.setS i (deadS s.gen)).D/\S'.bs=S1.bs/\S'.lv=S1.lv-1/\S'.wn=wornN (S1.D.sl.set i (deadS s.gen))/\S'.lo=S1.lo/\EvC Cg w3 o w' o,?_,?_⟩
   ·rintro w4 ⟨S4,h4,D4,B4,L4,W4,O4,e4⟩
    unfold F221_j9
    have hd4:Below w4.heap.size w4 w4.drew:=(Below.refl _ _).drew
    obtain⟨_,_,_,d44⟩:=h4.cells
    have ci4:=h4.cIdx (i:=i) (b:=b) (s:=deadS s.gen) (by rw [B4];exact a2') (by rw [D4];exact hgd3)
    have hi4:i<4096:=by have:=(gsi.1 a3).1;have:=h1.few;omega
    refine⟨fun w'=>Below w4.heap.size w4 w',hd4,?_⟩
    simp only [NonNil_some]
    refine⟨_,fun w' hb=>by rw [Addr.add_mk,nza,(sub_below hb).cell d44],?_⟩
    refine⟨_,fun w' hb=>by rw [(sub_below hb).cell ci4],?_⟩
    have e6:((i+1:Nat):Int)-1=(i:Int):=by omega
    refine⟨inR_i64 om om,inR_i64 om om,?_⟩
    simp only [e6]
    have e7:(if (i:Int)<((S4.lo:Nat):Int) then (i:Int) else ((S4.lo:Nat):Int))=((min i S4.lo:Nat):Int):=by split <;> omega
    rw [e7]
    have h4d:=h4.below hd4
    rw [Addr.add_mk,nza]
    refine h4d.stLow (min i S4.lo) om fun w5 h5 e5=>?_
    refine fin (S':={ S4 with lo:=min i S4.lo }) h5 D4 B4 L4 W4 (by show min i S4.lo<=S1.lo;omega) (by show min i S4.lo<=i;omega) (EvG.trans (EvG.trans e4 (EvC.below hd4) h3.lt) (e5.mono fun c hc=>by unfold Cg;omega) h3.lt)
   ·simp only [NonNil_some,cg3,lds]
    refine bre (fun hg=>?_) (fun hg=>?_)
    ·obtain⟨_,_,d3,_⟩:=h3.cells
     have d3:w3.cell? ⟨θ.g,3,none⟩=some (.int .i64 (S1.wn:Nat)):=d3
     simp only [NonNil_some,d3,lds]
     have e8:((S1.wn:Nat):Int)+1=((S1.wn+1:Nat):Int):=by omega
     rw [e8]
     have hg:s.gen=4294967295:=by omega
     have hdg:(decide (4294967295<=s.gen))=true:=det om
     rw [hdg] at ws
     simp only [if_true] at ws
     have hwlt:S1.wn+1<=4096:=by
      have:=tk_sum (S1.D.sl.set i (deadS s.gen))
      have:=tk_le (sl:=S1.D.sl.set i (deadS s.gen))
      rw [List.length_set] at this
      have:=h1.few
      omega
     refine⟨inR_i64 om om,h3.stWorn (S1.wn+1) hwlt fun w4 h4 e4=>⟨_,h4,rfl,rfl,rfl,?_,rfl,e4.mono fun c hc=>by unfold Cg;omega⟩⟩
     show S1.wn+1=_
     omega
    ·have hdg:(decide (4294967295<=s.gen))=false:=def0 (by have:=hrs.gen;omega)
     rw [hdg] at ws
     simp only [Bool.false_eq_true,if_false,Nat.add_zero] at ws
     refine⟨_,h3,rfl,rfl,rfl,?_,rfl,EvC.refl⟩
     show S1.wn=_
     omega
theorem delete_calls (h:PM w o θ S) (hp:PI S) (hw:Wf S.D) {n:Nat} (hn:n<18446744073709551616)
  (hK:∀w' o' S',PM w' o' θ S'->PI S'->S'.D=(delF S.D n).1->EvP w o w' o'->R (.returned (.int .i64 (delF S.D n).2)) w') :
  CL 192 #[.pointer (some ⟨θ.g,0,none⟩),.int .u64 (n:Nat)] w R:=by
 refine ok192 (some ⟨θ.g,0,none⟩) (n:Nat) ?_
 unfold F192
 refine atL_calls h hn fun w1 hb1=>⟨_,rfl,?_⟩
 have h1:=h.below hb1
 cases hs:slA S.D.sl n with
 | none=>
  have e:(ptrL S n).isNone=true:=by unfold ptrL;rw [hs];rfl
  rw [e,Br_t]
  have e1:delF S.D n=(S.D,8):=by unfold delF;rw [hs]
  have:=hK w1 o S h1 hp (by rw [e1]) (EvC.below hb1)
  rw [e1] at this;exact this
 | some s=>
  have e:(ptrL S n).isNone=false:=by unfold ptrL;rw [hs];rfl
  rw [e,Br_f]
  have n0:=hw.a.ne0 hs
  have e1:delF S.D n=({ outI S.D n with sl:=killF (outI S.D n).sl (allA (slA S.D.sl) 65 n) },0):=by unfold delF;rw [hs]
  have hptr:ptrL S n=some ⟨pb S.bs n,0,none⟩:=by unfold ptrL;rw [hs];rfl
  rw [hptr]
  obtain⟨o1,o2,o3,o4⟩:=out_wf hw hs
  have hpar:=(hw.a.par n s hs).imp id (fun⟨t,ht,_⟩=>(⟨t,ht⟩:∃t,slA S.D.sl s.parent=some t))
  refine out_calls h1 hs hpar (hw.a.mem n s hs sm) (lst_live hw.a _) fun w2 o2' h2 e2=>⟨rfl,?_⟩
  have hnq:n≠s.parent:=fun e=>wi_par hw.a hs (by rw [<-e];exact .self)
  have hs1:slA (outI S.D n).sl n=some s:=by rw [o3,setA_of hs,if_neg (fun e=>hnq e.1)]
  have hp2:PI { S with D:=outI S.D n }:=by
   have e:outI S.D n=setI S.D s.parent ((lstI S.D s.parent).erase n):=by unfold outI;rw [hs]
   rw [e];exact hp.setI hpar
  have hpa:∀x t,slA S.D.sl x=some t->∃u,slA (outI S.D n).sl x=some u/\u.parent=t.parent:=by rw [o3];exact setA_pa
  have hap:∀x t,slA (outI S.D n).sl x=some t->∃u,slA S.D.sl x=some u/\u.parent=t.parent:=by rw [o3];exact setA_ap
  obtain⟨c,c1,c2⟩:=hw.a.chain n s hs
  have hll0:∀z,z∈[n]->z=n\/¬Wi (slA (outI S.D n).sl) n z:=fun z hz=>.inl (by simpa using hz)
  refine gone_calls (S:={ S with D:=outI S.D n }) o2 (65-c) n c hs1 hll0 (c2.mono hpa) om h2 hp2 o1 (fun y _=>rfl) fun w3 S3 h3 hp3 hD3 hb3 e3=>⟨rfl,?_⟩
  have hk:killF (outI S.D n).sl (postA (slA (outI S.D n).sl) (65-c) n)=killF (outI S.D n).sl (allA (slA S.D.sl) 65 n):=by
   refine killF_mem (fun y=>?_) _
   rw [(post_perm _ _ _).mem_iff,mem_all o2 ⟨s,hs1⟩ hll0 (c2.mono hpa) om,mem_all hw.a ⟨s,hs⟩ (fun z hz=>by simp at hz) c2 om]
   exact⟨fun h=>h.mono hap,fun h=>h.mono hpa⟩
  have:=hK w3 o2' S3 h3 hp3 (by rw [e1,hD3];dsimp only;rw [hk]) (EvP.trans (EvP.trans (EvC.below hb1) (e2.mono fun c hc=>?_)) (e3.mono fun c hc=>?_))
  ·rw [e1] at this;exact this
  ·unfold lcC at hc
   unfold pc
   split at hc <;> omega
  ·unfold Cg at hc
   unfold pc
   omega
end
end Go.Proofs.YtnbgiacnbheonaaGreatDoor
set_option linter.unusedVariables false
set_option maxRecDepth 100000
namespace Go.Proofs.YtnbgiacnbheonaaGreatDoor
open Go.Vc
def F235 (a b:ByteArray)(c:Wd)(R:RT):Prop:=ByRow P0 240 #[.string a,.string b] c (fun v w1=>∃d,v=(.int .i64 d)/\R (.returned (.int .i64 d)) w1)
theorem ok235 (a b:ByteArray){w:Wd}{R:RT} (h:F235 a b w R):CL 235 #[.string a,.string b] w R:=
 vk ⟨8,⟨[]⟩,[],[]⟩ Tryz.func235 h
def F228 (a b:ByteArray)(c:Wd)(R:RT):Prop:=CL 235 #[.string a,.string b] c (post R fun v w1=>∃d,v=(.int .i64 d)/\R (.returned (.int .i64 d)) w1)
theorem ok228 (a b:ByteArray){w:Wd}{R:RT} (h:F228 a b w R):CL 228 #[.string a,.string b] w R:=
 vk ⟨8,⟨[]⟩,[],[]⟩ Tryz.func228 h
end Go.Proofs.YtnbgiacnbheonaaGreatDoor
namespace Go.Proofs.YtnbgiacnbheonaaGreatDoor
open Go.RowKit Go.Vc
set_option linter.unusedSimpArgs false
theorem bl_irr:∀a:List UInt8,Op.bytesLess a a=false
 | []=>rfl
 | x :: a=>by
  rw [Op.bytesLess,bl_irr a];simp
theorem bl_tri:∀a b:List UInt8,Op.bytesLess a b=true\/a=b\/Op.bytesLess b a=true
 | [],[]=>.inr (.inl rfl)
 | [],_ :: _=>.inl rfl
 | _ :: _,[]=>.inr (.inr rfl)
 | x :: a,y :: b=>by
  rw [Op.bytesLess,Op.bytesLess]
  rcases Nat.lt_trichotomy x.toNat y.toNat with h | h | h
  ·refine .inl ?_
   rw [det (UInt8.lt_iff_toNat_lt.2 h)];rfl
  ·have h:=UInt8.toNat_inj.1 h
   subst h
   rcases bl_tri a b with h | h | h
   ·refine .inl ?_;rw [h];simp
   ·refine .inr (.inl ?_);rw [h]
   ·refine .inr (.inr ?_);rw [h];simp
  ·refine .inr (.inr ?_)
   rw [det (UInt8.lt_iff_toNat_lt.2 h)];rfl
theorem bl_trans:∀{a b c:List UInt8},Op.bytesLess a b=true->Op.bytesLess b c=true->Op.bytesLess a c=true
 | _,[],_,h,_=>by cases ‹List UInt8› <;> simp [Op.bytesLess] at h
 | _,_ :: _,[],_,h=>by simp [Op.bytesLess] at h
 | [],_ :: _,_ :: _,_,_=>rfl
 | x :: a,y :: b,z :: c,h1,h2=>by
  rw [Op.bytesLess,Bool.or_eq_true,bae,dete,beq_iff_eq] at *
  rcases h1 with h1 | ⟨rfl,h1⟩
  ·rcases h2 with h2 | ⟨rfl,h2⟩
   ·exact .inl (UInt8.lt_trans h1 h2)
   ·exact .inl h1
  ·rcases h2 with h2 | ⟨rfl,h2⟩
   ·exact .inl h2
   ·exact .inr ⟨rfl,bl_trans h1 h2⟩
def blt (a b:ByteArray):Bool:=Op.bytesLess a.toList b.toList
theorem blt_irr (a:ByteArray):blt a a=false:=bl_irr _
theorem toList_inj {a b:ByteArray} (h:a.toList=b.toList):a=b:=by
 have:=bytes_eq a b
 rw [h] at this
 simpa using this.symm
theorem blt_tri (a b:ByteArray):blt a b=true\/a=b\/blt b a=true:=(bl_tri a.toList b.toList).imp id (Or.imp toList_inj id)
theorem blt_trans {a b c:ByteArray} (h1:blt a b=true) (h2:blt b c=true):blt a c=true:=bl_trans h1 h2
theorem blt_asymm {a b:ByteArray} (h:blt a b=true):blt b a=false:=by
 cases h2:blt b a with
 | false=>rfl
 | true=>have:=blt_trans h h2;rw [blt_irr] at this;cases this
theorem cmp_lt:∀a b:List UInt8,(Lib.compareBytes a b<0↔Op.bytesLess a b=true)/\(Lib.compareBytes a b=0↔a=b)
 | [],[]=>by simp [Lib.compareBytes,Op.bytesLess]
 | [],_ :: _=>by simp [Lib.compareBytes,Op.bytesLess]
 | _ :: _,[]=>by simp [Lib.compareBytes,Op.bytesLess]
 | x :: a,y :: b=>by
  rw [Lib.compareBytes,Op.bytesLess]
  obtain⟨i1,i2⟩:=cmp_lt a b
  by_cases h1:x<y
  ·rw [if_pos h1]
   have hne:x≠y:=fun e=>by subst e;exact UInt8.lt_irrefl _ h1
   simp [h1,hne]
  ·rw [if_neg h1]
   by_cases h2:y<x
   ·rw [if_pos h2]
    have hne:x≠y:=fun e=>by subst e;exact UInt8.lt_irrefl _ h2
    simp [h1,hne]
   ·rw [if_neg h2]
    have he:x=y:=UInt8.toNat_inj.1 (by
     rw [UInt8.lt_iff_toNat_lt] at h1 h2;omega)
    subst he
    simp [h1,i1,i2]
theorem cmpB (a b:ByteArray):(Lib.compareBytes a.data.toList b.data.toList<0↔blt a b=true)/\(Lib.compareBytes a.data.toList b.data.toList=0↔a=b):=by
 have h:=cmp_lt a.toList b.toList
 rw [ByteArray.toList_eq,ByteArray.toList_eq] at h
 refine⟨by rw [h.1];unfold blt;rw [ByteArray.toList_eq,ByteArray.toList_eq],?_⟩
 rw [h.2]
 constructor
 ·intro e;exact toList_inj (by rw [ByteArray.toList_eq,ByteArray.toList_eq];exact e)
 ·rintro rfl;rfl
theorem behindB_eq (p:Option ByteArray) (a:ByteArray):behindB p a=true↔∀b,p=some b->blt b a=true:=by
 unfold behindB
 cases p with
 | none=>simp
 | some b=>
  simp only [Option.some.injEq,forall_eq']
  rw [bytes_eq]
  constructor
  ·intro h
   rcases blt_tri b a with h1 | h1 | h1
   ·exact h1
   ·subst h1;simp at h
   ·unfold blt at h1;rw [h1] at h;simp at h
  ·intro h
   have h1:=blt_asymm h
   have h2:a≠b:=fun e=>by subst e;rw [blt_irr] at h;cases h
   unfold blt at h1
   rw [h1,def0 h2];rfl
def okA (l:List At):Prop:=(∀a∈l,isName a.nm=true/\(textS a.val).2=0)/\l.Pairwise fun a b=>blt a.nm b.nm=true
theorem attrsF_ok:∀(l:List At) (p:Option ByteArray),attrsF p l=0↔okA l/\∀b,p=some b->∀a∈l,blt b a.nm=true
 | [],p=>by simp [attrsF,okA]
 | a :: l,p=>by
  rw [attrsF]
  have ih:=attrsF_ok l (some a.nm)
  by_cases h1:isName a.nm=true
  ·rw [if_pos h1]
   by_cases h2:behindB p a.nm=true
   ·rw [if_pos h2]
    have h2':=(behindB_eq p a.nm).1 h2
    by_cases h3:(textS a.val).2=0
    ·rw [if_pos h3,ih]
     constructor
     ·rintro ⟨⟨k1,k2⟩,k3⟩
      refine⟨⟨fun x hx=>?_,List.pairwise_cons.2 ⟨fun x hx=>k3 a.nm rfl x hx,k2⟩⟩,fun b hb x hx=>?_⟩
      ·rcases mcn.1 hx with rfl | hx
       ·exact⟨h1,h3⟩
       ·exact k1 x hx
      ·rcases mcn.1 hx with rfl | hx
       ·exact h2' b hb
       ·exact blt_trans (h2' b hb) (k3 a.nm rfl x hx)
     ·rintro ⟨⟨k1,k2⟩,k3⟩
      have k2:=List.pairwise_cons.1 k2
      refine⟨⟨fun x hx=>k1 x (mcm _ hx),k2.2⟩,fun b hb x hx=>?_⟩
      cases hb;exact k2.1 x hx
    ·rw [if_neg h3]
     constructor
     ·intro e
      have:(textS a.val).2=0:=by omega
      exact absurd this h3
     ·rintro ⟨⟨k1,_⟩,_⟩
      exact absurd (k1 a sm).2 h3
   ·rw [if_neg h2]
    constructor
    ·intro e;cases e
    ·rintro ⟨_,k3⟩
     exact absurd ((behindB_eq p a.nm).2 fun b hb=>k3 b hb a sm) h2
  ·rw [if_neg h1]
   constructor
   ·intro e;cases e
   ·rintro ⟨⟨k1,_⟩,_⟩
    exact absurd (k1 a sm).1 h1
theorem attrF_ok (l:List At):attrF l=0↔l.length<=32/\okA l:=by
 unfold attrF
 by_cases h:32<l.length
 ·rw [if_pos h]
  constructor
  ·intro e;cases e
  ·rintro ⟨k,_⟩;omega
 ·rw [if_neg h,attrsF_ok]
  constructor
  ·rintro ⟨k,_⟩;exact⟨om,k⟩
  ·rintro ⟨_,k⟩;exact⟨k,fun b hb=>by cases hb⟩
theorem compare_calls (a b:ByteArray) {w:Wd}{R:RT} (hK:R (.returned (.int .i64 (Lib.compareBytes a.data.toList b.data.toList))) w):CL 228 #[.string a,.string b] w R:=by
 refine ok228 a b ?_
 unfold F228
 refine ok235 a b ?_
 unfold F235
 refine⟨_,w,?_,_,rfl,_,rfl,hK⟩
 rw [run_callFunc_extern Tryz.func240 kr kr kr (e:=Extern.BytealgCompare.compare) kr,Lib.run_compareString]
 rfl
def posA (l:List At) (nm:ByteArray):Nat:=l.findIdx fun a=>!blt a.nm nm
def thereA (l:List At) (nm:ByteArray):Bool:=match l[posA l nm]? with | some a=>decide (a.nm=nm) | none=>false
def setA' (l:List At) (nm v:ByteArray):List At:=if thereA l nm=true then l.set (posA l nm) ⟨nm,v⟩ else l.take (posA l nm)++⟨nm,v⟩ :: l.drop (posA l nm)
def chgF (D:Im) (n:Nat) (kind:Int):Int:=match slA D.sl n with
 | none=>8
 | some s=>if s.kind=kind then 0 else 30
def setNameF (D:Im) (n:Nat) (nm:ByteArray):Im × Int:=
 if chgF D n 1≠0 then (D,chgF D n 1) else if isName nm=true then (updI D n fun s=>{ s with nm:=nm },0) else (D,6)
def setTextF (D:Im) (n:Nat) (t:ByteArray):Im × Int:=
 if chgF D n 2≠0 then (D,chgF D n 2) else if (textS t).2=0 then (updI D n fun s=>{ s with text:=t },0) else (D,((textS t).2:Nat))
def atsI (D:Im) (n:Nat):List At:=match slA D.sl n with | some s=>s.attrs | none=>[]
def setAttrF (D:Im) (n:Nat) (nm v:ByteArray):Im × Int:=
 if chgF D n 1≠0 then (D,chgF D n 1) else if isName nm≠true then (D,6) else if (textS v).2≠0 then (D,((textS v).2:Nat)) else
 if thereA (atsI D n) nm=false/\32<=(atsI D n).length then (D,2) else (updI D n fun s=>{ s with attrs:=setA' s.attrs nm v },0)
def dropAttrF (D:Im) (n:Nat) (nm:ByteArray):Im × Int:=
 if chgF D n 1≠0 then (D,chgF D n 1) else if thereA (atsI D n) nm=true then (updI D n fun s=>{ s with attrs:=s.attrs.take (posA s.attrs nm)++s.attrs.drop (posA s.attrs nm+1) },0) else (D,35)
theorem posA_le (l:List At) (nm:ByteArray):posA l nm<=l.length:=List.findIdx_le_length
theorem posA_below {l:List At}{nm:ByteArray}{k:Nat} (hk:k<posA l nm) (hl:k<l.length):blt l[k].nm nm=true:=by
 have:=List.not_of_lt_findIdx (p:=fun a:At=>!blt a.nm nm) (xs:=l) hk
 simpa using this
theorem posA_at {l:List At}{nm:ByteArray} (h:posA l nm<l.length):blt l[posA l nm].nm nm=false:=by
 have:=List.findIdx_getElem (p:=fun a:At=>!blt a.nm nm) (xs:=l) (w:=h)
 unfold posA
 simpa using this
theorem posA_eq {l:List At}{nm:ByteArray}{i:Nat} (hi:i<=l.length) (h1:∀k,k<i->∀h:k<l.length,blt l[k].nm nm=true) (h2:∀h:i<l.length,blt l[i].nm nm=false):posA l nm=i:=by
 have hle:=posA_le l nm
 rcases Nat.lt_trichotomy (posA l nm) i with h | h | h
 ·have:=posA_at (l:=l) (nm:=nm) om
  rw [h1 _ h om] at this;cases this
 ·exact h
 ·have:=posA_below h om
  rw [h2 om] at this;cases this
theorem okA_posA {l:List At}{nm:ByteArray} (h:okA l) {k:Nat} (hk:posA l nm<k) (hl:k<l.length):blt nm l[k].nm=true:=by
 have hp:=pwi.1 h.2 (posA l nm) k om hl hk
 have ha:=posA_at (l:=l) (nm:=nm) om
 rcases blt_tri l[posA l nm].nm nm with e | e | e
 ·rw [e] at ha;cases ha
 ·rw [<-e];exact hp
 ·exact blt_trans e hp
theorem okA_set {l:List At}{nm v:ByteArray} (h:okA l) (hn:isName nm=true) (hv:(textS v).2=0):okA (setA' l nm v):=by
 unfold setA'
 by_cases ht:thereA l nm=true
 ·rw [if_pos ht]
  have hlt:posA l nm<l.length:=by
   unfold thereA at ht
   refine byc fun h=>?_
   rw [List.getElem?_eq_none om] at ht;cases ht
  have hnm:l[posA l nm].nm=nm:=by
   unfold thereA at ht
   rw [gge hlt] at ht
   simpa using ht
  refine⟨fun a ha=>?_,?_⟩
  ·rcases List.mem_or_eq_of_mem_set ha with ha | rfl
   ·exact h.1 a ha
   ·exact⟨hn,hv⟩
  ·refine pwi.2 fun i j hi hj hij=>?_
   rw [List.length_set] at hi hj
   have hp:=pwi.1 h.2 i j hi hj hij
   rw [List.getElem_set,List.getElem_set]
   split
   ·rename_i e
    split
    ·omega
    ·subst e;rw [hnm] at hp;exact hp
   ·split
    ·rename_i e;subst e;rw [hnm] at hp;exact hp
    ·exact hp
 ·rw [if_neg ht]
  have hle:=posA_le l nm
  have hnm:∀h:posA l nm<l.length,blt nm l[posA l nm].nm=true:=fun hlt=>by
   rcases blt_tri l[posA l nm].nm nm with e | e | e
   ·rw [posA_at hlt] at e;cases e
   ·exfalso;apply ht
    unfold thereA
    rw [gge hlt]
    simpa using e
   ·exact e
  refine⟨fun a ha=>?_,?_⟩
  ·rw [List.mem_append,mcn] at ha
   rcases ha with ha | rfl | ha
   ·exact h.1 a (List.mem_of_mem_take ha)
   ·exact⟨hn,hv⟩
   ·exact h.1 a (List.mem_of_mem_drop ha)
  ·have hp:=h.2
   rw [<-tad (posA l nm) l,List.pairwise_append] at hp
   obtain⟨q1,q2,q3⟩:=hp
   have hdrop:∀x∈l.drop (posA l nm),blt nm x.nm=true:=fun x hx=>by
    obtain⟨k,hk,rfl⟩:=List.mem_iff_getElem.1 hx
    rw [ldp] at hk
    rw [List.getElem_drop]
    by_cases h0:k=0
    ·subst h0;exact hnm om
    ·exact okA_posA h om om
   have htake:∀x∈l.take (posA l nm),blt x.nm nm=true:=fun x hx=>by
    obtain⟨k,hk,rfl⟩:=List.mem_iff_getElem.1 hx
    rw [ltk] at hk
    rw [List.getElem_take]
    exact posA_below om om
   rw [List.pairwise_append,List.pairwise_cons]
   refine⟨q1,⟨hdrop,q2⟩,fun x hx y hy=>?_⟩
   rcases mcn.1 hy with rfl | hy
   ·exact htake x hx
   ·exact q3 x hx y hy
theorem okA_drop {l:List At} (h:okA l) (k:Nat):okA (l.take k++l.drop (k+1)):=by
 have hs:(l.take k++l.drop (k+1)).Sublist l:=by
  conv=>rhs;rw [<-tad k l]
  exact (List.Sublist.refl _).append (by rw [<-List.drop_drop];exact List.drop_sublist _ _)
 exact⟨fun a ha=>h.1 a (hs.subset ha),h.2.sublist hs⟩
section
variable {w w1 w2:Wd}{o o1 o2:Nat->Nat}{θ:Th}{S:PS}{M:Nat->Prop}{bs:List Nat}{R:RT}
theorem of_calls (h:PM w o θ S) {n:Nat} (hn:n<18446744073709551616) (kind:Int) (hk:kind≠0)
  (hK:∀w',Below w.heap.size w w'->R (.returned (.tuple #[.pointer (if chgF S.D n kind=0 then some ⟨pb S.bs n,0,none⟩ else none),.int .i64 (chgF S.D n kind)])) w'):CL 195 #[.pointer (some ⟨θ.g,0,none⟩),.int .u64 (n:Nat),.int .i64 kind] w R:=by
 refine ok195 (some ⟨θ.g,0,none⟩) (n:Nat) kind ?_
 unfold F195
 refine atL_calls h hn fun w1 hb1=>⟨_,rfl,?_⟩
 have h1:=h.below hb1
 have:=hK w1 hb1
 unfold chgF at this
 cases hs:slA S.D.sl n with
 | none=>
  have e:ptrL S n=none:=by unfold ptrL;rw [hs];rfl
  rw [e]
  rw [hs] at this
  exact this
 | some s=>
  have e:ptrL S n=some ⟨pb S.bs n,0,none⟩:=by unfold ptrL;rw [hs];rfl
  rw [e]
  rw [hs] at this
  dsimp only at this
  obtain⟨i,i1,i2,i3,i4⟩:=h1.of hs
  simp only [oin,Br_f,NonNil_some,Addr.add_mk,nza,h1.cKind i2 i3,lds]
  refine brn (fun hne=>?_) (fun he=>?_)
  ·simp only [if_neg hne] at this;exact this
  ·simp only [if_pos he] at this;exact this
theorem chg_some {D:Im}{n:Nat}{kind:Int} (h:chgF D n kind=0):∃s,slA D.sl n=some s/\s.kind=kind:=by
 unfold chgF at h
 cases hs:slA D.sl n with
 | none=>rw [hs] at h;cases h
 | some s=>
  rw [hs] at h
  dsimp only at h
  by_cases hk:s.kind=kind
  ·exact⟨s,rfl,hk⟩
  ·rw [if_neg hk] at h;cases h
theorem updI_setS {i n:Nat}{s:Sl}{f:Sl->Sl} (hi:n % 4294967296=i+1) (hs:S.D.sl[i]?=some s):S.setS i (f s)={ S with D:=updI S.D n f }:=by
 unfold PS.setS updI
 rw [hi,nasc,modify_set _ _ _ _ hs]
theorem nodeC_pc {i c:Nat} (hc:c=8+4*i\/c=9+4*i\/c=10+4*i):pc c:=by unfold pc;omega
theorem setName_calls (h:PM w o θ S) (hp:PI S) {n:Nat} (hn:n<18446744073709551616) {nm:ByteArray}
  (hK:∀w' S',PM w' o θ S'->PI S'->S'.D=(setNameF S.D n nm).1->EvP w o w' o->R (.returned (.int .i64 (setNameF S.D n nm).2)) w') :
  CL 156 #[.pointer (some ⟨θ.g,0,none⟩),.int .u64 (n:Nat),.string nm] w R:=by
 refine ok156 (some ⟨θ.g,0,none⟩) (n:Nat) nm ?_
 unfold F156
 refine of_calls h hn 1 dc fun w1 hb1=>⟨_,_,rfl,?_⟩
 have h1:=h.below hb1
 unfold setNameF at hK
 refine brn (fun hne=>?_) (fun he=>?_)
 ·rw [if_pos hne] at hK
  exact hK w1 S h1 hp rfl (EvC.below hb1)
 rw [if_neg (by rw [he];simp)] at hK
 obtain⟨s,hs,hk⟩:=chg_some he
 obtain⟨i,i1,i2,i3,i4⟩:=h1.of hs
 rw [if_pos he]
 refine name_calls ⟨_,rfl,?_⟩
 rw [brnot]
 refine br (fun hnm=>?_) (fun hnm=>?_)
 ·rw [if_pos hnm] at hK
  simp only [nds]
  refine h1.stName i2 i3 nm fun w2 h2 e2=>?_
  have hp2:=hp.updI (f:=fun s=>{ s with nm:=nm }) hs rfl rfl
  rw [updI_setS (f:=fun s=>{ s with nm:=nm }) i1 i3] at h2
  exact hK w2 _ h2 hp2 rfl (EvP.trans (EvC.below hb1) (e2.mono fun c=>nodeC_pc))
 ·rw [if_neg (by rw [hnm];decide)] at hK
  exact hK w1 S h1 hp rfl (EvC.below hb1)
theorem setText_calls (h:PM w o θ S) (hp:PI S) (hT:Tabs (wc o w)) {n:Nat} (hn:n<18446744073709551616) {t:ByteArray}
  (hK:∀w' S',PM w' o θ S'->PI S'->S'.D=(setTextF S.D n t).1->EvP w o w' o->R (.returned (.int .i64 (setTextF S.D n t).2)) w') :
  CL 157 #[.pointer (some ⟨θ.g,0,none⟩),.int .u64 (n:Nat),.string t] w R:=by
 refine ok157 (some ⟨θ.g,0,none⟩) (n:Nat) t ?_
 unfold F157
 refine of_calls h hn 2 dc fun w1 hb1=>⟨_,_,rfl,?_⟩
 have h1:=h.below hb1
 unfold setTextF at hK
 refine brn (fun hne=>?_) (fun he=>?_)
 ·rw [if_pos hne] at hK
  exact hK w1 S h1 hp rfl (EvC.below hb1)
 rw [if_neg (by rw [he];simp)] at hK
 obtain⟨s,hs,hk⟩:=chg_some he
 rw [if_pos he]
 refine charsText_calls t ((hT.sub sub_of_only).keep hb1) fun w2 hb2=>⟨_,_,rfl,?_⟩
 have B2:=btr hb1 hb1.size hb2
 have h2:=h.below B2
 obtain⟨i,i1,i2,i3,i4⟩:=h2.of hs
 refine brn (fun hne=>?_) (fun hz=>?_)
 ·rw [if_neg om] at hK
  exact hK w2 S h2 hp rfl (EvC.below B2)
 ·rw [if_pos om] at hK
  simp only [nds]
  refine h2.stText i2 i3 t fun w3 h3 e3=>?_
  have hp2:=hp.updI (f:=fun s=>{ s with text:=t }) hs rfl rfl
  rw [updI_setS (f:=fun s=>{ s with text:=t }) i1 i3] at h3
  exact hK w3 _ h3 hp2 rfl (EvP.trans (EvC.below B2) (e3.mono fun c=>nodeC_pc))
theorem attr1_calls (a:At) (nm:ByteArray) (hK:∀w',Below w.heap.size w w'->R (.returned (.int .i64 (Lib.compareBytes a.nm.data.toList nm.data.toList))) w'):CL 227 #[.agg #[.string a.nm,.string a.val],.string nm] w R:=by
 refine ok227 a.nm a.val nm ?_
 unfold F227
 refine al fun g w1 hb1 b1 hge=>?_
 simp only [b1.cell,lds]
 exact compare_calls a.nm nm ⟨_,rfl,hK w1 hb1⟩
theorem bsearch_calls (l:List At) (v:Sv) {nm:ByteArray} (hl:RR LAt w l v) (ho:okA l) (hK:∀w',Below w.heap.size w w'->R (.returned (.tuple #[.int .i64 (posA l nm:Nat),.bool (thereA l nm)])) w') :
  CL 226 #[.slice v.1 v.2.1 v.2.2,.string nm,.func (.func 227) #[] #[]] w R:=by
 obtain⟨z0,z1,z2⟩:=hl
 refine ok226 v.1 v.2.1 v.2.2 nm (.func (.func 227) #[] #[]) ?_
 unfold F226
 refine⟨fun i j w'=>∃a b:Nat,i=a/\j=b/\a<=b/\b<=l.length/\Below w.heap.size w w'/\(∀k,k<a->∀h:k<l.length,blt l[k].nm nm=true)/\(∀k,b<=k->∀h:k<l.length,blt l[k].nm nm=false),fun i j _=>j.toNat-i.toNat,
  ⟨0,l.length,rfl,by rw [z1],om,om,Below.refl _ _,fun k hk=>by omega,fun k hk h=>by omega⟩,?_⟩
 rintro i j w1 ⟨a,b,rfl,rfl,hab,hbl,hb1,q1,q2⟩
 unfold F226_l3
 refine brd (fun hlt=>?_) (fun hge=>?_)
 ·have hm:((a:Int)+(b:Int)).fdiv (2 ^ (min ((1:Int)).toNat 64))=(((a+b) / 2:Nat):Int):=by
   have e:(2:Int) ^ (min ((1:Int)).toNat 64)=2:=by decide
   rw [e,Int.fdiv_eq_ediv_of_nonneg _ dc];omega
  rw [hm]
  have hk:(a+b) / 2<l.length:=by omega
  refine⟨inR_i64 om om,inR_u64 om om,inR_i64 om om,?_⟩
  refine (z2.keep hb1).at2 z1 rfl hk fun bb oo c0 c1=>?_
  simp only [c0,c1,lds]
  refine⟨kr,?_⟩
  refine attr1_calls l[(a+b) / 2] nm fun w2 hb2=>⟨_,rfl,?_⟩
  have B2:=btr hb1 hb1.size hb2
  have hc:=(cmpB l[(a+b) / 2].nm nm).1
  refine brd (fun hneg=>?_) (fun hpos=>?_)
  ·have hlt':=hc.1 hneg
   refine⟨inR_i64 om om,⟨(a+b) / 2+1,b,om,rfl,om,hbl,B2,fun k hk h=>?_,q2⟩,om⟩
   by_cases e:k=(a+b) / 2
   ·subst e;exact hlt'
   ·have:=pwi.1 ho.2 k ((a+b) / 2) h om om
    exact blt_trans this hlt'
  ·refine⟨⟨a,(a+b) / 2,rfl,rfl,om,om,B2,q1,fun k hk h=>?_⟩,om⟩
   have hnot:blt l[(a+b) / 2].nm nm=false:=by
    cases hb:blt l[(a+b) / 2].nm nm with
    | false=>rfl
    | true=>exact absurd (hc.2 hb) hpos
   by_cases e:k=(a+b) / 2
   ·subst e;exact hnot
   ·have h3:=pwi.1 ho.2 ((a+b) / 2) k om h om
    cases hb:blt l[k].nm nm with
    | false=>rfl
    | true=>rw [blt_trans h3 hb] at hnot;cases hnot
 ·have hab2:a=b:=by omega
  subst hab2
  have hpos:posA l nm=a:=posA_eq hbl q1 fun h=>q2 a (nlr _) h
  refine brd (fun hlt=>?_) (fun hge2=>?_)
  ·have hk:a<l.length:=by omega
   refine (z2.keep hb1).at2 z1 rfl hk fun bb oo c0 c1=>?_
   simp only [c0,c1,lds]
   refine⟨kr,?_⟩
   refine attr1_calls l[a] nm fun w2 hb2=>⟨_,rfl,?_⟩
   have:=hK w2 (btr hb1 hb1.size hb2)
   rw [hpos] at this
   have e:(Lib.compareBytes l[a].nm.data.toList nm.data.toList == 0)=thereA l nm:=by
    unfold thereA
    rw [hpos,gge hk]
    rw [Bool.eq_iff_iff,beq_iff_eq,dete]
    exact (cmpB l[a].nm nm).2
   rw [e];exact this
  ·have:=hK w1 hb1
   rw [hpos] at this
   have e:thereA l nm=false:=by
    unfold thereA
    rw [hpos,List.getElem?_eq_none om]
   rw [e] at this;exact this
theorem attr_calls (h:PM w o θ S) {n i:Nat}{s:Sl} (i2:S.bs[i]?=some (pb S.bs n)) (i3:S.D.sl[i]?=some s) (ho:okA s.attrs) {nm:ByteArray} (hK:∀w',Below w.heap.size w w'->R (.returned (.tuple #[.int .i64 (posA s.attrs nm:Nat),.bool (thereA s.attrs nm)])) w') :
  CL 197 #[.pointer (some ⟨pb S.bs n,0,none⟩),.string nm] w R:=by
 refine ok197 (some ⟨pb S.bs n,0,none⟩) nm ?_
 unfold F197
 obtain⟨a,ca,oa,ra⟩:=h.cAts i2 i3
 obtain⟨A,c,hv,hr⟩:=oa.form
 rw [hv] at ca
 simp only [NonNil_some,ca,lds]
 exact bsearch_calls s.attrs (A,s.attrs.length,c) ⟨(h.rng s (mog i3)).atf,rfl,hr⟩ ho fun w' hb=>⟨_,_,rfl,hK w' hb⟩
end
section
variable {w w1 w2:Wd}{o o1 o2:Nat->Nat}{θ:Th}{S:PS}{M:Nat->Prop}{bs:List Nat}{R:RT}
theorem own_poke {v:Sv}{xs:List At}{k:Nat}{nv:ByteArray} (hO:Own LAt w 0 145 (slV v) xs) (hk:k<xs.length) {K:Wd->Prop}
  (hK:∀w1,Own LAt w1 0 145 (slV v) (xs.set k ⟨xs[k].nm,nv⟩)->Fm (fun b=>rowOf (slV v)=some b) w w1->K w1):IdxA v.1 v.2.1 (k:Nat) 2 fun q=>St w (q.add 1) (.string nv) fun w1=>K w1:=by
 obtain⟨g,c,rest,rfl,hrow,_,hB,hc1,hc2,hc3⟩:=hO.row1 om
 dsimp only
 rw [IdxA_some om om]
 simp only [Addr.add_mk,nza,tnc]
 have hall:=LAt.all_length xs
 have hLn:LAt.n=2:=rfl
 rw [hLn] at hall hc3
 refine st_blk hB (by rw [List.size_toArray,hc3];omega) fun w1 hB1 f1=>hK w1 ?_ (f1.mono fun b _ e=>by have e:b=g:=e;rw [hrow,e])
 have hset:(LAt.all xs++rest).set (k*2+1) (.string nv)=LAt.all (xs.set k ⟨xs[k].nm,nv⟩)++rest:=by
  rw [LAt.all_set xs k _ hk]
  have h1:LAt.all xs=(LAt.all xs).take (k*2)++(LAt.cells xs[k]++(LAt.all xs).drop ((k+1)*2)):=by
   have h2:=LAt.all_set xs k xs[k] hk
   rw [List.set_getElem_self] at h2
   exact h2
  have hl:((LAt.all xs).take (k*2)).length=k*2:=by rw [ltk,hall];omega
  show _=(LAt.all xs).take (k*2)++(LAt.cells ⟨xs[k].nm,nv⟩++(LAt.all xs).drop ((k+1)*2))++rest
  generalize (LAt.all xs).drop ((k+1)*2)=dd at h1 |-
  generalize hpp:(LAt.all xs).take (k*2)=pp at h1 hl |-
  rw [h1]
  simp only [LAt,laa,List.cons_append,lna]
  rw [List.set_append_right _ _ om,hl,show k*2+1-k*2=1 by omega]
  rfl
 rw [List.setIfInBounds_toArray,hset] at hB1
 have hln:(xs.set k ⟨xs[k].nm,nv⟩).length=xs.length:=List.length_set
 have hO1:=Own.ofBlk (k:=0) (c:=c) hB1 (Nat.zero_le _) (by rw [hln];exact hc1) om hc2 (by rw [<-hset,List.length_set,hc3];rfl)
 rw [hln] at hO1
 exact hO1
theorem PM.pokeAts (h:PM w o θ S) {i b:Nat}{s:Sl}{a:Sv}{l:List At} (hb:S.bs[i]?=some b) (hs:S.D.sl[i]?=some s) (ca:w.cell? ⟨b,5,none⟩=some (slV a)) (ra:∀x,rowOf (slV a)=some x->o x=10+4*i) (hf:Fm (fun x=>rowOf (slV a)=some x) w w1)
  (hO:Own LAt w1 0 145 (slV a) l) (hl:l.length<=1048576):PM w1 o θ (S.setS i { s with attrs:=l })/\EvP w o w1 o:=by
 obtain⟨a',kv,hn⟩:=h.nodes i b s hb hs
 have hcb:=h.nc i b hb
 have haa:a'=a:=by
  have hcell:=hn.blk.cell 5
  rw [ca] at hcell
  have e:(nodeC i s a' (ptrH S.bs s.parent) kv)[5]?=some (slV a'):=rfl
  rw [e] at hcell
  obtain⟨a1,a2,a3⟩:=a
  obtain⟨c1,c2,c3⟩:=a'
  unfold slV at hcell
  simp only [Option.some.injEq,Value.slice.injEq] at hcell
  obtain⟨rfl,rfl,rfl⟩:=hcell
  rfl
 subst haa
 have hrs:=h.rng s (mog hs)
 have hN:NodeR w1 (cl o none (9+4*i)) S.bs i b { s with attrs:=l } a' kv:=by
  rw [cl_none]
  refine⟨hf.blk hn.blk fun e=>?_,hO,ra,own_fm hn.kd1 hf fun x hx e=>?_,hn.kd2⟩
  ·have:=ra _ e;omega
  ·have:=ra _ e
   have:=hn.kd2 x hx;omega
 have:=h.setNode (r:=none) (c:=9+4*i) hb hs hf (fun x hx=>.inl (.inr (.inr (ra x hx)))) (.inl rfl) (fun x hx=>by cases hx) hN ⟨hrs.gen,hrs.par,hrs.kids,hrs.few,hl⟩
 rw [cl_none] at this
 exact⟨this.1,this.2.mono fun c=>nodeC_pc⟩
theorem ats_some {D:Im}{n:Nat}{s:Sl} (hs:slA D.sl n=some s):atsI D n=s.attrs:=by unfold atsI;rw [hs]
theorem okS_ats {s:Sl} (h:okSl s) (hk:s.kind=1):s.attrs.length<=32/\okA s.attrs:=by
 have h1:=h.1
 unfold ownF at h1
 rw [if_pos hk] at h1
 split at h1
 ·exact (attrF_ok _).1 h1
 ·cases h1
theorem posA_there {l:List At}{nm:ByteArray} (h:thereA l nm=true):∃hk:posA l nm<l.length,l[posA l nm].nm=nm:=by
 unfold thereA at h
 rcases Nat.lt_or_ge (posA l nm) l.length with hk | hk
 ·rw [gge hk] at h
  exact⟨hk,by simpa using h⟩
 ·rw [List.getElem?_eq_none hk] at h;cases h
theorem setAttr_calls (h:PM w o θ S) (hp:PI S) (hw:Wf S.D) (hT:Tabs (wc o w)) {n:Nat} (hn:n<18446744073709551616) {nm v:ByteArray}
  (hK:∀w' o' S',PM w' o' θ S'->PI S'->S'.D=(setAttrF S.D n nm v).1->EvP w o w' o'->R (.returned (.int .i64 (setAttrF S.D n nm v).2)) w') :
  CL 158 #[.pointer (some ⟨θ.g,0,none⟩),.int .u64 (n:Nat),.string nm,.string v] w R:=by
 refine ok158 (some ⟨θ.g,0,none⟩) (n:Nat) nm v ?_
 unfold F158
 refine of_calls h hn 1 dc fun w1 hb1=>⟨_,_,rfl,?_⟩
 have h1:=h.below hb1
 unfold setAttrF at hK
 refine brn (fun hne=>?_) (fun he=>?_)
 ·rw [if_pos hne] at hK
  exact hK w1 o S h1 hp rfl (EvC.below hb1)
 rw [if_neg (by rw [he];simp)] at hK
 obtain⟨s,hs,hk⟩:=chg_some he
 obtain⟨a1,a2⟩:=okS_ats (hw.a.ok n s hs) hk
 rw [if_pos he]
 refine name_calls ⟨_,rfl,?_⟩
 rw [brnot]
 refine br (fun hnm=>?_) (fun hnm=>?_)
 rotate_left
 ·rw [if_pos (by rw [hnm];decide)] at hK
  exact hK w1 o S h1 hp rfl (EvC.below hb1)
 rw [if_neg (by rw [hnm];simp)] at hK
 refine charsText_calls v ((hT.sub sub_of_only).keep hb1) fun w2 hb2=>⟨_,_,rfl,?_⟩
 have B2:=btr hb1 hb1.size hb2
 have h2:=h.below B2
 refine brn (fun hne=>?_) (fun hz=>?_)
 ·rw [if_pos om] at hK
  exact hK w2 o S h2 hp rfl (EvC.below B2)
 rw [if_neg om,ats_some hs] at hK
 obtain⟨i,i1,i2,i3,i4⟩:=h2.of hs
 refine attr_calls h2 i2 i3 a2 fun w3 hb3=>⟨_,_,rfl,?_⟩
 have B3:=btr B2 B2.size hb3
 have h3:=h.below B3
 obtain⟨a,ca,oa,ra⟩:=h3.cAts i2 i3
 obtain⟨A,c,hv,hr⟩:=oa.form
 have hv2:a=(A,s.attrs.length,c):=by
  obtain⟨z1,z2,z3⟩:=a
  unfold slV at hv
  simp only [Value.slice.injEq] at hv
  obtain⟨rfl,rfl,rfl⟩:=hv
  rfl
 have ca':w3.cell? ⟨pb S.bs n,5,none⟩=some (.slice A s.attrs.length c):=by rw [ca,hv]
 have hle:=posA_le s.attrs nm
 refine⟨fun w'=>∃o',PM w' o' θ { S with D:=updI S.D n fun s=>{ s with attrs:=setA' s.attrs nm v } }/\EvP w3 o w' o'/\¬(thereA s.attrs nm=false/\32<=s.attrs.length),?_,?_⟩
 ·rintro w4 ⟨o4,h4,e4,hnl⟩
  unfold F158_j15
  rw [if_neg hnl] at hK
  exact hK w4 o4 _ h4 (hp.updI (f:=fun s=>{ s with attrs:=setA' s.attrs nm v }) hs rfl rfl) rfl (EvP.trans (EvC.below B3) e4)
 ·refine br (fun ht=>?_) (fun ht=>?_)
  ·obtain⟨k1,k2⟩:=posA_there ht
   simp only [NonNil_some,ca',lds]
   rw [hv2] at oa
   refine own_poke oa k1 fun w4 o4 f4=>?_
   rw [k2] at o4
   obtain⟨h4,e4⟩:=h3.pokeAts (a:=(A,s.attrs.length,c)) i2 i3 ca' (by rw [<-hv2];exact ra) f4 o4 (by rw [List.length_set];omega)
   refine⟨o,?_,e4,by rw [ht];simp⟩
   have:setA' s.attrs nm v=s.attrs.set (posA s.attrs nm) ⟨nm,v⟩:=by unfold setA';rw [if_pos ht]
   rw [<-this,updI_setS (f:=fun s=>{ s with attrs:=setA' s.attrs nm v }) i1 i3] at h4
   exact h4
  ·simp only [NonNil_some,ca',lds]
   refine brd (fun hge=>?_) (fun hlt=>?_)
   ·rw [if_pos ⟨ht,om⟩] at hK
    exact hK w3 o S h3 hp rfl (EvC.below B3)
   ·refine al fun gx w4 hb4 bx hgex=>?_
    have h4:=h3.below hb4
    rw [hv2] at oa ra
    refine insA_calls (x:=⟨nm,v⟩) (oa.keep hb4) hle bx rfl (fun e=>by
     have:=ra gx e
     have:=h3.lt gx om
     omega) om fun v' w5 o5 f5 r5=>⟨_,_,_,rfl,?_⟩
    refine h4.setAts (b:=pb S.bs n) i2 i3 (v:=(A,s.attrs.length,c)) (v':=v') ra f5 o5 r5 (by simp;omega) fun w6 o6 h6 e6=>⟨o6,?_,EvP.trans (EvC.below hb4) (e6.mono fun c=>nodeC_pc),?_⟩
    ·have:setA' s.attrs nm v=s.attrs.take (posA s.attrs nm)++⟨nm,v⟩ :: s.attrs.drop (posA s.attrs nm):=by unfold setA';rw [if_neg (by rw [ht];decide)]
     rw [<-this,updI_setS (f:=fun s=>{ s with attrs:=setA' s.attrs nm v }) i1 i3] at h6
     exact h6
    ·rintro ⟨_,h7⟩;omega
theorem dropAttr_calls (h:PM w o θ S) (hp:PI S) (hw:Wf S.D) {n:Nat} (hn:n<18446744073709551616) {nm:ByteArray}
  (hK:∀w' o' S',PM w' o' θ S'->PI S'->S'.D=(dropAttrF S.D n nm).1->EvP w o w' o'->R (.returned (.int .i64 (dropAttrF S.D n nm).2)) w') :
  CL 159 #[.pointer (some ⟨θ.g,0,none⟩),.int .u64 (n:Nat),.string nm] w R:=by
 refine ok159 (some ⟨θ.g,0,none⟩) (n:Nat) nm ?_
 unfold F159
 refine of_calls h hn 1 dc fun w1 hb1=>⟨_,_,rfl,?_⟩
 have h1:=h.below hb1
 unfold dropAttrF at hK
 refine brn (fun hne=>?_) (fun he=>?_)
 ·rw [if_pos hne] at hK
  exact hK w1 o S h1 hp rfl (EvC.below hb1)
 rw [if_neg (by rw [he];simp)] at hK
 obtain⟨s,hs,hk⟩:=chg_some he
 obtain⟨a1,a2⟩:=okS_ats (hw.a.ok n s hs) hk
 rw [if_pos he]
 rw [ats_some hs] at hK
 obtain⟨i,i1,i2,i3,i4⟩:=h1.of hs
 refine attr_calls h1 i2 i3 a2 fun w3 hb3=>⟨_,_,rfl,?_⟩
 have B3:=btr hb1 hb1.size hb3
 have h3:=h.below B3
 rw [brnot]
 refine br (fun ht=>?_) (fun ht=>?_)
 ·rw [if_pos ht] at hK
  obtain⟨k1,k2⟩:=posA_there ht
  obtain⟨a,ca,oa,ra⟩:=h3.cAts i2 i3
  obtain⟨A,c,hv,hr⟩:=oa.form
  have hv2:a=(A,s.attrs.length,c):=by
   obtain⟨z1,z2,z3⟩:=a
   unfold slV at hv
   simp only [Value.slice.injEq] at hv
   obtain⟨rfl,rfl,rfl⟩:=hv
   rfl
  have ca':w3.cell? ⟨pb S.bs n,5,none⟩=some (.slice A s.attrs.length c):=by rw [ca,hv]
  simp only [NonNil_some,ca',lds]
  rw [hv2] at oa ra
  have e1:((posA s.attrs nm:Nat):Int)+1=((posA s.attrs nm+1:Nat):Int):=by omega
  rw [e1]
  refine⟨inR_i64 om om,?_⟩
  refine delA_calls oa om om fun v' w5 o5 f5 r5=>⟨_,_,_,rfl,?_⟩
  refine h3.setAts (b:=pb S.bs n) i2 i3 (v:=(A,s.attrs.length,c)) (v':=v') ra f5 o5 r5 (by simp;omega) fun w6 o6 h6 e6=>?_
  rw [updI_setS (f:=fun s=>{ s with attrs:=s.attrs.take (posA s.attrs nm)++s.attrs.drop (posA s.attrs nm+1) }) i1 i3] at h6
  exact hK w6 o6 _ h6 (hp.updI (f:=fun s=>{ s with attrs:=s.attrs.take (posA s.attrs nm)++s.attrs.drop (posA s.attrs nm+1) }) hs rfl rfl) rfl (EvP.trans (EvC.below B3) (e6.mono fun c=>nodeC_pc))
 ·rw [if_neg (by rw [ht];decide)] at hK
  exact hK w3 o S h3 hp rfl (EvC.below B3)
end
def vx (ok:Nat->Bool) (g:Nat) (vs:Sv) (w:Wd):Wd:=wOnly (fun b=>ok b && (!(Nat.beq b g) && decide (rowOf (slV vs)≠some b))) w
structure RSb (w:Wd) (s:Sl) (e:S8):Prop where
 gen:e.gen=s.gen
 live:e.live=s.live
 kind:e.kind=s.kind
 nm:e.nm=s.nm
 text:e.text=s.text
 parent:e.parent=s.parent
 ats:RR LAt w s.attrs e.ats
theorem RSb.sub {w w1:Wd}{s:Sl}{e:S8} (hs:Sub w w1) (h:RSb w s e):RSb w1 s e:=⟨h.gen,h.live,h.kind,h.nm,h.text,h.parent,h.ats.sub hs⟩
structure RO (ok:Nat->Bool) (opn:List Nat) (w:Wd) (g:Nat) (D:Im) (vs vr:Sv) (es:List S8):Prop where
 blk:Blk w g #[slV vs,slV vr] 85
 own:Own LS8 w 0 88 (slV vs) es
 row:∀b,rowOf (slV vs)=some b->b≠g
 len:es.length=D.sl.length
 few:D.sl.length<=4096
 el:∀(i:Nat) (s:Sl) (e:S8),D.sl[i]?=some s->es[i]?=some e->RSb (vx ok g vs w) s e/\(i∉opn->RR LHn (vx ok g vs w) s.kids e.kids)
 roots:RR LHn (vx ok g vs w) D.roots vr
 ok:∀s∈D.sl,SlOk s
 rok:∀h∈D.roots,h<18446744073709551616
structure RM (ok:Nat->Bool) (w:Wd) (g:Nat) (D:Im) (vs vr:Sv):Prop where
 blk:Blk w g #[slV vs,slV vr] 85
 im:RIm (wOnly (fun b=>ok b && !(Nat.beq b g)) w) D vs vr
 few:D.sl.length<=4096
section
variable {ok ok1:Nat->Bool}{opn:List Nat}{w w1:Wd}{g:Nat}{D:Im}{vs vr:Sv}{es:List S8}{M:Nat->Prop}{R:RT}
theorem vx_iff {b:Nat}:(ok b && (!(Nat.beq b g) && decide (rowOf (slV vs)≠some b)))=true↔ok b=true/\b≠g/\rowOf (slV vs)≠some b:=by
 rw [bae,bae,dete]
 constructor
 ·rintro ⟨h1,h2,h3⟩
  refine⟨h1,fun e=>?_,h3⟩
  subst e
  rw [show Nat.beq b b=true from Nat.beq_refl b] at h2;cases h2
 ·rintro ⟨h1,h2,h3⟩
  refine⟨h1,?_,h3⟩
  cases h:Nat.beq b g with
  | false=>rfl
  | true=>exact absurd (nbe h) h2
theorem vx_sub {vs1:Sv} (hf:Fm M w w1) (hm:∀b,b<w.heap.size->M b->ok b=false\/b=g\/rowOf (slV vs)=some b) (hk:∀b,b<w.heap.size->ok b=true->ok1 b=true)
  (hr:∀b,rowOf (slV vs1)=some b->rowOf (slV vs)=some b\/w.heap.size<=b):Sub (vx ok g vs w) (vx ok1 g vs1 w1):=
 sub_only (fun b hb h=>by
  obtain⟨h1,h2,h3⟩:=vx_iff.1 h
  refine vx_iff.2 ⟨hk b hb h1,h2,fun e=>?_⟩
  rcases hr b e with e | e
  ·exact h3 e
  ·omega) fun b hb h=>hf.block b hb fun hm2=>by
  obtain⟨h1,h2,h3⟩:=vx_iff.1 h
  rcases hm b hb hm2 with e | e | e
  ·rw [e] at h1;cases h1
  ·exact h2 e
  ·exact h3 e
theorem RO.c0 (h:RO ok opn w g D vs vr es):w.cell? ⟨g,0,none⟩=some (.slice vs.1 vs.2.1 vs.2.2):=by rw [h.blk.cell];rfl
theorem RO.c1 (h:RO ok opn w g D vs vr es):w.cell? ⟨g,1,none⟩=some (.slice vr.1 vr.2.1 vr.2.2):=by rw [h.blk.cell];rfl
theorem slv_form {v:Sv}{A:OA}{n c:Nat} (h:slV v=.slice A n c):v=(A,n,c):=by
 obtain⟨a1,a2,a3⟩:=v
 unfold slV at h
 simp only [Value.slice.injEq] at h
 obtain⟨rfl,rfl,rfl⟩:=h
 rfl
theorem RO.rd (h:RO ok opn w g D vs vr es):vs.2.1=es.length/\Rd LS8 w vs.1 vs.2.2 es:=by
 obtain⟨A,c,hv,hr⟩:=h.own.form
 rw [slv_form hv];exact⟨rfl,hr⟩
theorem RM.rdr (h:RM ok w g D vs vr):RDr w g D vs vr:=⟨by rw [h.blk.cell];rfl,by rw [h.blk.cell];rfl,h.im.sub sub_of_only⟩
theorem vx_wk:Sub (vx ok g vs w) (wOnly (fun b=>ok b && !(Nat.beq b g)) w):=
 sub_only (fun b _ h=>by
  rw [bae,bae] at h
  rw [bae];exact⟨h.1,h.2.1⟩) fun _ _ _=>rfl
theorem Z2.ofGet {α β:Type}{P:α->β->Prop}:∀{l:List α}{m:List β},m.length=l.length->(∀(i:Nat) (a:α) (b:β),l[i]?=some a->m[i]?=some b->P a b)->Z2 P l m
 | [],m,h,_=>enl h
 | a :: l,[],h,_=>by simp at h
 | a :: l,b :: m,h,k=>⟨b,m,rfl,k 0 a b rfl rfl,Z2.ofGet (by simpa using h) fun i x y hx hy=>k (i+1) x y (by simpa using hx) (by simpa using hy)⟩
theorem RO.close (h:RO ok [] w g D vs vr es) (hrow:∀b,rowOf (slV vs)=some b->ok b=true):RM ok w g D vs vr:=by
 have hfew:=h.few
 refine⟨h.blk,⟨om,⟨es,h.rd.1,?_,Z2.ofGet h.len fun i s e hs he=>?_⟩,h.roots.sub vx_wk,h.ok,h.rok⟩,hfew⟩
 ·have ho:Own LS8 (wOnly (fun b=>ok b && !(Nat.beq b g)) w) 0 88 (slV vs) es:=by
   rcases h.own with h1 | h1 | ⟨g',c,cur,hv,hb,hh,hn,hm,hs,ht⟩
   ·exact .inl h1
   ·exact .inr (.inl h1)
   ·refine .inr (.inr ⟨g',c,cur,hv,hb,cells_only ?_ hh,hn,hm,hs,ht⟩)
    have hr:rowOf (slV vs)=some g':=by rw [hv];rfl
    rw [hrow g' hr]
    have:=h.row g' hr
    cases h:Nat.beq g' g with
    | false=>rfl
    | true=>exact absurd (nbe h) this
  obtain⟨A,c,hv,hr⟩:=ho.form
  rw [slv_form hv];exact hr
 ·obtain⟨b1,b2⟩:=h.el i s e hs he
  have b2:=(b2 sm).sub vx_wk
  have b1:=b1.sub vx_wk
  exact⟨b1.gen,b1.live,b1.kind,b1.nm,b1.text,b1.parent,b1.ats,b2⟩
theorem RM.copy (h:RM ok w g D vs vr) {a1:Addr}{w2:Wd}{K:Wd->Prop} (hb2:Below w.heap.size w w2)
  (hK:∀w' vs' es,RO ok [] w' g D vs' vr es->Fm (·=g) w w'->Fm (·=g) w2 w'->(∀b,rowOf (slV vs')=some b->w.heap.size<=b)->K w') :
  Raw P0 (Builtin.append_ #[22,22] 22 #[.slice (some a1) 0 0,.slice vs.1 vs.2.1 vs.2.2]) w2 fun v w3=>∃(A:OA) (n c:Nat),v=.slice A n c/\St w3 ⟨g,0,none⟩ (.slice A n c) K:=by
 obtain⟨es,e1,e2,e3⟩:=h.im.row
 have hel:=e3.len
 have hfew:=h.few
 have hr2:Rd LS8 w2 vs.1 vs.2.2 es:=(sub_of_only.rd e2:Rd LS8 w _ _ _).keep hb2
 refine ap (L:=LS8) (e:=88) (xs:=[]) (ys:=es) (base:=w.heap.size) (.agg #[.int .u32 0,.bool false,.int .i64 0,eS,.slice none 0 0,eS,.int .u64 0,.slice none 0 0]) 104 e1 kr kr kr (Own.bare _ _ _ _ _) hr2 hb2.size (by simp only [List.length_nil,nza];omega) (by simp [maxLen];omega) fun A c w3 o3 g3=>⟨A,_,c,rfl,?_⟩
 rw [lna] at o3
 have hB3:Below w.heap.size w w3:=hb2.trans g3.below
 have hg:=h.blk.lt
 have hblk3:=h.blk.keep hB3
 refine st_blk hblk3 sm fun w4 b4 f4=>?_
 have b4:Blk w4 g #[slV (A,[].length+es.length,c),slV vr] 85:=b4
 have hrow:∀b,rowOf (slV (A,([]:List S8).length+es.length,c))=some b->w.heap.size<=b:=fun b hb=>(o3.lt b hb).1
 have F4:Fm (·=g) w w4:=(Fm.below hB3).trans f4
 have hsub:Sub (wOnly (fun b=>ok b && !(Nat.beq b g)) w) (vx ok g (A,([]:List S8).length+es.length,c) w4):=
  sub_only (fun b hb hh=>by
   rw [bae] at hh
   refine vx_iff.2 ⟨hh.1,fun e=>?_,fun e=>?_⟩
   ·subst e;rw [show Nat.beq b b=true from Nat.beq_refl b] at hh;cases hh.2
   ·have:=hrow b e;omega) fun b hb hh=>F4.block b hb fun e=>by
   have e:b=g:=e
   subst e;rw [bae,show Nat.beq b b=true from Nat.beq_refl b] at hh;cases hh.2
 refine hK w4 (A,([]:List S8).length+es.length,c) es ⟨b4,?_,fun b hb=>by have:=hrow b hb;omega,hel,hfew,fun i s e hs he=>?_,h.im.roots.sub hsub,h.im.ok,h.im.rok⟩ F4 ((Fm.grown g3.grown fun b hb=>by cases hb).trans f4) hrow
 ·exact (own_fm o3 f4 fun b hb e=>by have e:b=g:=e;have:=hrow b hb;omega).rebase fun k _=>Nat.zero_le _
 ·obtain⟨hi,hs⟩:=gsi.1 hs
  obtain⟨hi',he⟩:=gsi.1 he
  have:=(e3.get i hi hi').sub hsub
  rw [hs,he] at this
  exact⟨⟨this.gen,this.live,this.kind,this.nm,this.text,this.parent,this.ats⟩,fun _=>this.kids⟩
end
end Go.Proofs.YtnbgiacnbheonaaGreatDoor
