/- Search: SearchFinds, the card. -/
import Derived.Test.YtccplipiahdhiaaGreatDoorProg
import Derived.Lib.ConvBytes
import Derived.Laws.IdiomStrings
import Derived.Shelf.Strings.FuncGrows
import Derived.Test.YtccplipiahdhiaaGreatDoorSf3
namespace Go.Proofs.YtccplipiahdhiaaGreatDoor
open Go.RowKit Go.Vc
set_option linter.unusedVariables false
set_option linter.unusedSimpArgs false
set_option maxRecDepth 100000
def wrd (A:Nat→Option Sl) (E:Nat→Option (Nat × Nat)):Nat→Nat→List Nat
 | 0,_=>[]
 | r+1,n=>match A n with | some s=>(eN E n).1 :: s.kids.flatMap (wrd A E r)++[(eN E n).2] | none=>[]
theorem wrd_some {A:Nat→Option Sl}{E:Nat→Option (Nat × Nat)}{r n:Nat}{s:Sl} (h:A n=some s):wrd A E (r+1) n=(eN E n).1 :: s.kids.flatMap (wrd A E r)++[(eN E n).2]:=by rw [wrd,h]
theorem flat_congr {α:Type}{f h:Nat→List α}:∀{l:List Nat},(∀y∈l,f y=h y)→l.flatMap f=l.flatMap h
 | [],_=>rfl
 | y :: l,k=>by rw [List.flatMap_cons,List.flatMap_cons,k y (by simp),flat_congr fun z hz=>k z (by simp [hz])]
theorem wrd_congr {A:Nat→Option Sl}{E E':Nat→Option (Nat × Nat)}:∀(r n:Nat),(∀y∈allA A r n,E y=E' y)→wrd A E r n=wrd A E' r n
 | 0,n,_=>rfl
 | r+1,n,h=>by
  cases hs:A n with
  | none=>unfold wrd;rw [hs]
  | some s =>
   rw [allA_some hs] at h
   rw [wrd_some hs,wrd_some hs]
   have e1:eN E n=eN E' n:=by unfold eN;rw [h n (by simp)]
   rw [e1,flat_congr fun y hy=>wrd_congr r y fun z hz=>h z (List.mem_cons_of_mem _ (List.mem_flatMap.2 ⟨y,hy,hz⟩))]
theorem flat_len2 {f h:Nat→List Nat}:∀{l:List Nat},(∀y∈l,(f y).length=2*(h y).length)→(l.flatMap f).length=2*(l.flatMap h).length
 | [],_=>rfl
 | y :: l,k=>by
  rw [List.flatMap_cons,List.flatMap_cons,List.length_append,List.length_append,k y (by simp),flat_len2 fun z hz=>k z (by simp [hz])];omega
theorem wrd_len {A:Nat→Option Sl}{E:Nat→Option (Nat × Nat)}{roots loose:List Nat} (hA:WfA A roots loose):∀(r n c:Nat) {s:Sl},A n=some s→Ch A n c→65≤c+r→(wrd A E r n).length=2*(allA A r n).length:=by
 intro r
 induction r with
 | zero =>
  intro n c s hs hc hr
  obtain⟨c',h1,h2⟩:=hA.chain n s hs
  have:=hc.fn h2;omega
 | succ r ih =>
  intro n c s hs hc hr
  rw [wrd_some hs,allA_some hs,List.length_append,List.length_cons,List.length_cons,flat_len2 (h:=allA A r) fun y hy=>by
   obtain⟨t,t1,t2⟩:=((hA.kid n s hs).2 y hy).2
   exact ih y (c+1) t1 (.succ (hA.ne0 t1) t1 (by rw [t2];exact hc)) (by omega)]
  simp;omega
section
variable {w w1 w2:World}{o o1 o2:Nat→Nat}{g:Nat}{ty:TypeId}{S:PS}{bs nms lbs:List Nat}{mb gv:Nat}{wr:Int}{em:Option Nat}{E:Nat→Option (Nat × Nat)}{M:Nat→Prop}{R:Ending→World→Prop}{θ:Th}{loose:List Nat}
theorem insAt_mid {a b:List Nat}{x y:Nat}{ws:List Nat}{j:Nat} (hj:j=a.length+1+ws.length):insAt (a++(x :: ws)++b) j y=a++(x :: ws++[y])++b:=by
 unfold insAt
 have hl:(a++(x :: ws)).length=j:=by simp;omega
 rw [List.take_append_of_le_length (by omega),List.drop_append_of_le_length (by omega),←hl,List.take_length,List.drop_length]
 simp
theorem EvL.mine (h:EvL w o w1 o1) (hf:Fm M w1 w2) (hm:∀b,b < w1.heap.size→M b→w.heap.size≤b):EvL w o w2 o1 :=
 ⟨⟨hf.os.trans h.fm.os,hf.tape.trans h.fm.tape,hf.output.trans h.fm.output,Nat.le_trans h.fm.size hf.size,fun b hb hn=>by
  rw [hf.block b (Nat.lt_of_lt_of_le hb h.fm.size) (fun e=>by have:=hm b (Nat.lt_of_lt_of_le hb h.fm.size) e;omega),h.fm.block b hb hn]⟩,h.same,h.old,h.new⟩
theorem tag_calls (hA:WfA (slA S.D.sl) S.D.roots []):∀(r n c:Nat) {s:Sl}{w:World}{o:Nat→Nat}{nms:List Nat}{gv:Nat}{E:Nat→Option (Nat × Nat)}{i x:Nat}{R:Ending→World→Prop},slA S.D.sl n=some s→Ch (slA S.D.sl) n c→65≤c+r →
  LX w o g ty S nms gv E→nms[i]?=some x→nms.length+2*(allA (slA S.D.sl) r n).length≤8193→gv+2*(allA (slA S.D.sl) r n).length < 9223372036854775808 →
  (∀w' o' E',LB w' o' g ty S (nms.take (i+1)++wrd (slA S.D.sl) E' r n++nms.drop (i+1)) (gv+2*(allA (slA S.D.sl) r n).length) E'→EvL w o w' o'→(∀y,y∉allA (slA S.D.sl) r n→E' y=E y)→(∀y∈allA (slA S.D.sl) r n,E' y≠none)→R (.returned (.int .u64 ((eN E' n).2:Nat))) w') →
  Calls Tryz.prog 70 #[.pointer (some ⟨g,0,none⟩),.int .u64 (n:Nat),.int .u64 (x:Nat)] w R:=by
 intro r
 induction r with
 | zero =>
  intro n c s w o nms gv E i x R hs hc hr
  obtain⟨c',h1,h2⟩:=hA.chain n s hs
  have:=hc.fn h2;omega
 | succ r ih =>
  intro n c s w o nms gv E i x R hs hc hr h hx hroom hgv hK
  have hil:=(List.getElem?_eq_some_iff.1 hx).1
  have hnd:=all_nodup hA (r+1) n ⟨s,hs⟩ (fun z hz=>by simp at hz)
  rw [allA_some hs] at hroom hgv hK hnd
  rw [List.length_cons] at hroom hgv hK
  obtain⟨hnn,hnd⟩:=List.nodup_cons.1 hnd
  refine ok70 (some ⟨g,0,none⟩) n x ?_
  unfold F70
  refine al fun g7 w1 hb1 b7 hge7=>?_
  have o7:o g7=0:=Classical.byContradiction fun e=>by have:=h.lt g7 e;omega
  simp only [NonNil_some,Addr.add_mk,Nat.zero_add]
  refine After_x (h.below hb1) (by omega) (by omega) hx fun w2 o2 h2 ev2=>⟨_,_,rfl,?_⟩
  have b72:=ev2.fm.blk b7 (fun e=>by omega)
  have o72:o2 g7=0:=ev2.old g7 b7.lt o7
  refine st_blk b72 (by simp) fun w3 b73 f3=>?_
  simp only [List.setIfInBounds_toArray,List.set_cons_zero,List.set_cons_succ] at b73
  have h3:=h2.fm f3 fun b hb e=>by have e:b=g7:=e;rw [e];exact o72
  simp only [NonNil_some,Addr.add_mk,Nat.zero_add,b73.cell,lds]
  obtain⟨tl,-,hpm⟩:=h3.x.pm
  refine Kids_calls (θ:=⟨g,ty,tl⟩) hpm hA hpm.few hs fun v w4 hb4 ov=>⟨_,_,_,_,rfl,?_⟩
  have h4:=h3.fm (M:=fun _=>False) (.below hb4) fun _ _ h=>h.elim
  have b74:=b73.keep hb4
  have hkid:∀y∈s.kids,∃t,slA S.D.sl y=some t∧t.parent=n:=fun y hy=>((hA.kid n s hs).2 y hy).2
  have hv1:v.2.1=s.kids.length:=by
   obtain⟨A,cc,hvf,_⟩:=ov.form
   rw [slvF hvf]
  have evA:EvL w o w2 o2:=(EvL.below hb1).trans ev2
  have E4:EvL w o w4 o2:=(evA.mine f3 fun b _ e=>by have e:b=g7:=e;omega).trans (EvL.below hb4)
  have hvc:∀b,rowOf (slV v)=some b→o2 b=0:=fun b hb=>Classical.byContradiction fun e=>by
   have:=h3.x.lt b e
   have:=(ov.lt b hb).1
   omega
  have hkl:∀y∈s.kids,(∃t,slA S.D.sl y=some t)∧Ch (slA S.D.sl) y (c+1):=fun y hy=>by
   obtain⟨t,t1,t2⟩:=hkid y hy
   exact⟨⟨t,t1⟩,.succ (hA.ne0 t1) t1 (by rw [t2];exact hc)⟩
  have hk4:s.kids.length≤4096:=Nat.le_trans (live_few (fun y hy=>(hkl y hy).1) (hA.kid n s hs).1) hpm.few
  have hwl:∀(E':Nat→Option (Nat × Nat)) (l:List Nat),(∀y∈l,y∈s.kids)→(l.flatMap (wrd (slA S.D.sl) E' r)).length=2*(l.flatMap (allA (slA S.D.sl) r)).length:=fun E' l hl=>flat_len2 fun y hy=>by
   obtain⟨⟨t,t1⟩,t2⟩:=hkl y (hl y hy)
   exact wrd_len hA r y (c+1) t1 t2 (by omega)
  refine⟨fun last j w'=>∃(k:Nat) (o':Nat→Nat) (E':Nat→Option (Nat × Nat)) (la:Nat),last=(la:Nat)∧j=k∧k≤s.kids.length ∧
    LB w' o' g ty S (nms.take (i+1)++((gv+1) :: (s.kids.take k).flatMap (wrd (slA S.D.sl) E' r))++nms.drop (i+1)) (gv+1+2*((s.kids.take k).flatMap (allA (slA S.D.sl) r)).length) E' ∧
    EvL w o w' o'∧(∀y,y∉(s.kids.take k).flatMap (allA (slA S.D.sl) r)→E' y=E y)∧(∀y∈(s.kids.take k).flatMap (allA (slA S.D.sl) r),E' y≠none) ∧
    Blk w' g7 #[.int .u64 (gv+1:Nat),.int .u64 0] 146∧o' g7=0∧Own LHn w' w3.heap.size 65 (slV v) s.kids∧(∀b,rowOf (slV v)=some b→o' b=0) ∧
    (nms.take (i+1)++((gv+1) :: (s.kids.take k).flatMap (wrd (slA S.D.sl) E' r))++nms.drop (i+1))[i+1+((s.kids.take k).flatMap (wrd (slA S.D.sl) E' r)).length]?=some la,fun _ j _=>s.kids.length-j.toNat,
   ⟨0,o2,E,gv+1,rfl,rfl,Nat.zero_le _,?_,E4,fun _ _=>rfl,fun y hy=>by simp at hy,b74,o72,ov,hvc,?_⟩,?_⟩
  ·have e:insAt nms (i+1) (gv+1)=nms.take (i+1)++((gv+1) :: (s.kids.take 0).flatMap (wrd (slA S.D.sl) E r))++nms.drop (i+1):=by unfold insAt;simp
   rw [e] at h4
   simpa using h4
  ·rw [List.append_assoc,List.getElem?_append_right (by simp;omega)]
   simp only [List.take_zero,List.flatMap_nil,List.length_nil,Nat.add_zero,List.length_take]
   rw [show i+1-min (i+1) nms.length=0 by omega];rfl
  rintro last j w5 ⟨k,o5,E5,la,rfl,rfl,hk,h5,ev5,q1,q2,b75,o75,ov5,ovc,hla⟩
  unfold F70_l6
  have hm5:=hwl E5 (s.kids.take k) fun y hy=>List.mem_of_mem_take hy
  have htl:(nms.take (i+1)).length=i+1:=by rw [List.length_take];omega
  refine brd (fun hlt=>?_) (fun hge=>?_)
  ·have hk2:k < s.kids.length:=by omega
   obtain⟨A,cc,hvf,hrd⟩:=ov5.form
   have e1:v.1=A:=by rw [slvF hvf]
   rw [←e1] at hrd
   refine hrd.hn hv1 rfl hk2 fun bb oo cx=>?_
   simp only [cx,lds]
   have hkm:s.kids[k]∈s.kids:=List.getElem_mem hk2
   obtain⟨⟨t,t1⟩,t2⟩:=hkl s.kids[k] hkm
   have hst:∀f:Nat→List Nat,(s.kids.take (k+1)).flatMap f=(s.kids.take k).flatMap f++f s.kids[k]:=fun f=>by
    rw [List.take_succ_eq_append_getElem hk2,List.flatMap_append];simp
   have hle:((s.kids.take (k+1)).flatMap (allA (slA S.D.sl) r)).length≤(s.kids.flatMap (allA (slA S.D.sl) r)).length:=by
    have e:s.kids.flatMap (allA (slA S.D.sl) r)=(s.kids.take (k+1)).flatMap (allA (slA S.D.sl) r)++(s.kids.drop (k+1)).flatMap (allA (slA S.D.sl) r):=by rw [←List.flatMap_append,List.take_append_drop]
    rw [e,List.length_append];omega
   have hdis:∀y∈(s.kids.take k).flatMap (allA (slA S.D.sl) r),y∉allA (slA S.D.sl) r s.kids[k]:=fun y hy hy2=>by
    have e:s.kids.flatMap (allA (slA S.D.sl) r)=(s.kids.take (k+1)).flatMap (allA (slA S.D.sl) r)++(s.kids.drop (k+1)).flatMap (allA (slA S.D.sl) r):=by rw [←List.flatMap_append,List.take_append_drop]
    rw [e,hst] at hnd
    have:=(List.nodup_append.1 hnd).1
    exact (List.nodup_append.1 this).2.2 y hy y hy2 rfl
   rw [hst,List.length_append] at hle
   have hLlen:(nms.take (i+1)++((gv+1) :: (s.kids.take k).flatMap (wrd (slA S.D.sl) E5 r))++nms.drop (i+1)).length=nms.length+1+((s.kids.take k).flatMap (wrd (slA S.D.sl) E5 r)).length:=by simp;omega
   refine ih s.kids[k] (c+1) t1 t2 (by omega) h5.x hla (by rw [hLlen,hm5];omega) (by omega) fun w6 o6 E6 h6 ev6 z1 z2=>⟨_,rfl,inR_i64 (by omega) (by omega),⟨k+1,o6,E6,_,rfl,by simp,by omega,?_,ev5.trans ev6,?_,?_,ev6.fm.blk b75 (fun e=>by omega),ev6.old g7 b75.lt o75,own_fm ov5 ev6.fm fun b hb e=>by have:=ovc b hb;omega,fun b hb=>ev6.old b (ov5.lt b hb).2 (ovc b hb),?_⟩,(by first | omega | (dsimp only;omega))⟩
   ·have hcg:(s.kids.take k).flatMap (wrd (slA S.D.sl) E5 r)=(s.kids.take k).flatMap (wrd (slA S.D.sl) E6 r):=flat_congr fun y hy=>wrd_congr r y fun z hz=>(z1 z (hdis z (List.mem_flatMap.2 ⟨y,hy,hz⟩))).symm
    rw [hst,hst,←hcg]
    have e1:(nms.take (i+1)++((gv+1) :: (s.kids.take k).flatMap (wrd (slA S.D.sl) E5 r))).length=i+1+((s.kids.take k).flatMap (wrd (slA S.D.sl) E5 r)).length+1:=by rw [List.length_append,htl,List.length_cons];omega
    rw [List.take_left' e1,List.drop_left' e1] at h6
    have e2:nms.take (i+1)++((gv+1) :: (s.kids.take k).flatMap (wrd (slA S.D.sl) E5 r))++wrd (slA S.D.sl) E6 r s.kids[k]++nms.drop (i+1)=nms.take (i+1)++((gv+1) :: ((s.kids.take k).flatMap (wrd (slA S.D.sl) E5 r)++wrd (slA S.D.sl) E6 r s.kids[k]))++nms.drop (i+1):=by simp
    rw [e2] at h6
    have e3:gv+1+2*((s.kids.take k).flatMap (allA (slA S.D.sl) r)).length+2*(allA (slA S.D.sl) r s.kids[k]).length=gv+1+2*((s.kids.take k).flatMap (allA (slA S.D.sl) r)++allA (slA S.D.sl) r s.kids[k]).length:=by rw [List.length_append];omega
    rw [e3] at h6
    exact h6
   ·intro y hy
    rw [hst,List.mem_append,not_or] at hy
    rw [z1 y hy.2];exact q1 y hy.1
   ·intro y hy
    rw [hst,List.mem_append] at hy
    rcases hy with hy | hy
    ·rw [z1 y (hdis y hy)];exact q2 y hy
    ·exact z2 y hy
   ·obtain⟨c',d1,d2⟩:=hA.chain _ t t1
    have:=t2.fn d2
    obtain⟨r',rfl⟩:∃r',r=r'+1:=⟨r-1,by omega⟩
    rw [hst,wrd_some (E:=E6) t1]
    generalize (s.kids.take k).flatMap (wrd (slA S.D.sl) E6 (r'+1))=ws
    generalize t.kids.flatMap (wrd (slA S.D.sl) E6 r')=xs
    have e1:nms.take (i+1)++(gv+1) :: (ws++((eN E6 s.kids[k]).1 :: xs++[(eN E6 s.kids[k]).2]))++nms.drop (i+1)=(nms.take (i+1)++(gv+1) :: (ws++((eN E6 s.kids[k]).1 :: xs)))++((eN E6 s.kids[k]).2 :: nms.drop (i+1)):=by simp
    rw [e1,List.getElem?_append_right (by simp only [List.length_append,List.length_cons,List.length_nil,htl];omega)]
    simp only [List.length_append,List.length_cons,List.length_nil,htl]
    rw [show i+1+(ws.length+(xs.length+1+(0+1)))-(i+1+(ws.length+(xs.length+1)+1))=0 by omega]
    rfl
  ·have hk2:k=s.kids.length:=by omega
   subst hk2
   rw [List.take_length] at h5 q1 q2 hla hm5
   have hLlen:(nms.take (i+1)++((gv+1) :: s.kids.flatMap (wrd (slA S.D.sl) E5 r))++nms.drop (i+1)).length=nms.length+1+(s.kids.flatMap (wrd (slA S.D.sl) E5 r)).length:=by simp;omega
   simp only [NonNil_some,Addr.add_mk,Nat.zero_add]
   refine After_x h5.x (by rw [hLlen,hm5];omega) (by omega) hla fun w6 o6 h6 ev6=>⟨_,_,rfl,?_⟩
   rw [insAt_mid (by rw [htl];omega)] at h6
   have b76:=ev6.fm.blk b75 (fun e=>by omega)
   have o76:=ev6.old g7 b75.lt o75
   refine st_blk b76 (by simp) fun w7 b77 f7=>?_
   simp only [List.setIfInBounds_toArray,List.set_cons_zero,List.set_cons_succ] at b77
   have h7:=h6.fm f7 fun b hb e=>by have e:b=g7:=e;rw [e];exact o76
   have ev7:EvL w o w7 o6:=(ev5.trans ev6).mine f7 fun b _ e=>by have e:b=g7:=e;omega
   refine⟨fun w'=>∃o' bs lbs mb wr eb,LM w' o' g ty S bs (nms.take (i+1)++((gv+1) :: s.kids.flatMap (wrd (slA S.D.sl) E5 r)++[gv+1+2*(s.kids.flatMap (allA (slA S.D.sl) r)).length+1])++nms.drop (i+1)) lbs mb (gv+1+2*(s.kids.flatMap (allA (slA S.D.sl) r)).length+1) wr (some eb) E5∧EvL w o w' o'∧o' g7=0∧Blk w' g7 #[.int .u64 (gv+1:Nat),.int .u64 (gv+1+2*(s.kids.flatMap (allA (slA S.D.sl) r)).length+1:Nat)] 146,?_,?_⟩
   ·rintro w8 ⟨o8,bs8,lbs8,mb8,wr8,eb,h8,ev8,o78,b78⟩
    unfold F70_j13
    have hdr:Below w8.heap.size w8 w8.drew:=(Below.refl _ _).drew
    obtain⟨nv,rv,hd⟩:=h8.pm.doc
    have cm:w8.cell? ⟨g,9,none⟩=some (.map (some eb)):=by rw [hd.blk.cell];rfl
    refine⟨fun w'=>Below w8.heap.size w8 w',hdr,?_⟩
    simp only [NonNil_some,Addr.add_mk,Nat.zero_add]
    refine⟨_,fun w' hw=>(sub_below hw).cell cm,?_⟩
    refine⟨_,fun w' hw=>by rw [(b78.keep hw).cell];rfl,?_⟩
    refine⟨_,fun w' hw=>by rw [(b78.keep hw).cell];rfl,?_⟩
    have h8d:=h8.below hdr
    obtain⟨e1,e2⟩:=h8d.e
    refine e2.update mapTypeE keyTypeE (n:Nat) _ fun w9 mp9 f9=>?_
    have hmu:mpE (updE E5 n (some (gv+1,gv+1+2*(s.kids.flatMap (allA (slA S.D.sl) r)).length+1)))=upd (mpE E5) (n:Nat) (some (.agg #[.int .u64 (gv+1:Nat),.int .u64 (gv+1+2*(s.kids.flatMap (allA (slA S.D.sl) r)).length+1:Nat)])):=mpE_upd
    obtain⟨h9,ev9⟩:=h8d.setE f9 (by rw [hmu];exact mp9)
    have hne:g7≠eb:=fun e=>by rw [e,e1] at o78;omega
    have b79:=f9.blk (b78.keep hdr) hne
    simp only [b79.cell,lds]
    have hsame:∀y,y≠n→updE E5 n (some (gv+1,gv+1+2*(s.kids.flatMap (allA (slA S.D.sl) r)).length+1)) y=E5 y:=fun y hy=>by unfold updE;rw [if_neg hy]
    have hself:updE E5 n (some (gv+1,gv+1+2*(s.kids.flatMap (allA (slA S.D.sl) r)).length+1)) n=some (gv+1,gv+1+2*(s.kids.flatMap (allA (slA S.D.sl) r)).length+1):=by unfold updE;rw [if_pos rfl]
    have hcg:s.kids.flatMap (wrd (slA S.D.sl) E5 r)=s.kids.flatMap (wrd (slA S.D.sl) (updE E5 n (some (gv+1,gv+1+2*(s.kids.flatMap (allA (slA S.D.sl) r)).length+1))) r):=flat_congr fun y hy=>wrd_congr r y fun z hz=>(hsame z (fun e=>by subst e;exact hnn (List.mem_flatMap.2 ⟨y,hy,hz⟩))).symm
    have hen:eN (updE E5 n (some (gv+1,gv+1+2*(s.kids.flatMap (allA (slA S.D.sl) r)).length+1))) n=(gv+1,gv+1+2*(s.kids.flatMap (allA (slA S.D.sl) r)).length+1):=by unfold eN;rw [hself];rfl
    have:=hK w9 o8 (updE E5 n (some (gv+1,gv+1+2*(s.kids.flatMap (allA (slA S.D.sl) r)).length+1))) ?_ ((ev8.trans (EvL.below hdr)).trans ev9) (fun y hy=>?_) (fun y hy=>?_)
    ·rw [hen] at this;exact this
    ·rw [wrd_some hs,hen,←hcg,show gv+2*((s.kids.flatMap (allA (slA S.D.sl) r)).length+1)=gv+1+2*(s.kids.flatMap (allA (slA S.D.sl) r)).length+1 by omega]
     exact⟨bs8,lbs8,mb8,wr8,some eb,h9⟩
    ·rw [List.mem_cons,not_or] at hy
     rw [hsame y hy.1];exact q1 y hy.2
    ·rcases List.mem_cons.1 hy with rfl | hy
     ·rw [hself];simp
     ·by_cases e:y=n
      ·rw [e,hself];simp
      ·rw [hsame y e];exact q2 y hy
   ·obtain⟨bs7,lbs7,mb7,wr7,em7,h7⟩:=h7
    obtain⟨nv,rv,hd⟩:=h7.pm.doc
    have cm:w7.cell? ⟨g,9,none⟩=some (.map em7):=by rw [hd.blk.cell];rfl
    simp only [NonNil_some,Addr.add_mk,Nat.zero_add,cm,lds]
    cases em7 with
    | none =>
     simp only [Option.isNone_none,Br_t]
     refine h7.made fun w8 o8 eb h8 ev8=>⟨o8,bs7,lbs7,mb7,wr7,eb,h8,ev7.trans ev8,ev8.old g7 b77.lt o76,ev8.fm.blk b77 (fun e=>by omega)⟩
    | some eb =>
     simp only [Option.isNone_some,Br_f]
     exact⟨o6,bs7,lbs7,mb7,wr7,eb,h7,ev7,o76,b77⟩
end
set_option maxRecDepth 100000
def aheadF (D:Im) (E:Nat→Option (Nat × Nat)) (n:Nat):Nat:=match slA D.sl n with
 | some s=>if (lstI D s.parent).idxOf n=0 then (eN E s.parent).1 else (eN E ((lstI D s.parent).getD ((lstI D s.parent).idxOf n-1) 0)).2
 | none=>0
section
variable {w w1 w2:World}{o o1 o2:Nat→Nat}{g:Nat}{ty:TypeId}{S:PS}{bs nms lbs:List Nat}{mb gv:Nat}{wr:Int}{em:Option Nat}{E:Nat→Option (Nat × Nat)}{M:Nat→Prop}{R:Ending→World→Prop}{θ:Th}{loose:List Nat}
theorem ahead_calls (h:LX w o g ty S nms gv E) (hA:WfA (slA S.D.sl) S.D.roots []) {n:Nat}{s:Sl} (hn:slA S.D.sl n=some s) (hK:∀w',Below w.heap.size w w'→R (.returned (.int .u64 (aheadF S.D E n:Nat))) w') :
  Calls Tryz.prog 74 #[.pointer (some ⟨g,0,none⟩),.int .u64 (n:Nat)] w R:=by
 refine ok74 (some ⟨g,0,none⟩) n ?_
 unfold F74
 obtain⟨tl,-,hpm⟩:=h.pm
 have hfew:=hpm.few
 rw [NonNil_some]
 refine Parent_calls (θ:=⟨g,ty,tl⟩) hpm hA hn fun w1 B1=>⟨_,_,rfl,?_⟩
 rw [NonNil_some]
 refine Roots_calls (θ:=⟨g,ty,tl⟩) (hpm.below B1) hA fun v w2 hb2 ov=>⟨_,_,_,rfl,?_⟩
 have B2:=btr B1 B1.size hb2
 have hpar:=hA.par n s hn
 have hmem:n∈lstI S.D s.parent:=hA.mem n s hn (by simp)
 have hahead:aheadF S.D E n=if (lstI S.D s.parent).idxOf n=0 then (eN E s.parent).1 else (eN E ((lstI S.D s.parent).getD ((lstI S.D s.parent).idxOf n-1) 0)).2:=by unfold aheadF;rw [hn]
 have hlf:(lstI S.D s.parent).length≤4096:=Nat.le_trans (live_few (fun y hy=>by obtain⟨_,t,ht,_⟩:=(hA.lst s.parent).2 y hy;exact⟨t,ht⟩) (hA.lst s.parent).1) hfew
 refine⟨fun A N C w'=>Below w.heap.size w w'∧∃B,Own LHn w' B 65 (.slice A N C) (lstI S.D s.parent),?_,?_⟩
 rotate_left
 ·refine brn (fun h0=>?_) (fun h0=>⟨B2,w1.heap.size,?_⟩)
  ·obtain⟨t,ht,_⟩:=hpar.resolve_left (by omega)
   rw [NonNil_some]
   refine Kids_calls (θ:=⟨g,ty,tl⟩) (hpm.below B2) hA hfew ht fun v' w3 hb3 ov3=>⟨_,_,_,_,rfl,btr B2 B2.size hb3,w2.heap.size,?_⟩
   have:lstI S.D s.parent=t.kids:=by unfold lstI;exact lstA_some (by omega) ht
   rw [this];exact ov3
  ·have:lstI S.D s.parent=S.D.roots:=by rw [show s.parent=0 by omega];unfold lstI;exact lstA_zero
   rw [this];exact ov
 rintro A N C w3 ⟨B3,B,ov3⟩
 unfold F74_j5
 obtain⟨em,cm,he⟩:=(h.below B3).emc
 simp only [NonNil_some,Addr.add_mk,Nat.zero_add,cm,lds]
 refine lookE he s.parent ⟨_,_,rfl,?_⟩
 obtain⟨A',c',hvf,hrd⟩:=ov3.form
 cases hvf
 generalize lstI S.D s.parent=l at *
 have hlt:=List.idxOf_lt_length_iff.2 hmem
 refine⟨fun t w'=>w'=w3∧t=(aheadF S.D E n:Nat),?_,?_⟩
 ·rintro t _ ⟨rfl,rfl⟩
  unfold F74_j12
  exact hK _ B3
 refine⟨fun t j w'=>w'=w3∧∃k:Nat,j=k∧k≤l.idxOf n∧t=((if k=0 then (eN E s.parent).1 else (eN E (l.getD (k-1) 0)).2:Nat):Int),fun _ j _=>l.length-j.toNat,⟨rfl,0,rfl,Nat.zero_le _,by rw [if_pos rfl]⟩,?_⟩
 rintro t j _ ⟨rfl,k,rfl,hk,rfl⟩
 unfold F74_l7
 refine brd (fun h1=>?_) (fun h1=>absurd (by omega) h1)
 have hkl:k < l.length:=by omega
 refine hrd.hn rfl rfl hkl fun bb oo cx=>?_
 simp only [cx,lds]
 refine bre (fun h2=>?_) (fun h2=>?_)
 ·have h2:l[k]=n:=by omega
  have h3:l.idxOf n=k:=by
   have h4:¬k < l.idxOf n:=fun h5=>by
    have:=List.not_of_lt_findIdx (p:=fun y=>y == n) (xs:=l) h5
    rw [h2] at this;simp at this
   omega
  exact⟨by trivial,by rw [hahead,h3]⟩
 ·have h3:k≠l.idxOf n:=fun e=>h2 (by
   have:=List.getElem_idxOf hlt
   subst e;rw [this])
  simp only [NonNil_some,Addr.add_mk,Nat.zero_add,cm,lds]
  refine lookE he l[k] ⟨_,_,rfl,inR_i64 (by omega) (by omega),⟨by trivial,k+1,by omega,by omega,?_⟩,(by first | omega | (dsimp only;omega))⟩
  rw [if_neg (by omega),Nat.add_sub_cancel,List.getD_eq_getElem?_getD,List.getElem?_eq_getElem hkl];rfl
end
set_option maxRecDepth 100000
section
variable {w w1 w2:World}{o o1 o2:Nat→Nat}{g:Nat}{ty:TypeId}{S:PS}{bs nms lbs:List Nat}{mb gv:Nat}{wr:Int}{em:Option Nat}{E:Nat→Option (Nat × Nat)}{M:Nat→Prop}{R:Ending→World→Prop}{θ:Th}{loose:List Nat}
end
set_option maxRecDepth 100000
section
variable {A B:Nat→Option Sl}{E E':Nat→Option (Nat × Nat)}{roots loose:List Nat}
theorem wrd_congr2 (hA:WfA A roots loose):∀(r z:Nat) {s:Sl},A z=some s→(∀y∈allA A r z,B y=A y∧E' y=E y)→wrd B E' r z=wrd A E r z
 | 0,z,s,_,_=>rfl
 | r+1,z,s,hz,h=>by
  rw [allA_some hz] at h
  have h1:=h z (by simp)
  have hz':B z=some s:=by rw [h1.1];exact hz
  rw [wrd_some hz,wrd_some hz']
  have e1:eN E' z=eN E z:=by unfold eN;rw [h1.2]
  rw [e1,flat_congr fun y hy=>?_]
  obtain⟨t,ht,_⟩:=((hA.kid z s hz).2 y hy).2
  exact wrd_congr2 hA r y ht fun x hx=>h x (List.mem_cons_of_mem _ (List.mem_flatMap.2 ⟨y,hy,hx⟩))
theorem wrd_fuel (hA:WfA A roots loose):∀(r x c:Nat) {s:Sl},A x=some s→Ch A x c→65≤c+r→∀r',r≤r'→wrd A E r x=wrd A E r' x:=by
 intro r
 induction r with
 | zero =>
  intro x c s hx hc hr
  obtain⟨c',h1,h2⟩:=hA.chain x s hx
  have:=hc.fn h2;omega
 | succ r ih =>
  intro x c s hx hc hr r' hr'
  obtain ⟨r'', rfl⟩ : ∃ r'', r' = r'' + 1 := ⟨r' - 1, by omega⟩
  rw [wrd_some hx,wrd_some hx,flat_congr fun y hy=>?_]
  obtain⟨t,t1,t2⟩:=((hA.kid x s hx).2 y hy).2
  exact ih y (c + 1) t1 (.succ (hA.ne0 t1) t1 (by rw [t2]; exact hc)) (by omega) r'' (by omega)
theorem wrd_last {r y:Nat}{s:Sl} (hy:A y=some s):(wrd A E (r+1) y).getLast?=some (eN E y).2:=by
 rw [wrd_some hy,List.getLast?_append];rfl
theorem split_at {f f':Nat→List Nat}{l:List Nat}{n:Nat} (hn:n∈l) (hd:l.Nodup) (hf:∀y∈l,y≠n→f' y=f y) :
  l.flatMap f=(l.take (l.idxOf n)).flatMap f++f n++(l.drop (l.idxOf n+1)).flatMap f∧(l.erase n).flatMap f'=(l.take (l.idxOf n)).flatMap f++(l.drop (l.idxOf n+1)).flatMap f:=by
 have hlt:=List.idxOf_lt_length_iff.2 hn
 have hg:=List.getElem_idxOf hlt
 have e:l=l.take (l.idxOf n)++n :: l.drop (l.idxOf n+1):=by
  conv=>lhs;rw [←List.take_append_drop (l.idxOf n) l,List.drop_eq_getElem_cons hlt,hg]
 constructor
 ·conv=>lhs;rw [e]
  rw [List.flatMap_append,List.flatMap_cons,List.append_assoc]
 ·have e2:(l.erase n).flatMap f'=(l.erase n).flatMap f:=flat_congr fun y hy=>hf y (List.mem_of_mem_erase hy) fun e=>by
   subst e;exact hd.not_mem_erase hy
  rw [e2,←take_drop_erase hn,List.flatMap_append]
def Slot (A B:Nat→Option Sl) (E E':Nat→Option (Nat × Nat)) (wn:List Nat) (ah:Nat) (a b:List Nat):Prop:=∃X Y,a=X++wn++Y∧b=X++Y∧X.getLast?=some ah
theorem Slot.up {wn a b:List Nat}{ah:Nat} (h:Slot A B E E' wn ah a b) (P Q:List Nat):Slot A B E E' wn ah (P++a++Q) (P++b++Q):=by
 obtain⟨X,Y,rfl,rfl,h3⟩:=h
 refine⟨P++X,Y++Q,by simp,by simp,?_⟩
 rw [List.getLast?_append,h3];rfl
end
section
variable {D:Im}{E E':Nat→Option (Nat × Nat)}
theorem slot_list {A B:Nat→Option Sl}{wn:List Nat}{ah y:Nat}{f f':Nat→List Nat}{l:List Nat} (hy:y∈l) (hd:l.Nodup) (hs:Slot A B E E' wn ah (f y) (f' y)) (hf:∀z∈l,z≠y→f' z=f z):Slot A B E E' wn ah (l.flatMap f) (l.flatMap f'):=by
 have hlt:=List.idxOf_lt_length_iff.2 hy
 have hg:=List.getElem_idxOf hlt
 have e:l=l.take (l.idxOf y)++y :: l.drop (l.idxOf y+1):=by
  conv=>lhs;rw [←List.take_append_drop (l.idxOf y) l,List.drop_eq_getElem_cons hlt,hg]
 have hnd:=hd
 rw [e] at hnd
 obtain⟨n1,n2,n3⟩:=List.nodup_append.1 hnd
 obtain⟨n4,n5⟩:=List.nodup_cons.1 n2
 have e1:(l.take (l.idxOf y)).flatMap f'=(l.take (l.idxOf y)).flatMap f:=flat_congr fun z hz=>hf z (List.mem_of_mem_take hz) fun e=>n3 z hz y (by simp) e
 have e2:(l.drop (l.idxOf y+1)).flatMap f'=(l.drop (l.idxOf y+1)).flatMap f:=flat_congr fun z hz=>hf z (List.mem_of_mem_drop hz) fun e=>by subst e;exact n4 hz
 have a1:l.flatMap f=(l.take (l.idxOf y)).flatMap f++f y++(l.drop (l.idxOf y+1)).flatMap f:=by
  conv=>lhs;rw [e]
  rw [List.flatMap_append,List.flatMap_cons,List.append_assoc]
 have a2:l.flatMap f'=(l.take (l.idxOf y)).flatMap f++f' y++(l.drop (l.idxOf y+1)).flatMap f:=by
  conv=>lhs;rw [e]
  rw [List.flatMap_append,List.flatMap_cons,←List.append_assoc,e1,e2]
 rw [a1,a2]
 exact hs.up _ _
end
set_option maxRecDepth 100000
section
variable {A B:Nat→Option Sl}{E E':Nat→Option (Nat × Nat)}{roots:List Nat}
theorem Wi.tr {a b c:Nat} (h1:Wi A a b) (h2:Wi A b c):Wi A a c:=by
 induction h2 with
 | self=>exact h1
 | up hs _ ih=>exact .up hs ih
theorem wi_sib (h0:A 0=none) {z n y c:Nat} (hz:Ch A z c) (hn:Ch A n c) (h1:Wi A z y) (h2:Wi A n y):z=n:=by
 obtain⟨d1,e1⟩:=h1.de
 obtain⟨d2,e2⟩:=h2.de
 have c1:=e1.ch h0 hz
 have c2:=e2.ch h0 hn
 have:=c1.fn c2
 have:d1=d2:=by omega
 subst this
 exact e1.fn e2
theorem all_wi (hA:WfA A roots []) {r x y:Nat}{s:Sl} (hx:A x=some s) (hy:y∈allA A r x):Wi A x y:=by
 obtain⟨d,_,hd⟩:=(mem_allA hA r x y ⟨s,hx⟩ (fun z hz=>by simp at hz)).1 hy
 exact hd.wi
theorem last_flat {f:Nat→List Nat}{h:Nat→Nat}{b:Nat}{l:List Nat}:∀(k:Nat),k≤l.length→(∀y∈l,(f y).getLast?=some (h y))→(b :: (l.take k).flatMap f).getLast?=some (if k=0 then b else h (l.getD (k-1) 0))
 | 0,_,_=>by simp
 | k+1,hk,hf=>by
  have hk2:k < l.length:=by omega
  rw [List.take_succ_eq_append_getElem hk2,List.flatMap_append,←List.cons_append,List.getLast?_append]
  have:(([l[k]]:List Nat).flatMap f).getLast?=some (h l[k]):=by simp [hf l[k] (List.getElem_mem hk2)]
  rw [this,if_neg (by omega),Nat.add_sub_cancel,List.getD_eq_getElem?_getD,List.getElem?_eq_getElem hk2];rfl
theorem up_root (hA:WfA A roots []) {n p:Nat}{s:Sl} (hn:A n=some s) (hp:s.parent=p) (hB:∀y,y≠p→B y=A y) (hE:∀y,¬Wi A n y→E' y=E y) {wn:List Nat}{ah:Nat} :
  ∀(c y r:Nat) {t:Sl},A y=some t→Ch A y c→Wi A y p→r+c=66→Slot A B E E' wn ah (wrd A E' r y) (wrd B E r y)→Slot A B E E' wn ah (0 :: roots.flatMap (wrd A E' 65)) (0 :: roots.flatMap (wrd B E 65))
 | 0,y,r,t,hy,hc,_,_,_=>by cases hc;exact absurd rfl (hA.ne0 hy)
 | c+1,y,r,t,hy,hc,hw,hr,hs=>by
  have hyn:Wi A y n:=.up hn (by rw [hp];exact hw)
  have hch':Ch A t.parent c:=by
   cases hc with
   | succ h0 ha h3=>rw [hy] at ha;cases ha;exact h3
  have hmem:=hA.mem y t hy (by simp)
  have hcong:∀(l:List Nat),(∀z∈l,∃u,A z=some u∧Ch A z (c+1))→∀r',∀z∈l,z≠y→wrd B E r' z=wrd A E' r' z:=fun l hl r' z hz hzy=>by
   obtain⟨u,u1,u2⟩:=hl z hz
   refine wrd_congr2 hA r' z u1 fun x hx=>?_
   have hwx:=all_wi hA u1 hx
   refine⟨hB x fun e=>?_,(hE x fun e=>?_).symm⟩
   ·subst e;exact hzy (wi_sib hA.zero u2 hc hwx hw)
   ·exact hzy (wi_sib hA.zero u2 hc hwx (hyn.tr e))
  rcases hA.par y t hy with h0 | ⟨u,hu,_⟩
  ·rw [h0] at hch' hmem
   have hc0:c=0:=hch'.fn .zero
   subst hc0
   have hr65:r=65:=by omega
   subst hr65
   rw [lstA_zero] at hmem
   have:=slot_list hmem hA.root.1 hs (hcong roots (fun z hz=>by
    obtain⟨_,u,u1,u2⟩:=hA.root.2 z hz
    exact⟨u,u1,.succ (hA.ne0 u1) u1 (by rw [u2];exact .zero)⟩) 65)
   have:=this.up [0] []
   simpa using this
  ·have hq0:=hA.ne0 hu
   rw [lstA_some hq0 hu] at hmem
   have hqp:t.parent≠p:=fun e=>by
    rw [←e] at hw
    exact wi_par hA hy hw
   have hBq:B t.parent=some u:=by rw [hB _ hqp];exact hu
   have hEq:E' t.parent=E t.parent:=hE _ fun e=>by
    have:=hyn.tr e
    exact wi_par hA hy this
   refine up_root hA hn hp hB hE c t.parent (r+1) hu hch' (.tr (.up hy .self) hw) (by omega) ?_
   rw [wrd_some hu,wrd_some hBq]
   have e1:eN E' t.parent=eN E t.parent:=by unfold eN;rw [hEq]
   rw [e1]
   have:=slot_list hmem (hA.kid _ u hu).1 hs (hcong u.kids (fun z hz=>by
    obtain⟨_,x,x1,x2⟩:=(hA.kid _ u hu).2 z hz
    exact⟨x,x1,.succ (hA.ne0 x1) x1 (by rw [x2];exact hch')⟩) r)
   exact this.up [(eN E t.parent).1] [(eN E t.parent).2]
theorem attach (hA:WfA A roots []) {n:Nat}{s:Sl} (hn:A n=some s) (hE0:E 0=none) (hE:∀y,¬Wi A n y→E' y=E y) :
  Slot A (setA A s.parent ((lstA A roots s.parent).erase n)) E E' (wrd A E' 65 n) (if (lstA A roots s.parent).idxOf n=0 then (eN E s.parent).1 else (eN E ((lstA A roots s.parent).getD ((lstA A roots s.parent).idxOf n-1) 0)).2)
   (0 :: roots.flatMap (wrd A E' 65)) (0 :: (setR roots s.parent ((lstA A roots s.parent).erase n)).flatMap (wrd (setA A s.parent ((lstA A roots s.parent).erase n)) E 65)):=by
 have hmem:=hA.mem n s hn (by simp)
 obtain⟨hnd,hall⟩:=hA.lst s.parent
 obtain⟨cn,cn1,cn2⟩:=hA.chain n s hn
 obtain⟨cp,hcn,hcp⟩:∃cp,cn=cp+1∧Ch A s.parent cp:=by
  cases cn2 with
  | zero=>exact absurd rfl (hA.ne0 hn)
  | succ h0 ha h3=>rw [hn] at ha;cases ha;exact⟨_,rfl,h3⟩
 subst hcn
 have hch:∀z∈lstA A roots s.parent,∃u,A z=some u∧u.parent=s.parent∧Ch A z (cp+1):=fun z hz=>by
  obtain⟨_,u,u1,u2⟩:=hall z hz
  exact⟨u,u1,u2,.succ (hA.ne0 u1) u1 (by rw [u2];exact hcp)⟩
 generalize hL:lstA A roots s.parent=l at *
 have hB:∀y,y≠s.parent∨s.parent=0→setA A s.parent (l.erase n) y=A y:=fun y hy=>by
  unfold setA
  rw [if_neg (fun e=>by rcases hy with h | h;exact h e.1;exact e.2 h)]
 have hEl:∀z∈l,z≠n→E' z=E z:=fun z hz hzn=>hE z fun e=>by
  obtain⟨u,u1,u2,u3⟩:=hch z hz
  exact hzn (wi_sib hA.zero u3 cn2 .self e)
 have hcong:∀r,∀z∈l,z≠n→wrd (setA A s.parent (l.erase n)) E r z=wrd A E' r z:=fun r z hz hzn=>by
  obtain⟨u,u1,u2,u3⟩:=hch z hz
  refine wrd_congr2 hA r z u1 fun x hx=>?_
  have hwx:=all_wi hA u1 hx
  refine⟨hB x (.inl fun e=>?_),(hE x fun e=>hzn (wi_sib hA.zero u3 cn2 hwx e)).symm⟩
  subst e
  rw [←u2] at hwx
  exact wi_par hA u1 hwx
 have hlt:=List.idxOf_lt_length_iff.2 hmem
 have key:∀r b,(b :: (l.take (l.idxOf n)).flatMap (wrd A E' (r+1))).getLast?=some (if l.idxOf n=0 then b else (eN E (l.getD (l.idxOf n-1) 0)).2):=fun r b=>by
  rw [last_flat (h:=fun y=>(eN E' y).2) (l.idxOf n) (by omega) fun y hy=>by
   obtain⟨u,u1,_⟩:=hch y hy
   exact wrd_last u1]
  by_cases h0:l.idxOf n=0
  ·rw [if_pos h0,if_pos h0]
  ·rw [if_neg h0,if_neg h0]
   have hk:l.idxOf n-1 < l.length:=by omega
   have hg:l.getD (l.idxOf n-1) 0=l[l.idxOf n-1]:=by rw [List.getD_eq_getElem?_getD,List.getElem?_eq_getElem hk];rfl
   have hne:l[l.idxOf n-1]≠n:=fun e=>by
    have:=nd_get hnd (List.getElem?_eq_getElem hk) (show l[l.idxOf n]?=some l[l.idxOf n-1] by rw [List.getElem?_eq_getElem hlt,List.getElem_idxOf hlt,e])
    omega
   rw [hg]
   unfold eN
   rw [hEl _ (List.getElem_mem hk) hne]
 by_cases hp0:s.parent=0
 ·have hr:l=roots:=by rw [←hL,hp0,lstA_zero]
  subst hr
  obtain⟨a1,a2⟩:=split_at (f:=wrd A E' 65) (f':=wrd (setA A s.parent (l.erase n)) E 65) hmem hnd (hcong 65)
  refine⟨0 :: (l.take (l.idxOf n)).flatMap (wrd A E' 65),(l.drop (l.idxOf n+1)).flatMap (wrd A E' 65),?_,?_,?_⟩
  ·rw [a1];simp
  ·have e:setR l s.parent (l.erase n)=l.erase n:=by unfold setR;rw [if_pos hp0]
   rw [e,a2];simp
  ·have e:(eN E s.parent).1=0:=by unfold eN;rw [hp0,hE0];rfl
   rw [e];exact key 64 0
 ·obtain⟨u,hu,_⟩:=(hA.par n s hn).resolve_left hp0
  have hkids:l=u.kids:=by rw [←hL];exact lstA_some hp0 hu
  have hcp64:cp+1≤64:=cn1
  obtain⟨r,hr⟩:∃r,r+1+cp=65:=⟨64-cp,by omega⟩
  have hEp:E' s.parent=E s.parent:=hE _ (wi_par hA hn)
  have hBp:setA A s.parent (l.erase n) s.parent=some { u with kids:=l.erase n }:=by
   unfold setA
   rw [if_pos ⟨rfl,hp0⟩,hu];rfl
  have hroots:setR roots s.parent (l.erase n)=roots:=by unfold setR;rw [if_neg hp0]
  rw [hroots]
  refine up_root hA hn rfl (fun y hy=>hB y (.inl hy)) hE cp s.parent (r+1+1) hu hcp .self (by omega) ?_
  rw [wrd_some hu,wrd_some hBp]
  dsimp only
  obtain⟨a1,a2⟩:=split_at (f:=wrd A E' (r+1)) (f':=wrd (setA A s.parent (l.erase n)) E (r+1)) hmem hnd (hcong (r+1))
  have hwn:wrd A E' (r+1) n=wrd A E' 65 n:=wrd_fuel hA (r+1) n (cp+1) hn cn2 (by omega) 65 (by omega)
  rw [←hkids,a1,a2,hwn]
  have e1:eN E' s.parent=eN E s.parent:=by unfold eN;rw [hEp]
  rw [e1]
  refine⟨(eN E s.parent).1 :: (l.take (l.idxOf n)).flatMap (wrd A E' (r+1)),(l.drop (l.idxOf n+1)).flatMap (wrd A E' (r+1))++[(eN E s.parent).2],by simp,by simp,key r _⟩
end
set_option maxRecDepth 100000
section
variable {w w1 w2:World}{o o1 o2:Nat→Nat}{g:Nat}{ty:TypeId}{S:PS}{bs nms lbs:List Nat}{mb gv:Nat}{wr:Int}{em:Option Nat}{E:Nat→Option (Nat × Nat)}{M:Nat→Prop}{R:Ending→World→Prop}{θ:Th}
theorem LX.tree (h:LX w o g ty S nms gv E):∃tl,PM w o ⟨g,ty,tl⟩ S∧∀w' o' S',PM w' o' ⟨g,ty,tl⟩ S'→EvP w o w' o'→LX w' o' g ty S' nms gv E:=by
 rcases h with ⟨bs,lbs,mb,wr,em,h⟩ | ⟨h,h2⟩
 ·refine⟨_,h.pm,fun w' o' S' hp ev=>.inl ⟨bs,lbs,mb,wr,em,hp,?_,h.i,h.len,?_⟩⟩
  ·have hn:∀b,(o b=4∨o b=5)→¬pc (o b):=fun b hb hp=>by unfold pc at hp;omega
   have hr:=h.r.fm ev.fm hn
   exact⟨hr.blk,fun b hb=>by rw [ev.same b (by rw [hr.col b hb];decide)];exact hr.col b hb,hr.nd,hr.mp,by rw [ev.same mb (by rw [hr.mcol];decide)];exact hr.mcol⟩
  ·exact h.e.fm ev.fm (fun b hb hp=>by unfold pc at hp;omega) ev.same
 ·obtain⟨em,hp,he⟩:=h.pm
  exact⟨_,hp,fun w' o' S' hq ev=>.inr ⟨⟨em,hq,he.fm ev.fm (fun b hb hp=>by unfold pc at hp;omega) ev.same⟩,h2⟩⟩
end
section
variable {A:Nat→Option Sl}{roots:List Nat}{D:Im}{E E':Nat→Option (Nat × Nat)}
theorem rootsAll_nodup (hA:WfA A roots []):(roots.flatMap (allA A 65)).Nodup:=by
 have hr:∀z∈roots,∃u,A z=some u∧Ch A z 1:=fun z hz=>by
  obtain⟨_,u,u1,u2⟩:=hA.root.2 z hz
  exact⟨u,u1,.succ (hA.ne0 u1) u1 (by rw [u2];exact .zero)⟩
 refine flatMap_nodup _ _ hA.root.1 (fun z hz=>?_) fun a ha b hb hab y hy hy2=>?_
 ·obtain⟨u,u1,_⟩:=hr z hz
  exact all_nodup hA 65 z ⟨u,u1⟩ fun z hz=>by simp at hz
 ·obtain⟨u,u1,u2⟩:=hr a ha
  obtain⟨v,v1,v2⟩:=hr b hb
  exact hab (wi_sib hA.zero u2 v2 (all_wi hA u1 hy) (all_wi hA v1 hy2))
theorem mem_roots (hA:WfA A roots []):∀(c y:Nat) {s:Sl},A y=some s→Ch A y c→∃z∈roots,Wi A z y
 | 0,y,s,hy,hc=>by cases hc;exact absurd rfl (hA.ne0 hy)
 | c+1,y,s,hy,hc=>by
  have hmem:=hA.mem y s hy (by simp)
  rcases hA.par y s hy with h0 | ⟨u,hu,_⟩
  ·rw [h0,lstA_zero] at hmem
   exact⟨y,hmem,.self⟩
  ·have hch:Ch A s.parent c:=by
    cases hc with
    | succ _ ha h3=>rw [hy] at ha;cases ha;exact h3
   obtain⟨z,hz,hw⟩:=mem_roots hA c s.parent hu hch
   exact⟨z,hz,.up hy hw⟩
theorem mem_all_roots (hA:WfA A roots []) {y:Nat}:y∈roots.flatMap (allA A 65)↔∃s,A y=some s:=by
 constructor
 ·intro h
  obtain⟨z,hz,hy⟩:=List.mem_flatMap.1 h
  obtain⟨_,u,u1,u2⟩:=hA.root.2 z hz
  exact all_live hA ⟨u,u1⟩ (fun z hz=>by simp at hz) hy
 ·rintro ⟨s,hs⟩
  obtain⟨c,c1,c2⟩:=hA.chain y s hs
  obtain⟨z,hz,hw⟩:=mem_roots hA c y hs c2
  obtain⟨_,u,u1,u2⟩:=hA.root.2 z hz
  exact List.mem_flatMap.2 ⟨z,hz,(mem_all hA ⟨u,u1⟩ (fun z hz=>by simp at hz) (.succ (hA.ne0 u1) u1 (by rw [u2];exact .zero)) (by omega)).2 hw⟩
theorem rootsAll_few (hS:WfS D.sl) (hA:WfA (slA D.sl) D.roots []):(D.roots.flatMap (allA (slA D.sl) 65)).length≤4096 :=
 Nat.le_trans (live_few (fun y hy=>(mem_all_roots hA).1 hy) (rootsAll_nodup hA)) hS.few
end
set_option maxRecDepth 100000
section
variable {A A0:Nat→Option Sl}{roots roots0:List Nat}{D:Im}{E E':Nat→Option (Nat × Nat)}
structure Att (A0:Nat→Option Sl) (roots0:List Nat) (A:Nat→Option Sl) (roots:List Nat) (n:Nat) (s:Sl):Prop where
 w0:WfA A0 roots0 []
 w:WfA A roots []
 at_:A n=some s
 new:A0 n=none
 rt:setR roots s.parent ((lstA A roots s.parent).erase n)=roots0
 old:∀y t,A0 y=some t→setA A s.parent ((lstA A roots s.parent).erase n) y=some t
variable {n:Nat}{s:Sl}
theorem setA_live {A:Nat→Option Sl}{p y:Nat}{l:List Nat}{t:Sl} (h:setA A p l y=some t):∃u,A y=some u∧u.parent=t.parent:=by
 obtain⟨u,h1,h2⟩:=setA_some h
 refine⟨u,h1,?_⟩
 rw [h2];split <;> rfl
theorem Att.live (h:Att A0 roots0 A roots n s) {y:Nat}{t:Sl} (hy:A0 y=some t):∃u,A y=some u∧u.parent=t.parent:=setA_live (h.old y t hy)
theorem Att.apart (h:Att A0 roots0 A roots n s) {y:Nat} (hw:Wi A n y):A0 y=none:=by
 induction hw with
 | self=>exact h.new
 | @up x u hx hw ih =>
  cases ha:A0 x with
  | none=>rfl
  | some t =>
   obtain⟨u',u1,u2⟩:=h.live ha
   rw [hx] at u1;cases u1
   rcases h.w0.par x t ha with e | ⟨v,hv,_⟩
   ·exfalso
    rw [u2,e] at hw
    cases hw with
    | self=>exact h.w.ne0 h.at_ rfl
    | up h0 _=>rw [h.w.zero] at h0;cases h0
   ·rw [u2,hv] at ih;cases ih
theorem Att.split (h:Att A0 roots0 A roots n s):∀(c y:Nat) {t:Sl},Ch A y c→A y=some t→¬Wi A n y→∃u,A0 y=some u
 | 0,y,t,hc,hy,_=>by cases hc;exact absurd rfl (h.w.ne0 hy)
 | c+1,y,t,hc,hy,hw=>by
  have hmem:=h.w.mem y t hy (by simp)
  have hyn:y≠n:=fun e=>hw (by rw [e];exact .self)
  have hch:Ch A t.parent c:=by
   cases hc with
   | succ _ ha h3=>rw [hy] at ha;cases ha;exact h3
  rcases h.w.par y t hy with h0 | ⟨v,hv,_⟩
  ·rw [h0,lstA_zero] at hmem
   have:y∈roots0:=by
    rw [←h.rt]
    unfold setR
    split
    ·rename_i hp
     rw [hp,lstA_zero]
     exact (List.mem_erase_of_ne hyn).2 hmem
    ·exact hmem
   obtain⟨_,u,u1,_⟩:=h.w0.root.2 y this
   exact⟨u,u1⟩
  ·have hq0:=h.w.ne0 hv
   obtain⟨u,hu⟩:=h.split c t.parent hch hv fun e=>hw (.up hy e)
   have hB:=h.old _ u hu
   rw [lstA_some hq0 hv] at hmem
   have:y∈u.kids:=by
    unfold setA at hB
    by_cases e:t.parent=s.parent∧s.parent≠0
    ·rw [if_pos e,hv] at hB
     cases hB
     show y∈(lstA A roots s.parent).erase n
     rw [←e.1,lstA_some hq0 hv]
     exact (List.mem_erase_of_ne hyn).2 hmem
    ·rw [if_neg e,hv] at hB
     cases hB;exact hmem
   obtain⟨_,x,x1,_⟩:=(h.w0.kid _ u hu).2 y this
   exact⟨x,x1⟩
theorem Att.word (h:Att A0 roots0 A roots n s):(setR roots s.parent ((lstA A roots s.parent).erase n)).flatMap (wrd (setA A s.parent ((lstA A roots s.parent).erase n)) E 65)=roots0.flatMap (wrd A0 E 65):=by
 rw [h.rt]
 refine flat_congr fun z hz=>?_
 obtain⟨_,u,u1,_⟩:=h.w0.root.2 z hz
 refine wrd_congr2 h.w0 65 z u1 fun y hy=>⟨?_,rfl⟩
 obtain⟨t,ht⟩:=all_live h.w0 ⟨u,u1⟩ (fun z hz=>by simp at hz) hy
 rw [h.old y t ht,ht]
theorem Att.few (h:Att (slA D.sl) D.roots A roots n s) {D':Im} (hS:WfS D'.sl) (hA':A=slA D'.sl):(D.roots.flatMap (allA (slA D.sl) 65)).length+(allA A 65 n).length≤4096:=by
 rw [←List.length_append]
 refine Nat.le_trans (live_few (sl:=D'.sl) (fun y hy=>?_) (List.nodup_append.2 ⟨rootsAll_nodup h.w0,all_nodup h.w 65 n ⟨s,h.at_⟩ (fun z hz=>by simp at hz),fun y hy z hz e=>?_⟩)) hS.few
 ·rw [←hA']
  rcases List.mem_append.1 hy with hy | hy
  ·obtain⟨t,ht⟩:=(mem_all_roots h.w0).1 hy
   obtain⟨u,hu,_⟩:=h.live ht
   exact⟨u,hu⟩
  ·exact all_live h.w ⟨s,h.at_⟩ (fun z hz=>by simp at hz) hy
 ·subst e
  obtain⟨t,ht⟩:=(mem_all_roots h.w0).1 hy
  rw [h.apart (all_wi h.w h.at_ hz)] at ht;cases ht
theorem insAt_erase {l:List Nat}{k n:Nat} (hn:n∉l):(insAt l k n).erase n=l:=by
 unfold insAt
 rw [List.erase_append_right _ (fun e=>hn (List.mem_of_mem_take e)),List.erase_cons_head,List.take_append_drop]
theorem ins_att (hw:Wf D) {wh:Int}{a:Nat}{x:Tr} (h0:(insF D wh a x).2.2=0):∃s,Att (slA D.sl) D.roots (slA (insF D wh a x).1.sl) (insF D wh a x).1.roots (insF D wh a x).2.1 s:=by
 have hwf:=ins_wf hw wh a x
 unfold insF at h0 hwf ⊢
 by_cases h1:(placeF D wh a).2=1
 ·rw [if_pos h1] at h0;cases h0
 rw [if_neg h1] at h0 hwf ⊢
 by_cases h2:(lookF x 1 0).2≠0
 ·rw [if_pos h2] at h0;exact absurd h0 h2
 rw [if_neg h2] at h0 hwf ⊢
 by_cases h3:(placeF D wh a).2≠0
 ·rw [if_pos h3] at h0;exact absurd h0 h3
 rw [if_neg h3] at h0 hwf ⊢
 by_cases h4:64 < cntI D (placeF D wh a).1+dpT x
 ·rw [if_pos h4] at h0;cases h0
 rw [if_neg h4] at h0 hwf ⊢
 by_cases h5:4096 < tk D.sl+szT x
 ·rw [if_pos h5] at h0;cases h0
 rw [if_neg h5] at hwf ⊢
 obtain⟨p1,p2,p3,p4,p5,p6⟩:=place_ok hw (by simpa using h3)
 obtain⟨k1,k2,k3,k4⟩:=look_ok x 1 0 (by simpa using h2)
 obtain⟨c1,c2⟩:=hw.cnt (p1.imp id fun⟨t,h,_⟩=>⟨t,h⟩)
 have M:=make_wf x k1 hw.s hw.a p1 c2 (by omega) (by omega)
 obtain⟨st,st1,st2⟩:=M.top
 generalize placeF D wh a=pr at *
 obtain⟨p,pe⟩:=pr
 dsimp only at *
 have hne0:freshH D.sl≠0:=by unfold freshH hnd;omega
 have hpe:p=0∨∃t,slA (makeF x p D.sl) p=some t:=p1.imp id fun⟨t,ht,_⟩=>⟨t,M.ext _ _ ht⟩
 have hnp:freshH D.sl≠p:=fun e=>by
  rcases p1 with e1 | ⟨t,ht,_⟩
  ·exact hne0 (e.trans e1)
  ·rw [←e,M.new] at ht;cases ht
 have hlst:lstI { D with sl:=makeF x p D.sl } p=lstI D p:=by
  unfold lstI lstA
  by_cases h0:p=0
  ·rw [if_pos h0,if_pos h0]
  ·rw [if_neg h0,if_neg h0]
   obtain⟨t,ht,_⟩:=p1.resolve_left h0
   rw [ht]
   dsimp only
   rw [M.ext _ _ ht]
 have hnl:freshH D.sl∉lstI D p:=fun hm=>by
  obtain⟨_,t,ht,_⟩:=(hw.a.lst p).2 _ hm
  rw [M.new] at ht;cases ht
 obtain⟨X,hX⟩:∃X,X=insAt (lstI D p) (posF wh a (lstI D p)) (freshH D.sl):=⟨_,rfl⟩
 have hput:putI { D with sl:=makeF x p D.sl } (freshH D.sl) p wh a=setI { D with sl:=makeF x p D.sl } p X:=by unfold putI;rw [hlst,←hX]
 rw [hput] at hwf ⊢
 obtain⟨e1,e2⟩:=setI_A (D:={ D with sl:=makeF x p D.sl }) (l:=X) hpe
 have e1:slA (setI { D with sl:=makeF x p D.sl } p X).sl=setA (slA (makeF x p D.sl)) p X:=e1
 have e2:(setI { D with sl:=makeF x p D.sl } p X).roots=setR D.roots p X:=e2
 have hXe:X.erase (freshH D.sl)=lstI D p:=by rw [hX];exact insAt_erase hnl
 have hL:lstA (setA (slA (makeF x p D.sl)) p X) (setR D.roots p X) p=X:=by
  rw [lst_setA hpe M.wf.zero,if_pos rfl]
 refine⟨st,hw.a,hwf.a,?_,M.new,?_,fun y t hy=>?_⟩
 ·rw [e1,setA_of st1,if_neg (fun e=>hnp e.1)]
 ·rw [e1,e2,st2,hL,hXe]
  unfold setR
  by_cases h0:p=0
  ·rw [if_pos h0,h0];unfold lstI;exact lstA_zero
  ·rw [if_neg h0,if_neg h0]
 ·rw [e1,e2,st2,hL,hXe]
  have hy':=M.ext y t hy
  unfold setA
  by_cases hc:y=p∧p≠0
  ·rw [if_pos hc,if_pos hc,hy']
   have:lstI D p=t.kids:=by unfold lstI;rw [←hc.1] ;exact lstA_some (by rw [hc.1];exact hc.2) hy
   simp only [Option.map_some,this]
  ·rw [if_neg hc,if_neg hc];exact hy'
end
set_option maxRecDepth 100000
structure RSb (w:World) (s:Sl) (e:S8):Prop where
 gen:e.gen=s.gen
 live:e.live=s.live
 kind:e.kind=s.kind
 nm:e.nm=s.nm
 text:e.text=s.text
 parent:e.parent=s.parent
 ats:RR LAt w s.attrs e.ats
theorem RSb.sub {w w1:World}{s:Sl}{e:S8} (hs:Sub w w1) (h:RSb w s e):RSb w1 s e:=⟨h.gen,h.live,h.kind,h.nm,h.text,h.parent,h.ats.sub hs⟩
structure RM (ok:Nat→Bool) (w:World) (g:Nat) (D:Im) (vs vr:Sv):Prop where
 blk:Blk w g #[slV vs,slV vr] 107
 im:RIm (wOnly (fun b=>ok b && !(Nat.beq b g)) w) D vs vr
 few:D.sl.length≤4096
section
variable {ok ok1:Nat→Bool}{opn:List Nat}{w w1:World}{g:Nat}{D:Im}{vs vr:Sv}{es:List S8}{M:Nat→Prop}{R:Ending→World→Prop}
theorem RM.rdr (h:RM ok w g D vs vr):RDr w g D vs vr:=⟨by rw [h.blk.cell];rfl,by rw [h.blk.cell];rfl,h.im.sub sub_of_only⟩
end
set_option maxRecDepth 100000
structure RW (opn:List Nat) (w:World) (g:Nat) (D:Im) (vs vr:Sv) (es:List S8):Prop where
 c0:w.cell? ⟨g,0,none⟩=some (.slice vs.1 vs.2.1 vs.2.2)
 c1:w.cell? ⟨g,1,none⟩=some (.slice vr.1 vr.2.1 vr.2.2)
 en:vs.2.1=es.length
 rd:Rd LS8 w vs.1 vs.2.2 es
 len:es.length=D.sl.length
 few:D.sl.length≤4096
 el:∀(i:Nat) (s:Sl) (e:S8),D.sl[i]?=some s→es[i]?=some e→RSb w s e∧(i∉opn→RR LHn w s.kids e.kids)
 roots:RR LHn w D.roots vr
 ok:∀s∈D.sl,SlOk s
 rok:∀h∈D.roots,h < 18446744073709551616
section
variable {ok ok1:Nat→Bool}{opn:List Nat}{w w1:World}{g:Nat}{D:Im}{vs vr:Sv}{es:List S8}{M:Nat→Prop}{R:Ending→World→Prop}
theorem RW.sub (hs:Sub w w1) (h:RW opn w g D vs vr es):RW opn w1 g D vs vr es :=
 ⟨hs.cell h.c0,hs.cell h.c1,h.en,hs.rd h.rd,h.len,h.few,fun i s e h1 h2=>by obtain⟨a,b⟩:=h.el i s e h1 h2;exact⟨a.sub hs,fun hi=>(b hi).sub hs⟩,h.roots.sub hs,h.ok,h.rok⟩
theorem RW.keep (h:RW opn w g D vs vr es) (hb:Below w.heap.size w w1):RW opn w1 g D vs vr es:=h.sub (sub_below hb)
theorem RM.re (h:RM ok w g D vs vr):∃es,RW [] w g D vs vr es:=by
 have h2:=h.rdr
 obtain⟨es,e1,e2,e3⟩:=h2.im.row
 have hl:=e3.len
 refine⟨es,h2.c0,h2.c1,e1,e2,hl,h.few,fun i s e hs he=>?_,h2.im.roots,h2.im.ok,h2.im.rok⟩
 obtain⟨hi,hs⟩:=List.getElem?_eq_some_iff.1 hs
 obtain⟨hi',he⟩:=List.getElem?_eq_some_iff.1 he
 have:=e3.get i hi hi'
 rw [hs,he] at this
 exact⟨⟨this.gen,this.live,this.kind,this.nm,this.text,this.parent,this.ats⟩,fun _=>this.kids⟩
theorem RW.n (h:RW opn w g D vs vr es):vs.2.1=D.sl.length:=by rw [h.en,h.len]
theorem RW.e8 (h:RW opn w g D vs vr es) {k:Nat} (hk:k < D.sl.length):∃e,es[k]?=some e:=⟨_,List.getElem?_eq_getElem (by rw [h.len];exact hk)⟩
theorem RW.slot (h:RW opn w g D vs vr es) {i:Int}{k:Nat} (hi:i=k) (hk:k < D.sl.length) {K:Addr→Prop}
  (hK:∀b o e,es[k]?=some e→RSb w D.sl[k] e→(k∉opn→RR LHn w D.sl[k].kids e.kids)→w.cell? ⟨b,o,none⟩=some (.int .u32 (D.sl[k].gen:Nat))→w.cell? ⟨b,o+1,none⟩=some (.bool D.sl[k].live)→w.cell? ⟨b,o+2,none⟩=some (.int .i64 D.sl[k].kind) →
   w.cell? ⟨b,o+4,none⟩=some (.slice e.ats.1 e.ats.2.1 e.ats.2.2)→w.cell? ⟨b,o+6,none⟩=some (.int .u64 (D.sl[k].parent:Nat))→w.cell? ⟨b,o+7,none⟩=some (.slice e.kids.1 e.kids.2.1 e.kids.2.2)→K ⟨b,o,none⟩):IdxA vs.1 vs.2.1 i 8 K:=by
 obtain⟨e,he⟩:=h.e8 hk
 obtain⟨b1,b2⟩:=h.el k _ e (List.getElem?_eq_getElem hk) he
 obtain⟨hk',he'⟩:=List.getElem?_eq_some_iff.1 he
 refine h.rd.s8 h.en hi hk' fun b o c0 c1 c2 c3 c4 c5 c6 c7=>?_
 rw [he'] at c0 c1 c2 c3 c4 c5 c6 c7
 exact hK b o e he b1 b2 (by rw [c0,b1.gen]) (by rw [c1,b1.live]) (by rw [c2,b1.kind]) c4 (by rw [c6,b1.parent]) c7
theorem RW.slotH {S:World→Prop} (h:RW opn w g D vs vr es) (hS:∀w1,S w1→Below w.heap.size w w1) {i:Int}{k:Nat} (hi:i=k) (hk:k < D.sl.length) {K:Addr→Prop}
  (hK:∀b o e,es[k]?=some e→RSb w D.sl[k] e→(k∉opn→RR LHn w D.sl[k].kids e.kids)→Held S ⟨b,o,none⟩ (.int .u32 (D.sl[k].gen:Nat))→Held S ⟨b,o+2,none⟩ (.int .i64 D.sl[k].kind) →
   Held S ⟨b,o+6,none⟩ (.int .u64 (D.sl[k].parent:Nat))→Held S ⟨b,o+7,none⟩ (.slice e.kids.1 e.kids.2.1 e.kids.2.2)→K ⟨b,o,none⟩):IdxA vs.1 vs.2.1 i 8 K:=by
 subst hi
 obtain⟨e,he⟩:=h.e8 hk
 obtain⟨b1,b2⟩:=h.el k _ e (List.getElem?_eq_getElem hk) he
 obtain⟨hk',he'⟩:=List.getElem?_eq_some_iff.1 he
 have hen:=h.en
 refine h.rd.held hS h.en (by omega) (by omega) rfl fun b o hc=>?_
 simp only [Int.toNat_natCast] at hc
 rw [he'] at hc
 have c0:=hc 0 _ rfl
 have c2:=hc 2 _ rfl
 have c6:=hc 6 _ rfl
 have c7:=hc 7 _ rfl
 exact hK b o e he b1 b2 (by rw [←b1.gen];exact c0) (by rw [←b1.kind];exact c2) (by rw [←b1.parent];exact c6) c7
theorem handleW (h:RW opn w g D vs vr es) {i:Nat} (hi:i < D.sl.length) (hK:R (.returned (.int .u64 (hnd D.sl[i].gen i:Nat))) w):Calls Tryz.prog 130 #[.pointer (some ⟨g,0,none⟩),.int .i64 (i:Nat)] w R:=by
 have hlen:=h.few
 have hg:=(h.ok _ (List.getElem_mem hi)).gen
 refine ok130 (some ⟨g,0,none⟩) i ?_
 unfold F130
 simp only [NonNil_some,h.c0,lds]
 refine h.slot rfl hi fun b o e _ _ _ c0 _ _ _ _ _=>?_
 simp only [c0,lds]
 have e1:((D.sl[i].gen:Nat):Int)*(2 ^ (min ((32:Int)).toNat 64))=((D.sl[i].gen*4294967296:Nat):Int):=by simp
 have e2:((i:Nat):Int)+1=((i+1:Nat):Int):=by omega
 rw [e1,e2,bOr_hnd hg (by omega)]
 exact⟨inR_u64 (by omega) (by omega),inR_u64 (by omega) (by omega),inR_i64 (by omega) (by omega),inR_u64 (by omega) (by omega),hK⟩
theorem atW (h:RW opn w g D vs vr es) {x:Nat} (hx:x < 18446744073709551616) (hK:R (.returned (.int .i64 (atI (atF D.sl x)))) w):Calls Tryz.prog 82 #[.pointer (some ⟨g,0,none⟩),.int .u64 (x:Nat)] w R:=by
 have hlen:=h.few
 have hn:=h.n
 refine ok82 (some ⟨g,0,none⟩) x ?_
 unfold F82
 have hm:((x:Nat):Int).tmod 4294967296=((x % 4294967296:Nat):Int):=by rw [Int.tmod_eq_emod_of_nonneg (by omega)];rfl
 rw [hm]
 have hlt:x % 4294967296 < 4294967296:=Nat.mod_lt _ (by decide)
 unfold atF at hK
 refine⟨inR_i64 (by omega) (by omega),inR_i64 (by omega) (by omega),fun w'=>w=w'∧atF D.sl x=some (x % 4294967296-1)∧0 < x % 4294967296,?_,?_⟩
 ·rintro _ ⟨rfl,ha,h0⟩
  unfold F82_j4
  unfold atF at ha
  rw [ha] at hK
  rw [hm,show ((x % 4294967296:Nat):Int)-1=((x % 4294967296-1:Nat):Int) by omega]
  exact hK
 ·refine brd (fun h0=>?_) (fun h0=>?_)
  ·rw [if_pos (by omega)] at hK;exact hK
  rw [if_neg (by omega)] at hK
  simp only [NonNil_some,h.c0,lds]
  have e1:((x % 4294967296:Nat):Int)-1=((x % 4294967296-1:Nat):Int):=by omega
  have hpos:0 < x % 4294967296:=by omega
  refine brd (fun h1=>?_) (fun h1=>?_)
  ·rw [List.getElem?_eq_none (by omega)] at hK;exact hK
  have hk:x % 4294967296-1 < D.sl.length:=by omega
  rw [List.getElem?_eq_getElem hk] at hK
  simp only at hK
  refine h.slot e1 hk fun b o e _ _ _ c0 c1 c2 c4 c6 c7=>?_
  simp only [Addr.add_mk,c1,lds]
  rw [brnot]
  refine br (fun hl=>?_) (fun hl=>?_)
  ·rw [e1]
   refine handleW h hk ⟨_,rfl,?_⟩
   refine brn (fun hne=>?_) (fun he=>?_)
   ·rw [if_neg (by rintro ⟨-,h3⟩;exact hne (by rw [h3]))] at hK
    exact hK
   ·have h3:hnd D.sl[x % 4294967296-1].gen (x % 4294967296-1)=x:=by omega
    refine⟨rfl,?_,hpos⟩
    unfold atF
    rw [if_neg (by omega),List.getElem?_eq_getElem hk]
    simp only
    rw [if_pos ⟨hl,h3⟩]
  ·rw [if_neg (by rintro ⟨h3,-⟩;rw [hl] at h3;cases h3)] at hK
   exact hK
theorem atF_isSome {sl:List Sl}{x:Nat}:(atF sl x).isSome=(slA sl x).isSome:=by
 cases h:slA sl x with
 | none=>rw [atF_none.2 h];rfl
 | some s =>
  obtain⟨k,h1,_⟩:=atF_slA h
  rw [h1];rfl
theorem liveW (h:RW opn w g D vs vr es) {x:Nat} (hx:x < 18446744073709551616) (hK:R (.returned (.bool (slA D.sl x).isSome)) w):Calls Tryz.prog 80 #[.pointer (some ⟨g,0,none⟩),.int .u64 (x:Nat)] w R:=by
 rw [←atF_isSome] at hK
 refine ok80 (some ⟨g,0,none⟩) x ?_
 unfold F80
 refine atW h hx ⟨_,rfl,?_⟩
 cases ha:atF D.sl x with
 | none=>rw [ha] at hK;exact hK
 | some k=>rw [ha] at hK;rw [show decide (atI (some k)≥0)=true from decide_eq_true (by simp [atI])];exact hK
theorem slA_get {sl:List Sl}{x:Nat}{s:Sl} (hs:slA sl x=some s):∃k,atF sl x=some k∧∃hk:k < sl.length,sl[k]=s∧x % 4294967296=k+1∧x≠0:=by
 obtain⟨k,h1,h2⟩:=atF_slA hs
 obtain⟨hk,h2⟩:=List.getElem?_eq_some_iff.1 h2
 obtain⟨_,_,_,h3⟩:=atF_some h1
 refine⟨k,h1,hk,h2,by omega,fun e=>?_⟩
 subst e;rw [slA_zero] at hs;cases hs
theorem listW {w0:World} (h:RW opn w0 g D vs vr es) (hb0:Below w0.heap.size w0 w) {x:Nat} (hx:x < 18446744073709551616) (hl:x=0∨∃s,slA D.sl x=some s∧x % 4294967296-1∉opn)
  (hK:∀v w',Below w.heap.size w w'→RR LHn w0 (lstI D x) v→(x=0→v=vr)→(∀(e:S8),x≠0→es[x % 4294967296-1]?=some e→v=e.kids)→R (.returned (.slice v.1 v.2.1 v.2.2)) w'):Calls Tryz.prog 129 #[.pointer (some ⟨g,0,none⟩),.int .u64 (x:Nat)] w R:=by
 refine ok129 (some ⟨g,0,none⟩) x ?_
 unfold F129
 have hn:=h.keep hb0
 refine bre (fun h1=>?_) (fun h1=>?_)
 ·have h0:x=0:=by omega
  subst h0
  simp only [NonNil_some,Addr.add_mk,Nat.zero_add,hn.c1,lds]
  exact hK vr w (.refl _ _) (by unfold lstI;rw [lstA_zero];exact h.roots) (fun _=>rfl) fun e h0=>absurd rfl h0
 ·rcases hl with rfl | ⟨s,hs,ho⟩
  ·exact absurd rfl h1
  obtain⟨k,ha,hk,hsk,hm,hx0⟩:=slA_get hs
  have hd:Below w.heap.size w w.drew:=(Below.refl _ _).drew
  refine⟨fun w'=>Below w.heap.size w w',hd,?_⟩
  rw [NonNil_some]
  refine⟨_,_,_,fun w' hb=>(hn.keep hb).c0,?_⟩
  refine atW (hn.keep hd) hx ⟨_,rfl,hd,?_⟩
  rw [ha]
  refine hn.slotH (fun w1 h1=>h1) (show atI (some k)=k from rfl) hk fun b o e he _ _ _ _ _ c7=>⟨_,_,_,c7,?_⟩
  have hkk:x % 4294967296-1=k:=by omega
  rw [hkk] at ho
  obtain⟨b1,b2⟩:=h.el k _ e (List.getElem?_eq_getElem hk) he
  have b2:=b2 ho
  rw [hsk] at b2
  exact hK e.kids _ hd (by unfold lstI;rw [lstA_some hx0 hs];exact b2) (fun e=>absurd e hx0) fun e' _ he'=>by rw [hkk,he] at he';cases he';rfl
end
set_option maxRecDepth 100000
section
variable {α:Type}{L:Lay α}{w w1:World}{e:TypeId}{q:Nat}
theorem Own.elA {v:Sv}{xs:List α} (hO:Own L w q e (slV v) xs) {i:Int}{k:Nat} (hi:i=k) (hk:k < xs.length) {sz:Nat} (hsz:sz=L.n) {K:Addr→Prop} (hK:∀b,rowOf (slV v)=some b→K ⟨b,k*L.n,none⟩):IdxA v.1 v.2.1 i sz K:=by
 subst hi hsz
 obtain⟨g,c,rest,rfl,hrow,_⟩:=hO.row1 (by omega)
 dsimp only
 rw [IdxA_some (by omega) (by omega)]
 simp only [Addr.add_mk,Nat.zero_add,Int.toNat_natCast]
 exact hK g hrow
theorem Own.stc {v:Sv}{xs:List α}{k j:Nat}{x':α}{u:Value} (hO:Own L w q e (slV v) xs) (hk:k < xs.length) (hj:j < L.n) (hx:L.cells x'=(L.cells xs[k]).set j u) {b:Nat} (hb:rowOf (slV v)=some b) {K:World→Prop}
  (hK:∀w1,Own L w1 q e (slV v) (xs.set k x')→Fm (fun b=>rowOf (slV v)=some b) w w1→K w1):St w ⟨b,k*L.n+j,none⟩ u K:=by
 obtain⟨g,c,rest,rfl,hrow,hq,hB,hc1,hc2,hc3⟩:=hO.row1 (by omega)
 obtain rfl:g=b:=by rw [hrow] at hb;exact Option.some.inj hb
 have hall:=L.all_length xs
 have hkn:k*L.n+L.n≤xs.length*L.n:=by rw [←Nat.succ_mul];exact Nat.mul_le_mul_right _ hk
 have hcn:xs.length*L.n≤c*L.n:=Nat.mul_le_mul_right _ hc1
 refine st_blk hB (by rw [List.size_toArray,hc3];omega) fun w1 hB1 f1=>hK w1 ?_ (f1.mono fun b _ e=>by have e:b=g:=e;rw [hrow,e])
 have hset:(L.all xs++rest).set (k*L.n+j) u=L.all (xs.set k x')++rest:=by
  rw [L.all_set xs k _ hk]
  have h1:L.all xs=(L.all xs).take (k*L.n)++(L.cells xs[k]++(L.all xs).drop ((k+1)*L.n)):=by
   have h2:=L.all_set xs k xs[k] hk
   rw [List.set_getElem_self] at h2
   exact h2
  have hl:((L.all xs).take (k*L.n)).length=k*L.n:=by rw [List.length_take,hall];omega
  have hlc:(L.cells xs[k]).length=L.n:=L.len _
  show _=(L.all xs).take (k*L.n)++(L.cells x'++(L.all xs).drop ((k+1)*L.n))++rest
  generalize (L.all xs).drop ((k+1)*L.n)=dd at h1 ⊢
  generalize hpp:(L.all xs).take (k*L.n)=pp at h1 hl ⊢
  rw [h1,hx]
  simp only [List.append_assoc]
  rw [List.set_append_right _ _ (by omega),hl,show k*L.n+j-k*L.n=j by omega,List.set_append_left _ _ (by omega)]
 rw [List.setIfInBounds_toArray,hset] at hB1
 have hln:(xs.set k x').length=xs.length:=List.length_set
 have hO1:=Own.ofBlk (k:=q) (c:=c) hB1 hq (by rw [hln];exact hc1) (by omega) hc2 (by rw [←hset,List.length_set,hc3])
 rw [hln] at hO1
 exact hO1
end
section
variable {ok ok1:Nat→Bool}{opn opn1:List Nat}{w w1:World}{g:Nat}{D:Im}{vs vr:Sv}{es:List S8}{M:Nat→Prop}{R:Ending→World→Prop}
end
set_option maxRecDepth 100000
section
variable {ok ok1:Nat→Bool}{opn opn1:List Nat}{w w1:World}{g:Nat}{D:Im}{vs vr:Sv}{es:List S8}{M:Nat→Prop}{R:Ending→World→Prop}
theorem hnd_lt {sl:List Sl} (hok:∀s∈sl,SlOk s) (hf:sl.length≤4096) {x:Nat}{s:Sl} (hs:slA sl x=some s):x < 18446744073709551616:=by
 obtain⟨k,k1,hk,k2,k3,_⟩:=slA_get hs
 obtain⟨_,_,h3,_⟩:=atF_some k1
 have hg:=(hok _ (List.getElem_mem hk)).gen
 unfold hnd at h3
 omega
end
set_option maxRecDepth 100000
set_option maxRecDepth 100000
section
variable {α:Type}{L:Lay α}{w w1:World}{e:TypeId}{q:Nat}
theorem Own.stc2 {v:Sv}{xs:List α}{k j:Nat}{a a':α}{u:Value} (hO:Own L w q e (slV v) (xs.set k a)) (hk:k < xs.length) (hj:j < L.n) (hx:L.cells a'=(L.cells a).set j u) {b:Nat} (hb:rowOf (slV v)=some b) {K:World→Prop}
  (hK:∀w1,Own L w1 q e (slV v) (xs.set k a')→Fm (fun b=>rowOf (slV v)=some b) w w1→K w1):St w ⟨b,k*L.n+j,none⟩ u K:=by
 refine hO.stc (by simpa using hk) hj (x':=a') ?_ hb fun w1 o f=>hK w1 ?_ f
 ·rw [List.getElem_set_self];exact hx
 ·rw [List.set_set] at o;exact o
end
section
variable {ok ok1 ok2:Nat→Bool}{opn opn1:List Nat}{w w1 w2:World}{g:Nat}{D:Im}{vs vr:Sv}{es:List S8}{M:Nat→Prop}{R:Ending→World→Prop}
theorem rr_none {α:Type} (L:Lay α) (W:World):RR L W [] (none,0,0):=⟨by simp,rfl,Rd.nil L W⟩
end
set_option maxRecDepth 100000
section
variable {ok ok1 ok2:Nat→Bool}{opn opn1:List Nat}{w w1 w2:World}{g:Nat}{D:Im}{vs vr:Sv}{es:List S8}{M:Nat→Prop}{R:Ending→World→Prop}
end
section
variable {g:Nat}
end
set_option maxRecDepth 100000
theorem lst_liveD {D:Im}{loose:List Nat} (hA:WfA (slA D.sl) D.roots loose) (p:Nat):∀x∈lstI D p,∃t,slA D.sl x=some t:=fun x hx=>by
 obtain⟨_,t,ht,_⟩:=(hA.lst p).2 x hx
 exact⟨t,ht⟩
theorem lst_fewD {D:Im}{loose:List Nat} (hw:WfS D.sl) (hA:WfA (slA D.sl) D.roots loose) (p:Nat):(lstI D p).length≤4096 :=
 Nat.le_trans (live_few (lst_liveD hA p) (hA.lst p).1) hw.few
abbrev vw (ok:Nat→Bool) (g:Nat) (w:World):World:=wOnly (fun b=>ok b && !(Nat.beq b g)) w
section
variable {ok:Nat→Bool}{w w1:World}{g:Nat}{D:Im}{vs vr:Sv}{R:Ending→World→Prop}
end
set_option maxRecDepth 100000
theorem newOr_iff {ok:Nat→Bool}{k b:Nat}:(ok b || Nat.ble k b)=true↔ok b=true∨k≤b:=by
 rw [Bool.or_eq_true]
 exact⟨fun h=>h.imp id Nat.le_of_ble_eq_true,fun h=>h.imp id Nat.ble_eq_true_of_le⟩
section
variable {ok:Nat→Bool}{opn:List Nat}{w w1 w0:World}{g:Nat}{D:Im}{vs vr:Sv}{es:List S8}{R:Ending→World→Prop}
theorem getR_calls (h:RW opn w0 g D vs vr es) (hb0:Below w0.heap.size w0 w) {x:Nat}{s:Sl} (hx:slA D.sl x=some s)
  (hK:∀w' e,Below w.heap.size w w'→es[x % 4294967296-1]?=some e→R (.returned (.tuple #[.agg #[.int .i64 s.kind,.string s.nm,slV e.ats,.string s.text,.slice none 0 0],.int .i64 0])) w') :
  Calls Tryz.prog 48 #[.pointer (some ⟨g,0,none⟩),.int .u64 (x:Nat)] w R:=by
 have hxl:=hnd_lt h.ok h.few hx
 obtain⟨k,k1,hk,k2,k3,hx0⟩:=slA_get hx
 refine ok48 (some ⟨g,0,none⟩) x ?_
 unfold F48
 refine al fun g4 w1 hb1 b4 hge4=>?_
 have B1:=btr hb0 hb0.size hb1
 have h1:=h.keep B1
 refine atW h1 hxl ⟨_,rfl,?_⟩
 rw [k1]
 refine brd (fun h9=>absurd h9 (by simp [atI])) (fun _=>?_)
 simp only [NonNil_some,h1.c0,lds]
 obtain⟨e,he⟩:=h1.e8 hk
 obtain⟨b1,b2⟩:=h1.el k _ e (List.getElem?_eq_getElem hk) he
 obtain⟨hk',he'⟩:=List.getElem?_eq_some_iff.1 he
 refine h1.rd.s8 h1.en (show atI (some k)=k from rfl) hk' fun b o c0 c1 c2 c3 c4 c5 c6 c7=>?_
 rw [he'] at c0 c1 c2 c3 c4 c5 c6 c7
 simp only [Addr.add_mk,c0,c1,c2,c3,c4,c5,c6,c7,lds]
 refine al fun gs w2 hb2 bs hges=>?_
 refine st_blk bs (by simp) fun u1 q1 f1=>st_blk q1 (by simp) fun u2 q2 f2=>st_blk q2 (by simp) fun u3 q3 f3=>st_blk q3 (by simp) fun u4 q4 f4=>st_blk q4 (by simp) fun u5 q5 f5=>st_blk q5 (by simp) fun u6 q6 f6=>st_blk q6 (by simp) fun u7 q7 f7=>st_blk q7 (by simp) fun w3 q8 f8=>?_
 simp only [List.setIfInBounds_toArray,List.set_cons_zero,List.set_cons_succ] at q8
 have F3:Fm (·=gs) w2 w3:=((((((f1.trans f2).trans f3).trans f4).trans f5).trans f6).trans f7).trans f8
 have D3:Below w1.heap.size w1 w3:=hb2.trans (F3.toBelow hb2.size fun b hb e=>by have e:b=gs:=e;omega)
 simp only [Addr.add_mk,Nat.zero_add,q8.cell,lds]
 refine st_blk (b4.keep D3) (by simp) fun v1 p1 r1=>st_blk p1 (by simp) fun v2 p2 r2=>st_blk p2 (by simp) fun v3 p3 r3=>st_blk p3 (by simp) fun v4 p4 r4=>st_blk p4 (by simp) fun w4 p5 r5=>?_
 simp only [List.setIfInBounds_toArray,List.set_cons_zero,List.set_cons_succ] at p5
 have F4:Fm (·=g4) w3 w4:=(((r1.trans r2).trans r3).trans r4).trans r5
 simp only [Addr.add_mk,Nat.zero_add,p5.cell,lds]
 have hs1:=hb1.size
 have D13:Below w.heap.size w w3:=hb1.trans (D3.mono hs1)
 have:=hK w4 e (D13.trans (F4.toBelow D13.size fun b hb e=>by have e:b=g4:=e;omega)) (by rw [show x % 4294967296-1=k by omega];exact he)
 rw [←k2,←b1.kind,←b1.nm,←b1.text] at this
 exact this
end
set_option maxRecDepth 100000
def allI (D:Im) (n:Nat):List Nat:=if n=0 then D.roots.flatMap (allA (slA D.sl) 65) else allA (slA D.sl) 65 n
section
variable {opn:List Nat}{w w1 w0:World}{g:Nat}{D:Im}{vs vr:Sv}{es:List S8}{R:Ending→World→Prop}{loose:List Nat}
theorem all_few (hS:WfS D.sl) (hA:WfA (slA D.sl) D.roots []) {r x:Nat} (hx:∃s,slA D.sl x=some s):(allA (slA D.sl) r x).length≤4096 :=
 Nat.le_trans (live_few (fun y hy=>all_live hA hx (fun z hz=>by simp at hz) hy) (all_nodup hA r x hx fun z hz=>by simp at hz)) hS.few
theorem flat_le {f:Nat→List Nat}{k:Nat}:∀(l:List Nat),(∀x∈l,(f x).length≤k)→(l.flatMap f).length≤l.length*k
 | [],_=>by simp
 | x :: l,h=>by
  rw [List.flatMap_cons,List.length_append,List.length_cons,Nat.add_mul]
  have h1:=h x (by simp)
  have h2:=flat_le l fun y hy=>h y (by simp [hy])
  omega
theorem allI_len (hw:Wf D) (n:Nat) (hn:n=0∨∃s,slA D.sl n=some s):(allI D n).length≤16777216:=by
 unfold allI
 split
 ·have h1:=flat_le (f:=allA (slA D.sl) 65) (k:=4096) D.roots fun x hx=>by
   obtain⟨_,t,ht,_⟩:=hw.a.root.2 x hx
   exact all_few hw.s hw.a ⟨t,ht⟩
  have h2:=lst_fewD hw.s hw.a 0
  unfold lstI at h2;rw [lstA_zero] at h2
  have:=Nat.mul_le_mul_right 4096 h2
  omega
 ·have:=all_few (r:=65) hw.s hw.a (hn.resolve_left (by assumption));omega
theorem allW_loop {f:Nat→List Nat}{l:List Nat}{v:Sv} (hv:RR LHn w0 l v) {w1:World}{A1:Option Addr}{n1 c1:Nat}{xs:List Nat} (hb1:Below w0.heap.size w0 w1) (ho1:Own LHn w1 w0.heap.size 65 (.slice A1 n1 c1) xs) (hlen:xs.length+(l.flatMap f).length≤4398046511104)
  (hstep:∀x∈l,∀{w:World}{A:Option Addr}{n c:Nat}{ys:List Nat}{R:Ending→World→Prop},Below w0.heap.size w0 w→Own LHn w w0.heap.size 65 (.slice A n c) ys→ys.length+(f x).length≤4398046511104 →
   (∀A' n' c' w',Below w0.heap.size w0 w'→Own LHn w' w0.heap.size 65 (.slice A' n' c') (ys++f x)→R (.returned (.slice A' n' c')) w') →
   Calls Tryz.prog 81 #[.pointer (some ⟨g,0,none⟩),.int .u64 (x:Nat),.slice A n c] w R)
  (hK:∀A' n' c' w',Below w0.heap.size w0 w'→Own LHn w' w0.heap.size 65 (.slice A' n' c') (xs++l.flatMap f)→R (.returned (.slice A' n' c')) w') :
  ∃(I:Option Addr→Nat→Nat→Int→World→Prop) (m:Option Addr→Nat→Nat→Int→World→Nat),I A1 n1 c1 (0:Int) w1 ∧
   ∀(l3:Option Addr) (lN3:Nat) (lC3:Nat) (i:Int) (w1_2:World),I l3 lN3 lC3 i w1_2→F81_l5 (some ⟨g,0,none⟩) v.1 v.2.1 (fun l3' lN3' lC3' i' w2=>I l3' lN3' lC3' i' w2∧m l3' lN3' lC3' i' w2 < m l3 lN3 lC3 i w1_2) l3 lN3 lC3 i w1_2 R:=by
 obtain⟨z0,z1,z2⟩:=hv
 refine⟨fun l3 lN3 lC3 i w'=>∃m:Nat,i=m∧m≤l.length∧Below w0.heap.size w0 w'∧Own LHn w' w0.heap.size 65 (.slice l3 lN3 lC3) (xs++(l.take m).flatMap f),fun _ _ _ i _=>l.length-i.toNat,
  ⟨0,rfl,by omega,hb1,by simpa using ho1⟩,?_⟩
 rintro l3 lN3 lC3 i w3 ⟨m,rfl,hm,hb3,ho3⟩
 unfold F81_l5
 refine brd (fun hlt=>?_) (fun hge=>?_)
 ·have hm2:m < l.length:=by omega
  refine (z2.keep hb3).hn z1 rfl (k:=m) hm2 fun b o c0=>?_
  simp only [c0,lds]
  have hst:(l.take (m+1)).flatMap f=(l.take m).flatMap f++f l[m]:=by
   rw [List.take_succ_eq_append_getElem hm2,List.flatMap_append];simp
  have hle:((l.take (m+1)).flatMap f).length≤(l.flatMap f).length:=by
   have e:l.flatMap f=(l.take (m+1)).flatMap f++(l.drop (m+1)).flatMap f:=by rw [←List.flatMap_append,List.take_append_drop]
   rw [e,List.length_append];omega
  rw [hst,List.length_append] at hle
  refine hstep l[m] (List.getElem_mem hm2) hb3 ho3 (by simp only [List.length_append];omega) fun A4 n4 c4 w4 hb4 ho4=>⟨_,_,_,rfl,inR_i64 (by omega) (by omega),⟨m+1,by simp,by omega,hb4,?_⟩,(by first | omega | (dsimp only;omega))⟩
  rw [hst,←List.append_assoc];exact ho4
 ·have hm2:m=l.length:=by omega
  subst hm2
  rw [List.take_length] at ho3
  exact hK l3 lN3 lC3 w3 hb3 ho3
theorem allW (h:RW [] w0 g D vs vr es) (hA:WfA (slA D.sl) D.roots loose):∀(r x c:Nat) {s:Sl},slA D.sl x=some s→Ch (slA D.sl) x c→65≤c+r→∀{w:World}{A:Option Addr}{n c:Nat}{xs:List Nat}{R:Ending→World→Prop},
  Below w0.heap.size w0 w→Own LHn w w0.heap.size 65 (.slice A n c) xs→xs.length+(allA (slA D.sl) r x).length≤4398046511104 →
  (∀A' n' c' w',Below w0.heap.size w0 w'→Own LHn w' w0.heap.size 65 (.slice A' n' c') (xs++allA (slA D.sl) r x)→R (.returned (.slice A' n' c')) w') →
  Calls Tryz.prog 81 #[.pointer (some ⟨g,0,none⟩),.int .u64 (x:Nat),.slice A n c] w R:=by
 intro r
 induction r with
 | zero =>
  intro x c s hx hc hr
  obtain⟨c',h1,h2⟩:=hA.chain x s hx
  have:=hc.fn h2
  omega
 | succ r ih =>
  intro x c s hx hc hr w A n cc xs R hb ho hlen hK
  have hxl:=hnd_lt h.ok h.few hx
  have hx0:=hA.ne0 hx
  rw [allA_some hx,List.length_cons] at hlen
  rw [allA_some hx] at hK
  refine ok81 (some ⟨g,0,none⟩) x A n cc ?_
  unfold F81
  refine⟨fun A1 n1 c1 w1=>Below w0.heap.size w0 w1∧Own LHn w1 w0.heap.size 65 (.slice A1 n1 c1) (xs++[x]),?_,?_⟩
  ·rintro A1 n1 c1 w1 ⟨hb1,ho1⟩
   unfold F81_j3
   refine listW h hb1 hxl (.inr ⟨s,hx,by simp⟩) fun v w2 hb2 hv _ _=>⟨_,_,_,rfl,?_⟩
   have B2:=btr hb1 hb1.size hb2
   have hlst:lstI D x=s.kids:=by unfold lstI;exact lstA_some hx0 hx
   rw [hlst] at hv
   refine allW_loop (f:=allA (slA D.sl) r) hv B2 (ho1.keep hb2) (by simp only [List.length_append,List.length_singleton];omega) (fun y hy=>?_) fun A4 n4 c4 w4 hb4 ho4=>?_
   ·obtain⟨t,t1,t2⟩:=((hA.kid x s hx).2 y hy).2
    intro w A n c' ys R hb ho hl hK
    exact ih y (c+1) t1 (.succ (hA.ne0 t1) t1 (by rw [t2];exact hc)) (by omega) hb ho hl hK
   ·rw [List.append_assoc,List.singleton_append] at ho4
    exact hK A4 n4 c4 w4 hb4 ho4
  ·refine brn (fun _=>?_) (fun h0=>absurd h0 (by omega))
   refine ap1 (L:=LHn) (x:=x) (.int .u64 0) 8 rfl (by kernel_rfl) (by kernel_rfl) (by kernel_rfl) ho hb.size (by omega) (by simp [maxLen];omega) fun A' c' w1 o1 g1=>⟨_,_,_,rfl,hb.trans g1.below,o1⟩
theorem AllW (h:RW [] w g D vs vr es) (hw:Wf D) {n:Nat} (hn:n < 18446744073709551616)
  (hK:∀v w',Below w.heap.size w w'→(n=0∨(∃s,slA D.sl n=some s)→Own LHn w' w.heap.size 65 (slV v) (allI D n))→(n≠0→slA D.sl n=none→v=(none,0,0))→R (.returned (.tuple #[slV v,.int .i64 (if n=0∨(slA D.sl n).isSome=true then 0 else 8)])) w') :
  Calls Tryz.prog 47 #[.pointer (some ⟨g,0,none⟩),.int .u64 (n:Nat)] w R:=by
 refine ok47 (some ⟨g,0,none⟩) n ?_
 unfold F47
 refine⟨fun w'=>w=w'∧(n=0∨∃s,slA D.sl n=some s),?_,?_⟩
 ·rintro _ ⟨rfl,hl⟩
  unfold F47_j3
  refine al fun g16 w1 hb1 b1 hge1=>?_
  have hfin:∀A' n' c' w',Below w.heap.size w w'→Own LHn w' w.heap.size 65 (.slice A' n' c') (allI D n)→R (.returned (.tuple #[.slice A' n' c',.int .i64 0])) w':=fun A' n' c' w' hb ho=>by
   have:=hK (A',n',c') w' hb (fun _=>ho) (fun h0 h1=>by
    rcases hl with e | ⟨s,hs⟩
    ·exact absurd e h0
    ·rw [hs] at h1;cases h1)
   rw [if_pos (by
    rcases hl with e | ⟨s,hs⟩
    ·exact .inl e
    ·exact .inr (by rw [hs];rfl))] at this
   exact this
  rcases hl with rfl | ⟨s,hs⟩
  ·refine ok81 (some ⟨g,0,none⟩) 0 (some ⟨g16,0,none⟩) 0 0 ?_
   unfold F81
   refine⟨fun A1 n1 c1 w2=>w1=w2∧A1=some ⟨g16,0,none⟩∧n1=0∧c1=0,?_,brn (fun h0=>absurd rfl h0) fun _=>⟨rfl,rfl,rfl,rfl⟩⟩
   rintro _ _ _ _ ⟨rfl,rfl,rfl,rfl⟩
   unfold F81_j3
   have hlen:=allI_len hw 0 (.inl rfl)
   unfold allI at hlen hfin
   rw [if_pos rfl] at hlen hfin
   refine listW (x:=0) h hb1 (by omega) (.inl rfl) fun v w2 hb2 hv _ _=>⟨_,_,_,rfl,?_⟩
   have hlst:lstI D 0=D.roots:=by unfold lstI;exact lstA_zero
   rw [hlst] at hv
   refine allW_loop (f:=allA (slA D.sl) 65) (xs:=[]) hv (btr hb1 hb1.size hb2) (Own.bare _ _ _ _ _) (by simp only [List.length_nil];omega) (fun y hy=>?_) fun A4 n4 c4 w4 hb4 ho4=>⟨_,_,_,rfl,?_⟩
   ·obtain⟨_,t,t1,t2⟩:=hw.a.root.2 y hy
    intro w A n c' ys R hb ho hl hK
    exact allW h hw.a 65 y 1 t1 (.succ (hw.a.ne0 t1) t1 (by rw [t2];exact .zero)) (by omega) hb ho hl hK
   ·exact hfin A4 n4 c4 w4 hb4 (by simpa using ho4)
  ·have hn0:=hw.a.ne0 hs
   have hlen:=allI_len hw n (.inr ⟨s,hs⟩)
   unfold allI at hlen hfin
   rw [if_neg hn0] at hlen hfin
   obtain⟨c,c1,c2⟩:=hw.a.chain n s hs
   refine allW (xs:=[]) h hw.a 65 n c hs c2 (by omega) hb1 (Own.bare _ _ _ _ _) (by simp only [List.length_nil];omega) fun A4 n4 c4 w4 hb4 ho4=>⟨_,_,_,rfl,?_⟩
   exact hfin A4 n4 c4 w4 hb4 (by simpa using ho4)
 ·refine brn (fun h0=>?_) (fun h0=>⟨rfl,.inl (by omega)⟩)
  refine liveW h hn ⟨_,rfl,?_⟩
  rw [brnot]
  refine br (fun h1=>⟨rfl,.inr (Option.isSome_iff_exists.1 h1)⟩) (fun h1=>?_)
  have e9:slA D.sl n=none:=by
   cases h9:slA D.sl n with
   | none=>rfl
   | some s=>rw [h9] at h1;cases h1
  have:=hK (none,0,0) w (.refl _ _) (fun hl=>by
   rcases hl with e | ⟨s,hs⟩
   ·omega
   ·rw [hs] at e9;cases e9) (fun _ _=>rfl)
  rw [if_neg (by
   rw [e9]
   rintro (h | h)
   ·omega
   ·cases h)] at this
  exact this
end
set_option maxRecDepth 100000
section
variable {ok:Nat→Bool}{opn:List Nat}{w w1 w0:World}{g:Nat}{D:Im}{vs vr:Sv}{es:List S8}{R:Ending→World→Prop}{loose:List Nat}
end
set_option maxRecDepth 100000
section
variable {ok:Nat→Bool}{opn:List Nat}{w w1 w0:World}{g:Nat}{D:Im}{vs vr:Sv}{es:List S8}{R:Ending→World→Prop}{loose:List Nat}
end
end Go.Proofs.YtccplipiahdhiaaGreatDoor
set_option linter.unusedVariables false
set_option maxRecDepth 100000
namespace Go.Proofs.YtccplipiahdhiaaGreatDoor
open Go.Vc
def F38_j7 (y:Addr) (L3:Int→World→Prop) (i:Int) (s:Addr) (aa:World) (R:Ending→World→Prop):Prop :=
 LdSl (aa.cell? y) fun ba u v =>
 LdI .u32 (aa.cell? s) fun p =>
 LdB (aa.cell? (s.add 1)) fun h =>
 LdI .i64 (aa.cell? (s.add 2)) fun q =>
 LdStr (aa.cell? (s.add 3)) fun e =>
 LdSl (aa.cell? (s.add 4)) fun f c b =>
 LdStr (aa.cell? (s.add 5)) fun j =>
 LdI .u64 (aa.cell? (s.add 6)) fun r =>
 LdSl (aa.cell? (s.add 7)) fun g d a =>
 Al aa #[(.int .u32 p),(.bool h),(.int .i64 q),(.string e),(.slice f c b),(.string j),(.int .u64 r),(.slice g d a)] 162 fun g36 n =>
 Raw Tryz.prog (Builtin.append_ #[22,22] 22 #[(.slice ba u v),(.slice (some g36) 1 1)]) n fun v2 m =>
 ∃(ca:Option Addr) (z:Nat) (t:Nat),v2=(.slice ca z t) ∧
 St m y (.slice ca z t) fun k =>
 InR .i64 (i+(1:Int))∧L3 (i+(1:Int)) k
def F38_l3 (g1:Addr) (g2:Addr) (y:Addr) (L3:Int→World→Prop) (i:Int) (mb:World) (R:Ending→World→Prop):Prop :=
 LdSl (mb.cell? g1) fun kb pa ya =>
 Br (decide (i < ((pa:Nat):Int)))
 (LdSl (mb.cell? g1) fun nb db za =>
 IdxA nb db i 8 fun jb =>
 LdI .u32 (mb.cell? jb) fun ka =>
 LdB (mb.cell? (jb.add 1)) fun t =>
 LdI .i64 (mb.cell? (jb.add 2)) fun k =>
 LdStr (mb.cell? (jb.add 3)) fun r =>
 LdSl (mb.cell? (jb.add 4)) fun u b g =>
 LdStr (mb.cell? (jb.add 5)) fun ba =>
 LdI .u64 (mb.cell? (jb.add 6)) fun na =>
 LdSl (mb.cell? (jb.add 7)) fun j a f =>
 Al mb #[(.int .u32 0),(.bool false),(.int .i64 0),(.string (ByteArray.mk #[])),(.slice none 0 0),(.string (ByteArray.mk #[])),(.int .u64 0),(.slice none 0 0)] 162 fun s eb =>
 St eb s (.int .u32 ka) fun ua =>
 St ua (s.add 1) (.bool t) fun v =>
 St v (s.add 2) (.int .i64 k) fun m =>
 St m (s.add 3) (.string r) fun ma =>
 St ma (s.add 4) (.slice u b g) fun ea =>
 St ea (s.add 5) (.string ba) fun ca =>
 St ca (s.add 6) (.int .u64 na) fun q =>
 St q (s.add 7) (.slice j a f) fun ia =>
 ∃J7:World→Prop,(∀ (ha:World),J7 ha→F38_j7 y L3 i s ha R) ∧
 (∃S:World→Prop,S ia.drew∧∃(gb:Option Addr) (ta:Nat) (ab:Nat),Held S (s.add 4) (.slice gb ta ab)∧∃(fb:Option Addr) (cb:Nat) (ra:Nat),Held S (s.add 7) (.slice fb cb ra)∧(Al ia.drew #[] 205 fun g23 fa =>
 S fa∧(Raw Tryz.prog (Builtin.append_ #[81,81] 81 #[(.slice (some g23) 0 0),(.slice gb ta ab)]) fa fun v2 aa =>
 ∃(hb:Option Addr) (va:Nat) (qa:Nat),v2=(.slice hb va qa) ∧
 S aa∧Al aa #[] 65 fun g27 p =>
 S p∧Raw Tryz.prog (Builtin.append_ #[23,23] 23 #[(.slice (some g27) 0 0),(.slice fb cb ra)]) p fun v3 ja =>
 ∃(ib:Option Addr) (bb:Nat) (sa:Nat),v3=(.slice ib bb sa) ∧
 St ja (s.add 4) (.slice hb va qa) fun z =>
 St z (s.add 7) (.slice ib bb sa) fun ga =>
 J7 ga)
 ∧ (Al fa #[] 65 fun g27 aa =>
 S aa∧Raw Tryz.prog (Builtin.append_ #[81,81] 81 #[(.slice (some g23) 0 0),(.slice gb ta ab)]) aa fun v2 p =>
 ∃(hb:Option Addr) (va:Nat) (qa:Nat),v2=(.slice hb va qa) ∧
 S p∧Raw Tryz.prog (Builtin.append_ #[23,23] 23 #[(.slice (some g27) 0 0),(.slice fb cb ra)]) p fun v3 ja =>
 ∃(ib:Option Addr) (bb:Nat) (sa:Nat),v3=(.slice ib bb sa) ∧
 St ja (s.add 4) (.slice hb va qa) fun z =>
 St z (s.add 7) (.slice ib bb sa) fun ga =>
 J7 ga))
 ∧ (Al ia.drew #[] 65 fun g27 fa =>
 S fa∧Al fa #[] 205 fun g23 aa =>
 S aa∧Raw Tryz.prog (Builtin.append_ #[81,81] 81 #[(.slice (some g23) 0 0),(.slice gb ta ab)]) aa fun v2 p =>
 ∃(hb:Option Addr) (va:Nat) (qa:Nat),v2=(.slice hb va qa) ∧
 S p∧Raw Tryz.prog (Builtin.append_ #[23,23] 23 #[(.slice (some g27) 0 0),(.slice fb cb ra)]) p fun v3 ja =>
 ∃(ib:Option Addr) (bb:Nat) (sa:Nat),v3=(.slice ib bb sa) ∧
 St ja (s.add 4) (.slice hb va qa) fun z =>
 St z (s.add 7) (.slice ib bb sa) fun ga =>
 J7 ga)))
 (LdSl (mb.cell? y) fun da c d =>
 LdSl (mb.cell? (y.add 1)) fun n e h =>
 St mb g2 (.slice da c d) fun eb =>
 St eb (g2.add 1) (.slice n e h) fun ua =>
 LdSl (ua.cell? g2) fun res0_0 res0_0N res0_0C =>
 LdSl (ua.cell? (g2.add 1)) fun res0_1 res0_1N res0_1C =>
 R (.returned (.agg #[(.slice res0_0 res0_0N res0_0C),(.slice res0_1 res0_1N res0_1C)])) ua)
def F38 (x_0:Option Addr) (x_0N:Nat) (x_0C:Nat) (x_1:Option Addr) (x_1N:Nat) (x_1C:Nat) (q:World) (R:Ending→World→Prop):Prop :=
 Al q #[(.slice x_0 x_0N x_0C),(.slice x_1 x_1N x_1C)] 25 fun g1 w1 =>
 Al w1 #[(.slice none 0 0),(.slice none 0 0)] 25 fun g2 a =>
 Al a #[] 65 fun g6 f =>
 LdSl (f.cell? (g1.add 1)) fun p h j =>
 Raw Tryz.prog (Builtin.append_ #[23,23] 23 #[(.slice (some g6) 0 0),(.slice p h j)]) f fun v c =>
 ∃(r:Option Addr) (k:Nat) (n:Nat),v=(.slice r k n) ∧
 Al c #[(.slice none 0 0),(.slice none 0 0)] 25 fun y b =>
 St b y (.slice none 0 0) fun g =>
 St g (y.add 1) (.slice r k n) fun d =>
 ∃(I:Int→World→Prop) (m:Int→World→Nat),I (0:Int) d ∧
 ∀(i:Int) (e:World),I i e→F38_l3 g1 g2 y (fun i' w2=>I i' w2∧m i' w2 < m i e) i e R
theorem ok38 (x_0:Option Addr) (x_0N:Nat) (x_0C:Nat) (x_1:Option Addr) (x_1N:Nat) (x_1C:Nat) {w:World}{R:Ending→World→Prop} (h:F38 x_0 x_0N x_0C x_1 x_1N x_1C w R):Calls Tryz.prog 38 #[(.agg #[(.slice x_0 x_0N x_0C),(.slice x_1 x_1N x_1C)])] w R :=
 vc_calls (pl:=⟨40,⟨[]⟩,[(7,⟨[],[(23,33)]⟩)],[(3,⟨[(4,(.s (.int .i64)))],[(4,39)]⟩)]⟩) Tryz.func38 (by kernel_rfl) (by kernel_rfl) (by kernel_rfl) (Eq.mp (by kernel_rfl) h)
end Go.Proofs.YtccplipiahdhiaaGreatDoor
namespace Go.Proofs.YtccplipiahdhiaaGreatDoor
open Go.RowKit Go.Vc
set_option linter.unusedVariables false
set_option linter.unusedSimpArgs false
set_option maxRecDepth 100000
set_option maxRecDepth 100000
set_option maxRecDepth 100000
section
variable {D:Im}
end
structure Ac where
 kind:Int
 wh:Int
 how:Bool
 n:Nat
 at_:Nat
 nm:ByteArray
 val:ByteArray
 x:Tr
section
variable {w w1:World}{g:Nat}{D:Im}{vs vr:Sv}{es:List S8}{R:Ending→World→Prop}
end
set_option maxRecDepth 100000
def okc (o:Nat→Nat) (b:Nat):Bool:=Nat.beq (o b) 0
structure EvA (w:World) (o:Nat→Nat) (w1:World) (o1:Nat→Nat):Prop where
 fm:Fm (fun b=>o b≠0) w w1
 old:∀b,b < w.heap.size→o b=0→o1 b=0
section
variable {p:Value}{P:Nat→World→(Nat→Nat)→Im→Prop}{k:Nat}{w:World}{o:Nat→Nat}{g:Nat}{D:Im}{vs vr:Sv}{R:Ending→World→Prop}
end
set_option maxRecDepth 100000
structure LIv (k:Nat) (w:World) (o:Nat→Nat) (g:Nat) (ty:TypeId) (S:PS) (nms:List Nat) (gv:Nat) (E:Nat→Option (Nat × Nat)):Prop where
 x:LX w o g ty S nms gv E
 pi:PI S
 word:nms=0 :: S.D.roots.flatMap (wrd (slA S.D.sl) E 65)
 def1:∀y,E y≠none→∃s,slA S.D.sl y=some s
 def2:∀y s,slA S.D.sl y=some s→E y≠none
 gv_:gv≤8192*k
def LD (k:Nat) (g:Nat) (ty:TypeId) (w:World) (o:Nat→Nat) (D:Im):Prop:=∃S nms gv E,S.D=D∧LIv k w o g ty S nms gv E
section
variable {w w1 w2:World}{o o1 o2:Nat→Nat}{g k:Nat}{ty:TypeId}{S:PS}{bs nms lbs:List Nat}{mb gv:Nat}{wr:Int}{em:Option Nat}{E E':Nat→Option (Nat × Nat)}{M:Nat→Prop}{R:Ending→World→Prop}{θ:Th}{D:Im}
theorem EvL.a (h:EvL w o w1 o1):EvA w o w1 o1:=⟨h.fm.mono fun b _ e=>by omega,h.old⟩
theorem EvC.a (h:EvP w o w1 o1):EvA w o w1 o1:=⟨h.fm.mono fun b _ e=>by unfold pc at e;omega,h.old⟩
theorem EvA.tr (h:EvA w o w1 o1) (k:EvA w1 o1 w2 o2):EvA w o w2 o2 :=
 ⟨⟨k.fm.os.trans h.fm.os,k.fm.tape.trans h.fm.tape,k.fm.output.trans h.fm.output,Nat.le_trans h.fm.size k.fm.size,fun b hb hn=>by
  have h0:o b=0:=Classical.byContradiction fun e=>hn e
  rw [k.fm.block b (Nat.lt_of_lt_of_le hb h.fm.size) (fun e=>e (h.old b hb h0)),h.fm.block b hb hn]⟩,fun b hb h0=>k.old b (Nat.lt_of_lt_of_le hb h.fm.size) (h.old b hb h0)⟩
theorem EvA.below (hb:Below w.heap.size w w1):EvA w o w1 o:=⟨.below hb,fun _ _ h=>h⟩
theorem last_eq {X Y X' Y':List Nat}{ah:Nat} (hn:(X++Y).Nodup) (he:X++Y=X'++Y') (h1:X.getLast?=some ah) (h2:X'.getLast?=some ah):X=X'∧Y=Y':=by
 have p1:X≠[]:=fun e=>by rw [e] at h1;cases h1
 have p2:X'≠[]:=fun e=>by rw [e] at h2;cases h2
 have l1:0 < X.length:=List.length_pos_iff.2 p1
 have l2:0 < X'.length:=List.length_pos_iff.2 p2
 have g1:(X++Y)[X.length-1]?=some ah:=by rw [List.getElem?_append_left (by omega),←List.getLast?_eq_getElem?];exact h1
 have g2:(X++Y)[X'.length-1]?=some ah:=by rw [he,List.getElem?_append_left (by omega),←List.getLast?_eq_getElem?];exact h2
 have:=nd_get hn g1 g2
 exact List.append_inj he (by omega)
theorem ins_err {wh:Int}{a:Nat}{x:Tr} (h:(insF D wh a x).2.2≠0):(insF D wh a x).1=D:=by
 unfold insF at h ⊢
 split
 ·rfl
 split
 ·rfl
 split
 ·rfl
 split
 ·rfl
 split
 ·rfl
 ·exfalso
  rename_i h1 h2 h3 h4 h5
  rw [if_neg h1,if_neg h2,if_neg h3,if_neg h4,if_neg h5] at h
  exact h rfl
theorem retag {n:Nat}{s:Sl}{A0:Nat→Option Sl}{roots0:List Nat} (h:LX w o g ty S nms gv E) (hS:WfS S.D.sl) (hAt:Att A0 roots0 (slA S.D.sl) S.D.roots n s) (hword:nms=0 :: roots0.flatMap (wrd A0 E 65)) (hE1:∀y,E y≠none→∃t,A0 y=some t) (hE2:∀y t,A0 y=some t→E y≠none)
  (hfew:(roots0.flatMap (allA A0 65)).length+(allA (slA S.D.sl) 65 n).length≤4096) (hgv:gv < 9007199254740992)
  (hK:∀w' o' nms' E' v,LX w' o' g ty S nms' (gv+2*(allA (slA S.D.sl) 65 n).length) E'→nms'=0 :: S.D.roots.flatMap (wrd (slA S.D.sl) E' 65)→(∀y,E' y≠none→∃t,slA S.D.sl y=some t)→(∀y t,slA S.D.sl y=some t→E' y≠none)→EvA w o w' o'→R (.returned (.int .u64 (v:Nat))) w') :
  Calls Tryz.prog 70 #[.pointer (some ⟨g,0,none⟩),.int .u64 (n:Nat),.int .u64 (aheadF S.D E n:Nat)] w R:=by
 have hn:=hAt.at_
 have hE0:E 0=none:=Classical.byContradiction fun e=>by
  obtain⟨t,ht⟩:=hE1 0 e
  rw [hAt.w0.zero] at ht;cases ht
 have hah:aheadF S.D E n=if (lstA (slA S.D.sl) S.D.roots s.parent).idxOf n=0 then (eN E s.parent).1 else (eN E ((lstA (slA S.D.sl) S.D.roots s.parent).getD ((lstA (slA S.D.sl) S.D.roots s.parent).idxOf n-1) 0)).2:=by
  unfold aheadF;rw [hn];rfl
 obtain⟨X,Y,-,b1,l1⟩:=attach (E:=E) (E':=E) hAt.w hn hE0 (fun _ _=>rfl)
 rw [←hah] at l1
 rw [hAt.word,←hword] at b1
 obtain⟨lbs,hI⟩:=h.I
 have hnd:(X++Y).Nodup:=by rw [←b1];exact hI.nd
 have p1:X≠[]:=fun e=>by rw [e] at l1;cases l1
 have lx:0 < X.length:=List.length_pos_iff.2 p1
 have hi:nms[X.length-1]?=some (aheadF S.D E n):=by rw [b1,List.getElem?_append_left (by omega),←List.getLast?_eq_getElem?];exact l1
 obtain⟨c,c1,c2⟩:=hAt.w.chain n s hn
 have hlen:nms.length=1+2*(roots0.flatMap (allA A0 65)).length:=by
  rw [hword,List.length_cons,flat_len2 (h:=allA A0 65) fun y hy=>by
   obtain⟨_,u,u1,u2⟩:=hAt.w0.root.2 y hy
   exact wrd_len hAt.w0 65 y 1 u1 (.succ (hAt.w0.ne0 u1) u1 (by rw [u2];exact .zero)) (by omega)]
  omega
 refine tag_calls hAt.w 65 n c hn c2 (by omega) h hi (by omega) (by omega) fun w' o' E' h' ev z1 z2=>?_
 have hmem:∀y,y∈allA (slA S.D.sl) 65 n↔Wi (slA S.D.sl) n y:=fun y=>mem_all hAt.w ⟨s,hn⟩ (fun z hz=>by simp at hz) c2 (by omega)
 have hEE:∀y,¬Wi (slA S.D.sl) n y→E' y=E y:=fun y hy=>z1 y fun e=>hy ((hmem y).1 e)
 obtain⟨X',Y',a2,b2,l2⟩:=attach (E:=E) (E':=E') hAt.w hn hE0 hEE
 rw [←hah] at l2
 rw [hAt.word,←hword] at b2
 obtain⟨q1,q2⟩:=last_eq hnd (by rw [←b1,b2]) l1 l2
 subst q1 q2
 have e1:nms.take (X.length-1+1)=X:=by rw [b1,show X.length-1+1=X.length by omega,List.take_left]
 have e2:nms.drop (X.length-1+1)=Y:=by rw [b1,show X.length-1+1=X.length by omega,List.drop_left]
 rw [e1,e2] at h'
 refine hK w' o' _ E' _ h'.x a2.symm (fun y hy=>?_) (fun y t ht=>?_) ev.a
 ·by_cases hwy:Wi (slA S.D.sl) n y
  ·exact all_live hAt.w ⟨s,hn⟩ (fun z hz=>by simp at hz) ((hmem y).2 hwy)
  ·rw [hEE y hwy] at hy
   obtain⟨t,ht⟩:=hE1 y hy
   obtain⟨u,hu,_⟩:=hAt.live ht
   exact⟨u,hu⟩
 ·by_cases hwy:Wi (slA S.D.sl) n y
  ·exact z2 y ((hmem y).2 hwy)
  ·rw [hEE y hwy]
   obtain⟨cy,cy1,cy2⟩:=hAt.w.chain y t ht
   obtain⟨u,hu⟩:=hAt.split cy y cy2 ht hwy
   exact hE2 y u hu
end
set_option maxRecDepth 100000
section
variable {w w0 w1:World}{o:Nat→Nat}{θ:Th}{S:PS}{R:Ending→World→Prop}
def plV (s:Sl) (v:Sv):Value:=.agg #[.int .i64 s.kind,.string s.nm,.slice v.1 v.2.1 v.2.2,.string s.text,.slice none 0 0]
theorem plain_calls (h:PM w o θ S) {x:Nat}{s:Sl} (hx:slA S.D.sl x=some s) (hK:∀v w',Below w.heap.size w w'→Own LAt w' w.heap.size 205 (slV v) s.attrs→R (.returned (plV s v)) w'):Calls Tryz.prog 66 #[.pointer (some ⟨pb S.bs x,0,none⟩)] w R:=by
 refine ok66 (some ⟨pb S.bs x,0,none⟩) ?_
 unfold F66
 obtain⟨i,i1,i2,i3,i4⟩:=h.of hx
 obtain⟨a,kv,hN⟩:=h.nodes i _ s i2 i3
 have hr:=h.rng s (List.mem_of_getElem? i3)
 refine al fun g w1 hb1 b1 hge1=>?_
 have hdr:Below w1.heap.size w1 w1.drew:=(Below.refl _ _).drew
 have bN:=hN.blk.keep hb1
 refine⟨fun w'=>Below w1.heap.size w1 w',hdr,?_⟩
 simp only [NonNil_some,Addr.add_mk,Nat.zero_add]
 refine⟨_,fun w' hw=>by rw [(bN.keep hw).cell];rfl,_,fun w' hw=>by rw [(bN.keep hw).cell];rfl,_,_,_,fun w' hw=>by rw [(bN.keep hw).cell];rfl,_,fun w' hw=>by rw [(bN.keep hw).cell];rfl,?_⟩
 have B1d:=btr hb1 hb1.size hdr
 refine cloneOwn_calls s.attrs a ((rr_own hN.at1 hr.atf).keep B1d) fun v w2 hb2 ov=>⟨_,_,_,rfl,?_⟩
 have D2:=btr hdr hdr.size hb2
 refine⟨D2,?_⟩
 refine st_blk (b1.keep D2) (by simp) fun u1 q1 f1=>st_blk q1 (by simp) fun u2 q2 f2=>st_blk q2 (by simp) fun u3 q3 f3=>st_blk q3 (by simp) fun u4 q4 f4=>st_blk q4 (by simp) fun w3 b3 f5=>?_
 simp only [List.setIfInBounds_toArray,List.set_cons_zero,List.set_cons_succ] at b3
 have F3:Fm (·=g) w2 w3:=(((f1.trans f2).trans f3).trans f4).trans f5
 have B2:=btr B1d B1d.size hb2
 have hs1:=hb1.size
 have hds:w1.drew.heap.size=w1.heap.size:=rfl
 have hgl:=b1.lt
 simp only [Addr.add_mk,Nat.zero_add,b3.cell,lds]
 refine hK v w3 (B2.trans (F3.toBelow B2.size fun b hb e=>by have e:b=g:=e;omega)) ((own_fm ov F3 fun x hx e=>by have e:x=g:=e;have:=(ov.lt x hx).1;omega).rebase fun x hx=>by have:=(ov.lt x hx).1;omega)
theorem Get_calls (h:PM w o θ S) {x:Nat}{s:Sl} (hx:slA S.D.sl x=some s) (hK:∀v w',Below w.heap.size w w'→Own LAt w' w.heap.size 205 (slV v) s.attrs→R (.returned (.tuple #[plV s v,.int .i64 0])) w') :
  Calls Tryz.prog 35 #[.pointer (some ⟨θ.g,0,none⟩),.int .u64 (x:Nat)] w R:=by
 refine ok35 (some ⟨θ.g,0,none⟩) x ?_
 unfold F35
 refine al fun g w1 hb1 b1 hge1=>?_
 have hxl:=hx_lt h hx
 refine atL_calls (h.below hb1) hxl fun w2 hb2=>⟨_,rfl,?_⟩
 have e:ptrL S x=some ⟨pb S.bs x,0,none⟩:=by unfold ptrL;rw [hx];rfl
 rw [e]
 simp only [Option.isNone_some,Br_f,Addr.add_mk,Nat.zero_add]
 have B2:=btr hb1 hb1.size hb2
 refine plain_calls (h.below B2) hx ?_
 intro v w3 hb3 ov
 refine⟨s.kind,s.nm,v.1,v.2.1,v.2.2,s.text,none,0,0,by rw [plV],?_⟩
 have B3:=btr B2 B2.size hb3
 refine st_blk ((b1.keep hb2).keep hb3) (by simp) fun u1 q1 f1=>st_blk q1 (by simp) fun u2 q2 f2=>st_blk q2 (by simp) fun u3 q3 f3=>st_blk q3 (by simp) fun u4 q4 f4=>st_blk q4 (by simp) fun w4 b4 f5=>?_
 simp only [List.setIfInBounds_toArray,List.set_cons_zero,List.set_cons_succ] at b4
 have F4:Fm (·=g) w3 w4:=(((f1.trans f2).trans f3).trans f4).trans f5
 have hs1:=hb1.size
 have hs2:=hb2.size
 have hgl:=b1.lt
 simp only [Addr.add_mk,Nat.zero_add,b4.cell,lds]
 refine hK v w4 (B3.trans (F4.toBelow B3.size fun b hb e=>by have e:b=g:=e;omega)) ((own_fm ov F4 fun x hx e=>by have e:x=g:=e;have:=(ov.lt x hx).1;omega).rebase fun x hx=>by have:=(ov.lt x hx).1;omega)
theorem Tree_calls {k g:Nat}{ty:TypeId}{D:Im} (h:LD k g ty w o D) (hK:∀gc bs o' w' S',Below w.heap.size w w'→S'.D=D→PM w' o' ⟨gc,98,[]⟩ S'→S'.bs=bs→(∀b,o' b≠0→w.heap.size≤b)→PI S'→R (.returned (.pointer (some ⟨gc,0,none⟩))) w') :
  Calls Tryz.prog 34 #[.pointer (some ⟨g,0,none⟩)] w R:=by
 obtain⟨S,nms,gv,E,rfl,h⟩:=h
 obtain⟨tl,-,hp⟩:=h.x.pm
 refine ok34 (some ⟨g,0,none⟩) ?_
 unfold F34
 simp only [NonNil_some]
 refine Clone_calls (θ:=⟨g,ty,tl⟩) hp ?_
 intro gc bs o' w' hb hq ho
 refine⟨some ⟨gc,0,none⟩,rfl,?_⟩
 exact hK gc bs o' w' ⟨S.D,bs,S.lv,S.wn,S.lo⟩ hb rfl hq rfl ho ⟨h.pi.lv,h.pi.wn,h.pi.lo,h.pi.lo2⟩
end
end Go.Proofs.YtccplipiahdhiaaGreatDoor
namespace Go.Proofs.YtccplipiahdhiaaGreatDoor
open Go.RowKit
set_option maxHeartbeats 4000000
set_option maxRecDepth 100000
theorem inW_calls (c:Nat) (w:World):Calls Tryz.prog 83 #[.int .u8 c] w fun e w'=>e=.returned (.bool (inW c))∧w'=w:=by
 go_enter Tryz.func83,Tryz.ntmps83
 go_wp2
 all_goals (go_ret;refine⟨retB (?_:_=inW c) rfl,rfl⟩;rw [Bool.eq_iff_iff];simp [inW];omega)
theorem part_calls (c:Nat) (w:World):Calls Tryz.prog 88 #[.int .u8 c] w fun e w'=>e=.returned (.bool (inW c))∧w'=w:=by
 go_enter Tryz.func88,Tryz.ntmps88
 go_wp2
 all_goals (go_ret;refine⟨retB (?_:_=inW c) rfl,rfl⟩;rw [Bool.eq_iff_iff];simp [inW];omega)
theorem low_calls (c:Nat) (hc:c < 256) (w:World):Calls Tryz.prog 84 #[.int .u8 c] w fun e w'=>e=.returned (.int .u8 (lowW c))∧w'=w:=by
 go_enter Tryz.func84,Tryz.ntmps84
 go_wp2
 all_goals go_ret
 all_goals refine⟨retI (?_:_=((lowW c:Nat):Int)) rfl,rfl⟩
 all_goals unfold lowW
 all_goals split
 all_goals (first | omega | (exfalso;omega))
end Go.Proofs.YtccplipiahdhiaaGreatDoor
namespace Go.Proofs.YtccplipiahdhiaaGreatDoor
def isW (s:ByteArray) (i:Nat):Bool:=match s[i]? with | some b=>inW b.toNat | none=>false
theorem isW_lt {s:ByteArray}{i:Nat} (h:isW s i=true):i < s.size:=by
 unfold isW at h
 split at h
 ·rename_i b hb
  rcases Nat.lt_or_ge i s.size with h' | h'
  ·exact h'
  ·rw [getElem?_neg s i (by omega)] at hb;cases hb
 ·cases h
theorem isW_at {s:ByteArray}{i:Nat} (h:i < s.size):isW s i=inW s[i].toNat:=by
 unfold isW;rw [getElem?_pos s i h]
def runE (s:ByteArray) (i:Nat):Nat:=if h:isW s i=true then runE s (i+1) else i
termination_by s.size-i
decreasing_by have:=isW_lt h;omega
theorem runE_t {s:ByteArray}{i:Nat} (h:isW s i=true):runE s i=runE s (i+1):=by rw [runE,dif_pos h]
theorem runE_f {s:ByteArray}{i:Nat} (h:isW s i=false):runE s i=i:=by rw [runE,dif_neg (by rw [h];decide)]
theorem runE_ge (s:ByteArray) (i:Nat):i≤runE s i:=by
 rw [runE]
 split
 ·rename_i h
  have:=isW_lt h
  have:=runE_ge s (i+1)
  omega
 ·exact Nat.le_refl _
termination_by s.size-i
theorem runE_le (s:ByteArray) (i:Nat) (hi:i≤s.size):runE s i≤s.size:=by
 rw [runE]
 split
 ·rename_i h
  have:=isW_lt h
  exact runE_le s (i+1) (by omega)
 ·exact hi
termination_by s.size-i
theorem runE_end (s:ByteArray) (i:Nat):isW s (runE s i)=false:=by
 rw [runE]
 split
 ·rename_i h
  have:=isW_lt h
  exact runE_end s (i+1)
 ·rename_i h;simpa using h
termination_by s.size-i
theorem runE_gt {s:ByteArray}{i:Nat} (h:isW s i=true):i < runE s i:=by
 rw [runE_t h];exact runE_ge s (i+1)
theorem lowW_lt {c:Nat} (h:c < 256):lowW c < 256:=by unfold lowW;split <;> omega
def lowU (b:UInt8):UInt8:=UInt8.ofNat (lowW b.toNat)
theorem lowU_nat (b:UInt8):(lowU b).toNat=lowW b.toNat:=by
 unfold lowU
 rw [UInt8.toNat_ofNat']
 exact Nat.mod_eq_of_lt (lowW_lt b.toNat_lt)
def lowB (s:ByteArray):ByteArray:=⟨(s.data.toList.map lowU).toArray⟩
def wordsF (s:ByteArray) (i:Nat):List (ByteArray × Nat) :=
 if h:i < s.size then
  if isW s i=true then (lowB (s.extract i (runE s i)),i) :: wordsF s (runE s i) else wordsF s (i+1)
 else []
termination_by s.size-i
decreasing_by
 ·rename_i hw;have:=runE_gt hw;omega
 ·omega
theorem wordsF_t {s:ByteArray}{i:Nat} (h:isW s i=true):wordsF s i=(lowB (s.extract i (runE s i)),i) :: wordsF s (runE s i):=by
 rw [wordsF,dif_pos (isW_lt h),if_pos h]
theorem wordsF_f {s:ByteArray}{i:Nat} (h:isW s i=false):wordsF s i=wordsF s (i+1):=by
 by_cases hi:i < s.size
 ·rw [wordsF,dif_pos hi,if_neg (by rw [h];decide)]
 ·rw [wordsF,dif_neg hi,wordsF,dif_neg (by omega)]
theorem wordsF_end {s:ByteArray}{i:Nat} (h:s.size≤i):wordsF s i=[]:=by rw [wordsF,dif_neg (by omega)]
theorem wordsF_len (s:ByteArray) (i:Nat):(wordsF s i).length≤s.size-i:=by
 rw [wordsF]
 split
 ·split
  ·rename_i hi hw
   have h1:=runE_gt hw
   have:=wordsF_len s (runE s i)
   have h2:=runE_le s i (by omega)
   simp only [List.length_cons]
   omega
  ·have:=wordsF_len s (i+1)
   omega
 ·simp
termination_by s.size-i
end Go.Proofs.YtccplipiahdhiaaGreatDoor
namespace Go.Proofs.YtccplipiahdhiaaGreatDoor
open Go.RowKit Go.Vc
set_option linter.unusedVariables false
set_option linter.unusedSimpArgs false
set_option maxRecDepth 100000
section
variable {w w1 w2:World}{o o1 o2:Nat→Nat}{g k:Nat}{ty:TypeId}{M:Nat→Prop}{R:Ending→World→Prop}{D:Im}
theorem insertL_calls (h:LD k g ty w o D) (hk:k < 1099511627776) (hw:Wf D) (hT:Tabs (wc o w)) {x:Tr}{e:E5} (hx:RTr (wc o w) x e) {wh:Int}{a:Nat} (ha:a < 18446744073709551616)
  (hK:∀w' o',LD (k+1) g ty w' o' (insF D wh a x).1→EvA w o w' o'→R (.returned (.tuple #[.int .u64 ((insF D wh a x).2.1:Nat),.int .i64 (insF D wh a x).2.2])) w') :
  Calls Tryz.prog 40 #[.pointer (some ⟨g,0,none⟩),.int .i64 wh,.int .u64 (a:Nat),.agg #[.int .i64 e.kind,.string e.nm,slV e.ats,.string e.text,slV e.kids]] w R:=by
 refine ok40 (some ⟨g,0,none⟩) wh a e.kind e.nm e.ats.1 e.ats.2.1 e.ats.2.2 e.text e.kids.1 e.kids.2.1 e.kids.2.2 ?_
 unfold F40
 obtain⟨S,nms,gv,E,rfl,hL⟩:=h
 refine al fun g7 w1 hb1 b7 hge7=>?_
 have hdr:Below w1.heap.size w1 w1.drew:=(Below.refl _ _).drew
 have B1:=btr hb1 hb1.size hdr
 refine⟨fun w'=>Below w1.heap.size w1 w',hdr,?_⟩
 simp only [NonNil_some,Addr.add_mk,Nat.zero_add]
 refine⟨_,fun w' hb=>by rw [(b7.keep hb).cell];rfl,?_⟩
 refine⟨_,fun w' hb=>by rw [(b7.keep hb).cell];rfl,?_⟩
 refine⟨_,_,_,fun w' hb=>by rw [(b7.keep hb).cell];rfl,?_⟩
 refine⟨_,fun w' hb=>by rw [(b7.keep hb).cell];rfl,?_⟩
 refine⟨_,_,_,fun w' hb=>by rw [(b7.keep hb).cell];rfl,?_⟩
 obtain⟨tl,hp,hback⟩:=(hL.x.below B1).tree
 have hsub:Sub (wc o w) (wc o w1.drew):=EvP.sub (EvC.below B1)
 refine insert_calls (e:=e) hp hL.pi hw (hT.sub hsub) (RTr.sub hsub _ _ hx) ha fun w2 o2 S2 p2 i2 d2 ev2=>⟨_,_,rfl,?_⟩
 have hx2:=hback w2 o2 S2 p2 ev2
 have E2:EvA w o w2 o2:=(EvA.below B1).tr (EvC.a ev2)
 have hgv:=hL.gv_
 refine⟨fun w'=>∃o',LD (k+1) g ty w' o' (insF S.D wh a x).1∧EvA w o w' o',?_,?_⟩
 ·rintro w3 ⟨o3,h3,e3⟩
  unfold F40_j4
  exact hK w3 o3 h3 e3
 ·refine bre (fun h0=>?_) (fun h0=>?_)
  ·obtain⟨s,hAt⟩:=ins_att hw (wh:=wh) (a:=a) (x:=x) h0
   have hw2:=ins_wf hw wh a x
   rw [←d2] at hAt hw2 ⊢
   have hfew:=hAt.few (D':=S2.D) hw2.s rfl
   generalize (insF S.D wh a x).2.1=n at *
   refine ahead_calls hx2 hAt.w hAt.at_ fun w3 hb3=>⟨_,rfl,?_⟩
   refine retag (hx2.below hb3) hw2.s hAt hL.word hL.def1 hL.def2 hfew (by omega) fun w4 o4 nms' E' v h4 q1 q2 q3 ev4=>⟨_,rfl,o4,⟨S2,nms',_,E',rfl,h4,i2,q1,q2,q3,?_⟩,(E2.tr (EvA.below hb3)).tr ev4⟩
   omega
  ·have hD:S2.D=S.D:=by rw [d2];exact ins_err h0
   refine⟨o2,⟨S2,nms,gv,E,d2,hx2,i2,by rw [hD];exact hL.word,by rw [hD];exact hL.def1,by rw [hD];exact hL.def2,by omega⟩,E2⟩
end
set_option maxRecDepth 100000
section
variable {A:Nat→Option Sl}{E E':Nat→Option (Nat × Nat)}{roots loose:List Nat}
end
set_option maxRecDepth 100000
section
variable {A:Nat→Option Sl}{E:Nat→Option (Nat × Nat)}{roots loose:List Nat}
def Cut (A:Nat→Option Sl) (E:Nat→Option (Nat × Nat)) (L W:List Nat) (i x:Nat):Prop :=
 ∃(P Q PW QW:List Nat) (r c:Nat) (s:Sl),A x=some s∧Ch A x c∧c+r=66∧L=P++allA A r x++Q∧P.length=i∧W=PW++wrd A E r x++QW∧∀y∈Q,(eN E y).1∈QW∧(eN E y).2∈QW
end
def lab (nms lbs:List Nat) (x:Nat):Nat:=lbs.getD (nms.idxOf x) 0
section
variable {D:Im}{E:Nat→Option (Nat × Nat)}{nms lbs:List Nat}{gv:Nat}
def en (E:Nat→Option (Nat × Nat)) (nms lbs:List Nat) (x:Nat):Nat:=lab nms lbs (eN E x).2
abbrev allD' (D:Im):List Nat:=D.roots.flatMap (allA (slA D.sl) 65)
end
set_option maxRecDepth 100000
abbrev Hit:=Nat × Nat × Nat
def txF (s:Sl):List (ByteArray × Nat):=if s.kind=2 then wordsF s.text 0 else []
def wdF (A:Nat→Option Sl) (n:Nat):List (ByteArray × Nat):=match A n with | some s=>txF s | none=>[]
def wsF (A:Nat→Option Sl) (n:Nat):List ByteArray:=(wdF A n).map (·.1)
def numF (n:Nat):Nat→List (ByteArray × Nat)→List (ByteArray × Hit)
 | _,[]=>[]
 | i,p :: l=>(p.1,(n,i,p.2)) :: numF n (i+1) l
def stF (A:Nat→Option Sl) (n:Nat):List (ByteArray × Hit):=numF n 0 (wdF A n)
def stsF (A:Nat→Option Sl) (l:List Nat):List (ByteArray × Hit):=l.flatMap (stF A)
def hitF (st:List (ByteArray × Hit)) (w:ByteArray):List Hit:=(st.filter fun p=>decide (p.1=w)).map (·.2)
theorem numF_app (n:Nat):∀(l m:List (ByteArray × Nat)) (i:Nat),numF n i (l++m)=numF n i l++numF n (i+l.length) m
 | [],m,i=>by simp [numF]
 | p :: l,m,i=>by
  rw [List.cons_append,numF,numF,numF_app n l m (i+1),List.cons_append,List.length_cons]
  congr 3;omega
theorem numF_mem {n:Nat}{w:ByteArray}{h:Hit}:∀(l:List (ByteArray × Nat)) (i:Nat),(w,h)∈numF n i l↔h.1=n∧i≤h.2.1∧l[h.2.1-i]?=some (w,h.2.2)
 | [],i=>by simp [numF]
 | p :: l,i=>by
  rw [numF,List.mem_cons,numF_mem l (i+1)]
  obtain⟨a,b,c⟩:=h
  obtain⟨p1,p2⟩:=p
  simp only [Prod.mk.injEq]
  constructor
  ·rintro (⟨rfl,rfl,rfl,rfl⟩ | ⟨rfl,h2,h3⟩)
   ·exact⟨rfl,Nat.le_refl _,by simp⟩
   ·refine⟨rfl,by omega,?_⟩
    rw [show b-i=(b-(i+1))+1 by omega,List.getElem?_cons_succ];exact h3
  ·rintro ⟨rfl,h2,h3⟩
   by_cases e:b=i
   ·subst e
    rw [Nat.sub_self,List.getElem?_cons_zero] at h3
    simp only [Option.some.injEq,Prod.mk.injEq] at h3
    exact .inl ⟨h3.1.symm,rfl,rfl,h3.2.symm⟩
   ·refine .inr ⟨rfl,by omega,?_⟩
    rw [show b-i=(b-(i+1))+1 by omega,List.getElem?_cons_succ] at h3;exact h3
theorem numF_len (n:Nat):∀(l:List (ByteArray × Nat)) (i:Nat),(numF n i l).length=l.length
 | [],_=>rfl
 | p :: l,i=>by rw [numF,List.length_cons,numF_len n l,List.length_cons]
theorem stF_mem {A:Nat→Option Sl}{n:Nat}{w:ByteArray}{h:Hit}:(w,h)∈stF A n↔h.1=n∧(wdF A n)[h.2.1]?=some (w,h.2.2):=by
 unfold stF
 rw [numF_mem];simp
theorem stsF_app (A:Nat→Option Sl) (l m:List Nat):stsF A (l++m)=stsF A l++stsF A m:=by unfold stsF;rw [List.flatMap_append]
theorem hitF_app (l m:List (ByteArray × Hit)) (w:ByteArray):hitF (l++m) w=hitF l w++hitF m w:=by unfold hitF;rw [List.filter_append,List.map_append]
theorem hitF_mem {st:List (ByteArray × Hit)}{w:ByteArray}{h:Hit}:h∈hitF st w↔(w,h)∈st:=by
 unfold hitF
 simp only [List.mem_map,List.mem_filter,decide_eq_true_eq]
 constructor
 ·rintro ⟨p,⟨h1,rfl⟩,rfl⟩;exact h1
 ·intro h1;exact⟨(w,h),⟨h1,rfl⟩,rfl⟩
theorem sts_mem {A:Nat→Option Sl}{l:List Nat}{w:ByteArray}{h:Hit}:(w,h)∈stsF A l↔h.1∈l∧(wdF A h.1)[h.2.1]?=some (w,h.2.2):=by
 unfold stsF
 rw [List.mem_flatMap]
 constructor
 ·rintro ⟨n,hn,hm⟩
  obtain⟨rfl,h2⟩:=stF_mem.1 hm
  exact⟨hn,h2⟩
 ·rintro ⟨h1,h2⟩;exact⟨h.1,h1,stF_mem.2 ⟨rfl,h2⟩⟩
def phrF (A:Nat→Option Sl) (st:List (ByteArray × Hit)) (ws:List ByteArray):List Hit :=
 (hitF st (ws.headD ByteArray.empty)).filter fun h=>decide (((wsF A h.1).drop h.2.1).take ws.length=ws)
set_option maxRecDepth 100000
def idxP {α:Type} (p:α→Bool):List α→Nat→Int
 | [],_=>-1
 | y :: l,i=>if p y=true then (i:Nat) else idxP p l (i+1)
theorem idxP_ge {α:Type} (p:α→Bool):∀(l:List α) (i:Nat),(0≤idxP p l i)↔l.any p=true
 | [],i=>by simp [idxP]
 | y :: l,i=>by
  rw [idxP,List.any_cons,Bool.or_eq_true]
  by_cases h:p y=true
  ·rw [if_pos h];simp [h]
  ·rw [if_neg h,idxP_ge p l (i+1)];simp [h]
theorem idxP_any {α:Type} (p:α→Bool) (l:List α):decide (idxP p l 0≥0)=l.any p:=by
 rw [Bool.eq_iff_iff,decide_eq_true_iff];exact idxP_ge p l 0
section
variable {w:World}{R:Ending→World→Prop}
def RdV {α:Type} (L:Lay α) (w:World) (l:List α) (v:Sv):Prop:=v.2.1=l.length∧l.length < 4611686018427387904∧Rd L w v.1 v.2.2 l
theorem RdV.keep {α:Type}{L:Lay α}{w1:World}{l:List α}{v:Sv} (h:RdV L w l v) (hb:Below w.heap.size w w1):RdV L w1 l v:=⟨h.1,h.2.1,h.2.2.keep hb⟩
theorem rdV_own {α:Type}{L:Lay α}{B:Nat}{e:TypeId}{v:Sv}{l:List α} (h:Own L w B e (slV v) l) (hl:l.length < 4611686018427387904):RdV L w l v:=⟨(rdO h).1,hl,(rdO h).2⟩
theorem Rd.str {A:Option Addr}{c:Nat}{xs:List ByteArray} (h:Rd LS w A c xs) {n:Nat} (hn:n=xs.length) {i:Int}{k:Nat} (hi:i=k) (hk:k < xs.length) {K:Addr→Prop}
  (hK:∀b o,w.cell? ⟨b,o,none⟩=some (.string xs[k])→K ⟨b,o,none⟩):IdxA A n i 1 K:=by
 subst hi
 refine h.idx hn (by omega) (by omega) rfl fun b o hc=>?_
 simp only [Int.toNat_natCast] at hc
 exact hK b o (hc 0 _ rfl)
theorem indexFS (l:List ByteArray) (v:Sv) (f:Value) (p:ByteArray→Bool) (hl:RdV LS w l v)
  (hf:∀y∈l,∀(w1:World) (K:Value→World→Prop) (R':Ending→World→Prop),Below w.heap.size w w1→(∀w2,Below w1.heap.size w1 w2→K (.bool (p y)) w2)→CallV Tryz.prog f #[.string y] w1 R' K)
  (h:∀w',Below w.heap.size w w'→R (.returned (.int .i64 (idxP p l 0))) w'):Calls Tryz.prog 137 #[.slice v.1 v.2.1 v.2.2,f] w R:=by
 obtain⟨z1,z0,z2⟩:=hl
 refine ok137 v.1 v.2.1 v.2.2 f ?_
 unfold F137
 refine⟨fun i w'=>∃k:Nat,i=k∧k≤l.length∧Below w.heap.size w w'∧idxP p (l.drop k) k=idxP p l 0,fun i _=>l.length-i.toNat,⟨0,rfl,by omega,Below.refl _ _,by simp⟩,?_⟩
 rintro i w1 ⟨k,rfl,hk,hb1,hF⟩
 unfold F137_l2
 refine brd (fun hlt=>?_) (fun hge=>?_)
 ·have hk2:k < l.length:=by omega
  rw [List.drop_eq_getElem_cons hk2,idxP] at hF
  refine (z2.keep hb1).str z1 rfl (k:=k) hk2 fun b o c0=>?_
  simp only [c0,lds]
  refine hf _ (List.getElem_mem hk2) w1 _ R hb1 fun w2 hb2=>⟨_,rfl,?_⟩
  have B2:=btr hb1 hb1.size hb2
  refine br (fun hp=>?_) (fun hp=>?_)
  ·rw [if_pos hp] at hF
   rw [hF];exact h w2 B2
  ·rw [if_neg (by rw [hp];decide)] at hF
   exact⟨inR_i64 (by omega) (by omega),⟨k+1,by simp,by omega,B2,hF⟩,(by first | omega | (dsimp only;omega))⟩
 ·have hk2:k=l.length:=by omega
  subst hk2
  rw [List.drop_length,idxP] at hF
  rw [hF];exact h w1 hb1
theorem containsFS (l:List ByteArray) (v:Sv) (f:Value) (p:ByteArray→Bool) (hl:RdV LS w l v)
  (hf:∀y∈l,∀(w1:World) (K:Value→World→Prop) (R':Ending→World→Prop),Below w.heap.size w w1→(∀w2,Below w1.heap.size w1 w2→K (.bool (p y)) w2)→CallV Tryz.prog f #[.string y] w1 R' K)
  (h:∀w',Below w.heap.size w w'→R (.returned (.bool (l.any p))) w'):Calls Tryz.prog 94 #[.slice v.1 v.2.1 v.2.2,f] w R:=by
 refine ok94 v.1 v.2.1 v.2.2 f ?_
 unfold F94
 refine indexFS l v f p hl hf fun w' hb=>⟨_,rfl,?_⟩
 rw [idxP_any];exact h w' hb
theorem equalS {l m:List ByteArray}{v u:Sv} (hl:RdV LS w l v) (hm:RdV LS w m u) (h:∀w',Below w.heap.size w w'→R (.returned (.bool (decide (l=m)))) w'):Calls Tryz.prog 55 #[.slice v.1 v.2.1 v.2.2,.slice u.1 u.2.1 u.2.2] w R:=by
 obtain⟨z1,z0,z2⟩:=hl
 obtain⟨y1,y0,y2⟩:=hm
 refine ok55 v.1 v.2.1 v.2.2 u.1 u.2.1 u.2.2 ?_
 unfold F55
 refine brn (fun hne=>?_) (fun he=>?_)
 ·have:=h w (.refl _ _)
  rw [decide_eq_false (fun e=>by subst e;omega)] at this;exact this
 have hlm:l.length=m.length:=by omega
 refine⟨fun i w'=>∃k:Nat,i=k∧k≤l.length∧Below w.heap.size w w'∧l.take k=m.take k,fun i _=>l.length-i.toNat,⟨0,rfl,by omega,Below.refl _ _,by simp⟩,?_⟩
 rintro i w1 ⟨k,rfl,hk,hb1,hF⟩
 unfold F55_l4
 refine brd (fun hlt=>?_) (fun hge=>?_)
 ·have hk2:k < l.length:=by omega
  refine dr fun w2 hb2 _=>?_
  have B2:=btr hb1 hb1.size hb2
  refine (z2.keep B2).str z1 rfl (k:=k) hk2 fun b o c0=>?_
  simp only [c0,lds]
  refine (y2.keep B2).str y1 rfl (k:=k) (by omega) fun b2 o2 c2=>?_
  simp only [c2,lds]
  rw [bytes_eq,brnot]
  refine brd (fun hp=>?_) (fun hp=>?_)
  ·refine⟨inR_i64 (by omega) (by omega),⟨k+1,by simp,by omega,B2,?_⟩,(by first | omega | (dsimp only;omega))⟩
   rw [List.take_succ_eq_append_getElem hk2,List.take_succ_eq_append_getElem (by omega),hF,hp]
  ·have:=h w2 B2
   rw [decide_eq_false (fun e=>by subst e;exact hp rfl)] at this;exact this
 ·have hk2:k=l.length:=by omega
  subst hk2
  rw [List.take_length,hlm,List.take_length] at hF
  have:=h w1 hb1
  rw [decide_eq_true hF] at this;exact this
end
set_option maxRecDepth 100000
structure MsE (es:Array MapEntry) (clock:Nat) (f:ByteArray→Option Value):Prop where
 key:∀x∈es.toList,∃k,x.key=.string k∧f k=some x.val
 has:∀k v,f k=some v→∃x∈es.toList,x.key=.string k
 one:(es.toList.map (·.key)).Nodup
 born:∀x∈es.toList,x.born < clock
 age:(es.toList.map (·.born)).Nodup
def Ms (w:World) (b:Nat) (f:ByteArray→Option Value):Prop:=∃es clock,w.heap[b]?=some (.map es clock)∧MsE es clock f
theorem ba_beq (a b:ByteArray):(a == b)=decide (a=b):=by
 obtain⟨a⟩:=a
 obtain⟨b⟩:=b
 have:((⟨a⟩:ByteArray) == ⟨b⟩)=(a == b):=rfl
 rw [this,Bool.eq_iff_iff,beq_iff_eq,decide_eq_true_eq]
 constructor
 ·rintro rfl;rfl
 ·intro h;injection h
theorem findNow_str {k:ByteArray}:∀(l:List MapEntry) (i:Nat),(∀x∈l,∃a,x.key=.string a) →
  (Instr.findNow .string (.string k) l i=some none∧∀x∈l,x.key≠.string k)∨∃j x,l[j]?=some x∧x.key=.string k∧Instr.findNow .string (.string k) l i=some (some (i+j,x.val))
 | [],i,_=>.inl ⟨rfl,fun x h=>by simp at h⟩
 | x :: l,i,h=>by
  obtain⟨a,ha⟩:=h x (by simp)
  by_cases hk:k=a
  ·subst hk
   refine .inr ⟨0,x,rfl,ha,?_⟩
   simp [Instr.findNow,ha,Instr.sameNow,ba_beq]
  ·have e:Instr.findNow .string (.string k) (x :: l) i=Instr.findNow .string (.string k) l (i+1):=by
    have hb:(k == a)=false:=by rw [ba_beq];exact decide_eq_false hk
    simp [Instr.findNow,ha,Instr.sameNow,hb]
   rcases findNow_str l (i+1) fun y hy=>h y (by simp [hy]) with ⟨h1,h2⟩ | ⟨j,y,h1,h2,h3⟩
   ·refine .inl ⟨by rw [e,h1],fun y hy=>?_⟩
    rcases List.mem_cons.1 hy with rfl | hy
    ·rw [ha];intro h;injection h with h;exact hk h.symm
    ·exact h2 y hy
   ·exact .inr ⟨j+1,y,by simpa using h1,h2,by rw [e,h3];congr 2;simp;omega⟩
section
variable {P:Program}{w:World}{b:Nat}{f:ByteArray→Option Value}{t kt et:TypeId}
theorem Ms.find (h:Ms w b f) (k:ByteArray):∃es clock,w.heap[b]?=some (.map es clock)∧MsE es clock f ∧
  ((f k=none∧Instr.findNow .string (.string k) es.toList 0=some none)∨∃j x,es.toList[j]?=some x∧x.key=.string k∧f k=some x.val∧Instr.findNow .string (.string k) es.toList 0=some (some (j,x.val))):=by
 obtain⟨es,clock,hb,he⟩:=h
 refine⟨es,clock,hb,he,?_⟩
 rcases findNow_str (k:=k) es.toList 0 fun x hx=>(he.key x hx).imp fun _ h=>h.1 with ⟨h1,h2⟩ | ⟨j,x,h1,h2,h3⟩
 ·refine .inl ⟨?_,h1⟩
  cases hf:f k with
  | none=>rfl
  | some v =>
   obtain⟨x,hx,hk⟩:=he.has k v hf
   exact absurd hk (h2 x hx)
 ·refine .inr ⟨j,x,h1,h2,?_,by simpa using h3⟩
  obtain⟨a,ha,hv⟩:=he.key x (List.mem_of_getElem? h1)
  rw [h2] at ha;injection ha with ha;subst ha;exact hv
theorem Ms.look (h:Ms w b f) (ht:P.underlying t=some (.map kt et)) (hk:P.underlying kt=some .string) {z:Value} (hz:(zeroValue et).run P w=.ok z w) (k:ByteArray) (c:Bool) {K:Value→World→Prop}
  (hK:K (if c then .tuple #[(f k).getD z,.bool (f k).isSome] else (f k).getD z) w):Raw P (Instr.lookup t (.map (some b)) (.string k) c) w K:=by
 obtain⟨es,clock,hb,he,h2⟩:=h.find k
 have hc:(Instr.checkKey es.isEmpty 10000 kt (.string k)).run P w=.ok () w:=MapKept.run_checkKey (k:=.string k) hk (by simp [MapKept.IsKey]) _ 9999
 rcases h2 with ⟨h1,h2⟩ | ⟨j,x,h3,h4,h1,h2⟩
 ·rw [h1] at hK
  refine⟨_,w,?_,hK⟩
  simp [Instr.lookup,run_underlying ht,MapKept.run_getObj_map hb,hc,MapKept.run_findKey hk h2,hz,Result.andThen]
 ·rw [h1] at hK
  refine⟨_,w,?_,hK⟩
  simp [Instr.lookup,run_underlying ht,MapKept.run_getObj_map hb,hc,MapKept.run_findKey hk h2,Result.andThen]
def updS (f:ByteArray→Option Value) (k:ByteArray) (v:Option Value):ByteArray→Option Value:=fun j=>if j=k then v else f j
theorem Ms.lt (h:Ms w b f):b < w.heap.size:=by
 obtain⟨es,clock,hb,_⟩:=h;exact (Array.getElem?_eq_some_iff.1 hb).1
theorem MsE.push {es:Array MapEntry}{clock:Nat} (he:MsE es clock f) {k:ByteArray} (hk:f k=none) (v:Value):MsE (es.push ⟨.string k,v,clock⟩) (clock+1) (updS f k (some v)):=by
 have hne:∀x∈es.toList,∀a,x.key=.string a→a≠k:=fun x hx a ha e=>by
  obtain⟨a',h1,h2⟩:=he.key x hx
  rw [ha] at h1;injection h1 with h1;subst h1;subst e;rw [hk] at h2;cases h2
 refine⟨fun x hx=>?_,fun j u hu=>?_,?_,fun x hx=>?_,?_⟩
 ·rw [Array.toList_push] at hx
  rcases List.mem_append.1 hx with hx | hx
  ·obtain⟨a,h1,h2⟩:=he.key x hx
   exact⟨a,h1,by unfold updS;rw [if_neg (hne x hx a h1)];exact h2⟩
  ·rw [List.mem_singleton] at hx;subst hx
   exact⟨k,rfl,by unfold updS;rw [if_pos rfl]⟩
 ·unfold updS at hu
  by_cases e:j=k
  ·subst e;exact⟨⟨.string j,v,clock⟩,by simp,rfl⟩
  ·rw [if_neg e] at hu
   obtain⟨x,hx,h1⟩:=he.has j u hu
   exact⟨x,by simp [Array.mem_toList_iff.1 hx],h1⟩
 ·rw [Array.toList_push,List.map_append,List.nodup_append]
  refine⟨he.one,by simp,fun x hx y hy e=>?_⟩
  rw [List.map_singleton,List.mem_singleton] at hy
  obtain⟨z,hz,rfl⟩:=List.mem_map.1 hx
  obtain⟨a,h1,-⟩:=he.key z hz
  rw [h1,hy] at e;injection e with e
  exact hne z hz a h1 e
 ·rw [Array.toList_push] at hx
  rcases List.mem_append.1 hx with hx | hx
  ·have:=he.born x hx;omega
  ·rw [List.mem_singleton] at hx;subst hx;exact Nat.lt_succ_self _
 ·rw [Array.toList_push,List.map_append,List.nodup_append]
  refine⟨he.age,by simp,fun x hx y hy e=>?_⟩
  rw [List.map_singleton,List.mem_singleton] at hy
  obtain⟨z,hz,rfl⟩:=List.mem_map.1 hx
  have:=he.born z hz
  simp only at hy e
  omega
theorem MsE.put {es:Array MapEntry}{clock:Nat} (he:MsE es clock f) {k:ByteArray}{j:Nat}{y:MapEntry} (hj:es.toList[j]?=some y) (hy:y.key=.string k) (v:Value) :
  MsE (es.modify j fun e=>{ e with key:=.string k,val:=v }) clock (updS f k (some v)):=by
 have hym:=List.mem_of_getElem? hj
 have hkeys:(es.modify j fun e=>{ e with key:=.string k,val:=v }).toList.map (·.key)=es.toList.map (·.key):=by
  rw [modify_list];exact map_modify_same _ _ _ _ fun x hx=>by rw [hj] at hx;cases hx;exact hy.symm
 have hborn:(es.modify j fun e=>{ e with key:=.string k,val:=v }).toList.map (·.born)=es.toList.map (·.born):=by
  rw [modify_list];exact map_modify_same _ _ _ _ fun x hx=>rfl
 refine⟨fun x hx=>?_,fun i u hu=>?_,by rw [hkeys];exact he.one,fun x hx=>?_,by rw [hborn];exact he.age⟩
 ·rw [modify_list] at hx
  rcases mem_modify _ _ _ y hj x hx with rfl | ⟨i,hi,hx2⟩
  ·exact⟨k,rfl,by unfold updS;rw [if_pos rfl]⟩
  ·obtain⟨a,h1,h2⟩:=he.key x (List.mem_of_getElem? hx2)
   refine⟨a,h1,?_⟩
   have hne:a≠k:=fun e=>by
    subst e
    obtain⟨l1,l2⟩:=List.getElem?_eq_some_iff.1 hx2
    obtain⟨m1,m2⟩:=List.getElem?_eq_some_iff.1 hj
    have hpw:=List.pairwise_iff_getElem.1 he.one
    rcases Nat.lt_or_gt_of_ne hi with h3 | h3
    ·have:=hpw i j (by simpa using l1) (by simpa using m1) h3
     simp only [List.getElem_map,l2,m2] at this
     exact this (by rw [h1,hy])
    ·have:=hpw j i (by simpa using m1) (by simpa using l1) h3
     simp only [List.getElem_map,l2,m2] at this
     exact this (by rw [h1,hy])
   unfold updS;rw [if_neg hne];exact h2
 ·have hex:∃x∈es.toList,x.key=.string i:=by
   unfold updS at hu
   by_cases e:i=k
   ·subst e;exact⟨y,hym,hy⟩
   ·rw [if_neg e] at hu;exact he.has i u hu
  obtain⟨x,hx,h1⟩:=hex
  have:Value.string i∈(es.modify j fun e=>{ e with key:=.string k,val:=v }).toList.map (·.key):=by
   rw [hkeys];exact List.mem_map.2 ⟨x,hx,h1⟩
  obtain⟨x',hx',h2⟩:=List.mem_map.1 this
  exact⟨x',hx',h2⟩
 ·have:x.born∈es.toList.map (·.born):=by rw [←hborn];exact List.mem_map.2 ⟨x,hx,rfl⟩
  obtain⟨z,hz,h1⟩:=List.mem_map.1 this
  rw [←h1];exact he.born z hz
theorem Ms.update (h:Ms w b f) (ht:P.underlying t=some (.map kt et)) (hk:P.underlying kt=some .string) (k:ByteArray) (v:Value) {K:World→Prop}
  (hK:∀w',Ms w' b (updS f k (some v))→Fm (·=b) w w'→K w'):Raw P (Instr.mapUpdate t (.map (some b)) (.string k) v) w fun _ w'=>K w':=by
 obtain⟨es,clock,hb,he,h2⟩:=h.find k
 have hlt:=(Array.getElem?_eq_some_iff.1 hb).1
 have hc:(Instr.checkKey false 10000 kt (.string k)).run P w=.ok () w:=MapKept.run_checkKey (k:=.string k) hk (by simp [MapKept.IsKey]) _ 9999
 rcases h2 with ⟨h1,h2⟩ | ⟨j,x,h3,h4,h1,h2⟩
 ·refine⟨(),{ w with heap:=w.heap.setIfInBounds b (.map (es.push ⟨.string k,v,clock⟩) (clock+1)) },?_,hK _ ⟨_,_,?_,he.push h1 v⟩ (set_fm _ _ _)⟩
  ·simp [Instr.mapUpdate,run_underlying ht,MapKept.run_getObj_map hb,hc,MapKept.run_findKey hk h2,MapKept.run_setObj_map _ hb,Result.andThen]
  ·simp [hlt]
 ·refine⟨(),{ w with heap:=w.heap.setIfInBounds b (.map (es.modify j fun e=>{ e with key:=.string k,val:=v }) clock) },?_,hK _ ⟨_,_,?_,he.put h3 h4 v⟩ (set_fm _ _ _)⟩
  ·have hj:(es[j]?).map (·.key)=some (.string k):=by
    rw [←Array.getElem?_toList,h3,Option.map_some,h4]
   have hst:(Instr.keyThatStays (.string k) (.string k)).run P w=.ok (.string k) w:=MapKept.run_keyThatStays (d:=.string) (by simp [MapKept.IsKey])
   simp only [Instr.mapUpdate,Sem.run_bind,run_underlying ht,MapKept.run_getObj_map hb,hc,MapKept.run_findKey hk h2,MapKept.run_setObj_map _ hb,Result.andThen,hj,hst,Option.getD_some]
  ·simp [hlt]
theorem Ms.fm {M:Nat→Prop}{w1:World} (h:Ms w b f) (hf:Fm M w w1) (hm:¬M b):Ms w1 b f:=by
 obtain⟨es,clock,hb,he⟩:=h
 exact⟨es,clock,by rw [hf.block b (Array.getElem?_eq_some_iff.1 hb).1 hm];exact hb,he⟩
end
set_option maxRecDepth 100000
def kb (es:Array MapEntry):List (Value × Nat):=es.toList.map fun x=>(x.key,x.born)
theorem kb_mem {es:Array MapEntry}{p:Value × Nat}:p∈kb es↔∃x∈es.toList,x.key=p.1∧x.born=p.2:=by
 unfold kb
 rw [List.mem_map]
 constructor
 ·rintro ⟨x,hx,rfl⟩;exact⟨x,hx,rfl,rfl⟩
 ·rintro ⟨x,hx,h1,h2⟩;exact⟨x,hx,by rw [h1,h2]⟩
section
variable {P:Program}{q:IntKind}{w:World}{b g:Nat}{f:Int→Option Value}{t kt et:TypeId}{left:Int→Prop}{cur:Option Int}
end
set_option maxRecDepth 100000
def Its (w:World) (b g:Nat) (f:ByteArray→Option Value) (left:ByteArray→Prop) (cur:Option ByteArray):Prop :=
 ∃es clock since seen last,w.heap[b]?=some (.map es clock)∧MsE es clock f∧w.heap[g]?=some (.mapIter (some b) since seen last)∧since≤last∧since≤clock∧(∀p∈kb es,p.2 < since) ∧
  (∀k,left k↔∃s,(Value.string k,s)∈kb es∧seen.contains s=false)∧∀k,cur=some k→last=clock∧∃s,(Value.string k,s)∈kb es∧seen.back?=some s
def itM (b g:Nat) (w:World):Nat:=match w.heap[b]?,w.heap[g]? with
 | some (.map es _),some (.mapIter _ _ seen _)=>(es.toList.filter fun e=>!seen.contains e.born).length
 | _,_=>0
theorem filter_lt {α:Type}{p q:α→Bool}:∀{l:List α}{x:α},x∈l→p x=true→q x=false→(∀y,q y=true→p y=true)→(l.filter q).length < (l.filter p).length
 | [],x,h,_,_,_=>by simp at h
 | y :: l,x,h,h1,h2,h3=>by
  have hle:(l.filter q).length≤(l.filter p).length:=by
   clear h
   induction l with
   | nil=>simp
   | cons z l ih =>
    rw [List.filter_cons,List.filter_cons]
    by_cases hq:q z=true
    ·rw [if_pos hq,if_pos (h3 z hq)];simp only [List.length_cons];omega
    ·rw [if_neg hq]
     split
     ·simp only [List.length_cons];omega
     ·exact ih
  rw [List.filter_cons,List.filter_cons]
  rcases List.mem_cons.1 h with rfl | h
  ·rw [if_pos h1,if_neg (by rw [h2];decide)];simp only [List.length_cons];omega
  ·have ih:=filter_lt h h1 h2 h3
   by_cases hq:q y=true
   ·rw [if_pos hq,if_pos (h3 y hq)];simp only [List.length_cons];omega
   ·rw [if_neg hq]
    split
    ·simp only [List.length_cons];omega
    ·exact ih
section
variable {P:Program}{w:World}{b g:Nat}{f:ByteArray→Option Value}{t kt et:TypeId}{left:ByteArray→Prop}{cur:Option ByteArray}
theorem Its.ne (h:Its w b g f left cur):b≠g:=by
 obtain⟨es,clock,since,seen,last,h1,h2,h3,_⟩:=h
 intro e;subst e;rw [h1] at h3;cases h3
theorem Ms.range (h:Ms w b f) (ht:P.underlying t=some (.map kt et)) {K:Value→World→Prop}
  (hK:∀w',Below w.heap.size w w'→Its w' b w.heap.size f (fun k=>f k≠none) none→K (.pointer (some ⟨w.heap.size,0,none⟩)) w'):Raw P (Instr.range t (.map (some b))) w K:=by
 obtain⟨es,clock,hb,he⟩:=h
 have hlt:=(Array.getElem?_eq_some_iff.1 hb).1
 refine⟨_,_,run_range_map w t kt et b es clock ht hb,hK _ ((Below.refl _ _).alloc (Nat.le_refl _) _) ⟨es,clock,clock,#[],clock,by rw [heap_alloc_old w _ hlt];exact hb,he,heap_alloc_new _ _,Nat.le_refl _,Nat.le_refl _,?_,fun k=>?_,fun k h=>by cases h⟩⟩
 ·intro p hp
  obtain⟨x,hx,h1,h2⟩:=kb_mem.1 hp
  rw [←h2];exact he.born x hx
 ·constructor
  ·intro hk
   cases hf:f k with
   | none=>exact absurd hf hk
   | some v =>
    obtain⟨x,hx,h1⟩:=he.has k v hf
    exact⟨x.born,kb_mem.2 ⟨x,hx,h1,rfl⟩,by simp⟩
  ·rintro ⟨s,hs,-⟩
   obtain⟨x,hx,h1,h2⟩:=kb_mem.1 hs
   obtain⟨a,h3,h4⟩:=he.key x hx
   rw [h1] at h3;injection h3 with h3;subst h3;rw [h4];simp
theorem Its.next (h:Its w b g f left cur) (ty:TypeId) {K:Value→World→Prop} (h0:(∀k,¬left k)→K (.tuple #[.bool false]) w)
  (h1:∀k v w1,left k→f k=some v→Fm (·=g) w w1→Its w1 b g f (fun j=>left j∧j≠k) (some k)→itM b g w1 < itM b g w→K (.tuple #[.bool true,.string k,v]) w1):Raw P (Instr.next (.pointer (some ⟨g,0,none⟩)) false ty) w K:=by
 have hne:=h.ne
 obtain⟨es,clock,since,seen,last,hb,he,hg,hsl,hsc,hold,hleft,-⟩:=h
 have hold':∀x∈es.toList,x.born < since:=fun x hx=>hold (x.key,x.born) (kb_mem.2 ⟨x,hx,rfl,rfl⟩)
 unfold Raw
 simp only [Instr.next,getObj,Sem.run_bind,Sem.run,hg,hb,Result.andThen,next_test_false seen es since last hold' hsl,Bool.false_eq_true,if_false]
 have hmem:∀x∈(Array.filter (fun e=>!seen.contains e.born) es).toList,x.born < since:=fun x hx=>hold' x (by simp at hx ⊢;exact hx.1)
 have hL:∀x,x∈Array.filter (fun e=>!seen.contains e.born) es↔x∈es.toList∧seen.contains x.born=false:=fun x=>by simp
 generalize Array.filter (fun e=>!seen.contains e.born) es=L at hmem hL ⊢
 have e1:L.filter (fun x=>decide (x.born < since))=L:=Array.filter_eq_self.2 (fun x hx=>by simpa using hmem x (by simpa using hx))
 have e2:L.filter (fun x=>decide (x.born≥since))=#[]:=by
  rw [Array.filter_eq_empty_iff]
  intro x hx
  have:=hmem x (by simpa using hx)
  simp
  omega
 simp only [e1,e2,Array.append_empty]
 by_cases hz:L.size=0
 ·have hLe:L=#[]:=Array.eq_empty_of_size_eq_zero hz
  refine⟨.tuple #[.bool false],w,?_,h0 fun k hk=>?_⟩
  ·subst hLe
   simp [choose,Sem.run,Question.forced]
  ·obtain⟨s,hs,hc⟩:=(hleft k).1 hk
   obtain⟨x,hx,h3,h4⟩:=kb_mem.1 hs
   have:x∈L:=(hL x).2 ⟨hx,by rw [h4];exact hc⟩
   rw [hLe] at this;simp at this
 ·have hne0:L.isEmpty=false:=by simp [Array.isEmpty,hz]
  simp only [hne0,Bool.false_eq_true,if_false,Array.empty_append,Array.size_map]
  have hch:∃(j:Nat) (w1:World),j < L.size∧w1.heap=w.heap∧Below w.heap.size w w1∧(choose (Question.mapNext L.size)).run P w=.ok j w1:=by
   by_cases hf:L.size≤1
   ·exact⟨0,w,by omega,rfl,Below.refl _ _,by simp [choose,Sem.run,Question.forced,hf]⟩
   ·exact⟨_,w.drew,Nat.mod_lt _ (by omega),rfl,(Below.refl _ _).drew,by
     simp only [choose,Sem.run,Question.forced,decide_eq_true_eq,hf,if_false,Question.cut]
     rfl⟩
  obtain⟨j,w1,hj,hh,hbel,hrun⟩:=hch
  have hset:∀(o':Obj),(setObj g o').run P w1=.ok () { w1 with heap:=w1.heap.setIfInBounds g o' }:=fun o'=>by
   simp [setObj,Sem.run,hh,hg]
  have hxm:L[j]∈L:=Array.getElem_mem hj
  obtain⟨hx1,hx2⟩:=(hL _).1 hxm
  obtain⟨k,hk1,hk2⟩:=he.key _ hx1
  have hglt:=(Array.getElem?_eq_some_iff.1 hg).1
  refine⟨.tuple #[.bool true,.string k,L[j].val],{ w1 with heap:=w1.heap.setIfInBounds g (.mapIter (some b) since (seen.push L[j].born) clock) },?_,?_⟩
  ·simp only [hrun,Array.getElem?_map,Array.getElem?_eq_getElem hj,Option.map_some,Sem.run_bind,hset,Result.andThen,hk1]
   rfl
  ·refine h1 k L[j].val _ ((hleft k).2 ⟨L[j].born,kb_mem.2 ⟨_,hx1,hk1,rfl⟩,hx2⟩) hk2 ((Fm.below hbel).trans (set_fm _ _ _)) ⟨es,clock,since,seen.push L[j].born,clock,?_,he,?_,hsc,hsc,hold,fun i=>?_,fun i hi=>?_⟩ ?_
   ·show (w1.heap.setIfInBounds g _)[b]?=_
    rw [Array.getElem?_setIfInBounds_ne (fun e=>hne e.symm),hh];exact hb
   ·show (w1.heap.setIfInBounds g _)[g]?=_
    rw [hh];simp [hglt]
   ·constructor
    ·rintro ⟨h3,h4⟩
     obtain⟨s,hs,hc⟩:=(hleft i).1 h3
     obtain⟨y,hy,h5,h6⟩:=kb_mem.1 hs
     refine⟨s,hs,?_⟩
     have hsx:s≠L[j].born:=fun e=>by
      have:y=L[j]:=nodup_map_inj he.age y hy _ hx1 (by rw [h6,e])
      rw [this,hk1] at h5;injection h5 with h5;exact h4 h5.symm
     simp only [Array.contains_eq_mem,Array.mem_push,decide_eq_false_iff_not,not_or] at hc ⊢
     exact⟨hc,hsx⟩
    ·rintro ⟨s,hs,hc⟩
     obtain⟨y,hy,h5,h6⟩:=kb_mem.1 hs
     simp only [Array.contains_eq_mem,Array.mem_push,decide_eq_false_iff_not,not_or] at hc
     refine⟨(hleft i).2 ⟨s,hs,by simpa using hc.1⟩,fun e=>?_⟩
     subst e
     have:y=L[j]:=nodup_map_inj he.one y hy _ hx1 (by rw [h5,hk1])
     exact hc.2 (by rw [←show y.born=s from h6,this])
   ·cases hi
    exact⟨rfl,L[j].born,kb_mem.2 ⟨_,hx1,hk1,rfl⟩,by simp⟩
   ·have a1:(w1.heap.setIfInBounds g (.mapIter (some b) since (seen.push L[j].born) clock))[b]?=some (.map es clock):=by
     rw [Array.getElem?_setIfInBounds_ne (fun e=>hne e.symm),hh];exact hb
    have a2:(w1.heap.setIfInBounds g (.mapIter (some b) since (seen.push L[j].born) clock))[g]?=some (.mapIter (some b) since (seen.push L[j].born) clock):=by
     rw [hh];simp [hglt]
    unfold itM
    dsimp only
    rw [a1,a2,hb,hg]
    dsimp only
    exact filter_lt hx1 (by rw [hx2];rfl) (by simp) fun y hy=>by simp at hy ⊢;exact hy.1
theorem Its.entry {k:ByteArray} (h:Its w b g f left (some k)) {v:Value} (hv:f k=some v) {K:Value→World→Prop} (hK:K (.tuple #[.string k,v]) w):Raw P (Instr.entry (.pointer (some ⟨g,0,none⟩))) w K:=by
 obtain⟨es,clock,since,seen,last,hb,he,hg,hsl,hsc,hold,hleft,hcur⟩:=h
 obtain⟨rfl,s,hs,hback⟩:=hcur k rfl
 obtain⟨x,hx,h1,h2⟩:=kb_mem.1 hs
 have hf:es.find? (·.born == s)=some x:=by rw [←Array.find?_toList,←show x.born=s from h2];exact find_born x es.toList he.age hx
 obtain⟨a,h3,h4⟩:=he.key x hx
 rw [h1] at h3;injection h3 with h3;subst h3
 have hxv:x.val=v:=by rw [hv] at h4;exact (Option.some.inj h4).symm
 refine⟨_,w,?_,hK⟩
 simp only [Instr.entry,getObj,Sem.run_bind,Sem.run,hg,hb,Result.andThen,hback,bne_self_eq_false,Bool.false_eq_true,if_false,hf]
 rw [←hxv,←show x.key=Value.string k from h1]
 rfl
theorem Its.fm {M:Nat→Prop}{w1:World} (h:Its w b g f left cur) (hf:Fm M w w1) (hm:¬M b) (hm2:¬M g):Its w1 b g f left cur:=by
 obtain⟨es,clock,since,seen,last,hb,he,hg,h⟩:=h
 exact⟨es,clock,since,seen,last,by rw [hf.block b (Array.getElem?_eq_some_iff.1 hb).1 hm];exact hb,he,by rw [hf.block g (Array.getElem?_eq_some_iff.1 hg).1 hm2];exact hg,h⟩
end
set_option maxRecDepth 100000
section
variable {D:Im}{E:Nat→Option (Nat × Nat)}{nms lbs:List Nat}{gv:Nat}{i k x y cx cy:Nat}{sx sy:Sl}
end
set_option maxRecDepth 100000
section
variable {A:Nat→Option Sl}{roots loose:List Nat}{ws:List ByteArray}{q:Nat→Nat→Bool}
end
section
variable {D:Im}{ws:List ByteArray}{q:Nat→Nat→Bool}
end
end Go.Proofs.YtccplipiahdhiaaGreatDoor
set_option linter.unusedVariables false
set_option maxRecDepth 100000
namespace Go.Proofs.YtccplipiahdhiaaGreatDoor
open Go.Vc
def F49_j5 (L4:Option Addr→Nat→Nat→Option Addr→Nat→Nat→Int→World→Prop) (words2:Option Addr) (wordsN2:Nat) (wordsC2:Nat) (at_2:Option Addr) (atN2:Nat) (atC2:Nat) (i2:Int) (a:World) (R:Ending→World→Prop):Prop :=
 InR .i64 (i2+(1:Int))∧L4 words2 wordsN2 wordsC2 at_2 atN2 atC2 (i2+(1:Int)) a
def F49_j12 (words:Option Addr) (wordsN:Nat) (wordsC:Nat) (at_:Option Addr) (atN:Nat) (atC:Nat) (i:Int) (J5:Option Addr→Nat→Nat→Option Addr→Nat→Nat→Int→World→Prop) (i2:Int) (b:Option Addr) (bN:Nat) (bC:Nat) (n:World) (R:Ending→World→Prop):Prop :=
 Raw Tryz.prog (convert 175 9 (.slice b bN bC)) n fun v2 c =>
 ∃(q:ByteArray),v2=(.string q) ∧
 Al c #[(.string q)] 9 fun g43 h =>
 Raw Tryz.prog (Builtin.append_ #[26,26] 26 #[(.slice words wordsN wordsC),(.slice (some g43) 1 1)]) h fun v3 f =>
 ∃(m:Option Addr) (d:Nat) (a:Nat),v3=(.slice m d a) ∧
 Al f #[(.int .i64 i)] 3 fun g47 e =>
 Raw Tryz.prog (Builtin.append_ #[87,87] 87 #[(.slice at_ atN atC),(.slice (some g47) 1 1)]) e fun v4 j =>
 ∃(p:Option Addr) (k:Nat) (g:Nat),v4=(.slice p k g) ∧
 J5 m d a p k g i2 j
def F49_j10 (s:ByteArray) (L9:Int→Option Addr→Nat→Nat→World→Prop) (i2:Int) (b:Option Addr) (bN:Nat) (bC:Nat) (i:World) (R:Ending→World→Prop):Prop :=
 IdxS s i2 fun c34 =>
 Calls Tryz.prog 84 #[(.int .u8 c34)] i (post R fun v2 a =>
 ∃(g:Int),v2=(.int .u8 g) ∧
 Al a #[(.int .u8 g)] 5 fun g36 e =>
 Raw Tryz.prog (Builtin.append_ #[175,175] 175 #[(.slice b bN bC),(.slice (some g36) 1 1)]) e fun v3 c =>
 ∃(h:Option Addr) (f:Nat) (d:Nat),v3=(.slice h f d) ∧
 InR .i64 (i2+(1:Int))∧L9 (i2+(1:Int)) h f d c)
def F49_l9 (s:ByteArray) (J12:Int→Option Addr→Nat→Nat→World→Prop) (L9:Int→Option Addr→Nat→Nat→World→Prop) (i2:Int) (b:Option Addr) (bN:Nat) (bC:Nat) (d:World) (R:Ending→World→Prop):Prop :=
 ∃J10:World→Prop,(∀ (a:World),J10 a→F49_j10 s L9 i2 b bN bC a R) ∧
 (Br (decide (i2 < ((s.size:Nat):Int)))
 (IdxS s i2 fun c28 =>
 Calls Tryz.prog 83 #[(.int .u8 c28)] d (post R fun v2 a =>
 ∃(c:Bool),v2=(.bool c) ∧
 Br c
 (J10 a)
 (J12 i2 b bN bC a)))
 (J12 i2 b bN bC d))
def F49_l4 (s:ByteArray) (L4:Option Addr→Nat→Nat→Option Addr→Nat→Nat→Int→World→Prop) (words:Option Addr) (wordsN:Nat) (wordsC:Nat) (at_:Option Addr) (atN:Nat) (atC:Nat) (i:Int) (c:World) (R:Ending→World→Prop):Prop :=
 Br (decide (i < ((s.size:Nat):Int)))
 (∃J5:Option Addr→Nat→Nat→Option Addr→Nat→Nat→Int→World→Prop,(∀(words2:Option Addr) (wordsN2:Nat) (wordsC2:Nat) (at_2:Option Addr) (atN2:Nat) (atC2:Nat) (i2:Int) (w1:World),J5 words2 wordsN2 wordsC2 at_2 atN2 atC2 i2 w1→F49_j5 L4 words2 wordsN2 wordsC2 at_2 atN2 atC2 i2 w1 R) ∧
 (IdxS s i fun c17 =>
 Calls Tryz.prog 83 #[(.int .u8 c17)] c (post R fun v w1 =>
 ∃(d:Bool),v=(.bool d) ∧
 Br (!d)
 (J5 words wordsN wordsC at_ atN atC i w1)
 (∃J12:Int→Option Addr→Nat→Nat→World→Prop,(∀(i2:Int) (b:Option Addr) (bN:Nat) (bC:Nat) (a:World),J12 i2 b bN bC a→F49_j12 words wordsN wordsC at_ atN atC i J5 i2 b bN bC a R) ∧
 (∃(I:Int→Option Addr→Nat→Nat→World→Prop) (m:Int→Option Addr→Nat→Nat→World→Nat),I i none 0 0 w1 ∧
 ∀(i2:Int) (b:Option Addr) (bN:Nat) (bC:Nat) (a:World),I i2 b bN bC a→F49_l9 s J12 (fun i2' b' bN' bC' w2=>I i2' b' bN' bC' w2∧m i2' b' bN' bC' w2 < m i2 b bN bC a) i2 b bN bC a R)))))
 (R (.returned (.tuple #[(.slice words wordsN wordsC),(.slice at_ atN atC)])) c)
def F49 (s:ByteArray) (a:World) (R:Ending→World→Prop):Prop :=
 ∃(I:Option Addr→Nat→Nat→Option Addr→Nat→Nat→Int→World→Prop) (m:Option Addr→Nat→Nat→Option Addr→Nat→Nat→Int→World→Nat),I none 0 0 none 0 0 (0:Int) a ∧
 ∀(words:Option Addr) (wordsN:Nat) (wordsC:Nat) (at_:Option Addr) (atN:Nat) (atC:Nat) (i:Int) (w1:World),I words wordsN wordsC at_ atN atC i w1→F49_l4 s (fun words' wordsN' wordsC' at_' atN' atC' i' w2=>I words' wordsN' wordsC' at_' atN' atC' i' w2∧m words' wordsN' wordsC' at_' atN' atC' i' w2 < m words wordsN wordsC at_ atN atC i w1) words wordsN wordsC at_ atN atC i w1 R
theorem ok49 (s:ByteArray) {w:World}{R:Ending→World→Prop} (h:F49 s w R):Calls Tryz.prog 49 #[(.string s)] w R :=
 vc_calls (pl:=⟨51,⟨[]⟩,[(10,⟨[],[(21,31)]⟩),(12,⟨[(6,(.s (.int .i64))),(8,(.s .slice))],[(6,7),(8,40)]⟩),(5,⟨[(4,(.s .slice)),(5,(.s .slice)),(6,(.s (.int .i64)))],[(4,49)]⟩)],[(9,⟨[(6,(.s (.int .i64))),(8,(.s .slice))],[(6,7),(8,40)]⟩),(4,⟨[(4,(.s .slice)),(5,(.s .slice)),(6,(.s (.int .i64)))],[(4,49)]⟩)]⟩) Tryz.func49 (by kernel_rfl) (by kernel_rfl) (by kernel_rfl) (Eq.mp (by kernel_rfl) h)
def F85_j7 (L3:Int→World→Prop) (a:Int) (b:World) (R:Ending→World→Prop):Prop :=
 InR .i64 (a+(1:Int))∧L3 (a+(1:Int)) b
def F85_l3 (j:Option Addr) (f:Nat) (b:Nat) (L3:Int→World→Prop) (h:Int) (e:World) (R:Ending→World→Prop):Prop :=
 Br (decide (h < ((f:Nat):Int)))
 (∃J7:World→Prop,(∀ (a:World),J7 a→F85_j7 L3 h a R) ∧
 (IdxA j f h 1 fun c =>
 LdI .u8 (e.cell? c) fun i =>
 Br (decide (i≥(65:Int)))
 (Br (decide (i≤(90:Int)))
 (InR .u8 (i+(97:Int))∧InR .u8 ((i+(97:Int))-(65:Int))∧IdxA j f h 1 fun g =>
 St e g (.int .u8 ((i+(97:Int))-(65:Int))) fun a =>
 J7 a)
 (J7 e))
 (J7 e)))
 (Raw Tryz.prog (convert 175 9 (.slice j f b)) e fun v2 a =>
 ∃(d:ByteArray),v2=(.string d) ∧
 R (.returned (.string d)) a)
def F85 (s:ByteArray) (f:World) (R:Ending→World→Prop):Prop :=
 Raw Tryz.prog (convert 9 175 (.string s)) f fun v w1 =>
 ∃(e:Option Addr) (c:Nat) (b:Nat),v=(.slice e c b) ∧
 ∃(I:Int→World→Prop) (m:Int→World→Nat),I (0:Int) w1 ∧
 ∀(d:Int) (a:World),I d a→F85_l3 e c b (fun d' w2=>I d' w2∧m d' w2 < m d a) d a R
theorem ok85 (s:ByteArray) {w:World}{R:Ending→World→Prop} (h:F85 s w R):Calls Tryz.prog 85 #[(.string s)] w R :=
 vc_calls (pl:=⟨30,⟨[]⟩,[(7,⟨[],[(4,6),(12,27)]⟩)],[(3,⟨[(10,(.s (.int .i64)))],[(4,6),(10,28)]⟩)]⟩) Tryz.func85 (by kernel_rfl) (by kernel_rfl) (by kernel_rfl) (Eq.mp (by kernel_rfl) h)
def F57_j8 (s:ByteArray) (L4:Option Addr→Nat→Nat→Option Addr→Nat→Nat→Int→World→Prop) (l:Option Addr) (lN:Nat) (lC:Nat) (at_:Option Addr) (atN:Nat) (atC:Nat) (i:Int) (i2:Int) (m:World) (R:Ending→World→Prop):Prop :=
 Br (decide (i2 > i))
 (SlB i i2 ((s.size:Nat):Int)
 (Calls Tryz.prog 85 #[(.string (s.extract (i).toNat (i2).toNat))] m (post R fun v w1 =>
 ∃(k:ByteArray),v=(.string k) ∧
 Al w1 #[(.string k)] 9 fun g34 c =>
 Raw Tryz.prog (Builtin.append_ #[26,26] 26 #[(.slice l lN lC),(.slice (some g34) 1 1)]) c fun v2 f =>
 ∃(j:Option Addr) (a:Nat) (h:Nat),v2=(.slice j a h) ∧
 Al f #[(.int .i64 i)] 3 fun g38 e =>
 Raw Tryz.prog (Builtin.append_ #[87,87] 87 #[(.slice at_ atN atC),(.slice (some g38) 1 1)]) e fun v3 d =>
 ∃(n:Option Addr) (g:Nat) (b:Nat),v3=(.slice n g b) ∧
 L4 j a h n g b i2 d)))
 (InR .i64 (i2+(1:Int))∧L4 l lN lC at_ atN atC (i2+(1:Int)) m)
def F57_j7 (L6:Int→World→Prop) (i2:Int) (a:World) (R:Ending→World→Prop):Prop :=
 InR .i64 (i2+(1:Int))∧L6 (i2+(1:Int)) a
def F57_l6 (s:ByteArray) (J8:Int→World→Prop) (L6:Int→World→Prop) (i2:Int) (b:World) (R:Ending→World→Prop):Prop :=
 ∃J7:World→Prop,(∀ (w1:World),J7 w1→F57_j7 L6 i2 w1 R) ∧
 (Br (decide (i2 < ((s.size:Nat):Int)))
 (IdxS s i2 fun c20 =>
 Calls Tryz.prog 88 #[(.int .u8 c20)] b (post R fun v w1 =>
 ∃(a:Bool),v=(.bool a) ∧
 Br a
 (J7 w1)
 (J8 i2 w1)))
 (J8 i2 b))
def F57_l4 (s:ByteArray) (L4:Option Addr→Nat→Nat→Option Addr→Nat→Nat→Int→World→Prop) (l:Option Addr) (lN:Nat) (lC:Nat) (at_:Option Addr) (atN:Nat) (atC:Nat) (i:Int) (a:World) (R:Ending→World→Prop):Prop :=
 Br (decide (i < ((s.size:Nat):Int)))
 (∃J8:Int→World→Prop,(∀(i2:Int) (w1:World),J8 i2 w1→F57_j8 s L4 l lN lC at_ atN atC i i2 w1 R) ∧
 (∃(I:Int→World→Prop) (m:Int→World→Nat),I i a ∧
 ∀(i2:Int) (w1:World),I i2 w1→F57_l6 s J8 (fun i2' w2=>I i2' w2∧m i2' w2 < m i2 w1) i2 w1 R))
 (R (.returned (.tuple #[(.slice l lN lC),(.slice at_ atN atC)])) a)
def F57 (s:ByteArray) (a:World) (R:Ending→World→Prop):Prop :=
 ∃(I:Option Addr→Nat→Nat→Option Addr→Nat→Nat→Int→World→Prop) (m:Option Addr→Nat→Nat→Option Addr→Nat→Nat→Int→World→Nat),I none 0 0 none 0 0 (0:Int) a ∧
 ∀(l:Option Addr) (lN:Nat) (lC:Nat) (at_:Option Addr) (atN:Nat) (atC:Nat) (i:Int) (w1:World),I l lN lC at_ atN atC i w1→F57_l4 s (fun l' lN' lC' at_' atN' atC' i' w2=>I l' lN' lC' at_' atN' atC' i' w2∧m l' lN' lC' at_' atN' atC' i' w2 < m l lN lC at_ atN atC i w1) l lN lC at_ atN atC i w1 R
theorem ok57 (s:ByteArray) {w:World}{R:Ending→World→Prop} (h:F57 s w R):Calls Tryz.prog 57 #[(.string s)] w R :=
 vc_calls (pl:=⟨44,⟨[]⟩,[(7,⟨[],[(13,23)]⟩),(8,⟨[(6,(.s (.int .i64)))],[(6,7),(13,25)]⟩)],[(6,⟨[(6,(.s (.int .i64)))],[(6,7),(13,25)]⟩),(4,⟨[(4,(.s .slice)),(5,(.s .slice)),(6,(.s (.int .i64)))],[(4,42)]⟩)]⟩) Tryz.func57 (by kernel_rfl) (by kernel_rfl) (by kernel_rfl) (Eq.mp (by kernel_rfl) h)
end Go.Proofs.YtccplipiahdhiaaGreatDoor
namespace Go.Vc
open Go Go.RowKit
section
variable {P:Program}{w:World}
theorem bytes_at (s:ByteArray) (j:Nat) (hj:j < s.size):s.data.toList[j]'(by simpa using hj)=s[j]:=by simp;rfl
theorem s2b {src dst e:TypeId}{u:TypeDesc}{s:ByteArray}{K:Value→World→Prop} (hs:P.underlying src=some u) (hd:P.underlying dst=some (.slice e)) (he:P.underlying e=some (.int .u8))
  (h:∀cap w1,Below w.heap.size w w1→(∀j (hj:j < s.size),w1.cell? ⟨w.heap.size,j,none⟩=some (.int .u8 (s[j].toNat:Int)))→(∀j,j < s.size→w1.frozen? ⟨w.heap.size,j,none⟩=false) →
   w1.heap.size=w.heap.size+1→K (.slice (some ⟨w.heap.size,0,none⟩) s.size cap) w1):Raw P (convert src dst (.string s)) w K:=by
 refine⟨_,_,Lib.run_convert_string_bytes w src dst e s hs hd he,h _ _ ?_ ?_ ?_ ?_⟩
 ·refine⟨rfl,rfl,rfl,by simp [Lib.bytesWorld,World.freeze],fun k hk=>?_⟩
  simp only [Lib.bytesWorld,World.freeze]
  rw [if_neg (by omega)]
  simp only [Array.getElem?_modify]
  rw [if_neg (by omega)]
  exact Below.heap_alloc w.drew _ k hk
 ·intro j hj
  have hsz:s.size≤(Lib.bytesCells w e s).size:=by simp [Lib.bytesCells]
  have:(Lib.bytesCells w e s)[j]?=some (.int .u8 (s[j].toNat:Int)):=by
   unfold Lib.bytesCells
   rw [Array.getElem?_append_left (by simpa using hj)]
   simp [hj];rfl
  simp only [Lib.bytesWorld,World.freeze,World.cell?]
  rw [if_neg (by omega)]
  simp only [Array.getElem?_modify,if_true]
  simp [World.alloc,World.drew,-World.alloc_eq,-World.drew_eq,this]
 ·intro j hj
  have hsz:s.size≤(Lib.bytesCells w e s).size:=by simp [Lib.bytesCells]
  simp only [Lib.bytesWorld,World.freeze,World.frozen?]
  rw [if_neg (by omega)]
  simp only [Array.getElem?_modify,if_true]
  simp [World.alloc,World.drew,-World.alloc_eq,-World.drew_eq]
  omega
 ·simp [Lib.bytesWorld,World.freeze]
theorem b2s {src dst e:TypeId}{a:Option Addr}{n cap:Nat}{K:Value→World→Prop} (l:List UInt8) (hn:n=l.length) (hs:P.underlying src=some (.slice e)) (he:P.underlying e=some (.int .u8)) (hd:P.underlying dst=some .string)
  (hc:∀j (hj:j < l.length),∃b o,a=some ⟨b,o,none⟩∧w.cell? ⟨b,o+j,none⟩=some (.int .u8 (l[j].toNat:Int))) (h:K (.string ⟨l.toArray⟩) w):Raw P (convert src dst (.slice a n cap)) w K:=by
 subst hn
 cases a with
 | none =>
  cases l with
  | nil=>exact⟨_,w,(by show (convert src dst (.slice none 0 cap)).run P w=_;rw [run_convert_bytes_string w src dst e none 0 cap hs he hd];rfl),h⟩
  | cons x xs=>obtain⟨b,o,h0,_⟩:=hc 0 (by simp);cases h0
 | some q =>
  refine⟨_,w,run_convert_bytes_back w src dst e q cap l hs he hd fun j hj=>?_,h⟩
  obtain⟨b,o,h0,h1⟩:=hc j hj
  obtain rfl:q=⟨b,o,none⟩:=by simpa using h0
  rw [Addr.add_mk]
  exact h1
end
end Go.Vc
namespace Go.Proofs.YtccplipiahdhiaaGreatDoor
open Go.RowKit Go.Vc
set_option maxRecDepth 100000
theorem inR_u8 {z:Int} (h0:0≤z) (h1:z≤255):InR .u8 z:=⟨by simpa [IntKind.min,IntKind.signed] using h0,by simpa [IntKind.max,IntKind.signed,IntKind.bits] using h1⟩
theorem lower_calls (s:ByteArray) (hs:s.size≤140737488351232) {w:World}{R:Ending→World→Prop} (h:∀w',Below w.heap.size w w'→R (.returned (.string (lowB s))) w'):Calls Tryz.prog 85 #[.string s] w R:=by
 refine ok85 s ?_
 unfold F85
 refine s2b rfl Tryz.underlying175 rfl fun cap w1 hb hc hf hsz=>⟨_,_,_,rfl,?_⟩
 refine⟨fun i w2=>∃k:Nat,i=k∧k≤s.size∧Below w.heap.size w w2∧(∀j,j < s.size→w2.frozen? ⟨w.heap.size,j,none⟩=false) ∧
   ∀j (hj:j < s.size),w2.cell? ⟨w.heap.size,j,none⟩=some (.int .u8 (if j < k then (lowU s[j]).toNat else s[j].toNat:Nat)),fun i w2=>s.size-i.toNat,⟨0,rfl,by omega,hb,hf,fun j hj=>by simpa using hc j hj⟩,?_⟩
 rintro i w2 ⟨k,rfl,hk,hb,hf,hc⟩
 unfold F85_l3
 refine brd (fun hlt=>?_) (fun hge=>?_)
 ·have hlt':k < s.size:=by omega
  have hck:=hc k hlt'
  simp only [Nat.lt_irrefl,if_false] at hck
  have hbyte:=s[k].toNat_lt
  refine⟨fun w3=>Below w.heap.size w w3∧(∀j,j < s.size→w3.frozen? ⟨w.heap.size,j,none⟩=false) ∧
   ∀j (hj:j < s.size),w3.cell? ⟨w.heap.size,j,none⟩=some (.int .u8 (if j < k+1 then (lowU s[j]).toNat else s[j].toNat:Nat)),?_,?_⟩
  ·rintro w3 ⟨h1,h2,h3⟩
   unfold F85_j7
   exact⟨inR_i64 (by omega) (by omega),⟨k+1,by simp,by omega,h1,h2,h3⟩,by dsimp only;omega⟩
  ·have skip:¬(65≤s[k].toNat∧s[k].toNat≤90)→∀j (hj:j < s.size),w2.cell? ⟨w.heap.size,j,none⟩=some (.int .u8 (if j < k+1 then (lowU s[j]).toNat else s[j].toNat:Nat)):=by
    intro hn j hj
    rw [hc j hj]
    congr 3
    by_cases hjk:j=k
    ·subst hjk
     rw [if_neg (by omega),if_pos (by omega),lowU_nat]
     unfold lowW
     rw [if_neg hn]
    ·by_cases hj2:j < k
     ·rw [if_pos hj2,if_pos (by omega)]
     ·rw [if_neg hj2,if_neg (by omega)]
   rw [IdxA_some (by omega) (by omega),Addr.add_mk]
   simp only [Int.toNat_natCast,Nat.mul_one,Nat.zero_add,hck,LdI_some]
   refine brd (fun h65=>brd (fun h90=>?_) (fun h90=>?_)) (fun h65=>?_)
   ·refine⟨inR_u8 (by omega) (by omega),inR_u8 (by omega) (by omega),?_⟩
    rw [IdxA_some (by omega) (by omega),Addr.add_mk]
    simp only [Int.toNat_natCast,Nat.mul_one,Nat.zero_add]
    refine⟨⟨_,hck⟩,hf k hlt',hb.setCell (by simp) _,fun j hj=>by rw [World.frozen?_setCell];exact hf j hj,fun j hj=>?_⟩
    by_cases hjk:j=k
    ·subst hjk
     rw [World.cell?_setCell_same _ _ _ hck,if_pos (by omega),lowU_nat]
     unfold lowW
     rw [if_pos (by omega)]
     congr 2
     omega
    ·rw [World.cell?_setCell_other _ _ _ _ (by intro e;cases e;exact hjk rfl),hc j hj]
     congr 3
     by_cases hj2:j < k
     ·rw [if_pos hj2,if_pos (by omega)]
     ·rw [if_neg hj2,if_neg (by omega)]
   ·exact⟨hb,hf,skip (by omega)⟩
   ·exact⟨hb,hf,skip (by omega)⟩
 ·have hk':k=s.size:=by omega
  refine b2s (s.data.toList.map lowU) (by simp) Tryz.underlying175 rfl rfl (fun j hj=>⟨_,_,rfl,?_⟩) ⟨_,rfl,h _ hb⟩
  have hj':j < s.size:=by simpa using hj
  rw [Nat.zero_add,hc j hj',if_pos (by omega)]
  simp
  rfl
theorem part_k {c:Int}{n:Nat} (hc:c=n) {w:World}{R:Ending→World→Prop} (h:R (.returned (.bool (inW n))) w):Calls Tryz.prog 88 #[.int .u8 c] w R:=by
 subst hc;exact (part_calls n w).mono fun e w' ⟨he,hw⟩=>by rw [he,hw];exact h
theorem in_k {c:Int}{n:Nat} (hc:c=n) {w:World}{R:Ending→World→Prop} (h:R (.returned (.bool (inW n))) w):Calls Tryz.prog 83 #[.int .u8 c] w R:=by
 subst hc;exact (inW_calls n w).mono fun e w' ⟨he,hw⟩=>by rw [he,hw];exact h
theorem low_k {c:Int}{n:Nat} (hc:c=n) (hn:n < 256) {w:World}{R:Ending→World→Prop} (h:R (.returned (.int .u8 (lowW n))) w):Calls Tryz.prog 84 #[.int .u8 c] w R:=by
 subst hc;exact (low_calls n hn w).mono fun e w' ⟨he,hw⟩=>by rw [he,hw];exact h
theorem idxS {s:ByteArray}{i:Int}{k:Nat} (hi:i=k) (hk:k < s.size) {K:Int→Prop} (h:K (s[k].toNat:Nat)):IdxS s i K:=by
 subst hi
 exact⟨by omega,s[k],by simp [getElem?_pos s k hk],h⟩
structure WS (w0:World) (v u:Value) (l:List (ByteArray × Nat)) (w:World):Prop where
 below:Below w0.heap.size w0 w
 ws:Own LS w w0.heap.size 9 v (l.map (·.1))
 at_:Own LI w w0.heap.size 3 u (l.map fun p=>(p.2:Int))
 ap:Apart v u
theorem WS.keep {w0 w w1:World}{v u:Value}{l:List (ByteArray × Nat)} (h:WS w0 v u l w) (hb:Below w.heap.size w w1):WS w0 v u l w1:=⟨btr h.below h.below.size hb,h.ws.keep hb,h.at_.keep hb,h.ap⟩
theorem Apart.symm {v u:Value} (h:Apart v u):Apart u v:=by
 rcases h with h | h
 ·cases hu:rowOf u with
  | none=>exact .inl hu
  | some k=>exact .inr (by rw [h,hu];simp)
 ·exact .inr fun e=>h e.symm
theorem Apart.nil_r {v:Value}{n c:Nat}:Apart v (.slice none n c):=by
 cases h:rowOf v with
 | none=>exact .inl h
 | some k=>exact .inr (by rw [h];intro hc;cases c <;> cases hc)
theorem words_calls (s:ByteArray) (hs:s.size≤16384) {w:World}{R:Ending→World→Prop} (h:∀A n c A2 n2 c2 w',WS w (.slice A n c) (.slice A2 n2 c2) (wordsF s 0) w'→R (.returned (.tuple #[.slice A n c,.slice A2 n2 c2])) w'):Calls Tryz.prog 57 #[.string s] w R:=by
 refine ok57 s ?_
 unfold F57
 refine⟨fun l lN lC at_ atN atC i w1=>∃(k:Nat) (pre:List (ByteArray × Nat)),i=k∧k≤s.size∧WS w (.slice l lN lC) (.slice at_ atN atC) pre w1∧pre++wordsF s k=wordsF s 0,
  fun l lN lC at_ atN atC i w1=>s.size-i.toNat,⟨0,[],rfl,by omega,⟨Below.refl _ _,Own.nil _ _ _ _,Own.nil _ _ _ _,.inl rfl⟩,rfl⟩,?_⟩
 rintro l lN lC at_ atN atC i w1 ⟨k,pre,rfl,hk,hws,hpre⟩
 have hlen:pre.length≤16384:=by
  have h1:=wordsF_len s 0
  rw [←hpre,List.length_append] at h1
  omega
 unfold F57_l4
 refine brd (fun hlt=>?_) (fun hge=>?_)
 ·refine⟨fun i2 w2=>i2=(runE s k:Nat)∧WS w (.slice l lN lC) (.slice at_ atN atC) pre w2,?_,?_⟩
  ·rintro i2 w2 ⟨rfl,hws⟩
   have hle:=runE_le s k hk
   unfold F57_j8
   refine brd (fun hgt=>?_) (fun hngt=>?_)
   ·have hW:isW s k=true:=by
     cases hw:isW s k with
     | true=>rfl
     | false=>rw [runE_f hw] at hgt;omega
    refine⟨by omega,by omega,by omega,?_⟩
    have hx:(s.extract ((k:Int)).toNat ((runE s k:Nat):Int).toNat)=s.extract k (runE s k):=by simp
    rw [hx]
    refine lower_calls _ (by simp;omega) fun w3 hb3=>⟨_,rfl,?_⟩
    have h3:=hws.keep hb3
    refine ap1 (L:=LS) (base:=w.heap.size) (.string .empty) 16 rfl Tryz.underlying26 rfl rfl h3.ws h3.below.size (by simp;omega) (by simp [maxLen];omega) fun A' c' w4 ho hg=>⟨_,_,_,rfl,?_⟩
    obtain⟨hat,hap⟩:=hg.own h3.at_ h3.ap.symm
    refine ap1 (L:=LI) (base:=w.heap.size) (x:=(k:Int)) (.int .i64 0) 8 rfl Tryz.underlying87 rfl rfl hat (Nat.le_trans h3.below.size hg.lt) (by simp;omega) (by simp [maxLen];omega) fun A2' c2' w5 ho2 hg2=>⟨_,_,_,rfl,?_⟩
    obtain⟨how,hap2⟩:=hg2.own ho hap.symm
    refine⟨⟨runE s k,pre++[(lowB (s.extract k (runE s k)),k)],rfl,hle,⟨(h3.below.trans hg.below).trans hg2.below,?_,?_,?_⟩,?_⟩,by dsimp only;have:=runE_gt hW;omega⟩
    ·simpa using how
    ·simpa using ho2
    ·simpa using hap2
    ·rw [←hpre,wordsF_t hW];simp
   ·have hW:isW s k=false:=by
     cases hw:isW s k with
     | false=>rfl
     | true=>have:=runE_gt hw;omega
    have hk2:runE s k=k:=runE_f hW
    rw [hk2]
    exact⟨inR_i64 (by omega) (by omega),⟨k+1,pre,by simp,by omega,hws,by rw [←wordsF_f hW];exact hpre⟩,by dsimp only;omega⟩
  ·refine⟨fun i2 w2=>∃j:Nat,i2=j∧j≤s.size∧runE s j=runE s k∧WS w (.slice l lN lC) (.slice at_ atN atC) pre w2,fun i2 w2=>s.size-i2.toNat,⟨k,rfl,hk,rfl,hws⟩,?_⟩
   rintro i2 w2 ⟨j,rfl,hj,hr,hws⟩
   unfold F57_l6
   refine⟨fun w3=>isW s j=true∧WS w (.slice l lN lC) (.slice at_ atN atC) pre w3,?_,?_⟩
   ·rintro w3 ⟨hW,hws⟩
    have:=isW_lt hW
    unfold F57_j7
    exact⟨inR_i64 (by omega) (by omega),⟨j+1,by simp,by omega,by rw [←runE_t hW];exact hr,hws⟩,by dsimp only;omega⟩
   ·refine brd (fun hlt2=>?_) (fun hge2=>?_)
    ·have hj2:j < s.size:=by omega
     refine idxS rfl hj2 ?_
     refine part_k rfl ⟨_,rfl,?_⟩
     rw [←isW_at hj2]
     refine br (fun hW=>⟨hW,hws⟩) (fun hW=>⟨by rw [←hr,runE_f hW],hws⟩)
    ·have:isW s j=false:=by
      cases hw:isW s j with
      | false=>rfl
      | true=>have:=isW_lt hw;omega
     exact⟨by rw [←hr,runE_f this],hws⟩
 ·have:pre=wordsF s 0:=by rw [←hpre,wordsF_end (by omega)];simp
  rw [this] at hws
  exact h _ _ _ _ _ _ _ hws
def lowL (s:ByteArray) (i j:Nat):List Int:=((s.extract i j).data.toList.map fun b=>((lowU b).toNat:Int))
theorem ext_snoc (s:ByteArray) (i j:Nat) (hi:i≤j) (hj:j < s.size):(s.extract i (j+1)).data.toList=(s.extract i j).data.toList++[s[j]]:=by
 have hz:s.data.toList.length=s.size:=by simp
 rw [Lib.extract_data,Lib.extract_data]
 rw [show s[j]=(s.data.toList)[j]'(by omega) from (bytes_at s j hj).symm]
 rw [show j+1-i=(j-i)+1 by omega,List.take_succ_eq_append_getElem (by rw [List.length_drop];omega),List.getElem_drop]
 congr 2
 congr 1
 omega
theorem lowL_snoc (s:ByteArray) (i j:Nat) (hi:i≤j) (hj:j < s.size):lowL s i (j+1)=lowL s i j++[((lowU s[j]).toNat:Int)]:=by
 unfold lowL;rw [ext_snoc s i j hi hj,List.map_append];rfl
theorem split_calls (s:ByteArray) (hs:s.size≤16384) {w:World}{R:Ending→World→Prop} (h:∀A n c A2 n2 c2 w',WS w (.slice A n c) (.slice A2 n2 c2) (wordsF s 0) w'→R (.returned (.tuple #[.slice A n c,.slice A2 n2 c2])) w'):Calls Tryz.prog 49 #[.string s] w R:=by
 refine ok49 s ?_
 unfold F49
 refine⟨fun l lN lC at_ atN atC i w1=>∃(k:Nat) (pre:List (ByteArray × Nat)),i=k∧k≤s.size+1∧WS w (.slice l lN lC) (.slice at_ atN atC) pre w1∧pre++wordsF s k=wordsF s 0,
  fun l lN lC at_ atN atC i w1=>s.size+1-i.toNat,⟨0,[],rfl,by omega,⟨Below.refl _ _,Own.nil _ _ _ _,Own.nil _ _ _ _,.inl rfl⟩,rfl⟩,?_⟩
 rintro l lN lC at_ atN atC i w1 ⟨k,pre,rfl,hk,hws,hpre⟩
 have hlen:pre.length≤16384:=by
  have h1:=wordsF_len s 0
  rw [←hpre,List.length_append] at h1
  omega
 unfold F49_l4
 refine brd (fun hlt=>?_) (fun hge=>?_)
 ·have hk2:k < s.size:=by omega
  refine⟨fun l lN lC at_ atN atC i w1=>∃(k':Nat) (pre:List (ByteArray × Nat)),k≤k'∧i=k'∧k'≤s.size∧isW s k'=false∧WS w (.slice l lN lC) (.slice at_ atN atC) pre w1∧pre++wordsF s k'=wordsF s 0,?_,?_⟩
  ·rintro l' lN' lC' at' atN' atC' i' w2 ⟨k',pre',h1,rfl,h2,h3,h4,h5⟩
   unfold F49_j5
   exact⟨inR_i64 (by omega) (by omega),⟨k'+1,pre',by simp,by omega,h4,by rw [←wordsF_f h3];exact h5⟩,by dsimp only;omega⟩
  ·refine idxS rfl hk2 (in_k rfl ⟨_,rfl,?_⟩)
   rw [←isW_at hk2,brnot]
   refine br (fun hW=>?_) (fun hW=>?_)
   ·have hle:=runE_le s k (by omega)
    have hgt:=runE_gt hW
    refine⟨fun i2 b bN bC w2=>i2=(runE s k:Nat)∧WS w (.slice l lN lC) (.slice at_ atN atC) pre w2∧Own LU w2 w.heap.size 5 (.slice b bN bC) (lowL s k (runE s k)),?_,?_⟩
    ·rintro i2 b bN bC w2 ⟨rfl,hws,hob⟩
     unfold F49_j12
     obtain⟨hbn,hrd⟩:=hob.rd
     refine b2s ((s.extract k (runE s k)).data.toList.map lowU) (by rw [hbn];simp [lowL]) Tryz.underlying175 rfl rfl (fun j hj=>?_) ⟨_,rfl,?_⟩
     ·have hj':j < (lowL s k (runE s k)).length:=by simpa [lowL] using hj
      obtain⟨b',o',rfl,hc⟩:=hrd.at j hj'
      refine⟨b',o',rfl,?_⟩
      have:=hc 0 _ rfl
      simp only [LU,Nat.mul_one,Nat.add_zero] at this
      rw [this]
      simp [lowL]
     ·have hx:ByteArray.mk (List.map lowU (s.extract k (runE s k)).data.toList).toArray=lowB (s.extract k (runE s k)):=rfl
      rw [hx]
      refine ap1 (L:=LS) (base:=w.heap.size) (.string .empty) 16 rfl Tryz.underlying26 rfl rfl hws.ws hws.below.size (by simp;omega) (by simp [maxLen];omega) fun A' c' w4 ho hg=>⟨_,_,_,rfl,?_⟩
      obtain⟨hat,hap⟩:=hg.own hws.at_ hws.ap.symm
      refine ap1 (L:=LI) (base:=w.heap.size) (x:=(k:Int)) (.int .i64 0) 8 rfl Tryz.underlying87 rfl rfl hat (Nat.le_trans hws.below.size hg.lt) (by simp;omega) (by simp [maxLen];omega) fun A2' c2' w5 ho2 hg2=>⟨_,_,_,rfl,?_⟩
      obtain⟨how,hap2⟩:=hg2.own ho hap.symm
      refine⟨runE s k,pre++[(lowB (s.extract k (runE s k)),k)],by omega,rfl,hle,runE_end s k,⟨(hws.below.trans hg.below).trans hg2.below,?_,?_,?_⟩,?_⟩
      ·simpa using how
      ·simpa using ho2
      ·simpa using hap2
      ·rw [←hpre,wordsF_t hW];simp
    ·refine⟨fun i2 b bN bC w2=>∃j:Nat,i2=j∧k≤j∧j≤s.size∧runE s j=runE s k∧WS w (.slice l lN lC) (.slice at_ atN atC) pre w2∧Own LU w2 w.heap.size 5 (.slice b bN bC) (lowL s k j)∧Apart (.slice l lN lC) (.slice b bN bC)∧Apart (.slice at_ atN atC) (.slice b bN bC),
      fun i2 b bN bC w2=>s.size-i2.toNat,⟨k,rfl,Nat.le_refl _,by omega,rfl,hws,by simpa [lowL] using Own.nil LU _ _ _,Apart.nil_r,Apart.nil_r⟩,?_⟩
     rintro i2 b bN bC w2 ⟨j,rfl,hkj,hj,hr,hws,hob,ha1,ha2⟩
     unfold F49_l9
     refine⟨fun w3=>isW s j=true∧w3=w2,?_,?_⟩
     ·rintro w3 ⟨hW2,rfl⟩
      have hj2:=isW_lt hW2
      unfold F49_j10
      refine idxS rfl hj2 (low_k rfl s[j].toNat_lt ⟨_,rfl,?_⟩)
      have hln:(lowL s k j).length≤16384:=by simp [lowL];omega
      refine ap1 (L:=LU) (base:=w.heap.size) (x:=(lowW s[j].toNat:Nat)) (.int .u8 0) 1 rfl Tryz.underlying175 rfl rfl hob hws.below.size (by omega) (by simp [maxLen];omega) fun A' c' w4 ho hg=>⟨_,_,_,rfl,?_⟩
      obtain⟨h1,h2⟩:=hg.own hws.ws ha1
      obtain⟨h3,h4⟩:=hg.own hws.at_ ha2
      refine⟨inR_i64 (by omega) (by omega),⟨j+1,by simp,by omega,by omega,by rw [←runE_t hW2];exact hr,⟨hws.below.trans hg.below,h1,h3,hws.ap⟩,?_,h2,h4⟩,by dsimp only;omega⟩
      rw [lowL_snoc s k j hkj hj2,lowU_nat]
      exact (by simpa using ho)
     ·refine brd (fun hlt2=>?_) (fun hge2=>?_)
      ·have hj2:j < s.size:=by omega
       refine idxS rfl hj2 (in_k rfl ⟨_,rfl,?_⟩)
       rw [←isW_at hj2]
       refine br (fun hW2=>⟨hW2,rfl⟩) (fun hW2=>?_)
       have hjr:runE s k=j:=by rw [←hr,runE_f hW2]
       exact⟨by rw [hjr],hws,by rw [hjr];exact hob⟩
      ·have hW2:isW s j=false:=by
        cases hw:isW s j with
        | false=>rfl
        | true=>have:=isW_lt hw;omega
       have hjr:runE s k=j:=by rw [←hr,runE_f hW2]
       exact⟨by rw [hjr],hws,by rw [hjr];exact hob⟩
   ·exact⟨k,pre,Nat.le_refl _,rfl,by omega,hW,hws,hpre⟩
 ·have:pre=wordsF s 0:=by rw [←hpre,wordsF_end (by omega)];simp
  rw [this] at hws
  exact h _ _ _ _ _ _ _ hws
set_option linter.unusedVariables false
set_option linter.unusedSimpArgs false
set_option maxRecDepth 100000
def LHt:Lay Hit:=⟨3,fun h=>[.int .u64 (h.1:Nat),.int .i64 (h.2.1:Nat),.int .i64 (h.2.2:Nat)],fun _=>rfl,fun _=>by simp [Value.oneCell'],by decide⟩
theorem mapTypeT:Tryz.prog.underlying 133=some (.map 65 26):=by kernel_rfl
theorem mapTypeH:Tryz.prog.underlying 134=some (.map 9 42):=by kernel_rfl
theorem keyTypeN:Tryz.prog.underlying 65=some (.int .u64):=by kernel_rfl
theorem keyTypeS:Tryz.prog.underlying 9=some .string:=by kernel_rfl
theorem zeroT (w:World):(zeroValue 26).run Tryz.prog w=.ok (.slice none 0 0) w:=by kernel_rfl
theorem zeroH (w:World):(zeroValue 42).run Tryz.prog w=.ok (.slice none 0 0) w:=by kernel_rfl
def isT (A:Nat→Option Sl) (n:Nat):Bool:=match A n with | some s=>decide (s.kind=2) | none=>false
theorem wd_notT {A:Nat→Option Sl}{n:Nat} (h:isT A n=false):wdF A n=[]:=by
 unfold isT at h;unfold wdF
 cases hs:A n with
 | none=>rfl
 | some s =>
  rw [hs] at h
  have:¬s.kind=2:=by simpa using h
  show txF s=[]
  unfold txF;rw [if_neg this]
def mpTx (A:Nat→Option Sl) (N:List Nat) (tv:Nat→Sv) (k:Int):Option Value:=if 0≤k∧k.toNat∈N∧isT A k.toNat=true then some (slV (tv k.toNat)) else none
def mpHt (st:List (ByteArray × Hit)) (hv:ByteArray→Sv) (k:ByteArray):Option Value:=if hitF st k=[] then none else some (slV (hv k))
structure IxO (w6 w:World) (o:Nat→Nat) (mt mh:Nat) (A:Nat→Option Sl) (N:List Nat) (st:List (ByteArray × Hit)) (tv:Nat→Sv) (hv:ByteArray→Sv):Prop where
 fr:Fm (fun b=>b=mt∨b=mh) w6 w
 lt:∀b,o b≠0→w6.heap.size≤b∧b < w.heap.size
 ne:mt≠mh
 tl:mt < w6.heap.size
 hl:mh < w6.heap.size
 tm:Mp .u64 w mt (mpTx A N tv)
 to:∀n∈N,isT A n=true→Own LS w 0 9 (slV (tv n)) (wsF A n)∧∀x,rowOf (slV (tv n))=some x→o x=4
 hm:Ms w mh (mpHt st hv)
 ho:∀k,Own LHt w 0 67 (slV (hv k)) (hitF st k)
 hc:∀k x,rowOf (slV (hv k))=some x→o x=5
 ha:∀k k',k≠k'→Apart (slV (hv k)) (slV (hv k'))
section
variable {w w1 w6:World}{o:Nat→Nat}{mt mh:Nat}{A:Nat→Option Sl}{N:List Nat}{st:List (ByteArray × Hit)}{tv:Nat→Sv}{hv:ByteArray→Sv}{M:Nat→Prop}
theorem IxO.keep (h:IxO w6 w o mt mh A N st tv hv) (hf:Fm M w w1) (hm:∀b,b < w.heap.size→M b→o b=0∧w6.heap.size≤b):IxO w6 w1 o mt mh A N st tv hv:=by
 have hs:=h.fr.size
 have hM:∀x,o x≠0→¬M x:=fun x hx e=>hx (hm x (h.lt x hx).2 e).1
 have h6:∀x,x < w6.heap.size→¬M x:=fun x hx e=>by have:=(hm x (by omega) e).2;omega
 exact⟨h.fr.trans' hf h6,fun b hb=>⟨(h.lt b hb).1,Nat.lt_of_lt_of_le (h.lt b hb).2 hf.size⟩,h.ne,h.tl,h.hl,h.tm.fm hf (h6 mt h.tl),fun n hn ht=>⟨own_fm (h.to n hn ht).1 hf fun x hx=>hM x (by rw [(h.to n hn ht).2 x hx];decide),(h.to n hn ht).2⟩,
  h.hm.fm hf (h6 mh h.hl),fun k=>own_fm (h.ho k) hf fun x hx=>hM x (by rw [h.hc k x hx];decide),h.hc,h.ha⟩
theorem IxO.below (h:IxO w6 w o mt mh A N st tv hv) (hb:Below w.heap.size w w1):IxO w6 w1 o mt mh A N st tv hv:=h.keep (M:=fun _=>False) (.below hb) fun _ _ h=>h.elim
theorem IxO.text (h:IxO w6 w o mt mh A N st tv hv) {n:Nat} (hn:isT A n=true) (hnew:n∉N) {v:Sv} (hv':Own LS w w6.heap.size 9 (slV v) (wsF A n)) (hc:∀x,rowOf (slV v)=some x→o x=0) {K:World→Prop}
  (hK:∀w' o',IxO w6 w' o' mt mh A (N++[n]) st (fun m=>if m=n then v else tv m) hv→Fm (·=mt) w w'→(∀x,o x≠0→o' x=o x)→(∀x,rowOf (slV v)≠some x→o' x=o x)→K w') :
  Raw Tryz.prog (Instr.mapUpdate 133 (.map (some mt)) (.int .u64 (n:Nat)) (slV v)) w fun _ w'=>K w':=by
 refine h.tm.update mapTypeT keyTypeN n (slV v) fun w' hm hf=>?_
 have hs:=h.fr.size
 have hold:∀x,o x≠0→cl o (rowOf (slV v)) 4 x=o x:=fun x hx=>cl_old hx
 have hgt:∀x,o x≠0→x≠mt:=fun x hx e=>by have:=(h.lt x hx).1;have:=h.tl;omega
 have hrt:∀x,rowOf (slV v)=some x→x≠mt:=fun x hx e=>by have:=(hv'.lt x hx).1;have:=h.tl;omega
 refine hK w' (cl o (rowOf (slV v)) 4) ⟨h.fr.trans (hf.mono fun b _ e=>.inl e),fun b hb=>?_,h.ne,h.tl,h.hl,?_,fun m hm2 ht=>?_,h.hm.fm hf (fun e=>h.ne e.symm),fun k=>own_fm (h.ho k) hf fun x hx=>hgt x (by rw [h.hc k x hx];decide),fun k x hx=>?_,h.ha⟩ hf hold fun x hx=>?_
 ·by_cases e:o b=0
  ·unfold cl at hb
   by_cases e2:rowOf (slV v)=some b∧o b=0
   ·have q1:=hv'.lt b e2.1;have q2:=hf.size;exact⟨q1.1,by omega⟩
   ·rw [if_neg e2] at hb;exact absurd e hb
  ·have q1:=h.lt b e;have q2:=hf.size;exact⟨q1.1,by omega⟩
 ·have:mpTx A (N++[n]) (fun m=>if m=n then v else tv m)=upd (mpTx A N tv) (n:Nat) (some (slV v)):=by
   funext k
   unfold mpTx upd
   by_cases e:k=(n:Int)
   ·subst e
    rw [if_pos rfl,if_pos ⟨by omega,by simp,by simpa using hn⟩];simp
   ·rw [if_neg e]
    by_cases h0:0≤k
    ·have e2:k.toNat≠n:=by omega
     simp only [h0,true_and,List.mem_append,List.mem_singleton,e2,or_false,if_false]
    ·rw [if_neg (fun q=>h0 q.1)];show none=if _ then _ else _
     rw [if_neg (fun q=>h0 q.1)]
  rw [this];exact hm
 ·by_cases e:m=n
  ·subst e
   simp only [if_pos rfl]
   exact⟨(own_fm hv' hf hrt).rebase fun _ _=>Nat.zero_le _,fun x hx=>cl_row hx (.inl (hc x hx))⟩
  ·simp only [if_neg e]
   have hm3:m∈N:=by
    rcases List.mem_append.1 hm2 with q | q
    ·exact q
    ·exact absurd (List.mem_singleton.1 q) e
   obtain⟨q1,q2⟩:=h.to m hm3 ht
   exact⟨own_fm q1 hf fun x hx=>hgt x (by rw [q2 x hx];decide),fun x hx=>by rw [hold x (by rw [q2 x hx];decide)];exact q2 x hx⟩
 ·rw [hold x (by rw [h.hc k x hx];decide)];exact h.hc k x hx
 ·unfold cl;rw [if_neg (fun e=>hx e.1)]
theorem IxO.look (h:IxO w6 w o mt mh A N st tv hv) (k:ByteArray) {K:Value→World→Prop} (hK:∀v,Own LHt w 0 67 (slV v) (hitF st k)→(∀x,rowOf (slV v)=some x→o x=5)→(∀k',k'≠k→Apart (slV (hv k')) (slV v))→K (slV v) w) :
  Raw Tryz.prog (Instr.lookup 134 (.map (some mh)) (.string k) false) w K:=by
 refine h.hm.look mapTypeH keyTypeS (zeroH w) k false ?_
 unfold mpHt
 by_cases e:hitF st k=[]
 ·rw [if_pos e]
  exact hK (none,0,0) (by rw [e];exact Own.nil _ _ _ _) (fun x hx=>by cases hx) fun k' _=>Apart.nil_r
 ·rw [if_neg e]
  exact hK (hv k) (h.ho k) (h.hc k) fun k' hk=>h.ha k' k hk
theorem IxO.hit (h:IxO w6 w o mt mh A N st tv hv) {k:ByteArray}{x:Hit}{v v1:Sv} (hw:Own LHt w 0 67 (slV v) (hitF st k)) (hvc:∀x,rowOf (slV v)=some x→o x=5) (hva:∀k',k'≠k→Apart (slV (hv k')) (slV v))
  {w2:World} (g:Grew 0 w w2 (slV v) (slV v1)) (h1:Own LHt w2 0 67 (slV v1) (hitF st k++[x])) {K:World→Prop}
  (hK:∀w' o',IxO w6 w' o' mt mh A N (st++[(k,x)]) tv (fun k'=>if k'=k then v1 else hv k')→Fm (fun b=>b=mh∨rowOf (slV v)=some b) w w'→(∀x,o x≠0→o' x=o x)→(∀x,rowOf (slV v1)≠some x→o' x=o x)→K w') :
  Raw Tryz.prog (Instr.mapUpdate 134 (.map (some mh)) (.string k) (slV v1)) w2 fun _ w'=>K w':=by
 have hs:=h.fr.size
 have FG:Fm (fun b=>rowOf (slV v)=some b) w w2:=Fm.grown g.grown fun b hb=>hb
 have hmh:rowOf (slV v)≠some mh:=fun e=>by have:=(h.lt mh (by rw [hvc mh e];decide)).1;have:=h.hl;omega
 have hmt:rowOf (slV v)≠some mt:=fun e=>by have:=(h.lt mt (by rw [hvc mt e];decide)).1;have:=h.tl;omega
 refine (h.hm.fm FG hmh).update mapTypeH keyTypeS k (slV v1) fun w' hm hf=>?_
 have FF:Fm (fun b=>b=mh∨rowOf (slV v)=some b) w w':=(FG.mono fun b _ e=>.inr e).trans (hf.mono fun b _ e=>.inl e)
 have hold:∀x,o x≠0→cl o (rowOf (slV v1)) 5 x=o x:=fun x hx=>cl_old hx
 have hmem:∀x,rowOf (slV v1)=some x→rowOf (slV v)=some x∨w.heap.size≤x:=fun x hx=>by
  rcases g.row with e | e | ⟨q,e,e2⟩
  ·rw [e] at hx;exact .inl hx
  ·rw [e] at hx;cases hx
  ·rw [e] at hx;cases hx;exact .inr e2
 have hz:∀x,w.heap.size≤x→o x=0:=fun x hx=>Classical.byContradiction fun e=>by have:=(h.lt x e).2;omega
 have h5:∀x,rowOf (slV v1)=some x→o x=0∨o x=5:=fun x hx=>(hmem x hx).elim (fun e=>.inr (hvc x e)) fun e=>.inl (hz x e)
 have hit1:hitF (st++[(k,x)]) k=hitF st k++[x]:=by rw [hitF_app];congr 1;unfold hitF;simp
 have hit2:∀k',k'≠k→hitF (st++[(k,x)]) k'=hitF st k':=fun k' hk=>by
  rw [hitF_app]
  have:hitF [(k,x)] k'=[]:=by unfold hitF;rw [List.filter_cons_of_neg (by simpa using fun e=>hk e.symm)];rfl
  rw [this,List.append_nil]
 have hgt:∀x,o x≠0→x≠mh:=fun x hx e=>by have:=(h.lt x hx).1;have:=h.hl;omega
 have hm1:∀x,rowOf (slV v1)=some x→x≠mh:=fun x hx e=>by
  rcases hmem x hx with q | q
  ·rw [e] at q;exact hmh q
  ·have:=h.hl;omega
 refine hK w' (cl o (rowOf (slV v1)) 5) ⟨?_,fun b hb=>?_,h.ne,h.tl,h.hl,h.tm.fm FF (fun e=>?_),fun m hm2 ht=>?_,?_,fun k'=>?_,fun k' y hy=>?_,fun a b hab=>?_⟩ FF hold fun y hy=>?_
 ·refine⟨FF.os.trans h.fr.os,FF.tape.trans h.fr.tape,FF.output.trans h.fr.output,Nat.le_trans hs FF.size,fun b hb hm=>(FF.block b (by omega) fun e=>?_).trans (h.fr.block b hb hm)⟩
  rcases e with e | e
  ·exact hm (.inr e)
  ·have:=(h.lt b (by rw [hvc b e];decide)).1;omega
 ·have hsz:=FF.size
  by_cases e:o b=0
  ·unfold cl at hb
   by_cases e2:rowOf (slV v1)=some b∧o b=0
   ·have q1:=(h1.lt b e2.1).2
    have q2:=hf.size
    rcases hmem b e2.1 with q | q
    ·rw [hvc b q] at e;cases e
    ·exact⟨by omega,by omega⟩
   ·rw [if_neg e2] at hb;exact absurd e hb
  ·have q:=h.lt b e;exact⟨q.1,by omega⟩
 ·rcases e with e | e
  ·exact h.ne e
  ·exact hmt e
 ·obtain⟨q1,q2⟩:=h.to m hm2 ht
  refine⟨own_fm q1 FF fun y hy e=>?_,fun y hy=>by rw [hold y (by rw [q2 y hy];decide)];exact q2 y hy⟩
  have:=q2 y hy
  rcases e with e | e
  ·exact hgt y (by rw [this];decide) e
  ·rw [hvc y e] at this;cases this
 ·have:mpHt (st++[(k,x)]) (fun k'=>if k'=k then v1 else hv k')=updS (mpHt st hv) k (some (slV v1)):=by
   funext k'
   unfold mpHt updS
   by_cases e:k'=k
   ·subst e
    dsimp only
    rw [if_pos rfl,hit1,if_neg (by simp),if_pos rfl]
   ·dsimp only
    rw [if_neg e,hit2 k' e,if_neg e]
  rw [this];exact hm
 ·by_cases e:k'=k
  ·subst e
   simp only [if_pos rfl]
   rw [hit1]
   exact own_fm h1 hf hm1
  ·simp only [if_neg e]
   rw [hit2 k' e]
   refine own_fm (h.ho k') FF fun y hy q=>?_
   rcases q with q | q
   ·exact hgt y (by rw [h.hc k' y hy];decide) q
   ·rcases hva k' e with q2 | q2
    ·rw [q2] at hy;cases hy
    ·exact q2 (hy.trans q.symm)
 ·by_cases e:k'=k
  ·subst e
   simp only [if_pos rfl] at hy
   exact cl_row hy (h5 y hy)
  ·simp only [if_neg e] at hy
   rw [hold y (by rw [h.hc k' y hy];decide)];exact h.hc k' y hy
 ·have key:∀c,c≠k→Apart (slV (hv c)) (slV v1):=fun c hc=>by
   rcases g.row with q | q | ⟨z,q,q2⟩
   ·rcases hva c hc with p | p
    ·exact .inl p
    ·exact .inr (by rw [q];exact p)
   ·cases hr:rowOf (slV (hv c)) with
    | none=>exact .inl hr
    | some y=>exact .inr (by rw [hr,q];simp)
   ·cases hr:rowOf (slV (hv c)) with
    | none=>exact .inl hr
    | some y =>
     refine .inr ?_
     rw [hr,q]
     intro p
     have p:y=z:=by simpa using p
     have:=(h.lt y (by rw [h.hc c y hr];decide)).2
     omega
  by_cases ea:a=k
  ·have eb:b≠k:=fun e=>hab (ea.trans e.symm)
   simp only [if_pos ea,if_neg eb]
   exact (key b eb).symm
  ·by_cases eb:b=k
   ·simp only [if_neg ea,if_pos eb];exact key a ea
   ·simp only [if_neg ea,if_neg eb];exact h.ha a b hab
 ·unfold cl;rw [if_neg (fun e=>hy e.1)]
end
end Go.Proofs.YtccplipiahdhiaaGreatDoor
set_option linter.unusedVariables false
namespace Go.Proofs
open Go.Shelf
def Tryz.lays315_ren:Go.Shelf.Ren:=⟨fun | 315=>131 | n=>n,fun | 9=>9 | 40=>179 | 4=>4 | 3=>3 | 0=>0 | 21=>21 | n=>n,fun | n=>n⟩
theorem Tryz.lays315:Go.Proofs.Lays.n315 Tryz.prog Tryz.lays315_ren:={
 mixed:=by kernel_rfl
 f315:=Tryz.func131.trans (congrArg some (by kernel_rfl))
 t0:=Tryz.underlying0
 a0:=Tryz.isAgg0
 z0:=Tryz.sizeOf0
 v0:=Tryz.zeroValue0
 t3:=Tryz.underlying3
 a3:=Tryz.isAgg3
 z3:=Tryz.sizeOf3
 v3:=Tryz.zeroValue3
 t4:=Tryz.underlying4
 a4:=Tryz.isAgg4
 z4:=Tryz.sizeOf4
 v4:=Tryz.zeroValue4
 t9:=Tryz.underlying9
 a9:=Tryz.isAgg9
 z9:=Tryz.sizeOf9
 v9:=Tryz.zeroValue9
 t21:=Tryz.underlying21
 a21:=Tryz.isAgg21
 z21:=Tryz.sizeOf21
 v21:=Tryz.zeroValue21
 t40:=Tryz.underlying179
 a40:=Tryz.isAgg179
 z40:=Tryz.sizeOf179
 v40:=Tryz.zeroValue179 }
end Go.Proofs
namespace Go.Proofs.YtccplipiahdhiaaGreatDoor
open Go.RowKit Go.Vc
open Go.Shelf
set_option linter.unusedVariables false
set_option linter.unusedSimpArgs false
set_option maxRecDepth 100000
def badR (r:Nat):Bool:=decide (r < 128) && !inW r
def oneF (s:ByteArray):Bool:=decide ((textS s).2=0) && (!decide (s=ByteArray.mk #[]) && (decide (s=lowB s) && decide (Lib.idxFunc badR true s < 0)))
def canS (ws:List ByteArray):Bool:=decide (0 < ws.length) && (decide (ws.length≤16) && !(ws.any fun w=>!oneF w))
theorem textS_ok {s:ByteArray} (h:(textS s).2=0):s.size≤16384:=by
 unfold textS at h
 split at h
 ·cases h
 ·omega
section
variable {w:World}{R:Ending→World→Prop}
theorem textA_k (s:ByteArray) (hT:Tabs w) (h:∀w',Below w.heap.size w w'→R (.returned (.tuple #[.int .i64 (textS s).1,.int .i64 (textS s).2])) w'):Calls Tryz.prog 67 #[.string s] w R:=by
 refine ok67 s ?_
 unfold F67
 exact (text_calls s w hT).mono fun e w' ⟨he,hw⟩=>by rw [he];exact⟨_,_,rfl,h w' hw⟩
theorem oneC {n:Nat} (hn:n≤1114111) (h:R (.returned (.bool (badR n))) w):Calls Tryz.prog 87 #[.int .i32 (n:Nat)] w R:=by
 refine ok87 n ?_
 unfold F87
 unfold badR at h
 refine brd (fun hlt=>?_) (fun hge=>?_)
 ·rw [decide_eq_true (by omega),Bool.true_and] at h
  exact⟨inR_u8 (by omega) (by omega),part_k (n:=n) rfl ⟨_,rfl,h⟩⟩
 ·rw [decide_eq_false (by omega),Bool.false_and] at h
  exact h
theorem one_calls (s:ByteArray) (hT:Tabs w) (h:∀w',Below w.heap.size w w'→R (.returned (.bool (oneF s))) w'):Calls Tryz.prog 50 #[.string s] w R:=by
 refine ok50 s ?_
 unfold F50
 unfold oneF at h
 refine textA_k s hT fun w1 hb1=>⟨_,_,rfl,?_⟩
 refine bre (fun h0=>?_) (fun h0=>?_)
 ·have h0':(textS s).2=0:=by omega
  have hsz:=textS_ok h0'
  rw [decide_eq_true h0',Bool.true_and] at h
  rw [bytes_eq,brnot]
  refine brd (fun h2=>?_) (fun h2=>?_)
  ·have:=h w1 hb1
   rw [decide_eq_true h2] at this;exact this
  ·rw [decide_eq_false h2] at h
   refine lower_calls s (by omega) fun w2 hb2=>⟨_,rfl,?_⟩
   have B2:=btr hb1 hb1.size hb2
   rw [bytes_eq]
   refine brd (fun h3=>?_) (fun h3=>?_)
   ·rw [decide_eq_true h3] at h
    refine ok86 s (.func (.func 87) #[] #[]) ?_
    unfold F86
    refine (Any.strings_indexFunc_grows Tryz.lays315 87 #[] (fun args w=>by kernel_rfl) badR true s w2 fun W x hx hb=>oneC hx ⟨rfl,.refl _ _⟩).mono fun e w' ⟨he,hw⟩=>?_
    subst he
    exact⟨_,rfl,_,rfl,h w' (btr B2 B2.size hw)⟩
   ·have:=h w2 B2
    rw [decide_eq_false h3] at this;exact this
 ·have:=h w1 hb1
  rw [decide_eq_false (by omega)] at this;exact this
theorem all_calls (ws:List ByteArray) (v:Sv) (hT:Tabs w) (hl:RdV LS w ws v) (h:∀w',Below w.heap.size w w'→R (.returned (.bool (canS ws))) w'):Calls Tryz.prog 54 #[.slice v.1 v.2.1 v.2.2] w R:=by
 refine ok54 v.1 v.2.1 v.2.2 ?_
 unfold F54
 unfold canS at h
 have hn:=hl.1
 refine brd (fun h0=>?_) (fun h0=>?_)
 ·rw [decide_eq_true (by omega),Bool.true_and] at h
  refine brd (fun h1=>?_) (fun h1=>?_)
  ·rw [decide_eq_true (by omega),Bool.true_and] at h
   refine containsFS ws v _ (fun w=>!oneF w) hl (fun y hy w1 K R' hb hK=>⟨by kernel_rfl,?_⟩) fun w' hb=>⟨_,rfl,h w' hb⟩
   refine ok95 y ?_
   unfold F95
   exact one_calls y (hT.keep hb) fun w2 hb2=>⟨_,rfl,hK w2 hb2⟩
  ·have:=h w (.refl _ _)
   rw [decide_eq_false (by omega)] at this;exact this
 ·have:=h w (.refl _ _)
  rw [decide_eq_false (by omega)] at this;exact this
end
end Go.Proofs.YtccplipiahdhiaaGreatDoor
namespace Go.Proofs.YtccplipiahdhiaaGreatDoor
open Go.RowKit Go.Vc
set_option linter.unusedVariables false
set_option linter.unusedSimpArgs false
set_option maxRecDepth 100000
--PURE
section
variable {s:ByteArray}{i j k e f n:Nat}
theorem low_size:(lowB s).size=s.size:=by
 show ((s.data.toList.map lowU).toArray).size=s.data.size
 simp
theorem ext_size (he:e≤s.size):(lowB (s.extract i e)).size=e-i:=by
 rw [low_size,ByteArray.size_extract];omega
theorem low_get (he:e≤s.size) (hk:i+k < e):(lowB (s.extract i e)).get! k=lowU (s.get! (i+k)):=by
 have h0:s.data.size=s.size:=rfl
 have h1:k < (((s.extract i e).data.toList.map lowU).toArray).size:=by simp [ByteArray.data_extract];omega
 show ((((s.extract i e).data.toList.map lowU).toArray)[k]!)=lowU (s.data[i+k]!)
 rw [getElem!_pos (((s.extract i e).data.toList.map lowU).toArray) k h1,getElem!_pos s.data (i+k) (by omega)]
 simp [ByteArray.data_extract]
theorem lowW_hi {c:Nat} (h:128≤c):lowW c=c:=by unfold lowW;rw [if_neg (by omega)]
theorem lowU_hi {b:UInt8} (h:128≤b.toNat):lowU b=b:=by
 apply UInt8.toNat_inj.1;rw [lowU_nat,lowW_hi h]
theorem lowU_low (b:UInt8):lowU (lowU b)=lowU b:=by
 apply UInt8.toNat_inj.1;rw [lowU_nat,lowU_nat];unfold lowW;split <;> (try split) <;> omega
theorem lowB_low (s:ByteArray):lowB s=lowB (lowB s):=by
 unfold lowB
 simp [Function.comp_def,lowU_low]
theorem isW_get (h:isW s i=true):i < s.size∧inW (s.get! i).toNat=true:=by
 have hi:=isW_lt h
 rw [isW_at hi] at h
 refine⟨hi,?_⟩
 have:s.get! i=s[i]:=by show (s.data[i]!)=s.data[i];rw [getElem!_pos]
 rw [this];exact h
theorem isW_hi (hi:i < s.size) (h:128≤(s.get! i).toNat):isW s i=true:=by
 rw [isW_at hi]
 have:s.get! i=s[i]:=by show (s.data[i]!)=s.data[i];rw [getElem!_pos]
 rw [this] at h
 unfold inW
 rw [decide_eq_true_eq];omega
theorem runBy:∀{m i:Nat},s.size-i=m→∀{j},i≤j→j < runE s i→isW s j=true
 | m,i,hm,j,h1,h2=>by
  by_cases hw:isW s i=true
  ·have:=isW_lt hw
   by_cases e:j=i
   ·rw [e];exact hw
   ·rw [runE_t hw] at h2
    exact runBy (m:=s.size-(i+1)) rfl (by omega) h2
  ·have hw:isW s i=false:=by simpa using hw
   rw [runE_f hw] at h2;omega
termination_by m=>m
theorem cont_hi:∀(k j r:Nat) {x:Nat},contR s i k j r=some x→∀q,j≤q→q < j+k→128≤(s.get! (i+q)).toNat
 | 0,j,r,x,h,q,h1,h2=>by omega
 | k+1,j,r,x,h,q,h1,h2=>by
  rw [contR] at h
  split at h
  ·cases h
  ·by_cases e:q=j
   ·subst e;omega
   ·exact cont_hi k (j+1) _ h q (by omega) (by omega)
theorem at_facts (hn:(atR s i).2=n) (h0:n≠0):i+n≤s.size∧n=(sizeR (s.get! i).toNat).1∧(∀q,1≤q→q < n→128≤(s.get! (i+q)).toNat)∧(2≤n→128≤(s.get! i).toNat):=by
 unfold atR at hn
 split at hn
 ·exact absurd hn.symm h0
 ·rename_i hc
  split at hn
  ·exact absurd hn.symm h0
  ·rename_i r hr
   split at hn
   ·dsimp only at hn
    refine⟨by omega,hn.symm,fun q h1 h2=>cont_hi _ _ _ hr q h1 (by omega),fun h2=>?_⟩
    unfold sizeR at hn
    split at hn
    ·dsimp only at hn;omega
    ·omega
   ·exact absurd hn.symm h0
theorem cont_eq {v:ByteArray}:∀(k q r:Nat),(∀x,q≤x→x < q+k→v.get! (j+x)=s.get! (i+x))→contR v j k q r=contR s i k q r
 | 0,_,_,_=>rfl
 | k+1,q,r,h=>by
  rw [contR,contR,h q (Nat.le_refl _) (by omega)]
  split
  ·rfl
  ·exact cont_eq k (q+1) _ fun x h1 h2=>h x (by omega) (by omega)
theorem at_low (he:e≤s.size) (hn:(atR s (i+k)).2=n) (h0:n≠0) (hw:inW (s.get! (i+k)).toNat=true) (hk:i+k+n≤e):(atR (lowB (s.extract i e)) k).2=n:=by
 obtain⟨f1,f2,f3,f4⟩:=at_facts hn h0
 have hsz:=ext_size (i:=i) he
 have g0:=low_get (i:=i) (k:=k) he (by omega)
 by_cases h2:128≤(s.get! (i+k)).toNat
 ·have g1:(lowB (s.extract i e)).get! k=s.get! (i+k):=by rw [g0,lowU_hi h2]
  have key:atR (lowB (s.extract i e)) k=atR s (i+k):=by
   unfold atR
   rw [g1,hsz,if_neg (by omega),if_neg (by omega),cont_eq (i:=i+k) (j:=k) _ _ _ fun x h3 h4=>?_]
   have h5:=f3 x h3 (by omega)
   have:=low_get (i:=i) (k:=k+x) he (by omega)
   rw [←Nat.add_assoc] at this
   rw [this,lowU_hi h5]
  rw [key,hn]
 ·have hs1:sizeR (s.get! (i+k)).toNat=(1,(s.get! (i+k)).toNat):=by unfold sizeR;rw [if_pos (by omega)]
  rw [hs1] at f2
  dsimp only at f2
  subst f2
  unfold inW at hw
  rw [decide_eq_true_eq] at hw
  have g1:((lowB (s.extract i e)).get! k).toNat=lowW (s.get! (i+k)).toNat:=by rw [g0,lowU_nat]
  have hl:lowW (s.get! (i+k)).toNat < 128∧32≤lowW (s.get! (i+k)).toNat:=by unfold lowW;split <;> omega
  unfold atR
  rw [g1,hsz]
  generalize lowW (s.get! (i+k)).toNat=c at *
  have hs2:sizeR c=(1,c):=by unfold sizeR;rw [if_pos hl.1]
  rw [hs2]
  dsimp only
  rw [if_neg (by omega)]
  simp only [Nat.sub_self,contR]
  rw [if_pos ⟨by unfold canR;rw [decide_eq_true_eq];omega,by unfold lenR;rw [if_pos hl.1]⟩]
theorem bad_reach:∀(f i:Nat),(badF s f i).2=0→s.size < i+f→i≤j→j≤s.size→(i < j→(s.get! (j-1)).toNat < 128)→∃f',(badF s f' j).2=0∧s.size < j+f'
 | 0,i,_,h1,h2,h3,_=>by omega
 | f+1,i,h,h1,h2,h3,h4=>by
  by_cases e:j=i
  ·subst e;exact⟨f+1,h,h1⟩
  ·rw [badF,if_neg (by omega)] at h
   split at h
   ·cases h
   ·rename_i hn
    obtain⟨f1,f2,f3,f4⟩:=at_facts rfl hn
    by_cases h5:i+(atR s i).2≤j
    ·exact bad_reach f _ h (by omega) h5 h3 fun _=>h4 (by omega)
    ·exfalso
     have h6:=h4 (by omega)
     by_cases h7:j=i+1
     ·have:=f4 (by omega)
      rw [h7,Nat.add_sub_cancel] at h6;omega
     ·have:=f3 (j-1-i) (by omega) (by omega)
      rw [show i+(j-1-i)=j-1 by omega] at this;omega
theorem bad_low (he:e≤s.size) (hin:∀q,i≤q→q < e→isW s q=true) (hend:e < s.size→isW s e=false):∀(g f k:Nat),(badF s f (i+k)).2=0→s.size < i+k+f→i+k≤e→(badF (lowB (s.extract i e)) g k).2=0
 | 0,_,_,_,_,_=>rfl
 | g+1,0,_,_,h1,h2=>by omega
 | g+1,f+1,k,h,h1,h2=>by
  have hsz:=ext_size (i:=i) he
  rw [badF,hsz]
  by_cases h3:e-i≤k
  ·rw [if_pos h3]
  ·rw [if_neg h3]
   rw [badF,if_neg (by omega)] at h
   split at h
   ·cases h
   ·rename_i hn
    obtain⟨f1,f2,f3,f4⟩:=at_facts rfl hn
    have h4:i+k+(atR s (i+k)).2≤e:=by
     rcases Nat.lt_or_ge e (i+k+(atR s (i+k)).2) with h5 | h5
     ·exfalso
      have h6:=hend (by omega)
      have h7:=f3 (e-(i+k)) (by omega) (by omega)
      rw [show i+k+(e-(i+k))=e by omega] at h7
      rw [isW_hi (by omega) h7] at h6;cases h6
     ·exact h5
    have h5:=at_low he rfl hn (isW_get (hin (i+k) (by omega) (by omega))).2 h4
    rw [h5,if_neg hn]
    exact bad_low he hin hend g f (k+(atR s (i+k)).2) (by rw [←Nat.add_assoc];exact h) (by omega) (by omega)
theorem words_mem:∀{m i:Nat},s.size-i=m→∀{v:ByteArray}{a:Nat},(v,a)∈wordsF s i→(i=0∨isW s (i-1)=false∨isW s i=false)→isW s a=true∧v=lowB (s.extract a (runE s a))∧(a=0∨isW s (a-1)=false)
 | m,i,hm,v,a,h,hi=>by
  by_cases hw:isW s i=true
  ·have hlt:=isW_lt hw
   rw [wordsF_t hw] at h
   rcases List.mem_cons.1 h with h | h
   ·cases h
    refine⟨hw,rfl,?_⟩
    rcases hi with hi | hi | hi
    ·exact .inl hi
    ·exact .inr hi
    ·rw [hi] at hw;cases hw
   ·have:=runE_gt hw
    exact words_mem (m:=s.size-runE s i) rfl h (.inr (.inr (runE_end s i)))
  ·have hw:isW s i=false:=by simpa using hw
   by_cases hlt:i < s.size
   ·rw [wordsF_f hw] at h
    exact words_mem (m:=s.size-(i+1)) rfl h (.inr (.inl hw))
   ·rw [wordsF_end (by omega)] at h;cases h
termination_by m=>m
theorem isW_off (hi:i < s.size) (h:isW s i=false):(s.get! i).toNat < 128:=by
 rcases Nat.lt_or_ge (s.get! i).toNat 128 with h2 | h2
 ·exact h2
 ·rw [isW_hi hi h2] at h;cases h
theorem dec_low {n b0 b1 b2 b3:Nat}:b0 < 128∧(Lib.decodeN n b0 b1 b2 b3).1=b0∨128≤(Lib.decodeN n b0 b1 b2 b3).1:=by
 unfold Lib.decodeN
 by_cases h:b0 < 128
 ·rw [if_pos h];exact .inl ⟨h,rfl⟩
 ·rw [if_neg h]
  right
  repeat' split
  all_goals simp only
  all_goals omega
theorem idx_none {v:ByteArray} (h:∀q,q < v.size→inW (v.get! q).toNat=true):∀(f p:Nat),Lib.idxFuncFrom badR true v f p=-1
 | 0,_=>rfl
 | f+1,p=>by
  rw [Lib.idxFuncFrom]
  split
  ·rename_i hp
   have hq:=h p hp
   have:badR (Utf8.decode v p).1=false:=by
    rw [Lib.decode_at]
    unfold badR
    rcases dec_low (n:=v.size-p) (b0:=(v.get! p).toNat) (b1:=(v.get! (p+1)).toNat) (b2:=(v.get! (p+2)).toNat) (b3:=(v.get! (p+3)).toNat) with ⟨h1,h2⟩ | h1
    ·rw [h2,hq];simp
    ·rw [decide_eq_false (by omega)];rfl
   rw [this,if_neg (by decide)]
   exact idx_none h f _
  ·rfl
theorem inW_low {c:Nat} (h:inW c=true):inW (lowW c)=true:=by
 unfold inW lowW at *
 rw [decide_eq_true_eq] at *
 split <;> omega
theorem word_one {v:ByteArray}{a:Nat} (hs:(textS s).2=0) (h:(v,a)∈wordsF s 0):oneF v=true:=by
 have hsz:=textS_ok hs
 obtain⟨h1,rfl,h2⟩:=words_mem rfl h (.inl rfl)
 have hlt:=isW_lt h1
 have hgt:=runE_gt h1
 have hle:=runE_le s a (by omega)
 have hend:=runE_end s a
 have hin:∀q,a≤q→q < runE s a→isW s q=true:=fun q=>runBy rfl
 generalize runE s a=e at *
 have hb:(badF s (s.size+1) 0).2=0:=by unfold textS at hs;rwa [if_neg (by omega)] at hs
 obtain⟨f,hf1,hf2⟩:=bad_reach (j:=a) (s.size+1) 0 hb (by omega) (by omega) (by omega) fun h0=>isW_off (by omega) (h2.resolve_left (by omega))
 have es:=ext_size (i:=a) hle
 have ht:(textS (lowB (s.extract a e))).2=0:=by
  unfold textS
  rw [if_neg (by omega)]
  exact bad_low hle hin (fun _=>hend) _ f 0 hf1 hf2 (by omega)
 unfold oneF
 rw [Bool.and_eq_true,Bool.and_eq_true,Bool.and_eq_true,decide_eq_true_eq,decide_eq_true_eq,decide_eq_true_eq,Bool.not_eq_true',decide_eq_false_iff_not]
 refine⟨ht,fun h0=>?_,lowB_low _,?_⟩
 ·have:=congrArg ByteArray.size h0
  rw [es] at this
  have h9:(ByteArray.mk #[]).size=0:=rfl
  omega
 ·unfold Lib.idxFunc
  rw [idx_none fun q hq=>?_]
  ·decide
  ·rw [es] at hq
   rw [low_get hle (by omega),lowU_nat]
   exact inW_low (isW_get (hin (a+q) (by omega) (by omega))).2
end
set_option maxRecDepth 100000
section
variable {s v:ByteArray}
theorem dec_step {n b0 b1 b2 b3:Nat}:1≤(Lib.decodeN n b0 b1 b2 b3).2∧(Lib.decodeN n b0 b1 b2 b3).2≤4∧(2≤(Lib.decodeN n b0 b1 b2 b3).2→128≤b1)∧(3≤(Lib.decodeN n b0 b1 b2 b3).2→128≤b2)∧(4≤(Lib.decodeN n b0 b1 b2 b3).2→128≤b3):=by
 unfold Lib.decodeN
 repeat' split
 all_goals dsimp only
 all_goals omega
theorem idx_all:∀(f p:Nat),v.size≤p+f→Lib.idxFuncFrom badR true v f p=-1→∀q,p≤q→q < v.size→inW (v.get! q).toNat=true
 | 0,p,h,_,q,h1,h2=>by omega
 | f+1,p,h,hi,q,h1,h2=>by
  have h128:∀c:Nat,128≤c→c < 256→inW c=true:=fun c hc hc2=>by unfold inW;rw [decide_eq_true_eq];omega
  have hlt:∀j,(v.get! j).toNat < 256:=fun j=>(v.get! j).toNat_lt
  rw [Lib.idxFuncFrom,if_pos (by omega)] at hi
  split at hi
  ·omega
  ·rename_i hb
   rw [Lib.decode_at] at hi hb
   obtain⟨d1,d2,d3,d4,d5⟩:=dec_step (n:=v.size-p) (b0:=(v.get! p).toNat) (b1:=(v.get! (p+1)).toNat) (b2:=(v.get! (p+2)).toNat) (b3:=(v.get! (p+3)).toNat)
   by_cases hq:p+(Lib.decodeN (v.size-p) (v.get! p).toNat (v.get! (p+1)).toNat (v.get! (p+2)).toNat (v.get! (p+3)).toNat).2≤q
   ·exact idx_all f _ (by omega) hi q hq h2
   ·by_cases e0:q=p
    ·subst e0
     by_cases hlow:(v.get! q).toNat < 128
     ·have he:(Lib.decodeN (v.size-q) (v.get! q).toNat (v.get! (q+1)).toNat (v.get! (q+2)).toNat (v.get! (q+3)).toNat).1=(v.get! q).toNat:=by unfold Lib.decodeN;rw [if_pos hlow]
      rw [he] at hb
      unfold badR at hb
      rw [decide_eq_true hlow,Bool.true_and] at hb
      simpa using hb
     ·exact h128 _ (by omega) (hlt q)
    ·rcases (show q=p+1∨q=p+2∨q=p+3 by omega) with e | e | e
     ·subst e;exact h128 _ (d3 (by omega)) (hlt _)
     ·subst e;exact h128 _ (d4 (by omega)) (hlt _)
     ·subst e;exact h128 _ (d5 (by omega)) (hlt _)
theorem one_words (h:oneF s=true):(textS s).2=0∧wordsF s 0=[(s,0)]:=by
 unfold oneF at h
 rw [Bool.and_eq_true,Bool.and_eq_true,Bool.and_eq_true,decide_eq_true_eq,decide_eq_true_eq,decide_eq_true_eq,Bool.not_eq_true',decide_eq_false_iff_not] at h
 obtain⟨h1,h2,h3,h4⟩:=h
 have hi:Lib.idxFuncFrom badR true s s.size 0=-1:=by
  rcases Lib.idxFuncFrom_range badR true s s.size 0 with q | ⟨q,_⟩
  ·exact q
  ·unfold Lib.idxFunc at h4;omega
 have hall:=idx_all s.size 0 (by omega) hi
 have hpos:0 < s.size:=by
  refine Nat.pos_of_ne_zero fun e=>h2 ?_
  have h0:s.data.size=0:=e
  exact ByteArray.ext (Array.eq_empty_of_size_eq_zero h0)
 have hW:∀q,q < s.size→isW s q=true:=fun q hq=>by
  rw [isW_at hq]
  have:s.get! q=s[q]:=by show (s.data[q]!)=s.data[q];rw [getElem!_pos]
  rw [←this];exact hall q (Nat.zero_le _) hq
 have he:runE s 0=s.size:=by
  have h5:=runE_le s 0 (by omega)
  rcases Nat.lt_or_ge (runE s 0) s.size with h6 | h6
  ·have:=runE_end s 0
   rw [hW _ h6] at this;cases this
  ·omega
 refine⟨h1,?_⟩
 rw [wordsF_t (hW 0 hpos),he,wordsF_end (Nat.le_refl _)]
 have:s.extract 0 s.size=s:=by
  apply ByteArray.ext
  rw [ByteArray.data_extract]
  exact Array.extract_size
 rw [this,←h3]
theorem one_iff:oneF s=true↔(textS s).2=0∧∃a,wordsF s 0=[(s,a)] :=
 ⟨fun h=>⟨(one_words h).1,_,(one_words h).2⟩,fun⟨h1,a,h2⟩=>word_one (a:=a) h1 (by rw [h2];simp)⟩
end
set_option maxRecDepth 100000
set_option maxRecDepth 100000
structure IxR (w:World) (gx gd mt mh:Nat) (D:Im) (o:Nat→Nat) (S:PS) (nv:Sv) (tv:Nat→Sv) (hv:ByteArray→Sv):Prop where
 wf:Wf D
 sd:S.D=D
 pm:PM w o ⟨gd,98,[]⟩ S
 blk:Blk w gx #[.pointer (some ⟨gd,0,none⟩),slV nv,.map (some mt),.map (some mh)] 136
 nod:RdV LHn w (allD' D) nv
 tm:Mp .u64 w mt (mpTx (slA D.sl) (allD' D) tv)
 to:∀n∈allD' D,isT (slA D.sl) n=true→RdV LS w (wsF (slA D.sl) n) (tv n)
 hm:Ms w mh (mpHt (stsF (slA D.sl) (allD' D)) hv)
 ho:∀k,RdV LHt w (hitF (stsF (slA D.sl) (allD' D)) k) (hv k)
def Ix (w:World) (gx:Nat) (D:Im):Prop:=∃gd mt mh o S nv tv hv,IxR w gx gd mt mh D o S nv tv hv
section
variable {w w0 w1:World}{o:Nat→Nat}{gx gd mt mh:Nat}{D:Im}{S:PS}{nv:Sv}{tv:Nat→Sv}{hv:ByteArray→Sv}{R:Ending→World→Prop}{θ:Th}
theorem IxR.keep (h:IxR w gx gd mt mh D o S nv tv hv) (hb:Below w.heap.size w w1):IxR w1 gx gd mt mh D o S nv tv hv :=
 ⟨h.wf,h.sd,h.pm.below hb,h.blk.keep hb,h.nod.keep hb,h.tm.fm (M:=fun _=>False) (.below hb) (fun h=>h),fun n hn ht=>(h.to n hn ht).keep hb,h.hm.fm (M:=fun _=>False) (.below hb) (fun h=>h),fun k=>(h.ho k).keep hb⟩
theorem Ix.keep (h:Ix w gx D) (hb:Below w.heap.size w w1):Ix w1 gx D:=by
 obtain⟨gd,mt,mh,o,S,nv,tv,hv,h⟩:=h
 exact⟨gd,mt,mh,o,S,nv,tv,hv,h.keep hb⟩
theorem All0_calls (h:PM w o θ S) (hS:WfS S.D.sl) (hA:WfA (slA S.D.sl) S.D.roots []) (hK:∀v w',Below w.heap.size w w'→Own LHn w' w.heap.size 65 (slV v) (allD' S.D)→R (.returned (.tuple #[slV v,.int .i64 0])) w') :
  Calls Tryz.prog 56 #[.pointer (some ⟨θ.g,0,none⟩),.int .u64 0] w R:=by
 refine ok56 (some ⟨θ.g,0,none⟩) 0 ?_
 unfold F56
 refine bre (fun _=>?_) (fun h0=>absurd rfl h0)
 obtain⟨nv,rv,hd⟩:=h.doc
 have c1:w.cell? ⟨θ.g,1,none⟩=some (.slice rv.1 rv.2.1 rv.2.2):=by rw [hd.blk.cell];rfl
 simp only [NonNil_some,Addr.add_mk,Nat.zero_add,c1,lds]
 obtain⟨q1,q2⟩:=rdO hd.r1
 rw [List.length_map] at q1
 have hfew:=rootsAll_few hS hA
 refine allP_calls h hA 65 (v:=rv) (cc:=1) (xs:=[]) q1 q2 h.rts.2 (fun x hx=>by
  obtain⟨_,u,u1,u2⟩:=hA.root.2 x hx
  exact⟨u,u1,.succ (hA.ne0 u1) u1 (by rw [u2];exact .zero)⟩) (by omega) (.refl _ _) (Own.nil _ _ _ _) (by simp only [List.length_nil];omega) fun A' n' c' w' hb ho=>⟨_,_,_,rfl,?_⟩
 rw [List.nil_append] at ho
 exact hK (A',n',c') w' hb ho
theorem rdHeld {α:Type}{L:Lay α}{A:Option Addr}{c:Nat}{xs:List α}{Q:World→Prop} (h:Rd L w A c xs) (hS:∀w1,Q w1→Rd L w1 A c xs) {n:Nat} (hn:n=xs.length) {i:Int} (h0:0≤i) (h1:i < n) {sz:Nat} (hsz:sz=L.n) {K:Addr→Prop}
  (hK:∀b o,(∀j u,(L.cells (xs[i.toNat]'(by omega)))[j]?=some u→Held Q ⟨b,o+j,none⟩ u)→K ⟨b,o,none⟩):IdxA A n i sz K:=by
 subst hsz
 have hlt:i.toNat < xs.length:=by omega
 obtain⟨b,o,hA,hc⟩:=h.at i.toNat hlt
 subst hA
 rw [IdxA_some h0 h1,Addr.add_mk]
 refine hK _ _ fun j u hj w1 hw=>?_
 obtain⟨b',o',hA',hc'⟩:=(hS w1 hw).at i.toNat hlt
 simp only [Option.some.injEq,Addr.mk.injEq,and_true] at hA'
 obtain⟨rfl,rfl⟩:=hA'
 exact hc' j u hj
theorem hits_loop {w6:World}{N:List Nat}{n:Nat}{st0:List (ByteArray × Hit)}{A:Nat→Option Sl}{u u2:Sv}{l:List (ByteArray × Nat)} (hl:l.length≤16384) (hst:st0.length≤67108864) {o:Nat→Nat} (h:IxO w6 w o mt mh A N st0 tv hv) {xs:List Value}
  (hgx:gx < w6.heap.size) (hgt:gx≠mt∧gx≠mh) (hB:Blk w gx #[.pointer (some ⟨gd,0,none⟩),slV nv,.map (some mt),.map (some mh)] 136)
  (hu:Own LS w w6.heap.size 9 (slV u) (l.map (·.1))) (hu2:Own LI w w6.heap.size 3 (slV u2) (l.map fun p=>(p.2:Int))) (huc:∀x,rowOf (slV u)=some x→o x≠5) (huc2:∀x,rowOf (slV u2)=some x→o x=0) {J:World→Prop}
  (hJ:∀w' o' hv',IxO w6 w' o' mt mh A N (st0++numF n 0 l) tv hv'→Blk w' gx #[.pointer (some ⟨gd,0,none⟩),slV nv,.map (some mt),.map (some mh)] 136→J w') :
  ∃(I:Int→World→Prop) (m:Int→World→Nat),I (0:Int) w ∧
   ∀(x67:Int) (w1_16:World),I x67 w1_16→F26_l13 ⟨gx,0,none⟩ J (n:Nat) u.1 u.2.1 u2.1 u2.2.1 (fun x67' w2=>I x67' w2∧m x67' w2 < m x67 w1_16) x67 w1_16 R:=by
 obtain⟨z1,z2⟩:=rdO hu
 obtain⟨y1,y2⟩:=rdO hu2
 rw [List.length_map] at z1 y1
 refine⟨fun i w'=>∃(k:Nat) (o':Nat→Nat) (hv':ByteArray→Sv),i=k∧k≤l.length∧IxO w6 w' o' mt mh A N (st0++numF n 0 (l.take k)) tv hv'∧Blk w' gx #[.pointer (some ⟨gd,0,none⟩),slV nv,.map (some mt),.map (some mh)] 136 ∧
   Own LS w' w6.heap.size 9 (slV u) (l.map (·.1))∧Own LI w' w6.heap.size 3 (slV u2) (l.map fun p=>(p.2:Int))∧(∀x,rowOf (slV u)=some x→o' x≠5)∧(∀x,rowOf (slV u2)=some x→o' x≠5),
  fun i _=>l.length-i.toNat,⟨0,o,hv,rfl,by omega,by simpa [numF] using h,hB,hu,hu2,huc,fun x hx=>by rw [huc2 x hx];decide⟩,?_⟩
 rintro _ w1 ⟨k,o1,hv1,rfl,hk,h1,b1,u1,v1,c1,d1⟩
 unfold F26_l13
 refine brd (fun hlt=>?_) (fun hge=>?_)
 ·have hk2:k < l.length:=by omega
  refine⟨fun w'=>∃(o':Nat→Nat) (hv':ByteArray→Sv),IxO w6 w' o' mt mh A N (st0++numF n 0 (l.take (k+1))) tv hv'∧Blk w' gx #[.pointer (some ⟨gd,0,none⟩),slV nv,.map (some mt),.map (some mh)] 136 ∧
   Own LS w' w6.heap.size 9 (slV u) (l.map (·.1))∧Own LI w' w6.heap.size 3 (slV u2) (l.map fun p=>(p.2:Int))∧(∀x,rowOf (slV u)=some x→o' x≠5)∧(∀x,rowOf (slV u2)=some x→o' x≠5),?_,?_⟩
  ·rintro w' ⟨o',hv',q⟩
   exact⟨inR_i64 (by omega) (by omega),⟨k+1,o',hv',by simp,by omega,q⟩,(by first | omega | (dsimp only;omega))⟩
  refine (rdO u1).2.str (by rw [List.length_map,z1]) rfl (k:=k) (by rw [List.length_map];exact hk2) fun b oo c0=>?_
  rw [List.getElem_map] at c0
  simp only [c0,lds]
  have hdr:Below w1.heap.size w1 w1.drew:=(Below.refl _ _).drew
  refine⟨fun w'=>Blk w' gx #[.pointer (some ⟨gd,0,none⟩),slV nv,.map (some mt),.map (some mh)] 136∧Rd LI w' u2.1 u2.2.2 (l.map fun p=>(p.2:Int)),⟨b1.keep hdr,((rdO v1).2).keep hdr⟩,?_⟩
  simp only [Addr.add_mk,Nat.zero_add]
  refine⟨_,fun w' hw=>by rw [hw.1.cell];rfl,_,fun w' hw=>by rw [hw.1.cell];rfl,?_⟩
  refine rdHeld (Q:=fun w'=>Blk w' gx #[.pointer (some ⟨gd,0,none⟩),slV nv,.map (some mt),.map (some mh)] 136∧Rd LI w' u2.1 u2.2.2 (l.map fun p=>(p.2:Int))) (rdO v1).2 (fun w' hw=>hw.2) (by rw [List.length_map,y1]) (by omega) (by omega) rfl fun b2 o2 cc=>?_
  have cc:=cc 0 _ rfl
  simp only [Int.toNat_natCast,List.getElem_map,Nat.add_zero] at cc
  refine⟨_,cc,?_⟩
  have hnum:numF n 0 (l.take (k+1))=numF n 0 (l.take k)++[(l[k].1,(n,k,l[k].2))]:=by
   rw [List.take_succ_eq_append_getElem hk2,numF_app,List.length_take,Nat.min_eq_left hk]
   simp [numF]
  have hh:=h1.below hdr
  have hb1l:=b1.lt
  have hsz1:=h1.fr.size
  have fin:∀(w2 w3:World) (v v1':Sv),Below w1.heap.size w1 w2→Own LHt w2 0 67 (slV v) (hitF (st0++numF n 0 (l.take k)) l[k].1)→(∀x,rowOf (slV v)=some x→o1 x=5)→(∀k',k'≠l[k].1→Apart (slV (hv1 k')) (slV v)) →
    Own LHt w3 0 67 (slV v1') (hitF (st0++numF n 0 (l.take k)) l[k].1++[(n,k,l[k].2)])→Grew 0 w2 w3 (slV v) (slV v1') →
    (Blk w3 gx #[.pointer (some ⟨gd,0,none⟩),slV nv,.map (some mt),.map (some mh)] 136∧Rd LI w3 u2.1 u2.2.2 (l.map fun p=>(p.2:Int)))∧Raw Tryz.prog (Instr.mapUpdate 134 (.map (some mh)) (.string l[k].1) (slV v1')) w3 fun _ w'=>∃(o':Nat→Nat) (hv':ByteArray→Sv),IxO w6 w' o' mt mh A N (st0++numF n 0 (l.take (k+1))) tv hv'∧Blk w' gx #[.pointer (some ⟨gd,0,none⟩),slV nv,.map (some mt),.map (some mh)] 136 ∧
   Own LS w' w6.heap.size 9 (slV u) (l.map (·.1))∧Own LI w' w6.heap.size 3 (slV u2) (l.map fun p=>(p.2:Int))∧(∀x,rowOf (slV u)=some x→o' x≠5)∧(∀x,rowOf (slV u2)=some x→o' x≠5):=by
   intro w2 w3 v v1' hb2 ow oc oa ow1 g
   have h2:=h1.below hb2
   have b2:=b1.keep hb2
   have FG:Fm (fun b=>rowOf (slV v)=some b) w2 w3:=Fm.grown g.grown fun b hb=>hb
   have hnx:∀x,o1 x≠5→rowOf (slV v)≠some x:=fun x hx e=>hx (oc x e)
   have hox:∀x,o1 x≠0→w6.heap.size≤x:=fun x hx=>(h1.lt x hx).1
   have hgv:rowOf (slV v)≠some gx:=fun e=>by have:=hox gx (by rw [oc gx e];decide);omega
   refine⟨⟨FG.blk b2 hgv,(rdO (own_fm (v1.keep hb2) FG fun x hx e=>hnx x (d1 x hx) e)).2⟩,?_⟩
   refine h2.hit ow oc oa g ow1 fun w' o' h' ff hs1 hs2=>⟨o',fun k'=>if k'=l[k].1 then v1' else hv1 k',?_,?_,?_,?_,fun x hx=>?_,fun x hx=>?_⟩
   ·rw [hnum,←List.append_assoc];exact h'
   ·exact ff.blk b2 fun e=>by
     rcases e with e | e
     ·exact hgt.2 e
     ·exact hgv e
   ·exact own_fm (u1.keep hb2) ff fun x hx e=>by
     rcases e with e | e
     ·have:=(u1.lt x hx).1;have:=h1.hl;omega
     ·exact hnx x (c1 x hx) e
   ·exact own_fm (v1.keep hb2) ff fun x hx e=>by
     rcases e with e | e
     ·have:=(v1.lt x hx).1;have:=h1.hl;omega
     ·exact hnx x (d1 x hx) e
   ·have hxl:=(u1.lt x hx).2
    by_cases e:o1 x=0
    ·rw [hs2 x fun e2=>?_,e];decide
     rcases g.row with q | q | ⟨z,q,q2⟩
     ·rw [q] at e2;rw [oc x e2] at e;cases e
     ·rw [q] at e2;cases e2
     ·rw [q] at e2;cases e2;have:=hb2.size;omega
    ·rw [hs1 x e];exact c1 x hx
   ·have hxl:=(v1.lt x hx).2
    by_cases e:o1 x=0
    ·rw [hs2 x fun e2=>?_,e];decide
     rcases g.row with q | q | ⟨z,q,q2⟩
     ·rw [q] at e2;rw [oc x e2] at e;cases e
     ·rw [q] at e2;cases e2
     ·rw [q] at e2;cases e2;have:=hb2.size;omega
    ·rw [hs1 x e];exact d1 x hx
  have hlen:(hitF (st0++numF n 0 (l.take k)) l[k].1).length≤67125248:=by
   unfold hitF
   rw [List.length_map]
   refine Nat.le_trans (List.length_filter_le _ _) ?_
   rw [List.length_append,numF_len,List.length_take];omega
  constructor
  ·refine hh.look l[k].1 fun v ow oc oa=>⟨_,_,_,rfl,⟨b1.keep hdr,((rdO v1).2).keep hdr⟩,?_⟩
   refine ap1S (L:=LHt) (x:=(n,k,l[k].2)) (base:=0) (.agg #[.int .u64 0,.int .i64 0,.int .i64 0]) 24 rfl (by kernel_rfl) (by kernel_rfl) (by kernel_rfl) ow (Nat.zero_le _) (by omega) (by simp [maxLen];omega) (fun w' hb=>⟨(b1.keep hdr).keep hb,(((rdO v1).2).keep hdr).keep hb⟩) fun A' c' w4 o4 g4=>⟨A',_,c',rfl,?_⟩
   exact fin w1.drew w4 v (A',_,c') hdr ow oc oa o4 g4
  ·refine al fun g90 w2 hb2 b90 hge=>⟨⟨(b1.keep hdr).keep hb2,(((rdO v1).2).keep hdr).keep hb2⟩,?_⟩
   refine (hh.below hb2).look l[k].1 fun v ow oc oa=>⟨_,_,_,rfl,⟨(b1.keep hdr).keep hb2,(((rdO v1).2).keep hdr).keep hb2⟩,?_⟩
   have hlit:Own LHt w2 0 67 (.slice (some ⟨g90,0,none⟩) 1 1) [(n,k,l[k].2)]:=Own.lit' (xs:=[(n,k,l[k].2)]) b90 (Nat.zero_le _) (by simp [Lay.all,LHt]) (by simp [maxLen])
   refine ap (L:=LHt) (base:=0) (.agg #[.int .u64 0,.int .i64 0,.int .i64 0]) 24 rfl (by kernel_rfl) (by kernel_rfl) (by kernel_rfl) ow hlit.rd.2 (Nat.zero_le _) (by simp only [List.length_singleton];omega) (by simp [maxLen];omega) fun A' c' w4 o4 g4=>⟨A',_,c',rfl,?_⟩
   exact fin w2 w4 v (A',_,c') (btr hdr hdr.size hb2) ow oc oa o4 g4
 ·have hk2:k=l.length:=by omega
  subst hk2
  rw [List.take_length] at h1
  exact hJ w1 o1 hv1 h1 b1
theorem IxO.skip {w6:World}{A:Nat→Option Sl}{N:List Nat}{st:List (ByteArray × Hit)} (h:IxO w6 w o mt mh A N st tv hv) {n:Nat} (hn:isT A n=false):IxO w6 w o mt mh A (N++[n]) st tv hv:=by
 refine⟨h.fr,h.lt,h.ne,h.tl,h.hl,?_,fun m hm ht=>?_,h.hm,h.ho,h.hc,h.ha⟩
 ·have:mpTx A (N++[n]) tv=mpTx A N tv:=by
   funext k
   unfold mpTx
   by_cases e:k.toNat=n
   ·rw [if_neg (fun q=>by rw [e,hn] at q;cases q.2.2),if_neg (fun q=>by rw [e,hn] at q;cases q.2.2)]
   ·simp only [List.mem_append,List.mem_singleton,e,or_false]
  rw [this];exact h.tm
 ·rcases List.mem_append.1 hm with q | q
  ·exact h.to m q ht
  ·rw [List.mem_singleton] at q;subst q;rw [hn] at ht;cases ht
theorem sts_len (hw:Wf D) (l:List Nat):(stsF (slA D.sl) l).length≤l.length*16384:=by
 unfold stsF
 have:∀l:List Nat,(l.flatMap (stF (slA D.sl))).length≤l.length*16384:=by
  intro l
  induction l with
  | nil=>simp
  | cons x l ih =>
   rw [List.flatMap_cons,List.length_append,List.length_cons,Nat.add_mul]
   have:(stF (slA D.sl) x).length≤16384:=by
    unfold stF
    rw [numF_len]
    unfold wdF
    cases hs:slA D.sl x with
    | none=>simp
    | some s =>
     show (txF s).length≤_
     unfold txF
     split
     ·rename_i hk
      have h1:=(hw.a.ok x s hs).1
      unfold ownF at h1
      rw [if_neg (by omega),if_pos hk] at h1
      have:=textS_ok (s:=s.text) (by omega)
      have:=wordsF_len s.text 0
      omega
     ·simp
   omega
 exact this l
theorem alm {K:Nat→World→Prop} (h:∀r w1,Below w.heap.size w w1→w.heap.size≤r→r < w1.heap.size→w1.heap[r]?=some (.map #[] 0)→K r w1):AlM w K :=
 h _ _ ((Below.refl _ _).alloc (Nat.le_refl _) _) (Nat.le_refl _) (by simp) (heap_alloc_new _ _)
theorem mp_empty (q:IntKind) {r:Nat} (h:w.heap[r]?=some (.map #[] 0)):Mp q w r fun _=>none:=⟨#[],0,h,⟨fun x hx=>by simp at hx,fun k v h=>by simp at h,by simp,fun x hx=>by simp at hx,by simp⟩⟩
theorem ms_empty {r:Nat} (h:w.heap[r]?=some (.map #[] 0)):Ms w r fun _=>none:=⟨#[],0,h,⟨fun x hx=>by simp at hx,fun k v h=>by simp at h,by simp,fun x hx=>by simp at hx,by simp⟩⟩
theorem New_callsF {k g : Nat} {ty : TypeId} (h : LD k g ty w o D) (hw : Wf D) (hK : ∀ gx w', Below w.heap.size w w' → (∀ (M : Nat → Prop) (w'' : World), Fm M w' w'' → (∀ b, b < w'.heap.size → M b → b < w.heap.size) → Ix w'' gx D) → R (.returned (.tuple #[.pointer (some ⟨gx, 0, none⟩), .int .i64 0])) w') :
  Calls Tryz.prog 26 #[.pointer (some ⟨g,0,none⟩)] w R:=by
 refine ok26 (some ⟨g,0,none⟩) ?_
 unfold F26
 simp only [Option.isNone_some,Br_f]
 refine Tree_calls h ?_
 intro gd bs o1 w1 S hb1 hSD hp1 _ ho1 _
 refine⟨_,rfl,?_⟩
 subst hSD
 refine alm fun mt w2 hb2 hge2 hlt2 hm2=>alm fun mh w3 hb3 hge3 hlt3 hm3=>?_
 have hmp2:=mp_empty .u64 hm2
 have hms3:=ms_empty hm3
 refine al fun gx w4 hb4 b4 hge4=>?_
 have B3:=btr hb2 hb2.size hb3
 have B4:=btr B3 B3.size hb4
 simp only [b4.cell,lds]
 have hp4:=hp1.below B4
 refine All0_calls (θ:=⟨gd,98,[]⟩) hp4 hw.s hw.a ?_
 intro nv w5 hb5 on
 refine⟨_,_,_,_,rfl,?_⟩
 refine st_blk (b4.keep hb5) (by simp) fun w6 b6 f6=>?_
 simp only [List.setIfInBounds_toArray,List.set_cons_zero,List.set_cons_succ] at b6
 have b6:Blk w6 gx #[.pointer (some ⟨gd,0,none⟩),slV nv,.map (some mt),.map (some mh)] 136:=b6
 have c1:w6.cell? ⟨gx,1,none⟩=some (.slice nv.1 nv.2.1 nv.2.2):=by rw [b6.cell];rfl
 simp only [Addr.add_mk,Nat.zero_add,c1,lds]
 have B5:=btr B4 B4.size hb5
 have hsz4:=b4.lt
 have hs5:=hb5.size
 have hs6:=f6.size
 have B6:Below w1.heap.size w1 w6:=B5.trans (f6.toBelow B5.size fun b hb e=>by have e:b=gx:=e;omega)
 have hnb:=rootsAll_nodup (roots:=S.D.roots) hw.a
 have hnf:(allD' S.D).length≤4096:=rootsAll_few hw.s hw.a
 have on6:Own LHn w6 w4.heap.size 65 (slV nv) (allD' S.D):=own_fm on f6 fun x hx e=>by have e:x=gx:=e;have:=(on.lt x hx).1;omega
 have hmt6:Mp .u64 w6 mt (fun _=>none):=by
  have h3:=hmp2.fm (M:=fun _=>False) (.below hb3) (fun h=>h)
  have h4:=h3.fm (M:=fun _=>False) (.below hb4) (fun h=>h)
  have h5:=h4.fm (M:=fun _=>False) (.below hb5) (fun h=>h)
  exact h5.fm f6 fun e=>by have e:mt=gx:=e;omega
 have hmh6:Ms w6 mh (fun _=>none):=by
  have h4:=hms3.fm (M:=fun _=>False) (.below hb4) (fun h=>h)
  have h5:=h4.fm (M:=fun _=>False) (.below hb5) (fun h=>h)
  exact h5.fm f6 fun e=>by have e:mh=gx:=e;omega
 have i0:IxO w6 w6 (fun _=>0) mt mh (slA S.D.sl) [] [] (fun _=>(none,0,0)) (fun _=>(none,0,0)):=by
  refine⟨.refl _ _,fun b hb=>absurd rfl hb,by omega,by omega,by omega,?_,fun n hn=>by simp at hn,?_,fun k=>?_,fun k x hx=>(by cases hx),fun k k' _=>.inl rfl⟩
  ·have:mpTx (slA S.D.sl) [] (fun _=>(none,0,0))=fun _=>none:=by funext k;unfold mpTx;rw [if_neg (fun q=>by simp at q)]
   rw [this];exact hmt6
  ·exact hmh6
  ·exact Own.nil _ _ _ _
 refine⟨fun i w'=>∃(m:Nat) (o':Nat→Nat) (tv:Nat→Sv) (hv:ByteArray→Sv),i=m∧m≤(allD' S.D).length∧IxO w6 w' o' mt mh (slA S.D.sl) ((allD' S.D).take m) (stsF (slA S.D.sl) ((allD' S.D).take m)) tv hv∧Blk w' gx #[.pointer (some ⟨gd,0,none⟩),slV nv,.map (some mt),.map (some mh)] 136,
  fun i _=>(allD' S.D).length-i.toNat,⟨0,_,_,_,rfl,by omega,i0,b6⟩,?_⟩
 rintro _ w7 ⟨m,o7,tv7,hv7,rfl,hm,h7,b7⟩
 have hfr:=h7.fr
 have B7:Below w1.heap.size w1 w7:=B6.trans (hfr.toBelow B6.size fun b hb e=>by omega)
 have on7:Own LHn w7 w4.heap.size 65 (slV nv) (allD' S.D):=own_fm on6 hfr fun x hx e=>by have:=(on6.lt x hx).1;omega
 obtain⟨n1,n2⟩:=rdO on7
 unfold F26_l6
 refine brd (fun hlt=>?_) (fun hge=>?_)
 ·have hml:m < (allD' S.D).length:=by omega
  refine⟨fun w'=>∃(o':Nat→Nat) (tv:Nat→Sv) (hv:ByteArray→Sv),IxO w6 w' o' mt mh (slA S.D.sl) ((allD' S.D).take (m+1)) (stsF (slA S.D.sl) ((allD' S.D).take (m+1))) tv hv∧Blk w' gx #[.pointer (some ⟨gd,0,none⟩),slV nv,.map (some mt),.map (some mh)] 136,?_,?_⟩
  ·rintro w' ⟨o',tv',hv',q1,q2⟩
   exact⟨inR_i64 (by omega) (by omega),⟨m+1,o',tv',hv',by simp,by omega,q1,q2⟩,(by first | omega | (dsimp only;omega))⟩
  refine n2.hn n1 rfl hml fun b oo c0=>?_
  have htk:(allD' S.D).take (m+1)=(allD' S.D).take m++[(allD' S.D)[m]]:=List.take_succ_eq_append_getElem hml
  have hget:(allD' S.D)[m]?=some (allD' S.D)[m]:=List.getElem?_eq_getElem hml
  have hnew:(allD' S.D)[m]∉(allD' S.D).take m:=fun hm2=>by
   obtain⟨j,hj⟩:=List.mem_iff_getElem?.1 hm2
   rw [List.getElem?_take] at hj
   split at hj
   ·have:=nd_get hnb hj hget;omega
   ·cases hj
  generalize (allD' S.D)[m]=n at *
  rw [htk,stsF_app]
  have hstn:stsF (slA S.D.sl) [n]=stF (slA S.D.sl) n:=by unfold stsF;simp
  rw [hstn]
  simp only [c0,b7.cell,lds]
  obtain⟨s,hs⟩:=(mem_all_roots hw.a).1 (List.mem_of_getElem? hget)
  have hp7:=hp1.below B7
  refine Get_calls (θ:=⟨gd,98,[]⟩) hp7 hs ?_
  intro va w8 hb8 _
  refine⟨s.kind,s.nm,va.1,va.2.1,va.2.2,s.text,none,0,0,0,rfl,?_⟩
  refine al fun gt w9 hb9 b9 hge9=>?_
  refine st_blk b9 (by simp) fun u1 q1 f1=>st_blk q1 (by simp) fun u2 q2 f2=>st_blk q2 (by simp) fun u3 q3 f3=>st_blk q3 (by simp) fun u4 q4 f4=>st_blk q4 (by simp) fun w10 b10 f5=>?_
  simp only [List.setIfInBounds_toArray,List.set_cons_zero,List.set_cons_succ] at b10
  have F10:Fm (·=gt) w9 w10:=(((f1.trans f2).trans f3).trans f4).trans f5
  have hs8:=hb8.size
  have D9:=btr hb8 hb8.size hb9
  have D10:Below w7.heap.size w7 w10:=D9.trans (F10.toBelow D9.size fun b hb e=>by have e:b=gt:=e;omega)
  have h10:=h7.below D10
  have bx10:=b7.keep D10
  simp only [Addr.add_mk,Nat.zero_add,b10.cell,lds]
  refine brn (fun hk=>?_) (fun hk=>?_)
  ·have ht:isT (slA S.D.sl) n=false:=by unfold isT;rw [hs];exact decide_eq_false hk
   have hst:stF (slA S.D.sl) n=[]:=by unfold stF;rw [wd_notT ht];rfl
   rw [hst,List.append_nil]
   exact⟨o7,tv7,hv7,h10.skip ht,bx10⟩
  ·have ht:isT (slA S.D.sl) n=true:=by unfold isT;rw [hs];exact decide_eq_true hk
   have htx:wdF (slA S.D.sl) n=wordsF s.text 0:=by unfold wdF;rw [hs];show txF s=_;unfold txF;rw [if_pos hk]
   have hok:s.text.size≤16384:=by
    have h1:=(hw.a.ok n s hs).1
    unfold ownF at h1
    rw [if_neg (by omega),if_pos hk] at h1
    exact textS_ok (by omega)
   refine words_calls s.text hok fun A1 c1n c1c A2 c2n c2c w11 ws=>⟨_,_,_,_,_,_,rfl,?_⟩
   have hb11:=ws.below
   have h11:=h10.below hb11
   have bx11:=bx10.keep hb11
   have hs10:=D10.size
   have hsf:=hfr.size
   have hz:∀x,w10.heap.size≤x→o7 x=0:=fun x hx=>Classical.byContradiction fun e=>by have:=(h10.lt x e).2;omega
   simp only [Addr.add_mk,Nat.zero_add,bx11.cell,lds]
   have hwsF:(wordsF s.text 0).map (·.1)=wsF (slA S.D.sl) n:=by unfold wsF;rw [htx]
   have ow:Own LS w11 w10.heap.size 9 (slV (A1,c1n,c1c)) ((wordsF s.text 0).map (·.1)):=ws.ws
   have ow2:Own LI w11 w10.heap.size 3 (slV (A2,c2n,c2c)) ((wordsF s.text 0).map fun p=>(p.2:Int)):=ws.at_
   have hap:Apart (slV (A1,c1n,c1c)) (slV (A2,c2n,c2c)):=ws.ap
   refine h11.text ht hnew (v:=(A1,c1n,c1c)) ((by rw [←hwsF];exact ow:Own LS w11 w10.heap.size 9 (slV (A1,c1n,c1c)) (wsF (slA S.D.sl) n)).rebase fun x hx=>by have:=(ow.lt x hx).1;omega) (fun x hx=>hz x (ow.lt x hx).1) fun w12 o12 h12 f12 hs1 hs2=>?_
   have hmtl:=h7.tl
   have bx12:=f12.blk bx11 fun e=>by have e:gx=mt:=e;omega
   have ow12:=own_fm ow f12 fun x hx e=>by have e:x=mt:=e;have:=(ow.lt x hx).1;omega
   have ow22:=own_fm ow2 f12 fun x hx e=>by have e:x=mt:=e;have:=(ow2.lt x hx).1;omega
   have h4:=(h12.to n (by simp) ht).2
   simp only [if_pos rfl] at h4
   have hwl:=wordsF_len s.text 0
   have hsl:=sts_len hw ((allD' S.D).take m)
   have htl:((allD' S.D).take m).length≤4096:=by rw [List.length_take];omega
   refine hits_loop (n:=n) (u:=(A1,c1n,c1c)) (u2:=(A2,c2n,c2c)) (l:=wordsF s.text 0) (xs:=[]) (by omega) (by omega) h12 (by omega) ⟨by omega,by omega⟩ bx12 (ow12.rebase fun x hx=>by have:=(ow.lt x hx).1;omega) (ow22.rebase fun x hx=>by have:=(ow2.lt x hx).1;omega)
    (fun x hx=>by rw [h4 x hx];decide) (fun x hx=>?_) fun w' o' hv' q1 q2=>⟨o',fun k=>if k=n then (A1,c1n,c1c) else tv7 k,hv',?_,q2⟩
   ·rw [hs2 x fun e=>?_]
    ·exact hz x (ow2.lt x hx).1
    ·rcases hap with p | p
     ·rw [p] at e;cases e
     ·exact p (e.trans hx.symm)
   ·have:stF (slA S.D.sl) n=numF n 0 (wordsF s.text 0):=by unfold stF;rw [htx]
    rw [this];exact q1
 ·have hm2:m=(allD' S.D).length:=by omega
  subst hm2
  rw [List.take_length] at h7
  have hsl:=sts_len hw (allD' S.D)
  refine hK gx w7 (hb1.trans (B7.mono hb1.size)) fun M w8 hf hm=>?_
  have hs1:=hb1.size
  have hM:∀b,w1.heap.size≤b→b < w7.heap.size→¬M b:=fun b h1 h2 e=>by have:=hm b h2 e;omega
  have hs7:=hfr.size
  have hp7:=hp1.below B7
  have hM1:∀b,o1 b≠0→¬M b:=fun b hb e=>by
   have:=hm b (hp7.lt b hb) e
   have:=ho1 b hb
   omega
  refine⟨gd,mt,mh,o1,S,nv,tv7,hv7,hw,rfl,hp7.keep hf (fun b hb=>hM1 b fun e=>by rw [e] at hb;unfold pc at hb;omega) (fun _ _=>rfl) (fun b hb=>Nat.lt_of_lt_of_le (hp7.lt b hb) hf.size),hf.blk b7 (hM gx (by have:=hb3.size;have:=hb2.size;omega) b7.lt),rdV_own (own_fm on7 hf fun x hx=>hM x (by have:=(on7.lt x hx).1;have:=B4.size;omega) (on7.lt x hx).2) (by omega),h7.tm.fm hf (hM mt (by omega) (by omega)),fun n hn ht=>?_,h7.hm.fm hf (hM mh (by have:=hb2.size;omega) (by omega)),fun k=>?_⟩
  ·refine rdV_own (own_fm (h7.to n hn ht).1 hf fun x hx=>hM x (by have:=(h7.lt x (by rw [(h7.to n hn ht).2 x hx];decide)).1;have:=B6.size;omega) ((h7.to n hn ht).1.lt x hx).2) ?_
   have h1:=sts_len hw [n]
   have:(stsF (slA S.D.sl) [n]).length=(wsF (slA S.D.sl) n).length:=by
    unfold stsF wsF;simp [stF,numF_len]
   simp only [List.length_singleton] at h1
   omega
  ·refine rdV_own (own_fm (h7.ho k) hf fun x hx=>hM x (by have:=(h7.lt x (by rw [h7.hc k x hx];decide)).1;have:=B6.size;omega) ((h7.ho k).lt x hx).2) ?_
   unfold hitF
   rw [List.length_map]
   have:=List.length_filter_le (fun p:ByteArray × Hit=>decide (p.1=k)) (stsF (slA S.D.sl) (allD' S.D))
   omega
end
end Go.Proofs.YtccplipiahdhiaaGreatDoor
set_option linter.unusedVariables false
set_option maxRecDepth 100000
namespace Go.Proofs.YtccplipiahdhiaaGreatDoor
open Go.Vc
def F15_j5 (L4:Option Addr→Nat→Nat→Int→World→Prop) (i:Int) (out2:Option Addr) (outN2:Nat) (outC2:Nat) (a:World) (R:Ending→World→Prop):Prop :=
 InR .i64 (i+(1:Int))∧L4 out2 outN2 outC2 (i+(1:Int)) a
def F15_l10 (g:Option Addr) (b:Nat) (i:Int) (J5:Option Addr→Nat→Nat→World→Prop) (d:Option Addr) (c:Nat) (e:Option Addr) (a:Nat) (L10:Option Addr→Nat→Nat→Int→World→Prop) (out2:Option Addr) (outN2:Nat) (outC2:Nat) (k:Int) (t:World) (R:Ending→World→Prop):Prop :=
 Br (decide (k < ((c:Nat):Int)))
 (∃S:World→Prop,S t.drew∧IdxA d c k 1 fun u =>
 ∃(v:ByteArray),Held S u (.string v)∧IdxA g b i 1 fun p =>
 ∃(r:Int),Held S p (.int .u64 r)∧IdxA e a k 1 fun q =>
 ∃(s:Int),Held S q (.int .i64 s)∧Al t.drew #[(.string v),(.int .u64 r),(.int .i64 k),(.int .i64 s)] 130 fun g63 h =>
 Raw Tryz.prog (Builtin.append_ #[40,40] 40 #[(.slice out2 outN2 outC2),(.slice (some g63) 1 1)]) h fun v4 f =>
 ∃(n:Option Addr) (m:Nat) (j:Nat),v4=(.slice n m j) ∧
 InR .i64 (k+(1:Int))∧L10 n m j (k+(1:Int)) f)
 (J5 out2 outN2 outC2 t)
def F15_l4 (d:Option Addr) (ba:Option Addr) (p:Nat) (L4:Option Addr→Nat→Nat→Int→World→Prop) (out:Option Addr) (outN:Nat) (outC:Nat) (i:Int) (ma:World) (R:Ending→World→Prop):Prop :=
 Br (decide (i < ((p:Nat):Int)))
 (∃J5:Option Addr→Nat→Nat→World→Prop,(∀(out2:Option Addr) (outN2:Nat) (outC2:Nat) (fa:World),J5 out2 outN2 outC2 fa→F15_j5 L4 i out2 outN2 outC2 fa R) ∧
 (IdxA ba p i 1 fun ka =>
 LdI .u64 (ma.cell? ka) fun na =>
 Calls Tryz.prog 48 #[(.pointer d),(.int .u64 na)] ma (post R fun v2 fa =>
 ∃(n:Int) (f:ByteArray) (g:Option Addr) (a:Nat) (b:Nat) (h:ByteArray) (j:Option Addr) (c:Nat) (e:Nat) (y:Int),v2=(.tuple #[(.agg #[(.int .i64 n),(.string f),(.slice g a b),(.string h),(.slice j c e)]),(.int .i64 y)]) ∧
 Al fa #[(.int .i64 0),(.string (ByteArray.mk #[])),(.slice none 0 0),(.string (ByteArray.mk #[])),(.slice none 0 0)] 84 fun t da =>
 St da t (.int .i64 n) fun ia =>
 St ia (t.add 1) (.string f) fun ca =>
 St ca (t.add 2) (.slice g a b) fun ha =>
 St ha (t.add 3) (.string h) fun ga =>
 St ga (t.add 4) (.slice j c e) fun ja =>
 LdI .i64 (ja.cell? t) fun qa =>
 Br (qa != (2:Int))
 (J5 out outN outC ja)
 (LdStr (ja.cell? (t.add 3)) fun pa =>
 Calls Tryz.prog 49 #[(.string pa)] ja (post R fun v3 ea =>
 ∃(z:Option Addr) (u:Nat) (s:Nat) (aa:Option Addr) (q:Nat) (r:Nat),v3=(.tuple #[(.slice z u s),(.slice aa q r)]) ∧
 ∃(I:Option Addr→Nat→Nat→Int→World→Prop) (m:Option Addr→Nat→Nat→Int→World→Nat),I out outN outC (0:Int) ea ∧
 ∀(out2:Option Addr) (outN2:Nat) (outC2:Nat) (k:Int) (v:World),I out2 outN2 outC2 k v→F15_l10 ba p i J5 z u aa q (fun out2' outN2' outC2' k' w2=>I out2' outN2' outC2' k' w2∧m out2' outN2' outC2' k' w2 < m out2 outN2 outC2 k v) out2 outN2 outC2 k v R)))))
 (R (.returned (.slice out outN outC)) ma)
def F15 (d:Option Addr) (g:World) (R:Ending→World→Prop):Prop :=
 Calls Tryz.prog 47 #[(.pointer d),(.int .u64 0)] g (post R fun v w1 =>
 ∃(e:Option Addr) (b:Nat) (a:Nat) (c:Int),v=(.tuple #[(.slice e b a),(.int .i64 c)]) ∧
 ∃(I:Option Addr→Nat→Nat→Int→World→Prop) (m:Option Addr→Nat→Nat→Int→World→Nat),I none 0 0 (0:Int) w1 ∧
 ∀(out:Option Addr) (outN:Nat) (outC:Nat) (i:Int) (f:World),I out outN outC i f→F15_l4 d e b (fun out' outN' outC' i' w2=>I out' outN' outC' i' w2∧m out' outN' outC' i' w2 < m out outN outC i f) out outN outC i f R)
theorem ok15 (d:Option Addr) {w:World}{R:Ending→World→Prop} (h:F15 d w R):Calls Tryz.prog 15 #[(.pointer d)] w R :=
 vc_calls (pl:=⟨66,⟨[]⟩,[(5,⟨[(3,(.s .slice))],[(3,4),(7,65)]⟩)],[(10,⟨[(3,(.s .slice)),(11,(.s (.int .i64)))],[(3,4),(11,65)]⟩),(4,⟨[(3,(.s .slice)),(6,(.s (.int .i64)))],[(3,4),(6,65)]⟩)]⟩) Tryz.func15 (by kernel_rfl) (by kernel_rfl) (by kernel_rfl) (Eq.mp (by kernel_rfl) h)
def F19_j3 (l:Option Addr) (lN:Nat) (lC:Nat) (head:ByteArray) (c:World) (R:Ending→World→Prop):Prop :=
 Calls Tryz.prog 24 #[(.slice l lN lC),(.string head)] c (post R fun v w1 =>
 ∃(d:Option Addr) (a:Nat) (b:Nat),v=(.slice d a b) ∧
 R (.returned (.tuple #[(.slice d a b),(.int .i64 0)])) w1)
def F19 (l:Option Addr) (lN:Nat) (lC:Nat) (head:ByteArray) (b:World) (R:Ending→World→Prop):Prop :=
 ∃J3:World→Prop,(∀ (w1:World),J3 w1→F19_j3 l lN lC head w1 R) ∧
 (Br (!(head.toList == (ByteArray.mk #[]).toList))
 (Calls Tryz.prog 52 #[(.string head)] b (post R fun v w1 =>
 ∃(a:Bool),v=(.bool a) ∧
 Br (!a)
 (R (.returned (.tuple #[(.slice none 0 0),(.int .i64 1)])) w1)
 (J3 w1)))
 (J3 b))
theorem ok19 (l:Option Addr) (lN:Nat) (lC:Nat) (head:ByteArray) {w:World}{R:Ending→World→Prop} (h:F19 l lN lC head w R):Calls Tryz.prog 19 #[(.slice l lN lC),(.string head)] w R :=
 vc_calls (pl:=⟨16,⟨[]⟩,[(3,⟨[],[(4,13)]⟩)],[]⟩) Tryz.func19 (by kernel_rfl) (by kernel_rfl) (by kernel_rfl) (Eq.mp (by kernel_rfl) h)
def F17 (l:Option Addr) (lN:Nat) (lC:Nat) (s:ByteArray) (h:World) (R:Ending→World→Prop):Prop :=
 Calls Tryz.prog 52 #[(.string s)] h (post R fun v w1 =>
 ∃(g:Bool),v=(.bool g) ∧
 Br (!g)
 (R (.returned (.tuple #[(.slice none 0 0),(.int .i64 1)])) w1)
 (Al w1 #[(.string s)] 9 fun g11 e =>
 Calls Tryz.prog 21 #[(.slice l lN lC),(.slice (some g11) 1 1)] e (post R fun v2 f =>
 ∃(d:Option Addr) (b:Nat) (a:Nat) (c:Int),v2=(.tuple #[(.slice d b a),(.int .i64 c)]) ∧
 R (.returned (.tuple #[(.slice d b a),(.int .i64 c)])) f)))
theorem ok17 (l:Option Addr) (lN:Nat) (lC:Nat) (s:ByteArray) {w:World}{R:Ending→World→Prop} (h:F17 l lN lC s w R):Calls Tryz.prog 17 #[(.slice l lN lC),(.string s)] w R :=
 vc_calls (pl:=⟨15,⟨[]⟩,[],[]⟩) Tryz.func17 (by kernel_rfl) (by kernel_rfl) (by kernel_rfl) (Eq.mp (by kernel_rfl) h)
def F21_j6 (L5:Option Addr→Nat→Nat→Int→World→Prop) (i:Int) (out2:Option Addr) (outN2:Nat) (outC2:Nat) (a:World) (R:Ending→World→Prop):Prop :=
 InR .i64 (i+(1:Int))∧L5 out2 outN2 outC2 (i+(1:Int)) a
def F21_j12 (l:Option Addr) (lN:Nat) (out:Option Addr) (outN:Nat) (outC:Nat) (i:Int) (J6:Option Addr→Nat→Nat→World→Prop) (is:Bool) (j:World) (R:Ending→World→Prop):Prop :=
 Br is
 (IdxA l lN i 4 fun k =>
 LdI .u64 (j.cell? (k.add 1)) fun a =>
 LdI .i64 (j.cell? ((k.add 1).add 1)) fun b =>
 LdI .i64 (j.cell? ((k.add 1).add 2)) fun c =>
 Al j #[(.int .u64 a),(.int .i64 b),(.int .i64 c)] 67 fun g67 d =>
 Raw Tryz.prog (Builtin.append_ #[42,42] 42 #[(.slice out outN outC),(.slice (some g67) 1 1)]) d fun v2 f =>
 ∃(h:Option Addr) (g:Nat) (e:Nat),v2=(.slice h g e) ∧
 J6 h g e f)
 (J6 out outN outC j)
def F21_j10 (L9:Bool→Int→World→Prop) (k:Int) (is2:Bool) (a:World) (R:Ending→World→Prop):Prop :=
 InR .i64 (k+(1:Int))∧L9 is2 (k+(1:Int)) a
def F21_j11 (l:Option Addr) (lN:Nat) (words:Option Addr) (wordsN:Nat) (i:Int) (L9:Bool→Int→World→Prop) (k:Int) (j:World) (R:Ending→World→Prop):Prop :=
 ∃J10:Bool→World→Prop,(∀(is2:Bool) (a:World),J10 is2 a→F21_j10 L9 k is2 a R) ∧
 (Dr j fun a =>
 InR .i64 (i+k)∧IdxA l lN (i+k) 4 fun e =>
 LdStr (a.cell? e) fun d =>
 IdxA words wordsN k 1 fun g =>
 LdStr (a.cell? g) fun f =>
 Br (d.toList == f.toList)
 (InR .i64 (i+k)∧IdxA l lN (i+k) 4 fun b =>
 LdI .u64 (a.cell? (b.add 1)) fun m =>
 IdxA l lN i 4 fun c =>
 LdI .u64 (a.cell? (c.add 1)) fun h =>
 J10 (m == h) a)
 (J10 false a))
def F21_l9 (l:Option Addr) (lN:Nat) (words:Option Addr) (wordsN:Nat) (i:Int) (J12:Bool→World→Prop) (L9:Bool→Int→World→Prop) (is:Bool) (k:Int) (b:World) (R:Ending→World→Prop):Prop :=
 ∃J11:World→Prop,(∀ (a:World),J11 a→F21_j11 l lN words wordsN i L9 k a R) ∧
 (Br (decide (k < ((wordsN:Nat):Int)))
 (Br is
 (J11 b)
 (J12 is b))
 (J12 is b))
def F21_l5 (l:Option Addr) (lN:Nat) (words:Option Addr) (wordsN:Nat) (L5:Option Addr→Nat→Nat→Int→World→Prop) (out:Option Addr) (outN:Nat) (outC:Nat) (i:Int) (b:World) (R:Ending→World→Prop):Prop :=
 InR .i64 (i+((wordsN:Nat):Int))∧Br (decide ((i+((wordsN:Nat):Int))≤((lN:Nat):Int)))
 (∃J6:Option Addr→Nat→Nat→World→Prop,(∀(out2:Option Addr) (outN2:Nat) (outC2:Nat) (a:World),J6 out2 outN2 outC2 a→F21_j6 L5 i out2 outN2 outC2 a R) ∧
 (∃J12:Bool→World→Prop,(∀(is:Bool) (a:World),J12 is a→F21_j12 l lN out outN outC i J6 is a R) ∧
 (∃(I:Bool→Int→World→Prop) (m:Bool→Int→World→Nat),I true (0:Int) b ∧
 ∀(is:Bool) (k:Int) (a:World),I is k a→F21_l9 l lN words wordsN i J12 (fun is' k' w2=>I is' k' w2∧m is' k' w2 < m is k a) is k a R)))
 (R (.returned (.tuple #[(.slice out outN outC),(.int .i64 0)])) b)
def F21 (l:Option Addr) (lN:Nat) (lC:Nat) (words:Option Addr) (wordsN:Nat) (wordsC:Nat) (c:World) (R:Ending→World→Prop):Prop :=
 Calls Tryz.prog 41 #[(.slice words wordsN wordsC)] c (post R fun v w1 =>
 ∃(b:Bool),v=(.bool b) ∧
 Br (!b)
 (R (.returned (.tuple #[(.slice none 0 0),(.int .i64 1)])) w1)
 (∃(I:Option Addr→Nat→Nat→Int→World→Prop) (m:Option Addr→Nat→Nat→Int→World→Nat),I none 0 0 (0:Int) w1 ∧
 ∀(out:Option Addr) (outN:Nat) (outC:Nat) (i:Int) (a:World),I out outN outC i a→F21_l5 l lN words wordsN (fun out' outN' outC' i' w2=>I out' outN' outC' i' w2∧m out' outN' outC' i' w2 < m out outN outC i a) out outN outC i a R))
theorem ok21 (l:Option Addr) (lN:Nat) (lC:Nat) (words:Option Addr) (wordsN:Nat) (wordsC:Nat) {w:World}{R:Ending→World→Prop} (h:F21 l lN lC words wordsN wordsC w R):Calls Tryz.prog 21 #[(.slice l lN lC),(.slice words wordsN wordsC)] w R :=
 vc_calls (pl:=⟨70,⟨[]⟩,[(10,⟨[(8,(.s .bool))],[(8,9),(31,60)]⟩),(11,⟨[],[(22,29)]⟩),(12,⟨[(8,(.s .bool))],[(8,60)]⟩),(6,⟨[(6,(.s .slice))],[(6,7),(8,69)]⟩)],[(9,⟨[(8,(.s .bool)),(9,(.s (.int .i64)))],[(8,60)]⟩),(5,⟨[(6,(.s .slice)),(7,(.s (.int .i64)))],[(6,69)]⟩)]⟩) Tryz.func21 (by kernel_rfl) (by kernel_rfl) (by kernel_rfl) (Eq.mp (by kernel_rfl) h)
def F24_j4 (L3:Option Addr→Nat→Nat→Int→World→Prop) (i:Int) (out2:Option Addr) (outN2:Nat) (outC2:Nat) (a:World) (R:Ending→World→Prop):Prop :=
 InR .i64 (i+(1:Int))∧L3 out2 outN2 outC2 (i+(1:Int)) a
def F24_j15 (out:Option Addr) (outN:Nat) (outC:Nat) (J4:Option Addr→Nat→Nat→World→Prop) (k:ByteArray) (low:Int) (m:World) (R:Ending→World→Prop):Prop :=
 Al m #[] 80 fun g76 w1 =>
 SlB 0 low ((outC:Nat):Int)
 (Raw Tryz.prog (Builtin.append_ #[46,46] 46 #[(.slice (some g76) 0 0),(.slice out (low).toNat outC)]) w1 fun v b =>
 ∃(p:Option Addr) (f:Nat) (h:Nat),v=(.slice p f h) ∧
 Al b #[(.string k),(.int .i64 1)] 80 fun g84 g =>
 Raw Tryz.prog (Builtin.append_ #[46,46] 46 #[(.slice p f h),(.slice (some g84) 1 1)]) g fun v2 e =>
 ∃(q:Option Addr) (a:Nat) (j:Nat),v2=(.slice q a j) ∧
 SlB low ((outN:Nat):Int) ((outC:Nat):Int)
 (Raw Tryz.prog (Builtin.append_ #[46,46] 46 #[(.slice q a j),(.slice (SlA out outC (low).toNat 2) ((((outN:Nat):Int)).toNat-(low).toNat) (outC-(low).toNat))]) e fun v3 d =>
 ∃(n:Option Addr) (i:Nat) (c:Nat),v3=(.slice n i c) ∧
 J4 n i c d))
def F24_l8 (out:Option Addr) (outN:Nat) (outC:Nat) (J4:Option Addr→Nat→Nat→World→Prop) (e:ByteArray) (L8:Int→Int→World→Prop) (low:Int) (high:Int) (h:World) (R:Ending→World→Prop):Prop :=
 Br (decide (low < high))
 (InR .i64 (low+high)∧InR .i64 ((low+high).tdiv (2:Int))∧IdxA out outN ((low+high).tdiv (2:Int)) 2 fun g =>
 LdStr (h.cell? g) fun a =>
 Br (Op.bytesLess a.toList e.toList)
 (InR .i64 (((low+high).tdiv (2:Int))+(1:Int))∧L8 (((low+high).tdiv (2:Int))+(1:Int)) high h)
 (L8 low ((low+high).tdiv (2:Int)) h))
 (∃J15:World→Prop,(∀ (w1:World),J15 w1→F24_j15 out outN outC J4 e low w1 R) ∧
 (Br (decide (low < ((outN:Nat):Int)))
 (IdxA out outN low 2 fun b =>
 LdStr (h.cell? b) fun i =>
 Br (i.toList == e.toList)
 (IdxA out outN low 2 fun c =>
 LdI .i64 (h.cell? (c.add 1)) fun f =>
 InR .i64 (f+(1:Int))∧IdxA out outN low 2 fun d =>
 St h (d.add 1) (.int .i64 (f+(1:Int))) fun w1 =>
 J4 out outN outC w1)
 (J15 h))
 (J15 h)))
def F24_j7 (out:Option Addr) (outN:Nat) (outC:Nat) (J4:Option Addr→Nat→Nat→World→Prop) (a:ByteArray) (b:World) (R:Ending→World→Prop):Prop :=
 ∃(I:Int→Int→World→Prop) (m:Int→Int→World→Nat),I (0:Int) ((outN:Nat):Int) b ∧
 ∀(low:Int) (high:Int) (w1:World),I low high w1→F24_l8 out outN outC J4 a (fun low' high' w2=>I low' high' w2∧m low' high' w2 < m low high w1) low high w1 R
def F24_l3 (l:Option Addr) (lN:Nat) (head:ByteArray) (L3:Option Addr→Nat→Nat→Int→World→Prop) (out:Option Addr) (outN:Nat) (outC:Nat) (i:Int) (a:World) (R:Ending→World→Prop):Prop :=
 Br (decide (i < ((lN:Nat):Int)))
 (∃J4:Option Addr→Nat→Nat→World→Prop,(∀(out2:Option Addr) (outN2:Nat) (outC2:Nat) (w1:World),J4 out2 outN2 outC2 w1→F24_j4 L3 i out2 outN2 outC2 w1 R) ∧
 (IdxA l lN i 4 fun b =>
 LdStr (a.cell? b) fun c =>
 ∃J7:World→Prop,(∀ (w1:World),J7 w1→F24_j7 out outN outC J4 c w1 R) ∧
 (Br (decide (((c.size:Nat):Int) < ((head.size:Nat):Int)))
 (J4 out outN outC a)
 (SlB (0:Int) ((head.size:Nat):Int) ((c.size:Nat):Int)
 (Br (!((c.extract ((0:Int)).toNat (((head.size:Nat):Int)).toNat).toList == head.toList))
 (J4 out outN outC a)
 (J7 a))))))
 (R (.returned (.slice out outN outC)) a)
def F24 (l:Option Addr) (lN:Nat) (lC:Nat) (head:ByteArray) (a:World) (R:Ending→World→Prop):Prop :=
 ∃(I:Option Addr→Nat→Nat→Int→World→Prop) (m:Option Addr→Nat→Nat→Int→World→Nat),I none 0 0 (0:Int) a ∧
 ∀(out:Option Addr) (outN:Nat) (outC:Nat) (i:Int) (w1:World),I out outN outC i w1→F24_l3 l lN head (fun out' outN' outC' i' w2=>I out' outN' outC' i' w2∧m out' outN' outC' i' w2 < m out outN outC i w1) out outN outC i w1 R
theorem ok24 (l:Option Addr) (lN:Nat) (lC:Nat) (head:ByteArray) {w:World}{R:Ending→World→Prop} (h:F24 l lN lC head w R):Calls Tryz.prog 24 #[(.slice l lN lC),(.string head)] w R :=
 vc_calls (pl:=⟨92,⟨[]⟩,[(15,⟨[],[(55,76)]⟩),(7,⟨[],[(23,36)]⟩),(4,⟨[(5,(.s .slice))],[(5,6),(7,91)]⟩)],[(8,⟨[(8,(.s (.int .i64))),(9,(.s (.int .i64)))],[(8,55)]⟩),(3,⟨[(5,(.s .slice)),(6,(.s (.int .i64)))],[(5,91)]⟩)]⟩) Tryz.func24 (by kernel_rfl) (by kernel_rfl) (by kernel_rfl) (Eq.mp (by kernel_rfl) h)
def F41_l4 (l:Option Addr) (lN:Nat) (L4:Int→World→Prop) (i:Int) (d:World) (R:Ending→World→Prop):Prop :=
 Br (decide (i < ((lN:Nat):Int)))
 (IdxA l lN i 1 fun a =>
 LdStr (d.cell? a) fun b =>
 Calls Tryz.prog 52 #[(.string b)] d (post R fun v w1 =>
 ∃(c:Bool),v=(.bool c) ∧
 Br (!c)
 (R (.returned (.bool false)) w1)
 (InR .i64 (i+(1:Int))∧L4 (i+(1:Int)) w1)))
 (R (.returned (.bool true)) d)
def F41_j3 (l:Option Addr) (lN:Nat) (a:World) (R:Ending→World→Prop):Prop :=
 ∃(I:Int→World→Prop) (m:Int→World→Nat),I (0:Int) a ∧
 ∀(i:Int) (w1:World),I i w1→F41_l4 l lN (fun i' w2=>I i' w2∧m i' w2 < m i w1) i w1 R
def F41 (l:Option Addr) (lN:Nat) (lC:Nat) (a:World) (R:Ending→World→Prop):Prop :=
 ∃J3:World→Prop,(∀ (w1:World),J3 w1→F41_j3 l lN w1 R) ∧
 (Br (decide (((lN:Nat):Int) < (1:Int)))
 (R (.returned (.bool false)) a)
 (Br (decide (((lN:Nat):Int) > (16:Int)))
 (R (.returned (.bool false)) a)
 (J3 a)))
theorem ok41 (l:Option Addr) (lN:Nat) (lC:Nat) {w:World}{R:Ending→World→Prop} (h:F41 l lN lC w R):Calls Tryz.prog 41 #[(.slice l lN lC)] w R :=
 vc_calls (pl:=⟨24,⟨[]⟩,[(3,⟨[],[(2,12)]⟩)],[(4,⟨[(3,(.s (.int .i64)))],[(2,24)]⟩)]⟩) Tryz.func41 (by kernel_rfl) (by kernel_rfl) (by kernel_rfl) (Eq.mp (by kernel_rfl) h)
def F52 (s:ByteArray) (m:World) (R:Ending→World→Prop):Prop :=
 Calls Tryz.prog 89 #[(.string s)] m (post R fun v w1 =>
 ∃(h:Int) (i:Int),v=(.tuple #[(.int .i64 h),(.int .i64 i)]) ∧
 Br (i != (0:Int))
 (R (.returned (.bool false)) w1)
 (Calls Tryz.prog 49 #[(.string s)] w1 (post R fun v2 g =>
 ∃(e:Option Addr) (c:Nat) (b:Nat) (f:Option Addr) (a:Nat) (d:Nat),v2=(.tuple #[(.slice e c b),(.slice f a d)]) ∧
 Br (((c:Nat):Int) == (1:Int))
 (IdxA e c (0:Int) 1 fun j =>
 LdStr (g.cell? j) fun k =>
 R (.returned (.bool (k.toList == s.toList))) g)
 (R (.returned (.bool false)) g))))
theorem ok52 (s:ByteArray) {w:World}{R:Ending→World→Prop} (h:F52 s w R):Calls Tryz.prog 52 #[(.string s)] w R :=
 vc_calls (pl:=⟨29,⟨[]⟩,[],[]⟩) Tryz.func52 (by kernel_rfl) (by kernel_rfl) (by kernel_rfl) (Eq.mp (by kernel_rfl) h)
end Go.Proofs.YtccplipiahdhiaaGreatDoor
namespace Go.Proofs.YtccplipiahdhiaaGreatDoor
open Go.RowKit Go.Vc
set_option linter.unusedVariables false
set_option linter.unusedSimpArgs false
set_option maxRecDepth 100000
section
variable {A:Nat→Option Sl}{N:List Nat}{ws:List ByteArray}
theorem take_drop_iff {α:Type}{l ws:List α}{i:Nat}:(l.drop i).take ws.length=ws↔∀k w,ws[k]?=some w→l[i+k]?=some w:=by
 constructor
 ·intro h k w hk
  have hlt:=(List.getElem?_eq_some_iff.1 hk).1
  rw [←h,List.getElem?_take_of_lt hlt,List.getElem?_drop] at hk
  exact hk
 ·intro h
  refine List.ext_getElem? fun k=>?_
  by_cases hk:k < ws.length
  ·rw [List.getElem?_take_of_lt hk,List.getElem?_drop,List.getElem?_eq_getElem hk]
   exact h k _ (List.getElem?_eq_getElem hk)
  ·rw [List.getElem?_eq_none (l:=ws) (by omega),List.getElem?_eq_none (by rw [List.length_take];omega)]
theorem ws_get {n i:Nat}{w:ByteArray}:(wsF A n)[i]?=some w↔∃a,(wdF A n)[i]?=some (w,a):=by
 unfold wsF
 rw [List.getElem?_map]
 cases (wdF A n)[i]? with
 | none=>simp
 | some p =>
  obtain⟨p1,p2⟩:=p
  simp only [Option.map_some,Option.some.injEq,Prod.mk.injEq]
  constructor
  ·rintro rfl;exact⟨p2,rfl,rfl⟩
  ·rintro ⟨a,rfl,_⟩;rfl
theorem phr_one (w:ByteArray):phrF A (stsF A N) [w]=hitF (stsF A N) w:=by
 unfold phrF
 rw [List.headD_cons]
 refine List.filter_eq_self.2 fun h hh=>decide_eq_true (take_drop_iff.2 fun k v hk=>?_)
 obtain⟨h1,h2⟩:=sts_mem.1 (hitF_mem.1 hh)
 cases k with
 | zero =>
  obtain rfl:w=v:=by simpa using hk
  exact ws_get.2 ⟨_,h2⟩
 | succ k=>simp at hk
end
end Go.Proofs.YtccplipiahdhiaaGreatDoor
