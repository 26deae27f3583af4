/- SearchTerms: each word is found as often as it says; those that begin so are those of all that do. -/
import Derived.Test.YtccplipiahdhiaaGreatDoorProg
import Derived.Lib.Bytealg
import Derived.Laws.Externs
import Derived.MapKept
import Derived.Laws.IdiomRangeMap
import Derived.Test.YtccplipiahdhiaaGreatDoorSe3
namespace Go.Proofs.YtccplipiahdhiaaGreatDoor
open Go.RowKit Go.Vc
set_option linter.unusedVariables false
set_option linter.unusedSimpArgs false
set_option maxRecDepth 100000
def postA (A:Nat→Option Sl):Nat→Nat→List Nat
 | 0,_=>[]
 | r+1,x=>(match A x with | some s=>s.kids.flatMap (postA A r) | none=>[])++[x]
theorem postA_some {A:Nat→Option Sl}{r x:Nat}{s:Sl} (h:A x=some s):postA A (r+1) x=s.kids.flatMap (postA A r)++[x]:=by rw [postA,h]
theorem flatMap_perm {f g:Nat→List Nat}:∀(l:List Nat),(∀a∈l,(f a).Perm (g a))→(l.flatMap f).Perm (l.flatMap g)
 | [],_=>List.Perm.refl _
 | x :: l,h=>by
  rw [List.flatMap_cons,List.flatMap_cons]
  exact (h x (by simp)).append (flatMap_perm l fun a ha=>h a (by simp [ha]))
theorem post_perm (A:Nat→Option Sl):∀(r x:Nat),(postA A r x).Perm (allA A r x)
 | 0,x=>by simp [postA,allA]
 | r+1,x=>by
  rw [postA,allA]
  cases A x with
  | none=>exact List.Perm.refl _
  | some s=>exact (List.perm_append_singleton x _).trans (List.Perm.cons x (flatMap_perm _ fun k _=>post_perm A r k))
theorem killF_get:∀(L:List Nat) (sl:List Sl) (k:Nat),(killF sl L)[k]?=(sl[k]?).map fun s=>if (∃h∈L,h % 4294967296-1=k) then deadS s.gen else s
 | [],sl,k=>by
  unfold killF
  simp
 | h :: L,sl,k=>by
  have e:killF sl (h :: L)=killF (sl.modify (h % 4294967296-1) fun s=>deadS s.gen) L:=rfl
  have hm:(sl.modify (h % 4294967296-1) fun s=>deadS s.gen)[k]?=(sl[k]?).map fun s=>if h % 4294967296-1=k then deadS s.gen else s:=by
   rw [List.getElem?_modify];cases sl[k]? <;> rfl
  rw [e,killF_get L,hm,Option.map_map]
  congr 1
  funext s
  simp only [Function.comp]
  by_cases e2:h % 4294967296-1=k
  ·simp only [if_pos e2]
   rw [if_pos (show ∃y∈h :: L,y % 4294967296-1=k from ⟨h,by simp,e2⟩)]
   split <;> rfl
  ·simp only [if_neg e2]
   by_cases e3:∃y∈L,y % 4294967296-1=k
   ·rw [if_pos e3]
    obtain⟨y,y1,y2⟩:=e3
    rw [if_pos (show ∃y∈h :: L,y % 4294967296-1=k from ⟨y,by simp [y1],y2⟩)]
   ·rw [if_neg e3,if_neg]
    rintro ⟨y,y1,y2⟩
    rcases List.mem_cons.1 y1 with rfl | y1
    ·exact e2 y2
    ·exact e3 ⟨y,y1,y2⟩
theorem killF_mem {L L':List Nat} (h:∀y,y∈L↔y∈L') (sl:List Sl):killF sl L=killF sl L':=by
 refine List.ext_getElem? fun k=>?_
 rw [killF_get,killF_get]
 have:(∃h∈L,h % 4294967296-1=k)=(∃h∈L',h % 4294967296-1=k):=by
  apply propext
  constructor <;> rintro ⟨y,y1,y2⟩
  ·exact⟨y,(h y).1 y1,y2⟩
  ·exact⟨y,(h y).2 y1,y2⟩
 simp only [this]
theorem killF_app (sl:List Sl) (L L':List Nat):killF sl (L++L')=killF (killF sl L) L':=by
 unfold killF;rw [List.foldl_append]
theorem killF_one {sl:List Sl}{x k:Nat}{s:Sl} (hk:x % 4294967296=k+1) (hs:sl[k]?=some s):killF sl [x]=sl.set k (deadS s.gen):=by
 unfold killF
 rw [List.foldl_cons,List.foldl_nil,hk,Nat.add_sub_cancel,modify_set _ _ _ _ hs]
def Cg (c:Nat):Prop:=c=1∨c=2∨c=3∨(8≤c∧c % 4=0)
section
variable {w w1 w2:World}{o o1 o2:Nat→Nat}{θ:Th}{S:PS}{M:Nat→Prop}{bs:List Nat}{R:Ending→World→Prop}
theorem EvG.trans {w:World}{o:Nat→Nat} (h:EvC Cg w o w1 o1) (k:EvC Cg w1 o1 w2 o2) (hlt:∀b,o b≠0→b < w.heap.size):EvC Cg w o w2 o2 :=
 h.trans (by unfold Cg;omega) hlt (fun _ _ h=>h) k
theorem gone_calls {A:Nat→Option Sl}{roots loose:List Nat} (hA:WfA A roots loose):∀(r x c:Nat) {s:Sl}{w:World}{o:Nat→Nat}{S:PS}{R:Ending→World→Prop},A x=some s→(∀z,z∈loose→z=x∨¬Wi A x z)→Ch A x c→c+r=65 →
  PM w o θ S→PI S→WfS S.D.sl→(∀y,y∈allA A r x→slA S.D.sl y=A y) →
  (∀w' S',PM w' o θ S'→PI S'→S'.D={ S.D with sl:=killF S.D.sl (postA A r x) }→S'.bs=S.bs→EvC Cg w o w' o→R (.returned (.tuple #[])) w') →
  Calls Tryz.prog 234 #[.pointer (some ⟨θ.g,0,none⟩),.pointer (some ⟨pb S.bs x,0,none⟩)] w R:=by
 intro r
 induction r with
 | zero =>
  intro x c s w o S R hx hll hc hr
  obtain⟨c',h1,h2⟩:=hA.chain x s hx
  have:=hc.fn h2
  omega
 | succ r ih =>
  intro x c s w o S R hx hll hc hr h hp hw heq hK
  have hall:=allA_some (r:=r) hx
  have hpost:=postA_some (r:=r) hx
  have hnd:(allA A (r+1) x).Nodup:=all_nodup hA (r+1) x ⟨s,hx⟩ hll
  rw [hall,List.nodup_cons] at hnd
  obtain⟨hnd1,hnd2⟩:=hnd
  have hsx:slA S.D.sl x=some s:=by rw [heq x (by rw [hall];simp)];exact hx
  obtain⟨i,i1,i2,i3,i4⟩:=h.of hsx
  have hob:=h.nc i _ i2
  have hkid:∀k∈s.kids,∃t,A k=some t∧t.parent=x:=fun k hk=>((hA.kid x s hx).2 k hk).2
  obtain⟨v,cv,ov,rv⟩:=h.cKids i2 i3
  obtain⟨Ad,cc,hv,hrd0⟩:=ov.form
  rw [List.length_map] at hv
  have hv2:v=(Ad,s.kids.length,cc):=by
   obtain⟨a1,a2,a3⟩:=v
   unfold slV at hv
   simp only [Value.slice.injEq] at hv
   obtain⟨rfl,rfl,rfl⟩:=hv
   rfl
  rw [hv] at cv
  have hfewk:=(h.rng s (List.mem_of_getElem? i3)).few
  refine ok234 (some ⟨θ.g,0,none⟩) (some ⟨pb S.bs x,0,none⟩) ?_
  unfold F234
  simp only [NonNil_some,Addr.add_mk,Nat.zero_add,cv,lds]
  have hlive:∀k,∀y∈(s.kids.take k).flatMap (postA A r),y∈allA A (r+1) x∧y≠x:=fun k y hy=>by
   obtain⟨z,z1,z2⟩:=List.mem_flatMap.1 hy
   have z3:y∈s.kids.flatMap (allA A r):=List.mem_flatMap.2 ⟨z,List.mem_of_mem_take z1,(post_perm A r z).mem_iff.1 z2⟩
   refine⟨by rw [hall];exact List.mem_cons_of_mem _ z3,fun e=>hnd1 (e ▸ z3)⟩
  have hndk:∀k,((s.kids.take k).flatMap (postA A r)).Nodup:=fun k=>by
   have h1:((s.kids.take k).flatMap (postA A r)).Perm ((s.kids.take k).flatMap (allA A r)):=flatMap_perm _ fun y _=>post_perm A r y
   refine h1.nodup_iff.2 ?_
   have h2:s.kids.flatMap (allA A r)=(s.kids.take k).flatMap (allA A r)++(s.kids.drop k).flatMap (allA A r):=by rw [←List.flatMap_append,List.take_append_drop]
   rw [h2,List.nodup_append] at hnd2
   exact hnd2.1
  have hex:∀y∈allA A (r+1) x,∃t,slA S.D.sl y=some t:=fun y hy=>by
   rw [heq y hy]
   exact all_live hA ⟨s,hx⟩ hll hy
  have WK:∀k,WfS (killF S.D.sl ((s.kids.take k).flatMap (postA A r)))∧∀y,slA (killF S.D.sl ((s.kids.take k).flatMap (postA A r))) y=if y∈(s.kids.take k).flatMap (postA A r) then none else slA S.D.sl y:=fun k =>
   killF_A _ _ hw (hndk k) fun y hy=>hex y (hlive k y hy).1
  refine⟨fun j w'=>∃(k:Nat) (S':PS),j=k∧k≤s.kids.length∧PM w' o θ S'∧PI S'∧S'.D={ S.D with sl:=killF S.D.sl ((s.kids.take k).flatMap (postA A r)) }∧S'.bs=S.bs∧EvC Cg w o w' o,fun j _=>s.kids.length-j.toNat,
   ⟨0,S,rfl,by omega,h,hp,by simp [killF],rfl,EvC.refl⟩,?_⟩
  rintro j w1 ⟨k,S1,rfl,hk,h1,hp1,hD1,hb1,e1⟩
  unfold F234_l1
  have hsl1:S1.D.sl=killF S.D.sl ((s.kids.take k).flatMap (postA A r)):=by rw [hD1]
  have ov1:Own LPt w1 0 152 (slV v) (s.kids.map (pb S.bs)):=own_fm ov e1.fm fun b hb hm=>by
   have:=rv b hb
   rw [this] at hm
   unfold Cg at hm;omega
  rw [hv2] at ov1
  obtain⟨hvn,hrd⟩:=ov1.rd
  refine brd (fun hlt=>?_) (fun hge=>?_)
  ·have hk2:k < s.kids.length:=by omega
   refine hrd.pt (by rw [List.length_map]) rfl (k:=k) (by rw [List.length_map];exact hk2) fun bb oo c0=>?_
   rw [List.getElem_map] at c0
   simp only [c0,lds]
   obtain⟨t,t1,t2⟩:=hkid _ (List.getElem_mem hk2)
   have hck:Ch A s.kids[k] (c+1):=.succ (hA.ne0 t1) t1 (by rw [t2];exact hc)
   rw [←hb1]
   have hkl:∀z,z∈loose→z=s.kids[k]∨¬Wi A s.kids[k] z:=fun z hz=>by
    refine .inr fun hwi=>?_
    obtain⟨d,hd⟩:=hwi.de
    have h2:=hd.down t1 t2
    rcases hll z hz with e | e
    ·exact hA.de_ne ⟨s,hx⟩ z d h2 e
    ·exact e h2.wi
   refine ih s.kids[k] (c+1) t1 hkl hck (by omega) h1 hp1 (by rw [hsl1];exact (WK k).1) (fun y hy=>?_) fun w2 S2 h2 hp2 hD2 hb2 e2=>⟨rfl,inR_i64 (by omega) (by omega),⟨k+1,S2,by simp,by omega,h2,hp2,?_,by rw [hb2,hb1],EvG.trans e1 e2 h.lt⟩,(by first | omega | (dsimp only;omega))⟩
   ·have hyall:y∈s.kids.flatMap (allA A r):=List.mem_flatMap.2 ⟨_,List.getElem_mem hk2,hy⟩
    rw [hsl1,(WK k).2,if_neg,heq y (by rw [hall];exact List.mem_cons_of_mem _ hyall)]
    intro hm
    have h2:s.kids.flatMap (allA A r)=(s.kids.take k).flatMap (allA A r)++(s.kids.drop k).flatMap (allA A r):=by rw [←List.flatMap_append,List.take_append_drop]
    rw [h2,List.nodup_append] at hnd2
    refine hnd2.2.2 y ?_ y ?_ rfl
    ·obtain⟨z,z1,z2⟩:=List.mem_flatMap.1 hm
     exact List.mem_flatMap.2 ⟨z,z1,(post_perm A r z).mem_iff.1 z2⟩
    ·rw [List.drop_eq_getElem_cons hk2]
     exact List.mem_flatMap.2 ⟨s.kids[k],List.mem_cons_self,hy⟩
   ·rw [hD2,hD1]
    dsimp only
    rw [List.take_succ_eq_append_getElem hk2,List.flatMap_append,killF_app]
    simp
  ·have hk2:k=s.kids.length:=by omega
   subst hk2
   rw [List.take_length] at hsl1 hD1
   have hd1:Below w1.heap.size w1 w1.drew:=(Below.refl _ _).drew
   have WKf:=WK s.kids.length
   rw [List.take_length] at WKf
   have hxn:x∉s.kids.flatMap (postA A r):=fun hm=>by
    have:=hlive s.kids.length x (by rw [List.take_length];exact hm)
    exact this.2 rfl
   have hs1:slA S1.D.sl x=some s:=by rw [hsl1,WKf.2,if_neg hxn];exact hsx
   obtain⟨i',a1,a2,a3,a4⟩:=h1.of hs1
   obtain rfl:i=i':=by omega
   rw [hb1] at a2
   have a2':S1.bs[i]?=some (pb S.bs x):=by rw [hb1];exact a2
   generalize hbb:pb S.bs x=b at *
   have ci:=h1.cIdx a2' a3
   have cg:=h1.cGen a2' a3
   simp only [Addr.add_mk,Nat.zero_add,NonNil_some]
   refine⟨fun w'=>Below w1.heap.size w1 w',hd1,?_⟩
   refine⟨_,fun w' hb=>by rw [(sub_below hb).cell ci],?_⟩
   refine⟨_,fun w' hb=>by rw [(sub_below hb).cell cg],?_⟩
   obtain⟨a0,kv0,hn⟩:=h1.nodes i b s a2' a3
   have hn0:=hn.blk.keep hd1
   refine st_blk hn0 (by simp [nodeC]) fun u1 s1 f1=>st_blk s1 (by simp [nodeC]) fun u2 s2 f2=>st_blk s2 (by simp [nodeC]) fun u3 s3 f3=>st_blk s3 (by simp [nodeC]) fun u4 s4 f4=>st_blk s4 (by simp [nodeC]) fun u5 s5 f5=>st_blk s5 (by simp [nodeC]) fun u6 s6 f6=>st_blk s6 (by simp [nodeC]) fun u7 s7 f7=>st_blk s7 (by simp [nodeC]) fun u8 s8 f8=>st_blk s8 (by simp [nodeC]) fun w2 s9 f9=>?_
   have s9:Blk w2 b (nodeC i (deadS s.gen) (none,0,0) (ptrH S1.bs (deadS s.gen).parent) (none,0,0)) 202:=by simpa [nodeC,deadS,ptrH,noB] using s9
   have F2:Fm (·=b) w1 w2:=((((((((((Fm.below hd1).trans f1).trans f2).trans f3).trans f4).trans f5).trans f6).trans f7).trans f8).trans f9)
   have hob1:=h1.nc i b a2'
   have hrs:=h1.rng s (List.mem_of_getElem? a3)
   obtain⟨h2,_⟩:=h1.setNode (r:=none) (c:=9+4*i) a2' a3 F2 (fun x hx=>.inl (.inl (by have e:x=b:=hx;rw [e];exact hob1))) (.inl rfl) (fun x hx=>by cases hx) (a:=(none,0,0)) (kv:=(none,0,0)) (s':=deadS s.gen)
    ⟨s9,Own.nil _ _ _ _,fun x hx=>(by cases hx),Own.nil _ _ _ _,fun x hx=>(by cases hx)⟩ ⟨hrs.gen,.inl rfl,by simp [deadS],by simp [deadS],by simp [deadS]⟩
   rw [cl_none] at h2
   have e2:EvC Cg w1 o w2 o:=⟨F2.mono fun y _ e=>by have e:y=b:=e;rw [e,hob1];unfold Cg;omega,fun _ _=>rfl,fun _ _ h=>h,fun _ h=>.inl h⟩
   have hlv1:=hp1.lv
   have hwn1:=hp1.wn
   have hll1:=slA_live hs1
   have ls:=live_set (b:=deadS s.gen) a3
   have ws:=worn_set (b:=deadS s.gen) a3
   rw [hll1] at ls ws
   simp only [show (deadS s.gen).live=false from rfl,show (deadS s.gen).gen=s.gen from rfl,if_true,Bool.false_eq_true,if_false,Bool.not_true,Bool.false_and,Bool.not_false,Bool.true_and,Nat.add_zero] at ls ws
   obtain⟨_,d2,d3,d4⟩:=h2.cells
   have d2:w2.cell? ⟨θ.g,2,none⟩=some (.int .i64 (S1.lv:Nat)):=d2
   simp only [NonNil_some,d2,lds]
   have hcn:=h1.cnt
   have e5:((S1.lv:Nat):Int)-1=((S1.lv-1:Nat):Int):=by omega
   rw [e5]
   refine⟨inR_i64 (by omega) (by omega),h2.stLive (S1.lv-1) (by omega) fun w3 h3 e3=>?_⟩
   have e3:EvC Cg w2 o w3 o:=e3.mono fun c hc=>by unfold Cg;omega
   have hsl3:(S1.setS i (deadS s.gen)).D.sl=S1.D.sl.set i (deadS s.gen):=rfl
   have hbd3:(S1.setS i (deadS s.gen)).bs[i]?=some b:=a2'
   have hgd3:(S1.D.sl.set i (deadS s.gen))[i]?=some (deadS s.gen):=by simp [(List.getElem?_eq_some_iff.1 a3).1]
   have fin:∀{w':World}{S':PS},PM w' o θ S'→S'.D=(S1.setS i (deadS s.gen)).D→S'.bs=S1.bs→S'.lv=S1.lv-1→S'.wn=wornN (S1.D.sl.set i (deadS s.gen))→S'.lo≤S1.lo→S'.lo≤i→EvC Cg w3 o w' o→R (.returned (.tuple #[])) w':=by
    intro w' S' h' hD' hbs' hlv' hwn' hlo' hlo2' e'
    have hlt:=(List.getElem?_eq_some_iff.1 a3).1
    refine hK w' S' h' ⟨?_,?_,?_,?_⟩ ?_ (by rw [hbs',hb1]) (EvG.trans (EvG.trans (EvG.trans e1 e2 h.lt) e3 h.lt) e' h.lt)
    ·rw [hlv',hD',hsl3];omega
    ·rw [hwn',hD',hsl3]
    ·rw [hD',hsl3,List.length_set];have:=hp1.lo;omega
    ·intro j t hj ht
     rw [hD',hsl3,List.getElem?_set_ne (by omega)] at ht
     exact hp1.lo2 j t (by omega) ht
    ·rw [hD']
     show { S1.D with sl:=S1.D.sl.set i (deadS s.gen) }=_
     rw [hD1]
     dsimp only
     rw [hpost,killF_app,killF_one i1 (by rw [←hsl1];exact a3)]
   have cg3:=h3.cGen hbd3 hgd3
   have cg3:w3.cell? ⟨b,1,none⟩=some (.int .u32 (s.gen:Nat)):=cg3
   refine⟨fun w'=>∃S',PM w' o θ S'∧S'.D=(S1.setS i (deadS s.gen)).D∧S'.bs=S1.bs∧S'.lv=S1.lv-1∧S'.wn=wornN (S1.D.sl.set i (deadS s.gen))∧S'.lo=S1.lo∧EvC Cg w3 o w' o,?_,?_⟩
   ·rintro w4 ⟨S4,h4,D4,B4,L4,W4,O4,e4⟩
    unfold F234_j9
    have hd4:Below w4.heap.size w4 w4.drew:=(Below.refl _ _).drew
    obtain⟨_,_,_,d44⟩:=h4.cells
    have ci4:=h4.cIdx (i:=i) (b:=b) (s:=deadS s.gen) (by rw [B4];exact a2') (by rw [D4];exact hgd3)
    have hi4:i < 4096:=by have:=(List.getElem?_eq_some_iff.1 a3).1;have:=h1.few;omega
    refine⟨fun w'=>Below w4.heap.size w4 w',hd4,?_⟩
    simp only [NonNil_some]
    refine⟨_,fun w' hb=>by rw [Addr.add_mk,Nat.zero_add,(sub_below hb).cell d44],?_⟩
    refine⟨_,fun w' hb=>by rw [(sub_below hb).cell ci4],?_⟩
    have e6:((i+1:Nat):Int)-1=((i:Nat):Int):=by omega
    refine⟨inR_i64 (by omega) (by omega),inR_i64 (by omega) (by omega),?_⟩
    simp only [e6]
    have e7:(if ((i:Nat):Int) < ((S4.lo:Nat):Int) then ((i:Nat):Int) else ((S4.lo:Nat):Int))=((min i S4.lo:Nat):Int):=by split <;> omega
    rw [e7]
    have h4d:=h4.below hd4
    rw [Addr.add_mk,Nat.zero_add]
    refine h4d.stLow (min i S4.lo) (by omega) fun w5 h5 e5=>?_
    refine fin (S':={ S4 with lo:=min i S4.lo }) h5 D4 B4 L4 W4 (by show min i S4.lo≤S1.lo;omega) (by show min i S4.lo≤i;omega) (EvG.trans (EvG.trans e4 (EvC.below hd4) h3.lt) (e5.mono fun c hc=>by unfold Cg;omega) h3.lt)
   ·simp only [NonNil_some,Addr.add_mk,Nat.zero_add,cg3,lds]
    refine bre (fun hg=>?_) (fun hg=>?_)
    ·obtain⟨_,_,d3,_⟩:=h3.cells
     have d3:w3.cell? ⟨θ.g,3,none⟩=some (.int .i64 (S1.wn:Nat)):=d3
     simp only [NonNil_some,d3,lds]
     have e8:((S1.wn:Nat):Int)+1=((S1.wn+1:Nat):Int):=by omega
     rw [e8]
     have hg:s.gen=4294967295:=by omega
     have hdg:(decide (4294967295≤s.gen))=true:=decide_eq_true (by omega)
     rw [hdg] at ws
     simp only [if_true] at ws
     have hwlt:S1.wn+1≤4096:=by
      have:=tk_sum (S1.D.sl.set i (deadS s.gen))
      have:=tk_le (sl:=S1.D.sl.set i (deadS s.gen))
      rw [List.length_set] at this
      have:=h1.few
      omega
     refine⟨inR_i64 (by omega) (by omega),h3.stWorn (S1.wn+1) hwlt fun w4 h4 e4=>⟨_,h4,rfl,rfl,rfl,?_,rfl,e4.mono fun c hc=>by unfold Cg;omega⟩⟩
     show S1.wn+1=_
     omega
    ·have hdg:(decide (4294967295≤s.gen))=false:=decide_eq_false (by have:=hrs.gen;omega)
     rw [hdg] at ws
     simp only [Bool.false_eq_true,if_false,Nat.add_zero] at ws
     refine⟨_,h3,rfl,rfl,rfl,?_,rfl,EvC.refl⟩
     show S1.wn=_
     omega
theorem delete_calls (h:PM w o θ S) (hp:PI S) (hw:Wf S.D) {n:Nat} (hn:n < 18446744073709551616)
  (hK:∀w' o' S',PM w' o' θ S'→PI S'→S'.D=(delF S.D n).1→EvP w o w' o'→R (.returned (.int .i64 (delF S.D n).2)) w') :
  Calls Tryz.prog 226 #[.pointer (some ⟨θ.g,0,none⟩),.int .u64 (n:Nat)] w R:=by
 refine ok226 (some ⟨θ.g,0,none⟩) (n:Nat) ?_
 unfold F226
 refine atL_calls h hn fun w1 hb1=>⟨_,rfl,?_⟩
 have h1:=h.below hb1
 cases hs:slA S.D.sl n with
 | none =>
  have e:(ptrL S n).isNone=true:=by unfold ptrL;rw [hs];rfl
  rw [e,Br_t]
  have e1:delF S.D n=(S.D,8):=by unfold delF;rw [hs]
  have:=hK w1 o S h1 hp (by rw [e1]) (EvC.below hb1)
  rw [e1] at this;exact this
 | some s =>
  have e:(ptrL S n).isNone=false:=by unfold ptrL;rw [hs];rfl
  rw [e,Br_f]
  have n0:=hw.a.ne0 hs
  have e1:delF S.D n=({ outI S.D n with sl:=killF (outI S.D n).sl (allA (slA S.D.sl) 65 n) },0):=by unfold delF;rw [hs]
  have hptr:ptrL S n=some ⟨pb S.bs n,0,none⟩:=by unfold ptrL;rw [hs];rfl
  rw [hptr]
  obtain⟨o1,o2,o3,o4⟩:=out_wf hw hs
  have hpar:=(hw.a.par n s hs).imp id (fun⟨t,ht,_⟩=>(⟨t,ht⟩:∃t,slA S.D.sl s.parent=some t))
  refine out_calls h1 hs hpar (hw.a.mem n s hs (by simp)) (lst_live hw.a _) fun w2 o2' h2 e2=>⟨rfl,?_⟩
  have hnq:n≠s.parent:=fun e=>wi_par hw.a hs (by rw [←e];exact .self)
  have hs1:slA (outI S.D n).sl n=some s:=by rw [o3,setA_of hs,if_neg (fun e=>hnq e.1)]
  have hp2:PI { S with D:=outI S.D n }:=by
   have e:outI S.D n=setI S.D s.parent ((lstI S.D s.parent).erase n):=by unfold outI;rw [hs]
   rw [e];exact hp.setI hpar
  have hpa:∀x t,slA S.D.sl x=some t→∃u,slA (outI S.D n).sl x=some u∧u.parent=t.parent:=by rw [o3];exact setA_pa
  have hap:∀x t,slA (outI S.D n).sl x=some t→∃u,slA S.D.sl x=some u∧u.parent=t.parent:=by rw [o3];exact setA_ap
  obtain⟨c,c1,c2⟩:=hw.a.chain n s hs
  have hll0:∀z,z∈[n]→z=n∨¬Wi (slA (outI S.D n).sl) n z:=fun z hz=>.inl (by simpa using hz)
  refine gone_calls (S:={ S with D:=outI S.D n }) o2 (65-c) n c hs1 hll0 (c2.mono hpa) (by omega) h2 hp2 o1 (fun y _=>rfl) fun w3 S3 h3 hp3 hD3 hb3 e3=>⟨rfl,?_⟩
  have hk:killF (outI S.D n).sl (postA (slA (outI S.D n).sl) (65-c) n)=killF (outI S.D n).sl (allA (slA S.D.sl) 65 n):=by
   refine killF_mem (fun y=>?_) _
   rw [(post_perm _ _ _).mem_iff,mem_all o2 ⟨s,hs1⟩ hll0 (c2.mono hpa) (by omega),mem_all hw.a ⟨s,hs⟩ (fun z hz=>by simp at hz) c2 (by omega)]
   exact⟨fun h=>h.mono hap,fun h=>h.mono hpa⟩
  have:=hK w3 o2' S3 h3 hp3 (by rw [e1,hD3];dsimp only;rw [hk]) (EvP.trans (EvP.trans (EvC.below hb1) (e2.mono fun c hc=>?_)) (e3.mono fun c hc=>?_))
  ·rw [e1] at this;exact this
  ·unfold lcC at hc
   unfold pc
   split at hc <;> omega
  ·unfold Cg at hc
   unfold pc
   omega
end
end Go.Proofs.YtccplipiahdhiaaGreatDoor
set_option linter.unusedVariables false
set_option maxRecDepth 100000
namespace Go.Proofs.YtccplipiahdhiaaGreatDoor
open Go.Vc
def F136 (a:ByteArray) (b:ByteArray) (c:World) (R:Ending→World→Prop):Prop :=
 ByRow Tryz.prog 175 #[(.string a),(.string b)] c (fun v w1 =>
 ∃(d:Int),v=(.int .i64 d) ∧
 R (.returned (.int .i64 d)) w1)
theorem ok136 (a:ByteArray) (b:ByteArray) {w:World}{R:Ending→World→Prop} (h:F136 a b w R):Calls Tryz.prog 136 #[(.string a),(.string b)] w R :=
 vc_calls (pl:=⟨8,⟨[]⟩,[],[]⟩) Tryz.func136 (by kernel_rfl) (by kernel_rfl) (by kernel_rfl) (Eq.mp (by kernel_rfl) h)
def F93 (a:ByteArray) (b:ByteArray) (c:World) (R:Ending→World→Prop):Prop :=
 Calls Tryz.prog 136 #[(.string a),(.string b)] c (post R fun v w1 =>
 ∃(d:Int),v=(.int .i64 d) ∧
 R (.returned (.int .i64 d)) w1)
theorem ok93 (a:ByteArray) (b:ByteArray) {w:World}{R:Ending→World→Prop} (h:F93 a b w R):Calls Tryz.prog 93 #[(.string a),(.string b)] w R :=
 vc_calls (pl:=⟨8,⟨[]⟩,[],[]⟩) Tryz.func93 (by kernel_rfl) (by kernel_rfl) (by kernel_rfl) (Eq.mp (by kernel_rfl) h)
end Go.Proofs.YtccplipiahdhiaaGreatDoor
namespace Go.Proofs.YtccplipiahdhiaaGreatDoor
open Go.RowKit Go.Vc
set_option linter.unusedVariables false
set_option linter.unusedSimpArgs false
set_option maxRecDepth 100000
theorem bl_irr:∀a:List UInt8,Op.bytesLess a a=false
 | []=>rfl
 | x :: a=>by
  rw [Op.bytesLess,bl_irr a];simp
theorem bl_tri:∀a b:List UInt8,Op.bytesLess a b=true∨a=b∨Op.bytesLess b a=true
 | [],[]=>.inr (.inl rfl)
 | [],_ :: _=>.inl rfl
 | _ :: _,[]=>.inr (.inr rfl)
 | x :: a,y :: b=>by
  rw [Op.bytesLess,Op.bytesLess]
  rcases Nat.lt_trichotomy x.toNat y.toNat with h | h | h
  ·refine .inl ?_
   rw [decide_eq_true (UInt8.lt_iff_toNat_lt.2 h)];rfl
  ·have h:=UInt8.toNat_inj.1 h
   subst h
   rcases bl_tri a b with h | h | h
   ·refine .inl ?_;rw [h];simp
   ·refine .inr (.inl ?_);rw [h]
   ·refine .inr (.inr ?_);rw [h];simp
  ·refine .inr (.inr ?_)
   rw [decide_eq_true (UInt8.lt_iff_toNat_lt.2 h)];rfl
theorem bl_trans:∀{a b c:List UInt8},Op.bytesLess a b=true→Op.bytesLess b c=true→Op.bytesLess a c=true
 | _,[],_,h,_=>by cases ‹List UInt8› <;> simp [Op.bytesLess] at h
 | _,_ :: _,[],_,h=>by simp [Op.bytesLess] at h
 | [],_ :: _,_ :: _,_,_=>rfl
 | x :: a,y :: b,z :: c,h1,h2=>by
  rw [Op.bytesLess,Bool.or_eq_true,Bool.and_eq_true,decide_eq_true_eq,beq_iff_eq] at *
  rcases h1 with h1 | ⟨rfl,h1⟩
  ·rcases h2 with h2 | ⟨rfl,h2⟩
   ·exact .inl (UInt8.lt_trans h1 h2)
   ·exact .inl h1
  ·rcases h2 with h2 | ⟨rfl,h2⟩
   ·exact .inl h2
   ·exact .inr ⟨rfl,bl_trans h1 h2⟩
def blt (a b:ByteArray):Bool:=Op.bytesLess a.toList b.toList
theorem blt_irr (a:ByteArray):blt a a=false:=bl_irr _
theorem toList_inj {a b:ByteArray} (h:a.toList=b.toList):a=b:=by
 have:=bytes_eq a b
 rw [h] at this
 simpa using this.symm
theorem blt_tri (a b:ByteArray):blt a b=true∨a=b∨blt b a=true:=(bl_tri a.toList b.toList).imp id (Or.imp toList_inj id)
theorem blt_trans {a b c:ByteArray} (h1:blt a b=true) (h2:blt b c=true):blt a c=true:=bl_trans h1 h2
theorem blt_asymm {a b:ByteArray} (h:blt a b=true):blt b a=false:=by
 cases h2:blt b a with
 | false=>rfl
 | true=>have:=blt_trans h h2;rw [blt_irr] at this;cases this
theorem cmp_lt:∀a b:List UInt8,(Lib.compareBytes a b < 0↔Op.bytesLess a b=true)∧(Lib.compareBytes a b=0↔a=b)
 | [],[]=>by simp [Lib.compareBytes,Op.bytesLess]
 | [],_ :: _=>by simp [Lib.compareBytes,Op.bytesLess]
 | _ :: _,[]=>by simp [Lib.compareBytes,Op.bytesLess]
 | x :: a,y :: b=>by
  rw [Lib.compareBytes,Op.bytesLess]
  obtain⟨i1,i2⟩:=cmp_lt a b
  by_cases h1:x < y
  ·rw [if_pos h1]
   have hne:x≠y:=fun e=>by subst e;exact UInt8.lt_irrefl _ h1
   simp [h1,hne]
  ·rw [if_neg h1]
   by_cases h2:y < x
   ·rw [if_pos h2]
    have hne:x≠y:=fun e=>by subst e;exact UInt8.lt_irrefl _ h2
    simp [h1,hne]
   ·rw [if_neg h2]
    have he:x=y:=UInt8.toNat_inj.1 (by
     rw [UInt8.lt_iff_toNat_lt] at h1 h2;omega)
    subst he
    simp [h1,i1,i2]
theorem cmpB (a b:ByteArray):(Lib.compareBytes a.data.toList b.data.toList < 0↔blt a b=true)∧(Lib.compareBytes a.data.toList b.data.toList=0↔a=b):=by
 have h:=cmp_lt a.toList b.toList
 rw [ByteArray.toList_eq,ByteArray.toList_eq] at h
 refine⟨by rw [h.1];unfold blt;rw [ByteArray.toList_eq,ByteArray.toList_eq],?_⟩
 rw [h.2]
 constructor
 ·intro e;exact toList_inj (by rw [ByteArray.toList_eq,ByteArray.toList_eq];exact e)
 ·rintro rfl;rfl
theorem behindB_eq (p:Option ByteArray) (a:ByteArray):behindB p a=true↔∀b,p=some b→blt b a=true:=by
 unfold behindB
 cases p with
 | none=>simp
 | some b =>
  simp only [Option.some.injEq,forall_eq']
  rw [bytes_eq]
  constructor
  ·intro h
   rcases blt_tri b a with h1 | h1 | h1
   ·exact h1
   ·subst h1;simp at h
   ·unfold blt at h1;rw [h1] at h;simp at h
  ·intro h
   have h1:=blt_asymm h
   have h2:a≠b:=fun e=>by subst e;rw [blt_irr] at h;cases h
   unfold blt at h1
   rw [h1,decide_eq_false h2];rfl
def okA (l:List At):Prop:=(∀a∈l,isName a.nm=true∧(textS a.val).2=0)∧l.Pairwise fun a b=>blt a.nm b.nm=true
theorem attrsF_ok:∀(l:List At) (p:Option ByteArray),attrsF p l=0↔okA l∧∀b,p=some b→∀a∈l,blt b a.nm=true
 | [],p=>by simp [attrsF,okA]
 | a :: l,p=>by
  rw [attrsF]
  have ih:=attrsF_ok l (some a.nm)
  by_cases h1:isName a.nm=true
  ·rw [if_pos h1]
   by_cases h2:behindB p a.nm=true
   ·rw [if_pos h2]
    have h2':=(behindB_eq p a.nm).1 h2
    by_cases h3:(textS a.val).2=0
    ·rw [if_pos h3,ih]
     constructor
     ·rintro ⟨⟨k1,k2⟩,k3⟩
      refine⟨⟨fun x hx=>?_,List.pairwise_cons.2 ⟨fun x hx=>k3 a.nm rfl x hx,k2⟩⟩,fun b hb x hx=>?_⟩
      ·rcases List.mem_cons.1 hx with rfl | hx
       ·exact⟨h1,h3⟩
       ·exact k1 x hx
      ·rcases List.mem_cons.1 hx with rfl | hx
       ·exact h2' b hb
       ·exact blt_trans (h2' b hb) (k3 a.nm rfl x hx)
     ·rintro ⟨⟨k1,k2⟩,k3⟩
      have k2:=List.pairwise_cons.1 k2
      refine⟨⟨fun x hx=>k1 x (List.mem_cons_of_mem _ hx),k2.2⟩,fun b hb x hx=>?_⟩
      cases hb;exact k2.1 x hx
    ·rw [if_neg h3]
     constructor
     ·intro e
      have:(textS a.val).2=0:=by omega
      exact absurd this h3
     ·rintro ⟨⟨k1,_⟩,_⟩
      exact absurd (k1 a (by simp)).2 h3
   ·rw [if_neg h2]
    constructor
    ·intro e;cases e
    ·rintro ⟨_,k3⟩
     exact absurd ((behindB_eq p a.nm).2 fun b hb=>k3 b hb a (by simp)) h2
  ·rw [if_neg h1]
   constructor
   ·intro e;cases e
   ·rintro ⟨⟨k1,_⟩,_⟩
    exact absurd (k1 a (by simp)).1 h1
theorem attrF_ok (l:List At):attrF l=0↔l.length≤32∧okA l:=by
 unfold attrF
 by_cases h:32 < l.length
 ·rw [if_pos h]
  constructor
  ·intro e;cases e
  ·rintro ⟨k,_⟩;omega
 ·rw [if_neg h,attrsF_ok]
  constructor
  ·rintro ⟨k,_⟩;exact⟨by omega,k⟩
  ·rintro ⟨_,k⟩;exact⟨k,fun b hb=>by cases hb⟩
theorem compare_calls (a b:ByteArray) {w:World}{R:Ending→World→Prop} (hK:R (.returned (.int .i64 (Lib.compareBytes a.data.toList b.data.toList))) w):Calls Tryz.prog 93 #[.string a,.string b] w R:=by
 refine ok93 a b ?_
 unfold F93
 refine ok136 a b ?_
 unfold F136
 refine⟨_,w,?_,_,rfl,_,rfl,hK⟩
 rw [run_callFunc_extern Tryz.func175 (by kernel_rfl) (by kernel_rfl) (by kernel_rfl) (e:=Extern.BytealgCompare.compare) (by kernel_rfl),Lib.run_compareString]
 rfl
set_option maxRecDepth 100000
def posA (l:List At) (nm:ByteArray):Nat:=l.findIdx fun a=>!blt a.nm nm
def thereA (l:List At) (nm:ByteArray):Bool:=match l[posA l nm]? with | some a=>decide (a.nm=nm) | none=>false
def setA' (l:List At) (nm v:ByteArray):List At:=if thereA l nm=true then l.set (posA l nm) ⟨nm,v⟩ else l.take (posA l nm)++⟨nm,v⟩ :: l.drop (posA l nm)
def chgF (D:Im) (n:Nat) (kind:Int):Int:=match slA D.sl n with
 | none=>8
 | some s=>if s.kind=kind then 0 else 30
def setNameF (D:Im) (n:Nat) (nm:ByteArray):Im × Int :=
 if chgF D n 1≠0 then (D,chgF D n 1) else if isName nm=true then (updI D n fun s=>{ s with nm:=nm },0) else (D,6)
def setTextF (D:Im) (n:Nat) (t:ByteArray):Im × Int :=
 if chgF D n 2≠0 then (D,chgF D n 2) else if (textS t).2=0 then (updI D n fun s=>{ s with text:=t },0) else (D,((textS t).2:Nat))
def atsI (D:Im) (n:Nat):List At:=match slA D.sl n with | some s=>s.attrs | none=>[]
def setAttrF (D:Im) (n:Nat) (nm v:ByteArray):Im × Int :=
 if chgF D n 1≠0 then (D,chgF D n 1) else if isName nm≠true then (D,6) else if (textS v).2≠0 then (D,((textS v).2:Nat)) else
 if thereA (atsI D n) nm=false∧32≤(atsI D n).length then (D,2) else (updI D n fun s=>{ s with attrs:=setA' s.attrs nm v },0)
def dropAttrF (D:Im) (n:Nat) (nm:ByteArray):Im × Int :=
 if chgF D n 1≠0 then (D,chgF D n 1) else if thereA (atsI D n) nm=true then (updI D n fun s=>{ s with attrs:=s.attrs.take (posA s.attrs nm)++s.attrs.drop (posA s.attrs nm+1) },0) else (D,35)
theorem posA_le (l:List At) (nm:ByteArray):posA l nm≤l.length:=List.findIdx_le_length
theorem posA_below {l:List At}{nm:ByteArray}{k:Nat} (hk:k < posA l nm) (hl:k < l.length):blt l[k].nm nm=true:=by
 have:=List.not_of_lt_findIdx (p:=fun a:At=>!blt a.nm nm) (xs:=l) hk
 simpa using this
theorem posA_at {l:List At}{nm:ByteArray} (h:posA l nm < l.length):blt l[posA l nm].nm nm=false:=by
 have:=List.findIdx_getElem (p:=fun a:At=>!blt a.nm nm) (xs:=l) (w:=h)
 unfold posA
 simpa using this
theorem posA_eq {l:List At}{nm:ByteArray}{i:Nat} (hi:i≤l.length) (h1:∀k,k < i→∀h:k < l.length,blt l[k].nm nm=true) (h2:∀h:i < l.length,blt l[i].nm nm=false):posA l nm=i:=by
 have hle:=posA_le l nm
 rcases Nat.lt_trichotomy (posA l nm) i with h | h | h
 ·have:=posA_at (l:=l) (nm:=nm) (by omega)
  rw [h1 _ h (by omega)] at this;cases this
 ·exact h
 ·have:=posA_below h (by omega)
  rw [h2 (by omega)] at this;cases this
theorem okA_posA {l:List At}{nm:ByteArray} (h:okA l) {k:Nat} (hk:posA l nm < k) (hl:k < l.length):blt nm l[k].nm=true:=by
 have hp:=List.pairwise_iff_getElem.1 h.2 (posA l nm) k (by omega) hl hk
 have ha:=posA_at (l:=l) (nm:=nm) (by omega)
 rcases blt_tri l[posA l nm].nm nm with e | e | e
 ·rw [e] at ha;cases ha
 ·rw [←e];exact hp
 ·exact blt_trans e hp
theorem okA_set {l:List At}{nm v:ByteArray} (h:okA l) (hn:isName nm=true) (hv:(textS v).2=0):okA (setA' l nm v):=by
 unfold setA'
 by_cases ht:thereA l nm=true
 ·rw [if_pos ht]
  have hlt:posA l nm < l.length:=by
   unfold thereA at ht
   refine Classical.byContradiction fun h=>?_
   rw [List.getElem?_eq_none (by omega)] at ht;cases ht
  have hnm:l[posA l nm].nm=nm:=by
   unfold thereA at ht
   rw [List.getElem?_eq_getElem hlt] at ht
   simpa using ht
  refine⟨fun a ha=>?_,?_⟩
  ·rcases List.mem_or_eq_of_mem_set ha with ha | rfl
   ·exact h.1 a ha
   ·exact⟨hn,hv⟩
  ·refine List.pairwise_iff_getElem.2 fun i j hi hj hij=>?_
   rw [List.length_set] at hi hj
   have hp:=List.pairwise_iff_getElem.1 h.2 i j hi hj hij
   rw [List.getElem_set,List.getElem_set]
   split
   ·rename_i e
    split
    ·omega
    ·subst e;rw [hnm] at hp;exact hp
   ·split
    ·rename_i e;subst e;rw [hnm] at hp;exact hp
    ·exact hp
 ·rw [if_neg ht]
  have hle:=posA_le l nm
  have hnm:∀h:posA l nm < l.length,blt nm l[posA l nm].nm=true:=fun hlt=>by
   rcases blt_tri l[posA l nm].nm nm with e | e | e
   ·rw [posA_at hlt] at e;cases e
   ·exfalso;apply ht
    unfold thereA
    rw [List.getElem?_eq_getElem hlt]
    simpa using e
   ·exact e
  refine⟨fun a ha=>?_,?_⟩
  ·rw [List.mem_append,List.mem_cons] at ha
   rcases ha with ha | rfl | ha
   ·exact h.1 a (List.mem_of_mem_take ha)
   ·exact⟨hn,hv⟩
   ·exact h.1 a (List.mem_of_mem_drop ha)
  ·have hp:=h.2
   rw [←List.take_append_drop (posA l nm) l,List.pairwise_append] at hp
   obtain⟨q1,q2,q3⟩:=hp
   have hdrop:∀x∈l.drop (posA l nm),blt nm x.nm=true:=fun x hx=>by
    obtain⟨k,hk,rfl⟩:=List.mem_iff_getElem.1 hx
    rw [List.length_drop] at hk
    rw [List.getElem_drop]
    by_cases h0:k=0
    ·subst h0;exact hnm (by omega)
    ·exact okA_posA h (by omega) (by omega)
   have htake:∀x∈l.take (posA l nm),blt x.nm nm=true:=fun x hx=>by
    obtain⟨k,hk,rfl⟩:=List.mem_iff_getElem.1 hx
    rw [List.length_take] at hk
    rw [List.getElem_take]
    exact posA_below (by omega) (by omega)
   rw [List.pairwise_append,List.pairwise_cons]
   refine⟨q1,⟨hdrop,q2⟩,fun x hx y hy=>?_⟩
   rcases List.mem_cons.1 hy with rfl | hy
   ·exact htake x hx
   ·exact q3 x hx y hy
theorem okA_drop {l:List At} (h:okA l) (k:Nat):okA (l.take k++l.drop (k+1)):=by
 have hs:(l.take k++l.drop (k+1)).Sublist l:=by
  conv=>rhs;rw [←List.take_append_drop k l]
  exact (List.Sublist.refl _).append (by rw [←List.drop_drop];exact List.drop_sublist _ _)
 exact⟨fun a ha=>h.1 a (hs.subset ha),h.2.sublist hs⟩
section
variable {w w1 w2:World}{o o1 o2:Nat→Nat}{θ:Th}{S:PS}{M:Nat→Prop}{bs:List Nat}{R:Ending→World→Prop}
theorem of_calls (h:PM w o θ S) {n:Nat} (hn:n < 18446744073709551616) (kind:Int) (hk:kind≠0)
  (hK:∀w',Below w.heap.size w w'→R (.returned (.tuple #[.pointer (if chgF S.D n kind=0 then some ⟨pb S.bs n,0,none⟩ else none),.int .i64 (chgF S.D n kind)])) w'):Calls Tryz.prog 235 #[.pointer (some ⟨θ.g,0,none⟩),.int .u64 (n:Nat),.int .i64 kind] w R:=by
 refine ok235 (some ⟨θ.g,0,none⟩) (n:Nat) kind ?_
 unfold F235
 refine atL_calls h hn fun w1 hb1=>⟨_,rfl,?_⟩
 have h1:=h.below hb1
 have:=hK w1 hb1
 unfold chgF at this
 cases hs:slA S.D.sl n with
 | none =>
  have e:ptrL S n=none:=by unfold ptrL;rw [hs];rfl
  rw [e]
  rw [hs] at this
  exact this
 | some s =>
  have e:ptrL S n=some ⟨pb S.bs n,0,none⟩:=by unfold ptrL;rw [hs];rfl
  rw [e]
  rw [hs] at this
  dsimp only at this
  obtain⟨i,i1,i2,i3,i4⟩:=h1.of hs
  simp only [Option.isNone_some,Br_f,NonNil_some,Addr.add_mk,Nat.zero_add,h1.cKind i2 i3,lds]
  refine brn (fun hne=>?_) (fun he=>?_)
  ·simp only [if_neg hne] at this;exact this
  ·simp only [if_pos he] at this;exact this
theorem chg_some {D:Im}{n:Nat}{kind:Int} (h:chgF D n kind=0):∃s,slA D.sl n=some s∧s.kind=kind:=by
 unfold chgF at h
 cases hs:slA D.sl n with
 | none=>rw [hs] at h;cases h
 | some s =>
  rw [hs] at h
  dsimp only at h
  by_cases hk:s.kind=kind
  ·exact⟨s,rfl,hk⟩
  ·rw [if_neg hk] at h;cases h
theorem updI_setS {i n:Nat}{s:Sl}{f:Sl→Sl} (hi:n % 4294967296=i+1) (hs:S.D.sl[i]?=some s):S.setS i (f s)={ S with D:=updI S.D n f }:=by
 unfold PS.setS updI
 rw [hi,Nat.add_sub_cancel,modify_set _ _ _ _ hs]
theorem nodeC_pc {i c:Nat} (hc:c=8+4*i∨c=9+4*i∨c=10+4*i):pc c:=by unfold pc;omega
theorem setName_calls (h:PM w o θ S) (hp:PI S) {n:Nat} (hn:n < 18446744073709551616) {nm:ByteArray}
  (hK:∀w' S',PM w' o θ S'→PI S'→S'.D=(setNameF S.D n nm).1→EvP w o w' o→R (.returned (.int .i64 (setNameF S.D n nm).2)) w') :
  Calls Tryz.prog 230 #[.pointer (some ⟨θ.g,0,none⟩),.int .u64 (n:Nat),.string nm] w R:=by
 refine ok230 (some ⟨θ.g,0,none⟩) (n:Nat) nm ?_
 unfold F230
 refine of_calls h hn 1 (by decide) fun w1 hb1=>⟨_,_,rfl,?_⟩
 have h1:=h.below hb1
 unfold setNameF at hK
 refine brn (fun hne=>?_) (fun he=>?_)
 ·rw [if_pos hne] at hK
  exact hK w1 S h1 hp rfl (EvC.below hb1)
 rw [if_neg (by rw [he];simp)] at hK
 obtain⟨s,hs,hk⟩:=chg_some he
 obtain⟨i,i1,i2,i3,i4⟩:=h1.of hs
 rw [if_pos he]
 refine name_calls ⟨_,rfl,?_⟩
 rw [brnot]
 refine br (fun hnm=>?_) (fun hnm=>?_)
 ·rw [if_pos hnm] at hK
  simp only [NonNil_some,Addr.add_mk,Nat.zero_add]
  refine h1.stName i2 i3 nm fun w2 h2 e2=>?_
  have hp2:=hp.updI (f:=fun s=>{ s with nm:=nm }) hs rfl rfl
  rw [updI_setS (f:=fun s=>{ s with nm:=nm }) i1 i3] at h2
  exact hK w2 _ h2 hp2 rfl (EvP.trans (EvC.below hb1) (e2.mono fun c=>nodeC_pc))
 ·rw [if_neg (by rw [hnm];decide)] at hK
  exact hK w1 S h1 hp rfl (EvC.below hb1)
theorem setText_calls (h:PM w o θ S) (hp:PI S) (hT:Tabs (wc o w)) {n:Nat} (hn:n < 18446744073709551616) {t:ByteArray}
  (hK:∀w' S',PM w' o θ S'→PI S'→S'.D=(setTextF S.D n t).1→EvP w o w' o→R (.returned (.int .i64 (setTextF S.D n t).2)) w') :
  Calls Tryz.prog 231 #[.pointer (some ⟨θ.g,0,none⟩),.int .u64 (n:Nat),.string t] w R:=by
 refine ok231 (some ⟨θ.g,0,none⟩) (n:Nat) t ?_
 unfold F231
 refine of_calls h hn 2 (by decide) fun w1 hb1=>⟨_,_,rfl,?_⟩
 have h1:=h.below hb1
 unfold setTextF at hK
 refine brn (fun hne=>?_) (fun he=>?_)
 ·rw [if_pos hne] at hK
  exact hK w1 S h1 hp rfl (EvC.below hb1)
 rw [if_neg (by rw [he];simp)] at hK
 obtain⟨s,hs,hk⟩:=chg_some he
 rw [if_pos he]
 refine charsText_calls t ((hT.sub sub_of_only).keep hb1) fun w2 hb2=>⟨_,_,rfl,?_⟩
 have B2:=btr hb1 hb1.size hb2
 have h2:=h.below B2
 obtain⟨i,i1,i2,i3,i4⟩:=h2.of hs
 refine brn (fun hne=>?_) (fun hz=>?_)
 ·rw [if_neg (by omega)] at hK
  exact hK w2 S h2 hp rfl (EvC.below B2)
 ·rw [if_pos (by omega)] at hK
  simp only [NonNil_some,Addr.add_mk,Nat.zero_add]
  refine h2.stText i2 i3 t fun w3 h3 e3=>?_
  have hp2:=hp.updI (f:=fun s=>{ s with text:=t }) hs rfl rfl
  rw [updI_setS (f:=fun s=>{ s with text:=t }) i1 i3] at h3
  exact hK w3 _ h3 hp2 rfl (EvP.trans (EvC.below B2) (e3.mono fun c=>nodeC_pc))
theorem attr1_calls (a:At) (nm:ByteArray) (hK:∀w',Below w.heap.size w w'→R (.returned (.int .i64 (Lib.compareBytes a.nm.data.toList nm.data.toList))) w'):Calls Tryz.prog 243 #[.agg #[.string a.nm,.string a.val],.string nm] w R:=by
 refine ok243 a.nm a.val nm ?_
 unfold F243
 refine al fun g w1 hb1 b1 hge=>?_
 simp only [Addr.add_mk,Nat.zero_add,b1.cell,lds]
 exact compare_calls a.nm nm ⟨_,rfl,hK w1 hb1⟩
theorem bsearch_calls (l:List At) (v:Sv) {nm:ByteArray} (hl:RR LAt w l v) (ho:okA l) (hK:∀w',Below w.heap.size w w'→R (.returned (.tuple #[.int .i64 (posA l nm:Nat),.bool (thereA l nm)])) w') :
  Calls Tryz.prog 242 #[.slice v.1 v.2.1 v.2.2,.string nm,.func (.func 243) #[] #[]] w R:=by
 obtain⟨z0,z1,z2⟩:=hl
 refine ok242 v.1 v.2.1 v.2.2 nm (.func (.func 243) #[] #[]) ?_
 unfold F242
 refine⟨fun i j w'=>∃a b:Nat,i=a∧j=b∧a≤b∧b≤l.length∧Below w.heap.size w w'∧(∀k,k < a→∀h:k < l.length,blt l[k].nm nm=true)∧(∀k,b≤k→∀h:k < l.length,blt l[k].nm nm=false),fun i j _=>j.toNat-i.toNat,
  ⟨0,l.length,rfl,by rw [z1],by omega,by omega,Below.refl _ _,fun k hk=>by omega,fun k hk h=>by omega⟩,?_⟩
 rintro i j w1 ⟨a,b,rfl,rfl,hab,hbl,hb1,q1,q2⟩
 unfold F242_l3
 refine brd (fun hlt=>?_) (fun hge=>?_)
 ·have hm:(((a:Nat):Int)+((b:Nat):Int)).fdiv (2 ^ (min ((1:Int)).toNat 64))=(((a+b) / 2:Nat):Int):=by
   have e:(2:Int) ^ (min ((1:Int)).toNat 64)=2:=by decide
   rw [e,Int.fdiv_eq_ediv_of_nonneg _ (by decide)];omega
  rw [hm]
  have hk:(a+b) / 2 < l.length:=by omega
  refine⟨inR_i64 (by omega) (by omega),inR_u64 (by omega) (by omega),inR_i64 (by omega) (by omega),?_⟩
  refine (z2.keep hb1).at2 z1 rfl hk fun bb oo c0 c1=>?_
  simp only [Addr.add_mk,c0,c1,lds]
  refine⟨by kernel_rfl,?_⟩
  refine attr1_calls l[(a+b) / 2] nm fun w2 hb2=>⟨_,rfl,?_⟩
  have B2:=btr hb1 hb1.size hb2
  have hc:=(cmpB l[(a+b) / 2].nm nm).1
  refine brd (fun hneg=>?_) (fun hpos=>?_)
  ·have hlt':=hc.1 hneg
   refine⟨inR_i64 (by omega) (by omega),⟨(a+b) / 2+1,b,by omega,rfl,by omega,hbl,B2,fun k hk h=>?_,q2⟩,by omega⟩
   by_cases e:k=(a+b) / 2
   ·subst e;exact hlt'
   ·have:=List.pairwise_iff_getElem.1 ho.2 k ((a+b) / 2) h (by omega) (by omega)
    exact blt_trans this hlt'
  ·refine⟨⟨a,(a+b) / 2,rfl,rfl,by omega,by omega,B2,q1,fun k hk h=>?_⟩,by omega⟩
   have hnot:blt l[(a+b) / 2].nm nm=false:=by
    cases hb:blt l[(a+b) / 2].nm nm with
    | false=>rfl
    | true=>exact absurd (hc.2 hb) hpos
   by_cases e:k=(a+b) / 2
   ·subst e;exact hnot
   ·have h3:=List.pairwise_iff_getElem.1 ho.2 ((a+b) / 2) k (by omega) h (by omega)
    cases hb:blt l[k].nm nm with
    | false=>rfl
    | true=>rw [blt_trans h3 hb] at hnot;cases hnot
 ·have hab2:a=b:=by omega
  subst hab2
  have hpos:posA l nm=a:=posA_eq hbl q1 fun h=>q2 a (Nat.le_refl _) h
  refine brd (fun hlt=>?_) (fun hge2=>?_)
  ·have hk:a < l.length:=by omega
   refine (z2.keep hb1).at2 z1 rfl hk fun bb oo c0 c1=>?_
   simp only [Addr.add_mk,c0,c1,lds]
   refine⟨by kernel_rfl,?_⟩
   refine attr1_calls l[a] nm fun w2 hb2=>⟨_,rfl,?_⟩
   have:=hK w2 (btr hb1 hb1.size hb2)
   rw [hpos] at this
   have e:(Lib.compareBytes l[a].nm.data.toList nm.data.toList == 0)=thereA l nm:=by
    unfold thereA
    rw [hpos,List.getElem?_eq_getElem hk]
    rw [Bool.eq_iff_iff,beq_iff_eq,decide_eq_true_eq]
    exact (cmpB l[a].nm nm).2
   rw [e];exact this
  ·have:=hK w1 hb1
   rw [hpos] at this
   have e:thereA l nm=false:=by
    unfold thereA
    rw [hpos,List.getElem?_eq_none (by omega)]
   rw [e] at this;exact this
theorem attr_calls (h:PM w o θ S) {n i:Nat}{s:Sl} (i2:S.bs[i]?=some (pb S.bs n)) (i3:S.D.sl[i]?=some s) (ho:okA s.attrs) {nm:ByteArray} (hK:∀w',Below w.heap.size w w'→R (.returned (.tuple #[.int .i64 (posA s.attrs nm:Nat),.bool (thereA s.attrs nm)])) w') :
  Calls Tryz.prog 236 #[.pointer (some ⟨pb S.bs n,0,none⟩),.string nm] w R:=by
 refine ok236 (some ⟨pb S.bs n,0,none⟩) nm ?_
 unfold F236
 obtain⟨a,ca,oa,ra⟩:=h.cAts i2 i3
 obtain⟨A,c,hv,hr⟩:=oa.form
 rw [hv] at ca
 simp only [NonNil_some,Addr.add_mk,Nat.zero_add,ca,lds]
 exact bsearch_calls s.attrs (A,s.attrs.length,c) ⟨(h.rng s (List.mem_of_getElem? i3)).atf,rfl,hr⟩ ho fun w' hb=>⟨_,_,rfl,hK w' hb⟩
end
set_option maxRecDepth 100000
section
variable {w w1 w2:World}{o o1 o2:Nat→Nat}{θ:Th}{S:PS}{M:Nat→Prop}{bs:List Nat}{R:Ending→World→Prop}
theorem own_poke {v:Sv}{xs:List At}{k:Nat}{nv:ByteArray} (hO:Own LAt w 0 205 (slV v) xs) (hk:k < xs.length) {K:World→Prop}
  (hK:∀w1,Own LAt w1 0 205 (slV v) (xs.set k ⟨xs[k].nm,nv⟩)→Fm (fun b=>rowOf (slV v)=some b) w w1→K w1):IdxA v.1 v.2.1 (k:Nat) 2 fun q=>St w (q.add 1) (.string nv) fun w1=>K w1:=by
 obtain⟨g,c,rest,rfl,hrow,_,hB,hc1,hc2,hc3⟩:=hO.row1 (by omega)
 dsimp only
 rw [IdxA_some (by omega) (by omega)]
 simp only [Addr.add_mk,Nat.zero_add,Int.toNat_natCast]
 have hall:=LAt.all_length xs
 have hLn:LAt.n=2:=rfl
 rw [hLn] at hall hc3
 refine st_blk hB (by rw [List.size_toArray,hc3];omega) fun w1 hB1 f1=>hK w1 ?_ (f1.mono fun b _ e=>by have e:b=g:=e;rw [hrow,e])
 have hset:(LAt.all xs++rest).set (k*2+1) (.string nv)=LAt.all (xs.set k ⟨xs[k].nm,nv⟩)++rest:=by
  rw [LAt.all_set xs k _ hk]
  have h1:LAt.all xs=(LAt.all xs).take (k*2)++(LAt.cells xs[k]++(LAt.all xs).drop ((k+1)*2)):=by
   have h2:=LAt.all_set xs k xs[k] hk
   rw [List.set_getElem_self] at h2
   exact h2
  have hl:((LAt.all xs).take (k*2)).length=k*2:=by rw [List.length_take,hall];omega
  show _=(LAt.all xs).take (k*2)++(LAt.cells ⟨xs[k].nm,nv⟩++(LAt.all xs).drop ((k+1)*2))++rest
  generalize (LAt.all xs).drop ((k+1)*2)=dd at h1 ⊢
  generalize hpp:(LAt.all xs).take (k*2)=pp at h1 hl ⊢
  rw [h1]
  simp only [LAt,List.append_assoc,List.cons_append,List.nil_append]
  rw [List.set_append_right _ _ (by omega),hl,show k*2+1-k*2=1 by omega]
  rfl
 rw [List.setIfInBounds_toArray,hset] at hB1
 have hln:(xs.set k ⟨xs[k].nm,nv⟩).length=xs.length:=List.length_set
 have hO1:=Own.ofBlk (k:=0) (c:=c) hB1 (Nat.zero_le _) (by rw [hln];exact hc1) (by omega) hc2 (by rw [←hset,List.length_set,hc3];rfl)
 rw [hln] at hO1
 exact hO1
theorem PM.pokeAts (h:PM w o θ S) {i b:Nat}{s:Sl}{a:Sv}{l:List At} (hb:S.bs[i]?=some b) (hs:S.D.sl[i]?=some s) (ca:w.cell? ⟨b,5,none⟩=some (slV a)) (ra:∀x,rowOf (slV a)=some x→o x=10+4*i) (hf:Fm (fun x=>rowOf (slV a)=some x) w w1)
  (hO:Own LAt w1 0 205 (slV a) l) (hl:l.length≤1048576):PM w1 o θ (S.setS i { s with attrs:=l })∧EvP w o w1 o:=by
 obtain⟨a',kv,hn⟩:=h.nodes i b s hb hs
 have hcb:=h.nc i b hb
 have haa:a'=a:=by
  have hcell:=hn.blk.cell 5
  rw [ca] at hcell
  have e:(nodeC i s a' (ptrH S.bs s.parent) kv)[5]?=some (slV a'):=rfl
  rw [e] at hcell
  obtain⟨a1,a2,a3⟩:=a
  obtain⟨c1,c2,c3⟩:=a'
  unfold slV at hcell
  simp only [Option.some.injEq,Value.slice.injEq] at hcell
  obtain⟨rfl,rfl,rfl⟩:=hcell
  rfl
 subst haa
 have hrs:=h.rng s (List.mem_of_getElem? hs)
 have hN:NodeR w1 (cl o none (9+4*i)) S.bs i b { s with attrs:=l } a' kv:=by
  rw [cl_none]
  refine⟨hf.blk hn.blk fun e=>?_,hO,ra,own_fm hn.kd1 hf fun x hx e=>?_,hn.kd2⟩
  ·have:=ra _ e;omega
  ·have:=ra _ e
   have:=hn.kd2 x hx;omega
 have:=h.setNode (r:=none) (c:=9+4*i) hb hs hf (fun x hx=>.inl (.inr (.inr (ra x hx)))) (.inl rfl) (fun x hx=>by cases hx) hN ⟨hrs.gen,hrs.par,hrs.kids,hrs.few,hl⟩
 rw [cl_none] at this
 exact⟨this.1,this.2.mono fun c=>nodeC_pc⟩
theorem ats_some {D:Im}{n:Nat}{s:Sl} (hs:slA D.sl n=some s):atsI D n=s.attrs:=by unfold atsI;rw [hs]
theorem okS_ats {s:Sl} (h:okSl s) (hk:s.kind=1):s.attrs.length≤32∧okA s.attrs:=by
 have h1:=h.1
 unfold ownF at h1
 rw [if_pos hk] at h1
 split at h1
 ·exact (attrF_ok _).1 h1
 ·cases h1
theorem posA_there {l:List At}{nm:ByteArray} (h:thereA l nm=true):∃hk:posA l nm < l.length,l[posA l nm].nm=nm:=by
 unfold thereA at h
 rcases Nat.lt_or_ge (posA l nm) l.length with hk | hk
 ·rw [List.getElem?_eq_getElem hk] at h
  exact⟨hk,by simpa using h⟩
 ·rw [List.getElem?_eq_none hk] at h;cases h
theorem setAttr_calls (h:PM w o θ S) (hp:PI S) (hw:Wf S.D) (hT:Tabs (wc o w)) {n:Nat} (hn:n < 18446744073709551616) {nm v:ByteArray}
  (hK:∀w' o' S',PM w' o' θ S'→PI S'→S'.D=(setAttrF S.D n nm v).1→EvP w o w' o'→R (.returned (.int .i64 (setAttrF S.D n nm v).2)) w') :
  Calls Tryz.prog 229 #[.pointer (some ⟨θ.g,0,none⟩),.int .u64 (n:Nat),.string nm,.string v] w R:=by
 refine ok229 (some ⟨θ.g,0,none⟩) (n:Nat) nm v ?_
 unfold F229
 refine of_calls h hn 1 (by decide) fun w1 hb1=>⟨_,_,rfl,?_⟩
 have h1:=h.below hb1
 unfold setAttrF at hK
 refine brn (fun hne=>?_) (fun he=>?_)
 ·rw [if_pos hne] at hK
  exact hK w1 o S h1 hp rfl (EvC.below hb1)
 rw [if_neg (by rw [he];simp)] at hK
 obtain⟨s,hs,hk⟩:=chg_some he
 obtain⟨a1,a2⟩:=okS_ats (hw.a.ok n s hs) hk
 rw [if_pos he]
 refine name_calls ⟨_,rfl,?_⟩
 rw [brnot]
 refine br (fun hnm=>?_) (fun hnm=>?_)
 rotate_left
 ·rw [if_pos (by rw [hnm];decide)] at hK
  exact hK w1 o S h1 hp rfl (EvC.below hb1)
 rw [if_neg (by rw [hnm];simp)] at hK
 refine charsText_calls v ((hT.sub sub_of_only).keep hb1) fun w2 hb2=>⟨_,_,rfl,?_⟩
 have B2:=btr hb1 hb1.size hb2
 have h2:=h.below B2
 refine brn (fun hne=>?_) (fun hz=>?_)
 ·rw [if_pos (by omega)] at hK
  exact hK w2 o S h2 hp rfl (EvC.below B2)
 rw [if_neg (by omega),ats_some hs] at hK
 obtain⟨i,i1,i2,i3,i4⟩:=h2.of hs
 refine attr_calls h2 i2 i3 a2 fun w3 hb3=>⟨_,_,rfl,?_⟩
 have B3:=btr B2 B2.size hb3
 have h3:=h.below B3
 obtain⟨a,ca,oa,ra⟩:=h3.cAts i2 i3
 obtain⟨A,c,hv,hr⟩:=oa.form
 have hv2:a=(A,s.attrs.length,c):=by
  obtain⟨z1,z2,z3⟩:=a
  unfold slV at hv
  simp only [Value.slice.injEq] at hv
  obtain⟨rfl,rfl,rfl⟩:=hv
  rfl
 have ca':w3.cell? ⟨pb S.bs n,5,none⟩=some (.slice A s.attrs.length c):=by rw [ca,hv]
 have hle:=posA_le s.attrs nm
 refine⟨fun w'=>∃o',PM w' o' θ { S with D:=updI S.D n fun s=>{ s with attrs:=setA' s.attrs nm v } }∧EvP w3 o w' o'∧¬(thereA s.attrs nm=false∧32≤s.attrs.length),?_,?_⟩
 ·rintro w4 ⟨o4,h4,e4,hnl⟩
  unfold F229_j15
  rw [if_neg hnl] at hK
  exact hK w4 o4 _ h4 (hp.updI (f:=fun s=>{ s with attrs:=setA' s.attrs nm v }) hs rfl rfl) rfl (EvP.trans (EvC.below B3) e4)
 ·refine br (fun ht=>?_) (fun ht=>?_)
  ·obtain⟨k1,k2⟩:=posA_there ht
   simp only [NonNil_some,Addr.add_mk,Nat.zero_add,ca',lds]
   rw [hv2] at oa
   refine own_poke oa k1 fun w4 o4 f4=>?_
   rw [k2] at o4
   obtain⟨h4,e4⟩:=h3.pokeAts (a:=(A,s.attrs.length,c)) i2 i3 ca' (by rw [←hv2];exact ra) f4 o4 (by rw [List.length_set];omega)
   refine⟨o,?_,e4,by rw [ht];simp⟩
   have:setA' s.attrs nm v=s.attrs.set (posA s.attrs nm) ⟨nm,v⟩:=by unfold setA';rw [if_pos ht]
   rw [←this,updI_setS (f:=fun s=>{ s with attrs:=setA' s.attrs nm v }) i1 i3] at h4
   exact h4
  ·simp only [NonNil_some,Addr.add_mk,Nat.zero_add,ca',lds]
   refine brd (fun hge=>?_) (fun hlt=>?_)
   ·rw [if_pos ⟨ht,by omega⟩] at hK
    exact hK w3 o S h3 hp rfl (EvC.below B3)
   ·refine al fun gx w4 hb4 bx hgex=>?_
    have h4:=h3.below hb4
    rw [hv2] at oa ra
    refine insA_calls (x:=⟨nm,v⟩) (oa.keep hb4) hle bx rfl (fun e=>by
     have:=ra gx e
     have:=h3.lt gx (by omega)
     omega) (by omega) fun v' w5 o5 f5 r5=>⟨_,_,_,rfl,?_⟩
    refine h4.setAts (b:=pb S.bs n) i2 i3 (v:=(A,s.attrs.length,c)) (v':=v') ra f5 o5 r5 (by simp;omega) fun w6 o6 h6 e6=>⟨o6,?_,EvP.trans (EvC.below hb4) (e6.mono fun c=>nodeC_pc),?_⟩
    ·have:setA' s.attrs nm v=s.attrs.take (posA s.attrs nm)++⟨nm,v⟩ :: s.attrs.drop (posA s.attrs nm):=by unfold setA';rw [if_neg (by rw [ht];decide)]
     rw [←this,updI_setS (f:=fun s=>{ s with attrs:=setA' s.attrs nm v }) i1 i3] at h6
     exact h6
    ·rintro ⟨_,h7⟩;omega
theorem dropAttr_calls (h:PM w o θ S) (hp:PI S) (hw:Wf S.D) {n:Nat} (hn:n < 18446744073709551616) {nm:ByteArray}
  (hK:∀w' o' S',PM w' o' θ S'→PI S'→S'.D=(dropAttrF S.D n nm).1→EvP w o w' o'→R (.returned (.int .i64 (dropAttrF S.D n nm).2)) w') :
  Calls Tryz.prog 227 #[.pointer (some ⟨θ.g,0,none⟩),.int .u64 (n:Nat),.string nm] w R:=by
 refine ok227 (some ⟨θ.g,0,none⟩) (n:Nat) nm ?_
 unfold F227
 refine of_calls h hn 1 (by decide) fun w1 hb1=>⟨_,_,rfl,?_⟩
 have h1:=h.below hb1
 unfold dropAttrF at hK
 refine brn (fun hne=>?_) (fun he=>?_)
 ·rw [if_pos hne] at hK
  exact hK w1 o S h1 hp rfl (EvC.below hb1)
 rw [if_neg (by rw [he];simp)] at hK
 obtain⟨s,hs,hk⟩:=chg_some he
 obtain⟨a1,a2⟩:=okS_ats (hw.a.ok n s hs) hk
 rw [if_pos he]
 rw [ats_some hs] at hK
 obtain⟨i,i1,i2,i3,i4⟩:=h1.of hs
 refine attr_calls h1 i2 i3 a2 fun w3 hb3=>⟨_,_,rfl,?_⟩
 have B3:=btr hb1 hb1.size hb3
 have h3:=h.below B3
 rw [brnot]
 refine br (fun ht=>?_) (fun ht=>?_)
 ·rw [if_pos ht] at hK
  obtain⟨k1,k2⟩:=posA_there ht
  obtain⟨a,ca,oa,ra⟩:=h3.cAts i2 i3
  obtain⟨A,c,hv,hr⟩:=oa.form
  have hv2:a=(A,s.attrs.length,c):=by
   obtain⟨z1,z2,z3⟩:=a
   unfold slV at hv
   simp only [Value.slice.injEq] at hv
   obtain⟨rfl,rfl,rfl⟩:=hv
   rfl
  have ca':w3.cell? ⟨pb S.bs n,5,none⟩=some (.slice A s.attrs.length c):=by rw [ca,hv]
  simp only [NonNil_some,Addr.add_mk,Nat.zero_add,ca',lds]
  rw [hv2] at oa ra
  have e1:((posA s.attrs nm:Nat):Int)+1=((posA s.attrs nm+1:Nat):Int):=by omega
  rw [e1]
  refine⟨inR_i64 (by omega) (by omega),?_⟩
  refine delA_calls oa (by omega) (by omega) fun v' w5 o5 f5 r5=>⟨_,_,_,rfl,?_⟩
  refine h3.setAts (b:=pb S.bs n) i2 i3 (v:=(A,s.attrs.length,c)) (v':=v') ra f5 o5 r5 (by simp;omega) fun w6 o6 h6 e6=>?_
  rw [updI_setS (f:=fun s=>{ s with attrs:=s.attrs.take (posA s.attrs nm)++s.attrs.drop (posA s.attrs nm+1) }) i1 i3] at h6
  exact hK w6 o6 _ h6 (hp.updI (f:=fun s=>{ s with attrs:=s.attrs.take (posA s.attrs nm)++s.attrs.drop (posA s.attrs nm+1) }) hs rfl rfl) rfl (EvP.trans (EvC.below B3) (e6.mono fun c=>nodeC_pc))
 ·rw [if_neg (by rw [ht];decide)] at hK
  exact hK w3 o S h3 hp rfl (EvC.below B3)
end
set_option maxRecDepth 100000
section
variable {w w1 w2 w0:World}{o o1 o2:Nat→Nat}{θ:Th}{S:PS}{M:Nat→Prop}{bs:List Nat}{R:Ending→World→Prop}{loose:List Nat}
theorem slvF {v:Sv}{A:Option Addr}{n c:Nat} (h:slV v=.slice A n c):v=(A,n,c):=by
 obtain⟨a1,a2,a3⟩:=v
 unfold slV at h
 simp only [Value.slice.injEq] at h
 obtain⟨rfl,rfl,rfl⟩:=h
 rfl
theorem handles_calls (h:PM w o θ S) {l:List Nat}{v:Sv} (hv:v.2.1=l.length) (hr:Rd LPt w v.1 v.2.2 (l.map (pb S.bs))) (hl:l.length≤1048576) (hll:∀x∈l,∃t,slA S.D.sl x=some t)
  (hK:∀v' w',Below w.heap.size w w'→Own LHn w' w.heap.size 65 (slV v') l→R (.returned (slV v')) w'):Calls Tryz.prog 115 #[.slice v.1 v.2.1 v.2.2] w R:=by
 refine ok115 v.1 v.2.1 v.2.2 ?_
 unfold F115
 rw [hv]
 refine⟨by omega,by omega,by omega,?_⟩
 refine al fun g8 w1 hb1 b1 hge1=>?_
 have o1:Own LHn w1 w.heap.size 65 (.slice (some ⟨g8,0,none⟩) 0 l.length) []:=Own.made b1 hge1 (by simp [zrow,LHn]) (by simp [maxLen];omega)
 refine⟨fun A n c j w'=>∃k:Nat,j=k∧k≤l.length∧Below w.heap.size w w'∧Own LHn w' w.heap.size 65 (.slice A n c) (l.take k),fun _ _ _ j _=>l.length-j.toNat,⟨0,rfl,by omega,hb1,by simpa using o1⟩,?_⟩
 rintro A n c j w2 ⟨k,rfl,hk,hb2,ho⟩
 unfold F115_l3
 refine brd (fun hlt=>?_) (fun hge=>?_)
 ·have hk2:k < l.length:=by omega
  refine (hr.keep hb2).pt (by rw [List.length_map]) rfl (k:=k) (by rw [List.length_map];exact hk2) fun bb oo cc=>?_
  rw [List.getElem_map] at cc
  simp only [cc,lds]
  obtain⟨t,ht⟩:=hll l[k] (List.getElem_mem hk2)
  refine hnd_calls (h.below hb2) ht fun w3 hb3=>⟨_,rfl,?_⟩
  have B3:=btr hb2 hb2.size hb3
  refine ap1 (L:=LHn) (x:=l[k]) (xs:=l.take k) (.int .u64 0) 8 rfl (by kernel_rfl) (by kernel_rfl) (by kernel_rfl) (ho.keep hb3) B3.size (by rw [List.length_take];omega) (by rw [List.length_take];simp [maxLen];omega) fun A' c' w4 o4 g4=>⟨A',_,c',rfl,inR_i64 (by omega) (by omega),⟨k+1,by simp,by omega,B3.trans g4.below,?_⟩,(by first | omega | (dsimp only;omega))⟩
  rw [List.take_succ_eq_append_getElem hk2];exact o4
 ·have hk2:k=l.length:=by omega
  subst hk2
  rw [List.take_length] at ho
  exact hK (A,n,c) w2 hb2 ho
theorem Kids_calls (h:PM w o θ S) (hA:WfA (slA S.D.sl) S.D.roots loose) (hf:S.D.sl.length≤4096) {x:Nat}{s:Sl} (hx:slA S.D.sl x=some s)
  (hK:∀v' w',Below w.heap.size w w'→Own LHn w' w.heap.size 65 (slV v') s.kids→R (.returned (.tuple #[slV v',.int .i64 0])) w'):Calls Tryz.prog 117 #[.pointer (some ⟨θ.g,0,none⟩),.int .u64 (x:Nat)] w R:=by
 refine ok117 (some ⟨θ.g,0,none⟩) x ?_
 unfold F117
 obtain⟨i,i1,i2,i3,i4⟩:=h.of hx
 have hgen:=(h.rng s (List.mem_of_getElem? i3)).gen
 have hxl:x < 18446744073709551616:=by
  obtain⟨k,k1,k2,k3,k4⟩:=slA_iff.1 hx
  have:=(List.getElem?_eq_some_iff.1 k2).1
  unfold hnd at k4;omega
 refine atL_calls h hxl fun w1 hb1=>⟨_,rfl,?_⟩
 have e:ptrL S x=some ⟨pb S.bs x,0,none⟩:=by unfold ptrL;rw [hx];rfl
 rw [e]
 simp only [Option.isNone_some,Br_f,NonNil_some,Addr.add_mk,Nat.zero_add]
 have h1:=h.below hb1
 obtain⟨v,cv,ov,rv⟩:=h1.cKids i2 i3
 obtain⟨A,c,hvf,hrd⟩:=ov.form
 have e1:=slvF hvf
 have cv':w1.cell? ⟨pb S.bs x,8,none⟩=some (.slice v.1 v.2.1 v.2.2):=cv
 simp only [cv',lds]
 refine handles_calls h1 (v:=v) (l:=s.kids) (by rw [e1];simp) (by rw [e1];exact hrd) (Nat.le_trans (live_few (fun y hy=>by obtain⟨_,t,ht,_⟩:=(hA.kid x s hx).2 y hy;exact⟨t,ht⟩) (hA.kid x s hx).1) (by omega)) (fun y hy=>by obtain⟨_,t,ht,_⟩:=(hA.kid x s hx).2 y hy;exact⟨t,ht⟩) fun v' w2 hb2 ho=>⟨_,_,_,rfl,?_⟩
 exact hK v' w2 (btr hb1 hb1.size hb2) (ho.rebase fun k hk=>Nat.le_trans hb1.size (ho.lt k hk).1)
theorem Roots_calls (h:PM w o θ S) (hA:WfA (slA S.D.sl) S.D.roots loose)
  (hK:∀v' w',Below w.heap.size w w'→Own LHn w' w.heap.size 65 (slV v') S.D.roots→R (.returned (slV v')) w'):Calls Tryz.prog 69 #[.pointer (some ⟨θ.g,0,none⟩)] w R:=by
 refine ok69 (some ⟨θ.g,0,none⟩) ?_
 unfold F69
 obtain⟨nv,rv,hd⟩:=h.doc
 obtain⟨A,c,hvf,hrd⟩:=hd.r1.form
 have e1:=slvF hvf
 have cv':w.cell? ⟨θ.g,1,none⟩=some (.slice rv.1 rv.2.1 rv.2.2):=by rw [hd.blk.cell];rfl
 simp only [NonNil_some,Addr.add_mk,Nat.zero_add,cv',lds]
 exact handles_calls h (v:=rv) (l:=S.D.roots) (by rw [e1];simp) (by rw [e1];exact hrd) h.rts.2 (fun y hy=>by obtain⟨_,t,ht,_⟩:=hA.root.2 y hy;exact⟨t,ht⟩) fun v' w2 hb2 ho=>⟨_,_,_,rfl,hK v' w2 hb2 ho⟩
theorem hx_lt (h:PM w o θ S) {x:Nat}{s:Sl} (hx:slA S.D.sl x=some s):x < 18446744073709551616:=by
 obtain⟨i,i1,i2,i3,i4⟩:=h.of hx
 have hgen:=(h.rng s (List.mem_of_getElem? i3)).gen
 have hf:=h.few
 obtain⟨k,k1,k2,k3,k4⟩:=slA_iff.1 hx
 have:=(List.getElem?_eq_some_iff.1 k2).1
 unfold hnd at k4;omega
theorem Parent_calls (h:PM w o θ S) (hA:WfA (slA S.D.sl) S.D.roots loose) {x:Nat}{s:Sl} (hx:slA S.D.sl x=some s)
  (hK:∀w',Below w.heap.size w w'→R (.returned (.tuple #[.int .u64 (s.parent:Nat),.int .i64 0])) w'):Calls Tryz.prog 124 #[.pointer (some ⟨θ.g,0,none⟩),.int .u64 (x:Nat)] w R:=by
 refine ok124 (some ⟨θ.g,0,none⟩) x ?_
 unfold F124
 obtain⟨i,i1,i2,i3,i4⟩:=h.of hx
 refine atL_calls h (hx_lt h hx) fun w1 hb1=>⟨_,rfl,?_⟩
 have e:ptrL S x=some ⟨pb S.bs x,0,none⟩:=by unfold ptrL;rw [hx];rfl
 rw [e]
 have h1:=h.below hb1
 simp only [Option.isNone_some,Br_f,NonNil_some,Addr.add_mk,Nat.zero_add,h1.cPar i2 i3,lds]
 rcases hA.par x s hx with hp | ⟨t,ht,_⟩
 ·have e2:ptrH S.bs s.parent=none:=by unfold ptrH;rw [if_pos hp]
  rw [e2]
  refine hndN_calls ⟨_,rfl,?_⟩
  have:=hK w1 hb1
  rw [hp] at this;exact this
 ·have p0:s.parent≠0:=fun e=>by rw [e,slA_zero] at ht;cases ht
  have e2:ptrH S.bs s.parent=some ⟨pb S.bs s.parent,0,none⟩:=by unfold ptrH;rw [if_neg p0]
  rw [e2]
  exact hnd_calls h1 ht fun w2 hb2=>⟨_,rfl,hK w2 (btr hb1 hb1.size hb2)⟩
theorem all_fewP {D:Im} (hS:WfS D.sl) (hA:WfA (slA D.sl) D.roots []) {r x:Nat} (hx:∃s,slA D.sl x=some s):(allA (slA D.sl) r x).length≤4096 :=
 Nat.le_trans (live_few (fun y hy=>all_live hA hx (fun z hz=>by simp at hz) hy) (all_nodup hA r x hx fun z hz=>by simp at hz)) hS.few
theorem allP_calls (h:PM w0 o θ S) (hA:WfA (slA S.D.sl) S.D.roots loose):∀(r:Nat) {l:List Nat}{v:Sv}{cc:Nat}{w:World}{A:Option Addr}{n c:Nat}{xs:List Nat}{R:Ending→World→Prop},v.2.1=l.length→Rd LPt w0 v.1 v.2.2 (l.map (pb S.bs))→l.length≤1048576→(∀x∈l,∃t,slA S.D.sl x=some t∧Ch (slA S.D.sl) x cc)→65≤cc+r →
  Below w0.heap.size w0 w→Own LHn w w0.heap.size 65 (.slice A n c) xs→xs.length+(l.flatMap (allA (slA S.D.sl) r)).length≤4398046511104 →
  (∀A' n' c' w',Below w0.heap.size w0 w'→Own LHn w' w0.heap.size 65 (.slice A' n' c') (xs++l.flatMap (allA (slA S.D.sl) r))→R (.returned (.slice A' n' c')) w') →
  Calls Tryz.prog 96 #[.slice v.1 v.2.1 v.2.2,.slice A n c] w R:=by
 intro r
 induction r with
 | zero =>
  intro l v cc w A n c xs R hv hr hl hll hcr hb ho hlen hK
  have hl0:l=[]:=by
   cases l with
   | nil=>rfl
   | cons x l =>
    obtain⟨t,t1,t2⟩:=hll x (by simp)
    obtain⟨c',h1,h2⟩:=hA.chain x t t1
    have:=t2.fn h2;omega
  subst hl0
  refine ok96 v.1 v.2.1 v.2.2 A n c ?_
  unfold F96
  refine⟨fun A' n' c' j w'=>j=0∧A'=A∧n'=n∧c'=c∧w'=w,fun _ _ _ _ _=>0,⟨rfl,rfl,rfl,rfl,rfl⟩,?_⟩
  rintro _ _ _ _ _ ⟨rfl,rfl,rfl,rfl,rfl⟩
  unfold F96_l2
  refine brd (fun hlt=>absurd hlt (by rw [hv];simp)) (fun _=>hK _ _ _ _ hb (by simpa using ho))
 | succ r ih =>
  intro l v cc w A n c xs R hv hr hl hll hcr hb ho hlen hK
  refine ok96 v.1 v.2.1 v.2.2 A n c ?_
  unfold F96
  refine⟨fun A' n' c' j w'=>∃k:Nat,j=k∧k≤l.length∧Below w0.heap.size w0 w'∧Own LHn w' w0.heap.size 65 (.slice A' n' c') (xs++(l.take k).flatMap (allA (slA S.D.sl) (r+1))),fun _ _ _ j _=>l.length-j.toNat,⟨0,rfl,by omega,hb,by simpa using ho⟩,?_⟩
  rintro A1 n1 c1 j w1 ⟨k,rfl,hk,hb1,ho1⟩
  unfold F96_l2
  refine brd (fun hlt=>?_) (fun hge=>?_)
  ·have hk2:k < l.length:=by omega
   refine (hr.keep hb1).pt (by rw [List.length_map];exact hv) rfl (k:=k) (by rw [List.length_map];exact hk2) fun bb oo cx=>?_
   rw [List.getElem_map] at cx
   simp only [cx,lds]
   obtain⟨t,t1,t2⟩:=hll l[k] (List.getElem_mem hk2)
   obtain⟨i,i1,i2,i3,i4⟩:=h.of t1
   have hdr:Below w1.heap.size w1 w1.drew:=(Below.refl _ _).drew
   have B1d:=btr hb1 hb1.size hdr
   obtain⟨kv,ck,ok,rk⟩:=h.cKids i2 i3
   obtain⟨Ak,ckk,hkf,hkr⟩:=ok.form
   have ek:=slvF hkf
   have hkids:∀y∈t.kids,∃u,slA S.D.sl y=some u∧u.parent=l[k]:=fun y hy=>((hA.kid _ t t1).2 y hy).2
   have hst:(l.take (k+1)).flatMap (allA (slA S.D.sl) (r+1))=(l.take k).flatMap (allA (slA S.D.sl) (r+1))++(l[k] :: t.kids.flatMap (allA (slA S.D.sl) r)):=by
    rw [List.take_succ_eq_append_getElem hk2,List.flatMap_append,←allA_some t1];simp
   have hle:((l.take (k+1)).flatMap (allA (slA S.D.sl) (r+1))).length≤(l.flatMap (allA (slA S.D.sl) (r+1))).length:=by
    have e:l.flatMap (allA (slA S.D.sl) (r+1))=(l.take (k+1)).flatMap (allA (slA S.D.sl) (r+1))++(l.drop (k+1)).flatMap (allA (slA S.D.sl) (r+1)):=by rw [←List.flatMap_append,List.take_append_drop]
    rw [e,List.length_append];omega
   rw [hst,List.length_append,List.length_cons] at hle
   refine⟨fun w'=>Below w0.heap.size w0 w',B1d,?_⟩
   simp only [NonNil_some,Addr.add_mk,Nat.zero_add]
   refine⟨kv.1,kv.2.1,kv.2.2,fun w' hw=>(sub_below hw).cell ck,?_⟩
   refine hnd_calls (h.below B1d) t1 fun w2 hb2=>⟨_,rfl,?_⟩
   have B2:=btr B1d B1d.size hb2
   refine⟨B2,?_⟩
   refine ap1S (L:=LHn) (x:=l[k]) (S:=fun w'=>Below w0.heap.size w0 w') (.int .u64 0) 8 rfl (by kernel_rfl) (by kernel_rfl) (by kernel_rfl) ((ho1.keep hdr).keep hb2) B2.size (by simp only [List.length_append];omega) (by simp only [maxLen,List.length_append];omega) (fun w' hb'=>btr B2 B2.size hb') fun A3 c3 w3 o3 g3=>⟨A3,_,c3,rfl,?_⟩
   have B3:=B2.trans g3.below
   refine⟨B3,?_⟩
   refine ih (l:=t.kids) (v:=kv) (cc:=cc+1) (by rw [ek];simp) (by rw [ek];exact hkr) (Nat.le_trans (live_few (fun y hy=>by obtain⟨u,hu,_⟩:=hkids y hy;exact⟨u,hu⟩) (hA.kid _ t t1).1) (by have:=h.few;omega)) (fun y hy=>by
    obtain⟨u,u1,u2⟩:=hkids y hy
    exact⟨u,u1,.succ (hA.ne0 u1) u1 (by rw [u2];exact t2)⟩) (by omega) B3 o3 (by simp only [List.length_append,List.length_singleton];omega) fun A4 n4 c4 w4 hb4 o4=>⟨A4,n4,c4,rfl,inR_i64 (by omega) (by omega),⟨k+1,by simp,by omega,hb4,?_⟩,(by first | omega | (dsimp only;omega))⟩
   rw [hst,←List.append_assoc]
   rw [List.append_assoc _ [l[k]],List.singleton_append] at o4
   exact o4
  ·have hk2:k=l.length:=by omega
   subst hk2
   rw [List.take_length] at ho1
   exact hK _ _ _ _ hb1 ho1
theorem AllT_calls (h:PM w o θ S) (hS:WfS S.D.sl) (hA:WfA (slA S.D.sl) S.D.roots []) {x:Nat} (hxl:x < 18446744073709551616) (h0:x≠0)
  (hK:∀v' w',Below w.heap.size w w'→(∀s,slA S.D.sl x=some s→Own LHn w' w.heap.size 65 (slV v') (allA (slA S.D.sl) 65 x))→R (.returned (.tuple #[slV v',.int .i64 (if (slA S.D.sl x).isSome=true then 0 else 8)])) w'):Calls Tryz.prog 56 #[.pointer (some ⟨θ.g,0,none⟩),.int .u64 (x:Nat)] w R:=by
 refine ok56 (some ⟨θ.g,0,none⟩) x ?_
 unfold F56
 refine bre (fun e=>absurd (by omega) h0) (fun _=>?_)
 refine atL_calls h hxl fun w1 hb1=>⟨_,rfl,?_⟩
 have h1:=h.below hb1
 cases hx:slA S.D.sl x with
 | none =>
  have e:ptrL S x=none:=by unfold ptrL;rw [hx];rfl
  rw [e]
  simp only [Option.isNone_none,Br_t]
  have:=hK (none,0,0) w1 hb1 (fun s hs=>by rw [hx] at hs;cases hs)
  rw [hx] at this
  exact this
 | some s =>
  have e:ptrL S x=some ⟨pb S.bs x,0,none⟩:=by unfold ptrL;rw [hx];rfl
  rw [e]
  simp only [Option.isNone_some,Br_f]
  refine al fun g20 w2 hb2 b2 hge2=>?_
  have B2:=btr hb1 hb1.size hb2
  obtain⟨c,c1,c2⟩:=hA.chain x s hx
  have hlen:=all_fewP hS hA (r:=65) ⟨s,hx⟩
  have hone:([x]:List Nat).flatMap (allA (slA S.D.sl) 65)=allA (slA S.D.sl) 65 x:=by simp
  refine allP_calls (h.below B2) hA 65 (l:=[x]) (v:=(some ⟨g20,0,none⟩,1,1)) (cc:=c) (xs:=[]) rfl ?_ (by simp) (fun y hy=>by rw [List.mem_singleton] at hy;subst hy;exact⟨s,hx,c2⟩) (by omega) (Below.refl _ _) (.inl ⟨rfl,rfl⟩) (by rw [hone];simp only [List.length_nil];omega) fun A' n' c' w' hb' ho'=>⟨A',n',c',rfl,?_⟩
  ·refine⟨by simp,by simp [maxLen],fun h0=>(by cases h0),fun _=>⟨g20,0,rfl,fun j u hj=>?_⟩⟩
   rw [List.map_singleton,LPt.all_one] at hj
   rw [b2.cell];simpa [LPt] using hj
  ·rw [hone,List.nil_append] at ho'
   have:=hK (A',n',c') w' (btr B2 B2.size hb') (fun s' _=>ho'.rebase fun k hk=>Nat.le_trans B2.size (ho'.lt k hk).1)
   rw [hx] at this
   exact this
end
set_option maxRecDepth 100000
structure CNode (w0 w:World) (o:Nat→Nat) (S:PS) (bs:List Nat) (dn:Bool) (j b:Nat) (s:Sl) (a kv:Sv):Prop where
 blk:Blk w b (nodeC j s a (ptrH (bif dn then bs else S.bs) s.parent) kv) 202
 at1:Own LAt w 0 205 (slV a) s.attrs
 at2:∀x,rowOf (slV a)=some x→o x=10+4*j
 kd1:dn=true→Own LPt w 0 152 (slV kv) (s.kids.map (pb bs))
 kd2:dn=true→∀x,rowOf (slV kv)=some x→o x=9+4*j
 kd3:dn=false→kv.2.1=s.kids.length∧Rd LPt w0 kv.1 kv.2.2 (s.kids.map (pb S.bs))
structure CDoc (w0 w:World) (o:Nat→Nat) (S:PS) (gb gc:Nat) (bs:List Nat) (nv:Sv) (k:Nat):Prop where
 bel:Below w0.heap.size w0 w
 box:Blk w gb #[.pointer (some ⟨gc,0,none⟩)] 77
 doc:Blk w gc (docC nv (none,0,0) S.lv S.wn S.lo []) 98
 nv1:Own LPt w 0 152 (slV nv) bs
 nv2:∀x,rowOf (slV nv)=some x→o x=2
 col:o gc=1
 bc:o gb=0
 lt:∀b,o b≠0→w0.heap.size≤b∧b < w.heap.size
 gbl:w0.heap.size≤gb
 len:bs.length≤S.D.sl.length
 nc:∀(j b:Nat),bs[j]?=some b→o b=8+4*j
 nd:∀(j b:Nat) (s:Sl),bs[j]?=some b→S.D.sl[j]?=some s→∃a kv,CNode w0 w o S bs (decide (j < k)) j b s a kv
theorem inR_u32 {z:Int} (h0:0≤z) (h1:z≤4294967295):InR .u32 z:=⟨by simpa [IntKind.min,IntKind.signed] using h0,by simpa [IntKind.max,IntKind.signed,IntKind.bits] using h1⟩
section
variable {w w0 w1:World}{o o0 o1:Nat→Nat}{θ:Th}{S:PS}{bs:List Nat}{nv:Sv}{gb gc k:Nat}{M:Nat→Prop}{R:Ending→World→Prop}
theorem CNode.keep {dn:Bool}{j b:Nat}{s:Sl}{a kv:Sv} (h:CNode w0 w o S bs dn j b s a kv) (hb:o b=8+4*j) (hf:Fm M w w1) (hm:∀x,(o x=8+4*j∨o x=9+4*j∨o x=10+4*j)→¬M x) (ho:∀x,o x≠0→o1 x=o x):CNode w0 w1 o1 S bs dn j b s a kv :=
 ⟨hf.blk h.blk (hm b (.inl hb)),own_fm h.at1 hf fun x hx=>hm x (.inr (.inr (h.at2 x hx))),fun x hx=>by have:=h.at2 x hx;rw [ho x (by omega)];exact this,
  fun hd=>own_fm (h.kd1 hd) hf fun x hx=>hm x (.inr (.inl (h.kd2 hd x hx))),fun hd x hx=>by have:=h.kd2 hd x hx;rw [ho x (by omega)];exact this,h.kd3⟩
theorem CDoc.keep (h:CDoc w0 w o S gb gc bs nv k) (hf:Fm M w w1) (hm:∀b,b < w.heap.size→M b→o b=0∧b≠gb∧w0.heap.size≤b):CDoc w0 w1 o S gb gc bs nv k:=by
 have hM:∀x,o x≠0→¬M x:=fun x hx hmx=>hx (hm x (h.lt x hx).2 hmx).1
 refine⟨h.bel.trans (hf.toBelow h.bel.size fun b hb hmb=>?_),hf.blk h.box fun e=>(hm gb h.box.lt e).2.1 rfl,hf.blk h.doc (hM gc (by rw [h.col];decide)),own_fm h.nv1 hf fun x hx=>hM x (by rw [h.nv2 x hx];decide),h.nv2,h.col,h.bc,
  fun b hb=>⟨(h.lt b hb).1,Nat.lt_of_lt_of_le (h.lt b hb).2 hf.size⟩,h.gbl,h.len,h.nc,fun j b s hb hs=>?_⟩
 ·have:=(hm b (Nat.lt_of_lt_of_le hb h.bel.size) hmb).2.2;omega
 ·obtain⟨a,kv,hn⟩:=h.nd j b s hb hs
  exact⟨a,kv,hn.keep (h.nc j b hb) hf (fun x hx=>hM x (by omega)) fun _ _=>rfl⟩
theorem CDoc.below (h:CDoc w0 w o S gb gc bs nv k) (hb:Below w.heap.size w w1):CDoc w0 w1 o S gb gc bs nv k :=
 h.keep (M:=fun _=>False) (.below hb) fun _ _ h=>h.elim
theorem rdO {α:Type}{L:Lay α}{B:Nat}{e:TypeId}{v:Sv}{xs:List α} (h:Own L w B e (slV v) xs):v.2.1=xs.length∧Rd L w v.1 v.2.2 xs:=by
 obtain⟨A,c,hv,hr⟩:=h.form
 rw [slvF hv];exact⟨rfl,hr⟩
theorem turn_calls (hP:PM w0 o0 θ S) (h:CDoc w0 w o S gb gc bs nv k) (hlen:bs.length=S.D.sl.length) {l:List Nat}{v:Sv} (hv:v.2.1=l.length) (hr:Rd LPt w0 v.1 v.2.2 (l.map (pb S.bs))) (hl:l.length≤1048576) (hin:∀x∈l,inN S.D.sl.length x)
  (hK:∀r w',Below w.heap.size w w'→Own LPt w' w.heap.size 152 (slV r) (l.map (pb bs))→R (.returned (slV r)) w'):Calls Tryz.prog 110 #[slV v,.pointer (some ⟨gb,0,none⟩)] w R:=by
 refine ok110 v.1 v.2.1 v.2.2 ⟨gb,0,none⟩ ?_
 unfold F110
 have hfew:=hP.few
 refine⟨fun A n c x w'=>∃m:Nat,x=m∧m≤l.length∧Below w.heap.size w w'∧Own LPt w' w.heap.size 152 (.slice A n c) ((l.take m).map (pb bs)),fun _ _ _ x _=>l.length-x.toNat,⟨0,rfl,by omega,.refl _ _,by simpa using Own.nil _ _ _ _⟩,?_⟩
 rintro A n c _ w1 ⟨m,rfl,hm,hb1,ho⟩
 unfold F110_l3
 have B1:=btr h.bel h.bel.size hb1
 have h1:=h.below hb1
 refine brd (fun hlt=>?_) (fun hge=>?_)
 ·have hm2:m < l.length:=by omega
  refine (hr.keep B1).pt (by rw [List.length_map,hv]) rfl (k:=m) (by rw [List.length_map];exact hm2) fun b o c0=>?_
  rw [List.getElem_map] at c0
  simp only [c0,lds]
  have hdr:Below w1.heap.size w1 w1.drew:=(Below.refl _ _).drew
  obtain⟨p1,s,p2⟩:=pb_get hP.len (hin _ (List.getElem_mem hm2))
  have pin:=hin _ (List.getElem_mem hm2)
  obtain⟨x,hx⟩:∃x,l[m]=x:=⟨_,rfl⟩
  rw [hx] at c0 p1 p2 pin ⊢
  unfold inN at pin
  obtain⟨n1,n2⟩:=rdO h1.nv1
  refine⟨fun w'=>Below w1.heap.size w1 w',hdr,?_⟩
  refine⟨_,fun w' hw=>by rw [(h1.box.keep hw).cell];rfl,?_⟩
  refine⟨_,_,_,fun w' hw=>by rw [(h1.doc.keep hw).cell];rfl,?_⟩
  refine⟨_,fun w' hw=>(hP.below (btr B1 B1.size hw)).cIdx p1 p2,?_⟩
  refine⟨inR_u32 (by omega) (by omega),?_⟩
  refine n2.held (fun _ h=>h) n1 (by omega) (by omega) rfl fun b2 o2 cc=>?_
  have cc:=cc 0 _ rfl
  have e1:(((x % 4294967296-1+1:Nat):Int)-1).toNat=x % 4294967296-1:=by omega
  have e2:bs[(((x % 4294967296-1+1:Nat):Int)-1).toNat]'(by omega)=pb bs x:=by
   unfold pb
   rw [List.getD_eq_getElem?_getD,List.getElem?_eq_getElem (by omega)]
   simp only [e1,Option.getD_some]
  simp only [e2,Nat.add_zero] at cc
  refine⟨_,cc,?_⟩
  refine ap1 (L:=LPt) (x:=pb bs x) (xs:=(l.take m).map (pb bs)) (.pointer none) 8 rfl (by kernel_rfl) (by kernel_rfl) (by kernel_rfl) (ho.keep hdr) (by simpa using hb1.size) (by rw [List.length_map,List.length_take];omega) (by rw [List.length_map,List.length_take];simp [maxLen];omega) fun A' c' w4 o4 g4=>⟨A',_,c',rfl,inR_i64 (by omega) (by omega),⟨m+1,by simp,by omega,(btr hb1 hb1.size hdr).trans g4.below,?_⟩,(by first | omega | (dsimp only;omega))⟩
  rw [List.take_succ_eq_append_getElem hm2,List.map_append,hx];exact o4
 ·have hm2:m=l.length:=by omega
  subst hm2
  rw [List.take_length] at ho
  exact hK (A,n,c) w1 hb1 ho
theorem CDoc.push (h:CDoc w0 w o S gb gc bs nv 0) {gm:Nat}{s:Sl} (hs:S.D.sl[bs.length]?=some s) {a kv nv':Sv} (hf:Fm (fun b=>rowOf (slV nv)=some b∨b=gc) w w1) (hgm:w.heap.size≤gm)
  (bm:Blk w1 gm (nodeC bs.length s a (ptrH S.bs s.parent) kv) 202) (ha:Own LAt w1 0 205 (slV a) s.attrs) (har:∀x,rowOf (slV a)=some x→w.heap.size≤x∧x≠gm)
  (hk:kv.2.1=s.kids.length∧Rd LPt w0 kv.1 kv.2.2 (s.kids.map (pb S.bs))) (hd:Blk w1 gc (docC nv' (none,0,0) S.lv S.wn S.lo []) 98) (hn:Own LPt w1 0 152 (slV nv') (bs++[gm]))
  (hnr:∀x,rowOf (slV nv')=some x→rowOf (slV nv)=some x∨(w.heap.size≤x∧x≠gm∧rowOf (slV a)≠some x)):∃o',CDoc w0 w1 o' S gb gc (bs++[gm]) nv' 0:=by
 have hnew:∀x,w.heap.size≤x→o x=0:=fun x hx=>Classical.byContradiction fun e=>by have:=(h.lt x e).2;omega
 have hcol:=h.col
 have hbc:=h.bc
 have hgb:=h.box.lt
 have hgc:=h.doc.lt
 have hws:=h.bel.size
 have hss:=hf.size
 let o2:Nat→Nat:=fun x=>if x=gm then 8+4*bs.length else if rowOf (slV a)=some x then 10+4*bs.length else if rowOf (slV nv')=some x then 2 else o x
 have hold:∀x,o x≠0→o2 x=o x:=fun x hx=>by
  have hxl:=(h.lt x hx).2
  show (if x=gm then _ else _)=_
  rw [if_neg (by omega),if_neg (fun e=>by have:=(har x e).1;omega)]
  split
  ·rename_i e
   rcases hnr x e with e2 | e2
   ·exact (h.nv2 x e2).symm
   ·omega
  ·rfl
 have hM:∀x,o x≠0→o x≠2→o x≠1→¬(rowOf (slV nv)=some x∨x=gc):=fun x h0 h2 h1 e=>by
  rcases e with e | e
  ·exact h2 (h.nv2 x e)
  ·subst e;exact h1 h.col
 refine⟨o2,h.bel.trans (hf.toBelow h.bel.size fun b hb e=>?_),hf.blk h.box fun e=>?_,hd,hn,fun x hx=>?_,?_,?_,fun b hb=>?_,h.gbl,?_,fun j b hb=>?_,fun j b t hb ht=>?_⟩
 ·rcases e with e | e
  ·have:=(h.lt b (by rw [h.nv2 b e];decide)).1;omega
  ·have:=(h.lt gc (by rw [h.col];decide)).1;omega
 ·rcases e with e | e
  ·rw [h.nv2 gb e] at hbc;cases hbc
  ·rw [e,hcol] at hbc;cases hbc
 ·show (if x=gm then _ else _)=_
  rcases hnr x hx with e | ⟨e1,e2,e3⟩
  ·have:=(h.lt x (by rw [h.nv2 x e];decide)).2
   rw [if_neg (by omega),if_neg (fun e=>by have:=(har x e).1;omega),if_pos hx]
  ·rw [if_neg e2,if_neg e3,if_pos hx]
 ·rw [hold gc (by rw [hcol];decide)];exact hcol
 ·show (if gb=gm then _ else _)=_
  rw [if_neg (by omega),if_neg (fun e=>by have:=(har gb e).1;omega),if_neg (fun e=>?_)]
  ·exact hbc
  ·rcases hnr gb e with e2 | e2
   ·rw [h.nv2 gb e2] at hbc;cases hbc
   ·omega
 ·by_cases h0:o b=0
  ·have hb2:(if b=gm then 8+4*bs.length else if rowOf (slV a)=some b then 10+4*bs.length else if rowOf (slV nv')=some b then 2 else o b)≠0:=hb
   by_cases e1:b=gm
   ·subst e1;exact⟨by omega,bm.lt⟩
   rw [if_neg e1] at hb2
   by_cases e2:rowOf (slV a)=some b
   ·exact⟨by have:=(har b e2).1;omega,(ha.lt b e2).2⟩
   rw [if_neg e2] at hb2
   by_cases e3:rowOf (slV nv')=some b
   ·rcases hnr b e3 with e4 | e4
    ·rw [h.nv2 b e4] at h0;cases h0
    ·exact⟨by omega,(hn.lt b e3).2⟩
   rw [if_neg e3] at hb2
   exact absurd h0 hb2
  ·have:=h.lt b h0;exact⟨this.1,by omega⟩
 ·have:=(List.getElem?_eq_some_iff.1 hs).1
  rw [List.length_append];simp only [List.length_singleton];omega
 ·rw [List.getElem?_append] at hb
  split at hb
  ·have:=h.nc j b hb
   rw [hold b (by omega)];exact this
  ·rename_i hj
   have hj2:j=bs.length:=by
    have:=(List.getElem?_eq_some_iff.1 hb).1
    simp only [List.length_singleton] at this;omega
   subst hj2
   rw [Nat.sub_self,List.getElem?_cons_zero] at hb
   cases hb
   show (if gm=gm then _ else _)=_
   rw [if_pos rfl]
 ·rw [List.getElem?_append] at hb
  split at hb
  ·obtain⟨a2,kv2,hN⟩:=h.nd j b t hb ht
   have hc:=h.nc j b hb
   have e0:decide (j < 0)=false:=decide_eq_false (by omega)
   rw [e0] at hN ⊢
   have hN2:=hN.keep (o1:=o2) hc hf (fun x hx=>hM x (by omega) (by omega) (by omega)) hold
   exact⟨a2,kv2,hN2.blk,hN2.at1,hN2.at2,(fun e=>by cases e),(fun e=>by cases e),hN2.kd3⟩
  ·rename_i hj
   have hj2:j=bs.length:=by
    have:=(List.getElem?_eq_some_iff.1 hb).1
    simp only [List.length_singleton] at this;omega
   subst hj2
   rw [Nat.sub_self,List.getElem?_cons_zero] at hb
   cases hb
   rw [hs] at ht;cases ht
   have e0:decide (bs.length < 0)=false:=decide_eq_false (by omega)
   rw [e0]
   refine⟨a,kv,bm,ha,fun x hx=>?_,(fun e=>by cases e),(fun e=>by cases e),fun _=>hk⟩
   show (if x=gm then _ else _)=_
   rw [if_neg (har x hx).2,if_pos hx]
theorem CDoc.step (h:CDoc w0 w o S gb gc bs nv k) {b:Nat}{s:Sl}{a kv:Sv} (hb:bs[k]?=some b) (hs:S.D.sl[k]?=some s) (hf:Fm (·=b) w w1) (bm:Blk w1 b (nodeC k s a (ptrH bs s.parent) kv) 202)
  (ha:Own LAt w 0 205 (slV a) s.attrs) (ha2:∀x,rowOf (slV a)=some x→o x=10+4*k) (hkv:Own LPt w1 0 152 (slV kv) (s.kids.map (pb bs))) (hr:∀x,rowOf (slV kv)=some x→o x=0∧w0.heap.size≤x∧x≠gb) :
  ∃o',CDoc w0 w1 o' S gb gc bs nv (k+1):=by
 have hcol:=h.col
 have hbc:=h.bc
 have hbb:=h.nc k b hb
 have hws:=h.bel.size
 have hbl:=h.lt b (by omega)
 have hold:∀x,o x≠0→cl o (rowOf (slV kv)) (9+4*k) x=o x:=fun x hx=>cl_old hx
 refine⟨cl o (rowOf (slV kv)) (9+4*k),h.bel.trans (hf.toBelow h.bel.size fun x hx e=>?_),hf.blk h.box fun e=>?_,hf.blk h.doc fun e=>?_,own_fm h.nv1 hf fun x hx e=>?_,fun x hx=>?_,?_,?_,fun x hx=>?_,h.gbl,h.len,fun j c hc=>?_,fun j c t hc ht=>?_⟩
 ·have e:x=b:=e
  omega
 ·have e:gb=b:=e
  rw [e,hbb] at hbc;omega
 ·have e:gc=b:=e
  rw [e,hbb] at hcol;omega
 ·have e:x=b:=e
  have:=h.nv2 x hx
  rw [e,hbb] at this;omega
 ·rw [hold x (by rw [h.nv2 x hx];decide)];exact h.nv2 x hx
 ·rw [hold gc (by rw [hcol];decide)];exact hcol
 ·unfold cl;rw [if_neg (fun e=>(hr gb e.1).2.2 rfl)];exact hbc
 ·by_cases e:o x=0
  ·unfold cl at hx
   by_cases e2:rowOf (slV kv)=some x∧o x=0
   ·exact⟨(hr x e2.1).2.1,(hkv.lt x e2.1).2⟩
   ·rw [if_neg e2] at hx;exact absurd e hx
  ·have:=h.lt x e;have:=hf.size;exact⟨(h.lt x e).1,by omega⟩
 ·have:=h.nc j c hc
  rw [hold c (by omega)];exact this
 ·by_cases ej:j=k
  ·subst ej
   rw [hb] at hc;cases hc
   rw [hs] at ht;cases ht
   rw [decide_eq_true (by omega)]
   refine⟨a,kv,bm,own_fm ha hf fun x hx e=>?_,fun x hx=>?_,fun _=>hkv,fun _ x hx=>?_,(fun e=>by cases e)⟩
   ·have e:x=b:=e
    have:=ha2 x hx
    rw [e,hbb] at this;omega
   ·rw [hold x (by rw [ha2 x hx];omega)];exact ha2 x hx
   ·exact cl_row hx (.inl (hr x hx).1)
  ·obtain⟨a2,kv2,hN⟩:=h.nd j c t hc ht
   have e1:decide (j < k+1)=decide (j < k):=decide_eq_decide.2 (by omega)
   rw [e1]
   have hcc:=h.nc j c hc
   exact⟨a2,kv2,hN.keep hcc hf (fun x hx e=>by
    have e:x=b:=e
    rw [e,hbb] at hx;omega) hold⟩
theorem CDoc.pm (hP:PM w0 o0 θ S) (h:CDoc w0 w o S gb gc bs nv S.D.sl.length) (hlen:bs.length=S.D.sl.length) {rv:Sv} (hf:Fm (·=gc) w w1) (hd:Blk w1 gc (docC nv rv S.lv S.wn S.lo []) 98)
  (hrv:Own LPt w1 0 152 (slV rv) (S.D.roots.map (pb bs))) (hr:∀x,rowOf (slV rv)=some x→o x=0∧w0.heap.size≤x) :
  ∃o',PM w1 o' ⟨gc,98,[]⟩ ⟨S.D,bs,S.lv,S.wn,S.lo⟩∧∀b,o' b≠0→w0.heap.size≤b:=by
 have hcol:=h.col
 have hold:∀x,o x≠0→cl o (rowOf (slV rv)) 3 x=o x:=fun x hx=>cl_old hx
 have hss:=hf.size
 refine⟨cl o (rowOf (slV rv)) 3,⟨?_,fun x hx=>?_,hlen,hP.few,fun j c hc=>?_,⟨nv,rv,hd,own_fm h.nv1 hf fun x hx e=>?_,fun x hx=>?_,hrv,fun x hx=>cl_row hx (.inl (hr x hx).1)⟩,fun j c t hc ht=>?_,hP.rng,hP.rts,hP.cnt⟩,fun x hx=>?_⟩
 ·show cl o _ 3 gc=1
  rw [hold gc (by rw [hcol];decide)];exact hcol
 ·by_cases e:o x=0
  ·unfold cl at hx
   by_cases e2:rowOf (slV rv)=some x∧o x=0
   ·exact (hrv.lt x e2.1).2
   ·rw [if_neg e2] at hx;exact absurd e hx
  ·have:=(h.lt x e).2;omega
 ·have:=h.nc j c hc
  rw [hold c (by omega)];exact this
 ·have e:x=gc:=e
  have:=h.nv2 x hx
  rw [e,hcol] at this;omega
 ·rw [hold x (by rw [h.nv2 x hx];decide)];exact h.nv2 x hx
 ·have hj:=(List.getElem?_eq_some_iff.1 ht).1
  obtain⟨a,kv,hN⟩:=h.nd j c t hc ht
  rw [decide_eq_true hj] at hN
  have hcc:=h.nc j c hc
  have hN2:=hN.keep (o1:=cl o (rowOf (slV rv)) 3) hcc hf (fun x hx e=>by
   have e:x=gc:=e
   rw [e,hcol] at hx;omega) hold
  exact⟨a,kv,hN2.blk,hN2.at1,hN2.at2,hN2.kd1 rfl,hN2.kd2 rfl⟩
 ·by_cases e:o x=0
  ·unfold cl at hx
   by_cases e2:rowOf (slV rv)=some x∧o x=0
   ·exact (hr x e2.1).2
   ·rw [if_neg e2] at hx;exact absurd e hx
  ·exact (h.lt x e).1
theorem rr_own {B:Nat}{e:TypeId}{α:Type}{L:Lay α}{v:Sv}{l:List α} (h:Own L w B e (slV v) l) (hl:l.length≤1048576):RR L w l v:=by
 obtain⟨h1,h2⟩:=rdO h
 exact⟨hl,h1,h2⟩
theorem clone1 (hP:PM w0 o0 θ S) (hC:CDoc w0 w o S gb gc [] (none,0,0) 0) {v:Sv} (hv:Own LPt w0 0 152 (slV v) S.bs)
  (hK:∀w' o' bs nv,bs.length=S.D.sl.length→CDoc w0 w' o' S gb gc bs nv 0→F64_l3 (some ⟨θ.g,0,none⟩) ⟨gb,0,none⟩ v.1 v.2.1 (fun _ _=>False) (S.bs.length:Nat) w' R) :
  ∃(I:Int→World→Prop) (m:Int→World→Nat),I (0:Int) w ∧
   ∀(x29:Int) (w1:World),I x29 w1→F64_l3 (some ⟨θ.g,0,none⟩) ⟨gb,0,none⟩ v.1 v.2.1 (fun x29' w2=>I x29' w2∧m x29' w2 < m x29 w1) x29 w1 R:=by
 obtain⟨n1,n2⟩:=rdO hv
 have hlen:=hP.len
 have hfew:=hP.few
 refine⟨fun x w'=>∃(m:Nat) (o':Nat→Nat) (bs:List Nat) (nv:Sv),x=m∧m≤S.bs.length∧bs.length=m∧CDoc w0 w' o' S gb gc bs nv 0,fun x _=>S.bs.length-x.toNat,⟨0,o,[],_,rfl,by omega,rfl,hC⟩,?_⟩
 rintro _ w1 ⟨m,o1,bs,nv,rfl,hm,hbm,h1⟩
 by_cases hml:m < S.bs.length
 ·unfold F64_l3
  refine brd (fun hlt=>?_) (fun hge=>absurd (by omega) hge)
  have B1:=h1.bel
  refine (n2.keep B1).pt n1 rfl (k:=m) hml fun b oo c0=>?_
  simp only [c0,lds]
  obtain⟨s,hs⟩:∃s,S.D.sl[m]?=some s:=⟨_,List.getElem?_eq_getElem (by omega)⟩
  have hgb:S.bs[m]?=some S.bs[m]:=List.getElem?_eq_getElem hml
  generalize S.bs[m]=b0 at *
  obtain⟨a,kv,hN⟩:=hP.nodes m b0 s hgb hs
  have hr:=hP.rng s (List.mem_of_getElem? hs)
  have bN:=hN.blk.keep B1
  have bN':=bN
  unfold nodeC at bN'
  simp only [NonNil_some,Addr.add_mk,Nat.zero_add,bN'.cell,lds]
  refine al fun gm w2 hb2 b2 hge2=>?_
  refine st_blk b2 (by simp) fun u1 q1 f1=>st_blk q1 (by simp) fun u2 q2 f2=>st_blk q2 (by simp) fun u3 q3 f3=>st_blk q3 (by simp) fun u4 q4 f4=>st_blk q4 (by simp) fun u5 q5 f5=>st_blk q5 (by simp) fun u6 q6 f6=>st_blk q6 (by simp) fun u7 q7 f7=>st_blk q7 (by simp) fun u8 q8 f8=>st_blk q8 (by simp) fun w3 b3 f9=>?_
  simp only [List.setIfInBounds_toArray,List.set_cons_zero,List.set_cons_succ] at b3
  have F3:Fm (·=gm) w2 w3:=((((((((f1.trans f2).trans f3).trans f4).trans f5).trans f6).trans f7).trans f8).trans f9)
  clear q1 q2 q3 q4 q5 q6 q7 q8 f1 f2 f3 f4 f5 f6 f7 f8 f9
  have D3:Below w1.heap.size w1 w3:=hb2.trans (F3.toBelow hb2.size fun b hb e=>by have e:b=gm:=e;omega)
  have bN3:=bN'.keep D3
  simp only [NonNil_some,Addr.add_mk,Nat.zero_add,bN3.cell,lds]
  have ra:=(rr_own hN.at1 hr.atf).keep (btr B1 B1.size D3)
  refine cloneOwn_calls s.attrs a ra fun a' w4 hb4 oa=>⟨_,_,_,rfl,?_⟩
  have D4:=btr D3 D3.size hb4
  refine st_blk (b3.keep hb4) (by simp) fun w5 b5 f5=>?_
  simp only [List.setIfInBounds_toArray,List.set_cons_zero,List.set_cons_succ] at b5
  have hs1:=D3.size
  have hs4:=hb4.size
  have D5:Below w1.heap.size w1 w5:=D4.trans (f5.toBelow D4.size fun b hb e=>by have e:b=gm:=e;omega)
  have h5:=h1.below D5
  have hs5:=f5.size
  have hgm:gm < w3.heap.size:=b3.lt
  have oa5:Own LAt w5 0 205 (slV a') s.attrs:=(own_fm oa f5 fun x hx e=>by have e:x=gm:=e;have:=(oa.lt x hx).1;omega).rebase fun _ _=>Nat.zero_le _
  have har:∀x,rowOf (slV a')=some x→w3.heap.size≤x∧x < w5.heap.size:=fun x hx=>⟨(oa.lt x hx).1,(oa5.lt x hx).2⟩
  have hdr:Below w5.heap.size w5 w5.drew:=(Below.refl _ _).drew
  have h5d:=h5.below hdr
  have hgcol:=h5.col
  have hbcol:=h5.bc
  obtain⟨l1,l2⟩:=rdO h5.nv1
  refine⟨fun w'=>Blk w' gb #[.pointer (some ⟨gc,0,none⟩)] 77∧Blk w' gc (docC nv (none,0,0) S.lv S.wn S.lo []) 98,⟨h5d.box,h5d.doc⟩,?_⟩
  refine⟨_,fun w' hw=>by rw [hw.1.cell];rfl,_,fun w' hw=>by rw [hw.1.cell];rfl,?_⟩
  refine⟨_,_,_,fun w' hw=>by rw [hw.2.cell];rfl,?_⟩
  refine ap1S (L:=LPt) (x:=gm) (xs:=bs) (base:=0) (.pointer none) 8 rfl (by kernel_rfl) (by kernel_rfl) (by kernel_rfl) h5d.nv1 (Nat.zero_le _) (by omega) (by simp [maxLen];omega) (fun w' hb=>⟨h5d.box.keep hb,h5d.doc.keep hb⟩) fun A' c' w6 o6 g6=>⟨A',_,c',rfl,?_⟩
  have FG:Fm (fun b=>rowOf (slV nv)=some b) w5.drew w6:=Fm.grown g6.grown fun b hb=>hb
  have bb6:=FG.blk h5d.box fun e=>by rw [h5.nv2 gb e] at hbcol;cases hbcol
  have bc6:=FG.blk h5d.doc fun e=>by rw [h5.nv2 gc e] at hgcol;cases hgcol
  refine⟨⟨bb6,bc6⟩,?_⟩
  simp only [NonNil_some]
  refine st_blk bc6 (by simp [docC]) fun w7 b7 f7=>⟨inR_i64 (by omega) (by omega),?_⟩
  rw [show Value.slice A' (bs.length+1) c'=slV (A',bs.length+1,c') from rfl,doc_set0] at b7
  have FF:Fm (fun b=>rowOf (slV nv)=some b∨b=gc) w5.drew w7:=(FG.mono fun b _ e=>.inl e).trans (f7.mono fun b _ e=>.inr e)
  have hgcl:=h5.doc.lt
  have FF1:Fm (fun b=>rowOf (slV nv)=some b∨b=gc) w1 w7:=(Fm.below (btr D5 D5.size hdr)).trans FF
  have hgcw:=(h1.lt gc (by rw [h1.col];decide)).2
  have hnvl:∀x,rowOf (slV nv)=some x→x < w1.heap.size:=fun x hx=>(h1.lt x (by rw [h1.nv2 x hx];decide)).2
  have hdl:w5.drew.heap.size=w5.heap.size:=rfl
  have bm7:Blk w7 gm (nodeC bs.length s a' (ptrH S.bs s.parent) kv) 202:=by
   refine FF.blk (show Blk w5.drew gm _ _ from ?_) fun e=>?_
   ·have:=b5.keep hdr
    rw [hbm];exact this
   ·rcases e with e | e
    ·have:=hnvl gm e;omega
    ·omega
  obtain⟨o',hC'⟩:=h1.push (s:=s) (a:=a') (kv:=kv) (nv':=(A',bs.length+1,c')) (gm:=gm) (w1:=w7) (by rw [hbm];exact hs) FF1 hge2 bm7
   (own_fm oa5 ((Fm.below hdr).trans FF) fun x hx e=>by
    rcases e with e | e
    ·have:=hnvl x e;have:=(har x hx).1;omega
    ·have:=(har x hx).1;omega)
   (fun x hx=>⟨by have:=(har x hx).1;omega,by have:=(har x hx).1;omega⟩) ⟨by have:=(rdO hN.kd1).1;rwa [List.length_map] at this,(rdO hN.kd1).2⟩ b7
   (own_fm o6 f7 fun x hx e=>by
    have e:x=gc:=e
    have hx:rowOf (Value.slice A' (bs.length+1) c')=some x:=hx
    rcases g6.row with e2 | e2 | ⟨g,e2,e3⟩
    ·have hx2:rowOf (slV nv)=some x:=by
      have:rowOf (slV (A',bs.length+1,c'))=rowOf (slV nv):=e2
      rw [←this];exact hx
     rw [e,] at hx2
     rw [h5.nv2 gc hx2] at hgcol;cases hgcol
    ·have:rowOf (slV (A',bs.length+1,c'))=none:=e2
     rw [e2] at hx;cases hx
    ·have:rowOf (Value.slice A' (bs.length+1) c')=some g:=e2
     rw [this] at hx;cases hx;omega)
   (fun x hx=>by
    have hx:rowOf (Value.slice A' (bs.length+1) c')=some x:=hx
    rcases g6.row with e2 | e2 | ⟨g,e2,e3⟩
    ·rw [e2] at hx;exact .inl hx
    ·rw [e2] at hx;cases hx
    ·rw [e2] at hx;cases hx
     exact .inr ⟨by omega,by omega,fun e=>by have:=(har x e).2;omega⟩)
  exact⟨⟨m+1,o',bs++[gm],_,by simp,by omega,by simp;omega,hC'⟩,(by first | omega | (dsimp only;omega))⟩
 ·have hm2:m=S.bs.length:=by omega
  subst hm2
  have:=hK w1 o1 bs nv (by omega) h1
  unfold F64_l3 at this ⊢
  refine brd (fun hlt=>absurd hlt (by omega)) (fun hge=>?_)
  rw [decide_eq_false (by omega),Br_f] at this
  exact this
theorem clone2 (hP:PM w0 o0 θ S) (hC:CDoc w0 w o S gb gc bs nv 0) (hlen:bs.length=S.D.sl.length) {v:Sv} (hv:Own LPt w0 0 152 (slV v) S.bs)
  (hK:∀o' w',Below w0.heap.size w0 w'→PM w' o' ⟨gc,98,[]⟩ ⟨S.D,bs,S.lv,S.wn,S.lo⟩→(∀b,o' b≠0→w0.heap.size≤b)→R (.returned (.pointer (some ⟨gc,0,none⟩))) w') :
  ∃(I:Int→World→Prop) (m:Int→World→Nat),I (0:Int) w ∧
   ∀(x58:Int) (w1:World),I x58 w1→F64_l11 (some ⟨θ.g,0,none⟩) ⟨gb,0,none⟩ v.1 v.2.1 (fun x58' w2=>I x58' w2∧m x58' w2 < m x58 w1) x58 w1 R:=by
 obtain⟨n1,n2⟩:=rdO hv
 have hl0:=hP.len
 have hfew:=hP.few
 refine⟨fun x w'=>∃(m:Nat) (o':Nat→Nat),x=m∧m≤S.bs.length∧CDoc w0 w' o' S gb gc bs nv m,fun x _=>S.bs.length-x.toNat,⟨0,o,rfl,by omega,hC⟩,?_⟩
 rintro _ w1 ⟨m,o1,rfl,hm,h1⟩
 have B1:=h1.bel
 have hdr:Below w1.heap.size w1 w1.drew:=(Below.refl _ _).drew
 have B1d:=btr B1 B1.size hdr
 have h1d:=h1.below hdr
 obtain⟨l1,l2⟩:=rdO h1.nv1
 have hcol:=h1.col
 have hbc:=h1.bc
 unfold F64_l11
 refine brd (fun hlt=>?_) (fun hge=>?_)
 ·have hml:m < S.bs.length:=by omega
  refine⟨fun w'=>∃o',CDoc w0 w' o' S gb gc bs nv (m+1),?_,?_⟩
  ·rintro w' ⟨o',h'⟩
   exact⟨inR_i64 (by omega) (by omega),⟨m+1,o',by simp,by omega,h'⟩,(by first | omega | (dsimp only;omega))⟩
  refine (n2.keep B1).pt n1 rfl (k:=m) hml fun b oo c0=>?_
  simp only [c0,lds]
  obtain⟨s,hs⟩:∃s,S.D.sl[m]?=some s:=⟨_,List.getElem?_eq_getElem (by omega)⟩
  have hgb:S.bs[m]?=some S.bs[m]:=List.getElem?_eq_getElem hml
  obtain⟨bn,hbn⟩:∃bn,bs[m]?=some bn:=⟨_,List.getElem?_eq_getElem (by omega)⟩
  obtain⟨hbl,hbn'⟩:=List.getElem?_eq_some_iff.1 hbn
  generalize S.bs[m]=b0 at *
  obtain⟨a0,kv0,hN⟩:=hP.nodes m b0 s hgb hs
  have hr:=hP.rng s (List.mem_of_getElem? hs)
  obtain⟨a,kv,hQ⟩:=h1.nd m bn s hbn hs
  rw [decide_eq_false (by omega)] at hQ
  have hbnc:=h1.nc m bn hbn
  refine⟨fun w'=>Below w1.heap.size w1 w',hdr,?_⟩
  refine⟨_,fun w' hw=>by rw [(h1.box.keep hw).cell];rfl,?_⟩
  refine⟨_,_,_,fun w' hw=>by rw [(h1.doc.keep hw).cell];rfl,?_⟩
  refine l2.held (fun _ h=>h) l1 (by omega) (by omega) rfl fun b2 o2 cc=>?_
  have cc:=cc 0 _ rfl
  simp only [Int.toNat_natCast,hbn',Nat.add_zero] at cc
  refine⟨_,cc,?_⟩
  simp only [NonNil_some,Addr.add_mk,Nat.zero_add]
  refine⟨_,_,_,fun w' hw=>by rw [((hN.blk.keep B1).keep hw).cell];rfl,?_⟩
  obtain⟨q1,q2⟩:=rdO hN.kd1
  rw [List.length_map] at q1
  refine⟨by kernel_rfl,turn_calls hP h1d hlen q1 q2 hr.few hr.kids fun r w2 hb2 or2=>⟨_,_,_,rfl,?_⟩⟩
  have D2:=btr hdr hdr.size hb2
  refine⟨D2,?_⟩
  have h2:=h1.below D2
  have hws:=D2.size
  have hrr:∀x,rowOf (slV r)=some x→w1.heap.size≤x∧x < w2.heap.size:=fun x hx=>⟨(or2.lt x hx).1,(or2.lt x hx).2⟩
  have hbnl:=h1.lt bn (by omega)
  have b2:=hQ.blk.keep D2
  refine st_blk b2 (by simp [nodeC]) fun w3 b3 f3=>?_
  have e8:(nodeC m s a (ptrH (bif false then bs else S.bs) s.parent) kv).setIfInBounds 8 (.slice r.1 r.2.1 r.2.2)=nodeC m s a (ptrH S.bs s.parent) r:=by simp [nodeC]
  rw [e8] at b3
  have hgbl:=h1.gbl
  have hws0:=B1.size
  have hwb:=h1.box.lt
  have fin:∀w':World,Fm (·=bn) w2 w'→Blk w' bn (nodeC m s a (ptrH bs s.parent) r) 202→∃o',CDoc w0 w' o' S gb gc bs nv (m+1):=fun w' f b =>
   h2.step hbn hs f b (hQ.at1.keep D2) hQ.at2 (own_fm (or2.rebase fun _ _=>Nat.zero_le _) f fun x hx e=>by have e:x=bn:=e;have:=(hrr x hx).1;omega)
    fun x hx=>⟨Classical.byContradiction fun e=>by have:=(h1.lt x e).2;have:=(hrr x hx).1;omega,by have:=(hrr x hx).1;omega,by have:=(hrr x hx).1;omega⟩
  have D3:Below w0.heap.size w0 w3:=(btr B1 B1.size D2).trans (f3.toBelow (btr B1 B1.size D2).size fun b hb e=>by have e:b=bn:=e;omega)
  have cp:w3.cell? ⟨b0,7,none⟩=some (.pointer (ptrH S.bs s.parent)):=by rw [(hN.blk.keep D3).cell];rfl
  simp only [cp,lds]
  by_cases hp0:s.parent=0
  ·have e1:ptrH S.bs s.parent=none:=by unfold ptrH;rw [if_pos hp0]
   rw [e1]
   simp only [Option.isNone_none,Bool.not_true,Br_f]
   refine fin w3 f3 ?_
   have e2:ptrH bs s.parent=none:=by unfold ptrH;rw [if_pos hp0]
   rw [e2,←e1];exact b3
  ·have hpin:=hr.par.resolve_left hp0
   have e1:ptrH S.bs s.parent=some ⟨pb S.bs s.parent,0,none⟩:=by unfold ptrH;rw [if_neg hp0]
   rw [e1]
   simp only [Option.isNone_some,Bool.not_false,Br_t]
   have hdr3:Below w3.heap.size w3 w3.drew:=(Below.refl _ _).drew
   have bx3:=f3.blk h2.box fun e=>by have e:gb=bn:=e;rw [e] at hbc;omega
   have bd3:=f3.blk h2.doc fun e=>by have e:gc=bn:=e;rw [e] at hcol;omega
   have ho3:=own_fm h2.nv1 f3 fun x hx e=>by
    have e:x=bn:=e
    have:=h2.nv2 x hx
    rw [e] at this;omega
   obtain⟨p1,s2,p2⟩:=pb_get hP.len hpin
   unfold inN at hpin
   obtain⟨j1,j2⟩:=rdO ho3
   refine⟨fun w'=>Below w3.heap.size w3 w',hdr3,?_⟩
   refine⟨_,fun w' hw=>by rw [(bx3.keep hw).cell];rfl,?_⟩
   simp only [NonNil_some,Addr.add_mk,Nat.zero_add]
   refine⟨_,_,_,fun w' hw=>by rw [(bd3.keep hw).cell];rfl,?_⟩
   refine j2.held (fun _ h=>h) j1 (by omega) (by omega) rfl fun b4 o4 cc4=>?_
   have cc4:=cc4 0 _ rfl
   simp only [Int.toNat_natCast,hbn',Nat.add_zero] at cc4
   refine⟨_,cc4,?_⟩
   refine⟨_,fun w' hw=>by rw [(bx3.keep hw).cell];rfl,?_⟩
   simp only [NonNil_some,Addr.add_mk,Nat.zero_add]
   refine⟨_,_,_,fun w' hw=>by rw [(bd3.keep hw).cell];rfl,?_⟩
   refine⟨_,fun w' hw=>by rw [((hN.blk.keep D3).keep hw).cell];show _=some (Value.pointer (ptrH S.bs s.parent));rfl,?_⟩
   rw [e1]
   simp only [NonNil_some,Addr.add_mk,Nat.zero_add]
   refine⟨_,fun w' hw=>(hP.below (btr D3 D3.size hw)).cIdx p1 p2,inR_u32 (by omega) (by omega),?_⟩
   refine j2.held (fun _ h=>h) j1 (by omega) (by omega) rfl fun b5 o5 cc5=>?_
   have cc5:=cc5 0 _ rfl
   have e3:(((s.parent % 4294967296-1+1:Nat):Int)-1).toNat=s.parent % 4294967296-1:=by omega
   have e4:bs[(((s.parent % 4294967296-1+1:Nat):Int)-1).toNat]'(by omega)=pb bs s.parent:=by
    unfold pb
    rw [List.getD_eq_getElem?_getD,List.getElem?_eq_getElem (by omega)]
    simp only [e3,Option.getD_some]
   simp only [e4,Nat.add_zero] at cc5
   refine⟨_,cc5,?_⟩
   refine st_blk (b3.keep hdr3) (by simp [nodeC]) fun w5 b5 f5=>?_
   have e7:(nodeC m s a (ptrH S.bs s.parent) r).setIfInBounds 7 (.pointer (some ⟨pb bs s.parent,0,none⟩))=nodeC m s a (ptrH bs s.parent) r:=by
    have:ptrH bs s.parent=some ⟨pb bs s.parent,0,none⟩:=by unfold ptrH;rw [if_neg hp0]
    rw [this];simp [nodeC]
   rw [e7] at b5
   exact fin w5 ((f3.trans (Fm.below hdr3)).trans f5) b5
 ·have hm2:m=S.D.sl.length:=by omega
  subst hm2
  obtain⟨nv0,rv0,hd⟩:=hP.doc
  refine⟨fun w'=>Below w1.heap.size w1 w',hdr,?_⟩
  refine⟨_,fun w' hw=>by rw [(h1.box.keep hw).cell];rfl,?_⟩
  simp only [NonNil_some,Addr.add_mk,Nat.zero_add]
  refine⟨_,_,_,fun w' hw=>by rw [((hd.blk.keep B1).keep hw).cell];rfl,?_⟩
  obtain⟨q1,q2⟩:=rdO hd.r1
  rw [List.length_map] at q1
  refine⟨by kernel_rfl,turn_calls hP h1d hlen q1 q2 hP.rts.2 hP.rts.1 fun r w2 hb2 or2=>⟨_,_,_,rfl,?_⟩⟩
  have D2:=btr hdr hdr.size hb2
  refine⟨D2,?_⟩
  have h2:=h1.below D2
  have hws:=D2.size
  refine st_blk h2.doc (by simp [docC]) fun w3 b3 f3=>?_
  rw [show Value.slice r.1 r.2.1 r.2.2=slV r from rfl,show (none,0,0)=((none,0,0):Sv) from rfl,doc_set1] at b3
  have bx3:=f3.blk h2.box fun e=>by have e:gb=gc:=e;rw [e,hcol] at hbc;cases hbc
  have cb:w3.cell? ⟨gb,0,none⟩=some (.pointer (some ⟨gc,0,none⟩)):=by rw [bx3.cell];rfl
  simp only [cb,lds]
  have hgcl:=(h1.lt gc (by rw [hcol];decide))
  have hrr:∀x,rowOf (slV r)=some x→w1.heap.size≤x∧x < w2.heap.size:=fun x hx=>⟨(or2.lt x hx).1,(or2.lt x hx).2⟩
  have hws0:=B1.size
  obtain⟨o',hPM,ho'⟩:=h2.pm hP hlen f3 b3 (own_fm (or2.rebase fun _ _=>Nat.zero_le _) f3 fun x hx e=>by have e:x=gc:=e;have:=(hrr x hx).1;omega)
   fun x hx=>⟨Classical.byContradiction fun e=>by have:=(h1.lt x e).2;have:=(hrr x hx).1;omega,by have:=(hrr x hx).1;omega⟩
  exact hK o' w3 ((btr B1 B1.size D2).trans (f3.toBelow (btr B1 B1.size D2).size fun b hb e=>by have e:b=gc:=e;omega)) hPM ho'
theorem Clone_calls (hP:PM w o0 θ S) (hK:∀gc bs o' w',Below w.heap.size w w'→PM w' o' ⟨gc,98,[]⟩ ⟨S.D,bs,S.lv,S.wn,S.lo⟩→(∀b,o' b≠0→w.heap.size≤b)→R (.returned (.pointer (some ⟨gc,0,none⟩))) w') :
  Calls Tryz.prog 64 #[.pointer (some ⟨θ.g,0,none⟩)] w R:=by
 refine ok64 (some ⟨θ.g,0,none⟩) ?_
 unfold F64
 obtain⟨nv0,rv0,hd⟩:=hP.doc
 have hdr:Below w.heap.size w w.drew:=(Below.refl _ _).drew
 have start:∀(w':World) (gb gc:Nat),Below w.heap.size w w'→w.heap.size≤gb→w.heap.size≤gc→gb≠gc→Blk w' gb #[.pointer (some ⟨gc,0,none⟩)] 77→Blk w' gc (docC (none,0,0) (none,0,0) S.lv S.wn S.lo []) 98 →
   CDoc w w' (fun b=>if b=gc then 1 else 0) S gb gc [] (none,0,0) 0:=fun w' gb gc hb h1 h2 h3 b1 b2 =>
  ⟨hb,b1,b2,Own.nil _ _ _ _,fun x hx=>(by cases hx),if_pos rfl,if_neg h3,fun b hb=>(by
   by_cases e:b=gc
   ·subst e;exact⟨h2,b2.lt⟩
   ·rw [if_neg e] at hb;exact absurd rfl hb),h1,by simp,fun j b hb=>(by simp at hb),fun j b s hb=>(by simp at hb)⟩
 refine⟨fun c w'=>∃gb gc,c=⟨gb,0,none⟩∧CDoc w w' (fun b=>if b=gc then 1 else 0) S gb gc [] (none,0,0) 0,?_,?_⟩
 ·rintro _ w1 ⟨gb,gc,rfl,h1⟩
  unfold F64_j2
  have c0:w1.cell? ⟨θ.g,0,none⟩=some (.slice nv0.1 nv0.2.1 nv0.2.2):=by rw [(hd.blk.keep h1.bel).cell];rfl
  simp only [NonNil_some,c0,lds]
  refine clone1 hP h1 hd.n1 fun w2 o2 bs nv hl h2=>?_
  unfold F64_l3
  obtain⟨n1,n2⟩:=rdO hd.n1
  refine brd (fun hlt=>absurd hlt (by omega)) fun _=>?_
  have c2:w2.cell? ⟨θ.g,0,none⟩=some (.slice nv0.1 nv0.2.1 nv0.2.2):=by rw [(hd.blk.keep h2.bel).cell];rfl
  simp only [NonNil_some,c2,lds]
  exact clone2 hP h2 hl hd.n1 fun o' w' hb hPM ho=>hK gc bs o' w' hb hPM ho
 ·refine⟨fun w'=>Below w.heap.size w w',hdr,?_⟩
  simp only [NonNil_some,Addr.add_mk,Nat.zero_add]
  refine⟨_,fun w' hw=>by rw [(hd.blk.keep hw).cell];rfl,_,fun w' hw=>by rw [(hd.blk.keep hw).cell];rfl,_,fun w' hw=>by rw [(hd.blk.keep hw).cell];rfl,?_,?_⟩
  ·refine al fun gc w1 hb1 b1 hge1=>al fun gb w2 hb2 b2 hge2=>?_
   refine st_blk b2 (by simp) fun w3 b3 f3=>?_
   simp only [List.setIfInBounds_toArray,List.set_cons_zero,List.set_cons_succ] at b3
   have D2:=btr (btr hdr hdr.size hb1) (btr hdr hdr.size hb1).size hb2
   have hl1:=b1.lt
   have hs1:=hb1.size
   have hds:w.drew.heap.size=w.heap.size:=rfl
   exact⟨gb,gc,rfl,start w3 gb gc (D2.trans (f3.toBelow D2.size fun b hb e=>by have e:b=gb:=e;omega)) (by omega) (by omega) (by omega) b3 (f3.blk (b1.keep hb2) fun e=>by have e:gc=gb:=e;omega)⟩
  ·refine al fun gb w1 hb1 b1 hge1=>⟨btr hdr hdr.size hb1,?_⟩
   refine al fun gc w2 hb2 b2 hge2=>?_
   refine st_blk (b1.keep hb2) (by simp) fun w3 b3 f3=>?_
   simp only [List.setIfInBounds_toArray,List.set_cons_zero,List.set_cons_succ] at b3
   have D2:=btr (btr hdr hdr.size hb1) (btr hdr hdr.size hb1).size hb2
   have hl1:=b1.lt
   have hs1:=hb1.size
   have hds:w.drew.heap.size=w.heap.size:=rfl
   exact⟨gb,gc,rfl,start w3 gb gc (D2.trans (f3.toBelow D2.size fun b hb e=>by have e:b=gb:=e;omega)) (by omega) (by omega) (by omega) b3 (f3.blk b2 fun e=>by have e:gc=gb:=e;omega)⟩
end
set_option maxRecDepth 100000
structure MpE (q:IntKind) (es:Array MapEntry) (clock:Nat) (f:Int→Option Value):Prop where
 key:∀x∈es.toList,∃k,x.key=.int q k∧f k=some x.val
 has:∀k v,f k=some v→∃x∈es.toList,x.key=.int q k
 one:(es.toList.map (·.key)).Nodup
 born:∀x∈es.toList,x.born < clock
 age:(es.toList.map (·.born)).Nodup
def Mp (q:IntKind) (w:World) (b:Nat) (f:Int→Option Value):Prop:=∃es clock,w.heap[b]?=some (.map es clock)∧MpE q es clock f
theorem nodup_map_inj {α β:Type}{f:α→β}:∀{l:List α},(l.map f).Nodup→∀x∈l,∀y∈l,f x=f y→x=y
 | [],_,x,hx,_,_,_=>by simp at hx
 | a :: l,h,x,hx,y,hy,e=>by
  rw [List.map_cons,List.nodup_cons] at h
  rcases List.mem_cons.1 hx with h1 | h1 <;> rcases List.mem_cons.1 hy with h2 | h2
  ·rw [h1,h2]
  ·subst h1;exact absurd (List.mem_map.2 ⟨y,h2,e.symm⟩) h.1
  ·subst h2;exact absurd (List.mem_map.2 ⟨x,h1,e⟩) h.1
  ·exact nodup_map_inj h.2 x h1 y h2 e
theorem findNow_int {q:IntKind}{k:Int}:∀(l:List MapEntry) (i:Nat),(∀x∈l,∃a,x.key=.int q a) →
  (Instr.findNow (.int q) (.int q k) l i=some none∧∀x∈l,x.key≠.int q k)∨∃j x,l[j]?=some x∧x.key=.int q k∧Instr.findNow (.int q) (.int q k) l i=some (some (i+j,x.val))
 | [],i,_=>.inl ⟨rfl,fun x h=>by simp at h⟩
 | x :: l,i,h=>by
  obtain⟨a,ha⟩:=h x (by simp)
  by_cases hk:k=a
  ·subst hk
   refine .inr ⟨0,x,rfl,ha,?_⟩
   simp [Instr.findNow,ha,Instr.sameNow]
  ·have e:Instr.findNow (.int q) (.int q k) (x :: l) i=Instr.findNow (.int q) (.int q k) l (i+1):=by
    have hb:(k == a)=false:=by simpa using hk
    simp [Instr.findNow,ha,Instr.sameNow,hb]
   rcases findNow_int l (i+1) fun y hy=>h y (by simp [hy]) with ⟨h1,h2⟩ | ⟨j,y,h1,h2,h3⟩
   ·refine .inl ⟨by rw [e,h1],fun y hy=>?_⟩
    rcases List.mem_cons.1 hy with rfl | hy
    ·rw [ha];intro h;injection h with _ h;exact hk h.symm
    ·exact h2 y hy
   ·exact .inr ⟨j+1,y,by simpa using h1,h2,by rw [e,h3];congr 2;simp;omega⟩
section
variable {P:Program}{q:IntKind}{w:World}{b:Nat}{f:Int→Option Value}{t kt et:TypeId}
theorem Mp.find (h:Mp q w b f) (k:Int):∃es clock,w.heap[b]?=some (.map es clock)∧MpE q es clock f ∧
  ((f k=none∧Instr.findNow (.int q) (.int q k) es.toList 0=some none)∨∃j x,es.toList[j]?=some x∧x.key=.int q k∧f k=some x.val∧Instr.findNow (.int q) (.int q k) es.toList 0=some (some (j,x.val))):=by
 obtain⟨es,clock,hb,he⟩:=h
 refine⟨es,clock,hb,he,?_⟩
 rcases findNow_int (k:=k) es.toList 0 fun x hx=>(he.key x hx).imp fun _ h=>h.1 with ⟨h1,h2⟩ | ⟨j,x,h1,h2,h3⟩
 ·refine .inl ⟨?_,h1⟩
  cases hf:f k with
  | none=>rfl
  | some v =>
   obtain⟨x,hx,hk⟩:=he.has k v hf
   exact absurd hk (h2 x hx)
 ·refine .inr ⟨j,x,h1,h2,?_,by simpa using h3⟩
  obtain⟨a,ha,hv⟩:=he.key x (List.mem_of_getElem? h1)
  rw [h2] at ha;injection ha with _ ha;subst ha;exact hv
theorem Mp.look (h:Mp q w b f) (ht:P.underlying t=some (.map kt et)) (hk:P.underlying kt=some (.int q)) {z:Value} (hz:(zeroValue et).run P w=.ok z w) (k:Int) (c:Bool) {K:Value→World→Prop}
  (hK:K (if c then .tuple #[(f k).getD z,.bool (f k).isSome] else (f k).getD z) w):Raw P (Instr.lookup t (.map (some b)) (.int q k) c) w K:=by
 obtain⟨es,clock,hb,he,h2⟩:=h.find k
 have hc:(Instr.checkKey es.isEmpty 10000 kt (.int q k)).run P w=.ok () w:=MapKept.run_checkKey (k:=.int q k) hk (by simp [MapKept.IsKey]) _ 9999
 rcases h2 with ⟨h1,h2⟩ | ⟨j,x,h3,h4,h1,h2⟩
 ·rw [h1] at hK
  refine⟨_,w,?_,hK⟩
  simp [Instr.lookup,run_underlying ht,MapKept.run_getObj_map hb,hc,MapKept.run_findKey hk h2,hz,Result.andThen]
 ·rw [h1] at hK
  refine⟨_,w,?_,hK⟩
  simp [Instr.lookup,run_underlying ht,MapKept.run_getObj_map hb,hc,MapKept.run_findKey hk h2,Result.andThen]
def upd (f:Int→Option Value) (k:Int) (v:Option Value):Int→Option Value:=fun j=>if j=k then v else f j
theorem Mp.lt (h:Mp q w b f):b < w.heap.size:=by
 obtain⟨es,clock,hb,_⟩:=h;exact (Array.getElem?_eq_some_iff.1 hb).1
theorem MpE.push {es:Array MapEntry}{clock:Nat} (he:MpE q es clock f) {k:Int} (hk:f k=none) (v:Value):MpE q (es.push ⟨.int q k,v,clock⟩) (clock+1) (upd f k (some v)):=by
 have hne:∀x∈es.toList,∀a,x.key=.int q a→a≠k:=fun x hx a ha e=>by
  obtain⟨a',h1,h2⟩:=he.key x hx
  rw [ha] at h1;injection h1 with _ h1;subst h1;subst e;rw [hk] at h2;cases h2
 refine⟨fun x hx=>?_,fun j u hu=>?_,?_,fun x hx=>?_,?_⟩
 ·rw [Array.toList_push] at hx
  rcases List.mem_append.1 hx with hx | hx
  ·obtain⟨a,h1,h2⟩:=he.key x hx
   exact⟨a,h1,by unfold upd;rw [if_neg (hne x hx a h1)];exact h2⟩
  ·rw [List.mem_singleton] at hx;subst hx
   exact⟨k,rfl,by unfold upd;rw [if_pos rfl]⟩
 ·unfold upd at hu
  by_cases e:j=k
  ·subst e;exact⟨⟨.int q j,v,clock⟩,by simp,rfl⟩
  ·rw [if_neg e] at hu
   obtain⟨x,hx,h1⟩:=he.has j u hu
   exact⟨x,by simp [Array.mem_toList_iff.1 hx],h1⟩
 ·rw [Array.toList_push,List.map_append,List.nodup_append]
  refine⟨he.one,by simp,fun x hx y hy e=>?_⟩
  rw [List.map_singleton,List.mem_singleton] at hy
  obtain⟨z,hz,rfl⟩:=List.mem_map.1 hx
  obtain⟨a,h1,-⟩:=he.key z hz
  rw [h1,hy] at e;injection e with _ e
  exact hne z hz a h1 e
 ·rw [Array.toList_push] at hx
  rcases List.mem_append.1 hx with hx | hx
  ·have:=he.born x hx;omega
  ·rw [List.mem_singleton] at hx;subst hx;exact Nat.lt_succ_self _
 ·rw [Array.toList_push,List.map_append,List.nodup_append]
  refine⟨he.age,by simp,fun x hx y hy e=>?_⟩
  rw [List.map_singleton,List.mem_singleton] at hy
  obtain⟨z,hz,rfl⟩:=List.mem_map.1 hx
  have:=he.born z hz
  simp only at hy e
  omega
theorem modify_list (es:Array MapEntry) (j:Nat) (g:MapEntry→MapEntry):(es.modify j g).toList=es.toList.modify j g:=Array.toList_modify
theorem map_modify_same {α β:Type} (p:α→β) (g:α→α):∀(l:List α) (j:Nat),(∀x,l[j]?=some x→p (g x)=p x)→(l.modify j g).map p=l.map p
 | [],j,_=>by cases j <;> rfl
 | x :: l,0,h=>by simp [List.modify,h x rfl]
 | x :: l,j+1,h=>by simpa using map_modify_same p g l j fun y hy=>h y (by simpa using hy)
theorem mem_modify {α:Type} (g:α→α):∀(l:List α) (j:Nat) (y:α),l[j]?=some y→∀x,x∈l.modify j g→x=g y∨∃i,i≠j∧l[i]?=some x
 | [],j,y,h,x,hx=>by simp at h
 | a :: l,0,y,h,x,hx=>by
  simp at h;subst h
  rw [List.modify_zero_cons] at hx
  rcases List.mem_cons.1 hx with rfl | hx
  ·exact .inl rfl
  ·obtain⟨i,hi⟩:=List.mem_iff_getElem?.1 hx
   exact .inr ⟨i+1,by omega,by simpa using hi⟩
 | a :: l,j+1,y,h,x,hx=>by
  rw [List.modify_succ_cons] at hx
  rcases List.mem_cons.1 hx with rfl | hx
  ·exact .inr ⟨0,by omega,rfl⟩
  ·rcases mem_modify g l j y (by simpa using h) x hx with h1 | ⟨i,h1,h2⟩
   ·exact .inl h1
   ·exact .inr ⟨i+1,by omega,by simpa using h2⟩
theorem MpE.put {es:Array MapEntry}{clock:Nat} (he:MpE q es clock f) {k:Int}{j:Nat}{y:MapEntry} (hj:es.toList[j]?=some y) (hy:y.key=.int q k) (v:Value) :
  MpE q (es.modify j fun e=>{ e with key:=.int q k,val:=v }) clock (upd f k (some v)):=by
 have hym:=List.mem_of_getElem? hj
 have hkeys:(es.modify j fun e=>{ e with key:=.int q k,val:=v }).toList.map (·.key)=es.toList.map (·.key):=by
  rw [modify_list];exact map_modify_same _ _ _ _ fun x hx=>by rw [hj] at hx;cases hx;exact hy.symm
 have hborn:(es.modify j fun e=>{ e with key:=.int q k,val:=v }).toList.map (·.born)=es.toList.map (·.born):=by
  rw [modify_list];exact map_modify_same _ _ _ _ fun x hx=>rfl
 refine⟨fun x hx=>?_,fun i u hu=>?_,by rw [hkeys];exact he.one,fun x hx=>?_,by rw [hborn];exact he.age⟩
 ·rw [modify_list] at hx
  rcases mem_modify _ _ _ y hj x hx with rfl | ⟨i,hi,hx2⟩
  ·exact⟨k,rfl,by unfold upd;rw [if_pos rfl]⟩
  ·obtain⟨a,h1,h2⟩:=he.key x (List.mem_of_getElem? hx2)
   refine⟨a,h1,?_⟩
   have hne:a≠k:=fun e=>by
    subst e
    obtain⟨l1,l2⟩:=List.getElem?_eq_some_iff.1 hx2
    obtain⟨m1,m2⟩:=List.getElem?_eq_some_iff.1 hj
    have hpw:=List.pairwise_iff_getElem.1 he.one
    rcases Nat.lt_or_gt_of_ne hi with h3 | h3
    ·have:=hpw i j (by simpa using l1) (by simpa using m1) h3
     simp only [List.getElem_map,l2,m2] at this
     exact this (by rw [h1,hy])
    ·have:=hpw j i (by simpa using m1) (by simpa using l1) h3
     simp only [List.getElem_map,l2,m2] at this
     exact this (by rw [h1,hy])
   unfold upd;rw [if_neg hne];exact h2
 ·have hex:∃x∈es.toList,x.key=.int q i:=by
   unfold upd at hu
   by_cases e:i=k
   ·subst e;exact⟨y,hym,hy⟩
   ·rw [if_neg e] at hu;exact he.has i u hu
  obtain⟨x,hx,h1⟩:=hex
  have:Value.int q i∈(es.modify j fun e=>{ e with key:=.int q k,val:=v }).toList.map (·.key):=by
   rw [hkeys];exact List.mem_map.2 ⟨x,hx,h1⟩
  obtain⟨x',hx',h2⟩:=List.mem_map.1 this
  exact⟨x',hx',h2⟩
 ·have:x.born∈es.toList.map (·.born):=by rw [←hborn];exact List.mem_map.2 ⟨x,hx,rfl⟩
  obtain⟨z,hz,h1⟩:=List.mem_map.1 this
  rw [←h1];exact he.born z hz
theorem set_fm (w:World) (b:Nat) (o:Obj):Fm (·=b) w { w with heap:=w.heap.setIfInBounds b o } :=
 ⟨rfl,rfl,rfl,by simp,fun i hi hne=>by
  show (w.heap.setIfInBounds b o)[i]?=_
  rw [Array.getElem?_setIfInBounds_ne (fun e=>hne e.symm)]⟩
theorem Mp.update (h:Mp q w b f) (ht:P.underlying t=some (.map kt et)) (hk:P.underlying kt=some (.int q)) (k:Int) (v:Value) {K:World→Prop}
  (hK:∀w',Mp q w' b (upd f k (some v))→Fm (·=b) w w'→K w'):Raw P (Instr.mapUpdate t (.map (some b)) (.int q k) v) w fun _ w'=>K w':=by
 obtain⟨es,clock,hb,he,h2⟩:=h.find k
 have hlt:=(Array.getElem?_eq_some_iff.1 hb).1
 have hc:(Instr.checkKey false 10000 kt (.int q k)).run P w=.ok () w:=MapKept.run_checkKey (k:=.int q k) hk (by simp [MapKept.IsKey]) _ 9999
 rcases h2 with ⟨h1,h2⟩ | ⟨j,x,h3,h4,h1,h2⟩
 ·refine⟨(),{ w with heap:=w.heap.setIfInBounds b (.map (es.push ⟨.int q k,v,clock⟩) (clock+1)) },?_,hK _ ⟨_,_,?_,he.push h1 v⟩ (set_fm _ _ _)⟩
  ·simp [Instr.mapUpdate,run_underlying ht,MapKept.run_getObj_map hb,hc,MapKept.run_findKey hk h2,MapKept.run_setObj_map _ hb,Result.andThen]
  ·simp [hlt]
 ·refine⟨(),{ w with heap:=w.heap.setIfInBounds b (.map (es.modify j fun e=>{ e with key:=.int q k,val:=v }) clock) },?_,hK _ ⟨_,_,?_,he.put h3 h4 v⟩ (set_fm _ _ _)⟩
  ·have hj:(es[j]?).map (·.key)=some (.int q k):=by
    rw [←Array.getElem?_toList,h3,Option.map_some,h4]
   have hst:(Instr.keyThatStays (.int q k) (.int q k)).run P w=.ok (.int q k) w:=MapKept.run_keyThatStays (d:=.int q) (by simp [MapKept.IsKey])
   simp only [Instr.mapUpdate,Sem.run_bind,run_underlying ht,MapKept.run_getObj_map hb,hc,MapKept.run_findKey hk h2,MapKept.run_setObj_map _ hb,Result.andThen,hj,hst,Option.getD_some]
  ·simp [hlt]
theorem Mp.made (w:World) (q:IntKind):Mp q (w.alloc (.map #[] 0)) w.heap.size fun _=>none :=
 ⟨#[],0,heap_alloc_new _ _,⟨fun x hx=>by simp at hx,fun k v h=>by simp at h,by simp,fun x hx=>by simp at hx,by simp⟩⟩
theorem Mp.fm {M:Nat→Prop}{w1:World} (h:Mp q w b f) (hf:Fm M w w1) (hm:¬M b):Mp q w1 b f:=by
 obtain⟨es,clock,hb,he⟩:=h
 exact⟨es,clock,by rw [hf.block b (Array.getElem?_eq_some_iff.1 hb).1 hm];exact hb,he⟩
end
set_option maxRecDepth 100000
section
variable {P:Program}{q:IntKind}{w:World}{b:Nat}{f:Int→Option Value}{t kt et:TypeId}
theorem erase_list (es:Array MapEntry) (j:Nat):(es.eraseIdxIfInBounds j).toList=es.toList.eraseIdx j:=by
 unfold Array.eraseIdxIfInBounds
 split
 ·simp
 ·rename_i h
  rw [List.eraseIdx_of_length_le (by simpa using h)]
theorem MpE.drop {es:Array MapEntry}{clock:Nat} (he:MpE q es clock f) {k:Int}{j:Nat}{y:MapEntry} (hj:es.toList[j]?=some y) (hy:y.key=.int q k):MpE q (es.eraseIdxIfInBounds j) clock (upd f k none):=by
 have hl:=erase_list es j
 have hsub:(es.toList.eraseIdx j).Sublist es.toList:=List.eraseIdx_sublist _ _
 have hmem:∀x∈es.toList.eraseIdx j,x∈es.toList∧x.key≠.int q k:=fun x hx=>by
  refine⟨hsub.subset hx,fun e=>?_⟩
  obtain⟨i,hi⟩:=List.mem_iff_getElem?.1 hx
  rw [List.getElem?_eraseIdx] at hi
  have hn:=he.one
  have key:∀i',i'≠j→es.toList[i']?=some x→False:=fun i' hne hi'=>by
   obtain⟨h1,h2⟩:=List.getElem?_eq_some_iff.1 hi'
   obtain⟨h3,h4⟩:=List.getElem?_eq_some_iff.1 hj
   have hp:=List.pairwise_iff_getElem.1 hn
   rcases Nat.lt_or_ge i' j with h | h
   ·have:=hp i' j (by simpa using h1) (by simpa using h3) h
    rw [List.getElem_map,List.getElem_map,h2,h4,e,hy] at this
    exact this rfl
   ·have:=hp j i' (by simpa using h3) (by simpa using h1) (by omega)
    rw [List.getElem_map,List.getElem_map,h2,h4,e,hy] at this
    exact this rfl
  split at hi
  ·exact key i (by omega) hi
  ·exact key (i+1) (by omega) hi
 refine⟨fun x hx=>?_,fun a u hu=>?_,?_,fun x hx=>?_,?_⟩
 ·rw [hl] at hx
  obtain⟨h1,h2⟩:=hmem x hx
  obtain⟨a,h3,h4⟩:=he.key x h1
  refine⟨a,h3,?_⟩
  unfold upd
  rw [if_neg (fun e=>h2 (by rw [h3,e]))];exact h4
 ·unfold upd at hu
  by_cases e:a=k
  ·rw [if_pos e] at hu;cases hu
  ·rw [if_neg e] at hu
   obtain⟨x,hx,h1⟩:=he.has a u hu
   refine⟨x,?_,h1⟩
   rw [hl]
   obtain⟨i,hi⟩:=List.mem_iff_getElem?.1 hx
   have hne:i≠j:=fun e2=>by
    subst e2;rw [hj] at hi;cases hi
    rw [hy] at h1;injection h1 with _ h1;exact e h1.symm
   rw [List.mem_iff_getElem?]
   rcases Nat.lt_or_ge i j with h | h
   ·exact⟨i,by rw [List.getElem?_eraseIdx,if_pos h];exact hi⟩
   ·exact⟨i-1,by rw [List.getElem?_eraseIdx,if_neg (by omega),show i-1+1=i by omega];exact hi⟩
 ·rw [hl];exact he.one.sublist (hsub.map _)
 ·rw [hl] at hx;exact he.born x (hsub.subset hx)
 ·rw [hl];exact he.age.sublist (hsub.map _)
theorem Mp.del (h:Mp q w b f) (ht:P.underlying t=some (.map kt et)) (hk:P.underlying kt=some (.int q)) (k:Int) {ty:TypeId}{K:Value→World→Prop}
  (hK:∀w1,Mp q w1 b (upd f k none)→Fm (·=b) w w1→K (.tuple #[]) w1):Raw P (Builtin.delete_ #[t,kt] ty #[.map (some b),.int q k]) w K:=by
 obtain⟨es,clock,hb,he,h2⟩:=h.find k
 have hc:(Instr.checkKey es.isEmpty 10000 kt (.int q k)).run P w=.ok () w:=MapKept.run_checkKey (k:=.int q k) hk (by simp [MapKept.IsKey]) _ 9999
 rcases h2 with ⟨h1,h2⟩ | ⟨j,x,h3,h4,h1,h2⟩
 ·refine⟨_,_,?_,hK { w with heap:=w.heap.setIfInBounds b (.map es clock) } ⟨es,clock,(MapKept.heap_set hb).1,?_⟩ (set_fm w b _)⟩
  ·simp [Builtin.delete_,run_underlying ht,MapKept.run_getObj_map hb,hc,MapKept.run_findKey hk h2,MapKept.run_setObj_map _ hb,Result.andThen]
  ·have e:upd f k none=f:=funext fun a=>by
    unfold upd
    by_cases e:a=k
    ·rw [if_pos e,e,h1]
    ·rw [if_neg e]
   rw [e];exact he
 ·refine⟨_,_,?_,hK { w with heap:=w.heap.setIfInBounds b (.map (es.eraseIdxIfInBounds j) clock) } ⟨_,clock,(MapKept.heap_set hb).1,he.drop h3 h4⟩ (set_fm w b _)⟩
  simp [Builtin.delete_,run_underlying ht,MapKept.run_getObj_map hb,hc,MapKept.run_findKey hk h2,MapKept.run_setObj_map _ hb,Result.andThen]
theorem Mp.len (h:Mp q w b f) (ht:P.underlying t=some (.map kt et)) {l:List Int} (hn:l.Nodup) (hl:∀k,k∈l↔∃v,f k=some v) {ty:TypeId}{K:Value→World→Prop} (hK:K (.int .i64 (l.length:Nat)) w) :
  Raw P (Builtin.len_ #[t] ty #[.map (some b)]) w K:=by
 obtain⟨es,clock,hb,he⟩:=h
 have hsz:es.size=l.length:=by
  letI:DecidableEq Value:=fun a b=>Classical.propDecidable (a=b)
  have h1:(es.toList.map (·.key)).length≤(l.map (fun k=>Value.int q k)).length:=by
   refine nodup_sub he.one fun x hx=>?_
   obtain⟨e,he',rfl⟩:=List.mem_map.1 hx
   obtain⟨k,k1,k2⟩:=he.key e he'
   rw [k1]
   exact List.mem_map.2 ⟨k,(hl k).2 ⟨_,k2⟩,rfl⟩
  have h2:(l.map (fun k=>Value.int q k)).length≤(es.toList.map (·.key)).length:=by
   refine nodup_sub ?_ fun x hx=>?_
   ·refine List.pairwise_map.2 (hn.imp fun {a c} hac e=>hac ?_)
    injection e
   ·obtain⟨k,hk,rfl⟩:=List.mem_map.1 hx
    obtain⟨v,hv⟩:=(hl k).1 hk
    obtain⟨x,h3,h4⟩:=he.has k v hv
    exact List.mem_map.2 ⟨x,h3,h4⟩
  simp at h1 h2;omega
 refine⟨_,w,?_,hK⟩
 simp [Builtin.len_,run_underlying ht,MapKept.run_getObj_map hb,hsz,goInt]
end
end Go.Proofs.YtccplipiahdhiaaGreatDoor
set_option linter.unusedVariables false
set_option maxRecDepth 100000
namespace Go.Proofs.YtccplipiahdhiaaGreatDoor
open Go.Vc
def F218_j4 (d:Option Addr) (n:Int) (c:Option Addr) (b:Nat) (a:Nat) (g:World) (R:Ending→World→Prop):Prop :=
 Calls Tryz.prog 225 #[(.pointer d),(.slice c b a)] g (post R fun v2 f =>
 v2=(.tuple #[]) ∧
 NonNil d fun p25 =>
 Calls Tryz.prog 226 #[(.pointer (some p25)),(.int .u64 n)] f (post R fun v3 e =>
 ∃(h:Int),v3=(.int .i64 h) ∧
 R (.returned (.int .i64 h)) e))
def F218 (d:Option Addr) (n:Int) (g:World) (R:Ending→World→Prop):Prop :=
 NonNil d fun p9 =>
 Calls Tryz.prog 56 #[(.pointer (some p9)),(.int .u64 n)] g (post R fun v w1 =>
 ∃(c:Option Addr) (b:Nat) (a:Nat) (e:Int),v=(.tuple #[(.slice c b a),(.int .i64 e)]) ∧
 ∃J4:World→Prop,(∀ (f:World),J4 f→F218_j4 d n c b a f R) ∧
 (Br (e != (0:Int))
 (R (.returned (.int .i64 8)) w1)
 (Br (n == (0:Int))
 (R (.returned (.int .i64 8)) w1)
 (J4 w1))))
theorem ok218 (d:Option Addr) (n:Int) {w:World}{R:Ending→World→Prop} (h:F218 d n w R):Calls Tryz.prog 218 #[(.pointer d),(.int .u64 n)] w R :=
 vc_calls (pl:=⟨29,⟨[]⟩,[(4,⟨[],[(4,5),(15,21)]⟩)],[]⟩) Tryz.func218 (by kernel_rfl) (by kernel_rfl) (by kernel_rfl) (Eq.mp (by kernel_rfl) h)
def F219 (d:Option Addr) (n:Int) (name:ByteArray) (b:World) (R:Ending→World→Prop):Prop :=
 NonNil d fun p8 =>
 Calls Tryz.prog 227 #[(.pointer (some p8)),(.int .u64 n),(.string name)] b (post R fun v w1 =>
 ∃(a:Int),v=(.int .i64 a) ∧
 R (.returned (.int .i64 a)) w1)
theorem ok219 (d:Option Addr) (n:Int) (name:ByteArray) {w:World}{R:Ending→World→Prop} (h:F219 d n name w R):Calls Tryz.prog 219 #[(.pointer d),(.int .u64 n),(.string name)] w R :=
 vc_calls (pl:=⟨13,⟨[]⟩,[],[]⟩) Tryz.func219 (by kernel_rfl) (by kernel_rfl) (by kernel_rfl) (Eq.mp (by kernel_rfl) h)
def F40_j4 (b:Int) (a:Int) (c:World) (R:Ending→World→Prop):Prop :=
 R (.returned (.tuple #[(.int .u64 b),(.int .i64 a)])) c
def F40 (d:Option Addr) (where_:Int) (at_:Int) (x_0:Int) (x_1:ByteArray) (x_2:Option Addr) (x_2N:Nat) (x_2C:Nat) (x_3:ByteArray) (x_4:Option Addr) (x_4N:Nat) (x_4C:Nat) (t:World) (R:Ending→World→Prop):Prop :=
 Al t #[(.int .i64 x_0),(.string x_1),(.slice x_2 x_2N x_2C),(.string x_3),(.slice x_4 x_4N x_4C)] 84 fun g7 w1 =>
 ∃S:World→Prop,S w1.drew∧NonNil d fun p14 =>
 ∃(g:Int),Held S g7 (.int .i64 g)∧∃(m:ByteArray),Held S (g7.add 1) (.string m)∧∃(h:Option Addr) (a:Nat) (e:Nat),Held S (g7.add 2) (.slice h a e)∧∃(f:ByteArray),Held S (g7.add 3) (.string f)∧∃(j:Option Addr) (c:Nat) (b:Nat),Held S (g7.add 4) (.slice j c b)∧Calls Tryz.prog 73 #[(.pointer (some p14)),(.int .i64 where_),(.int .u64 at_),(.agg #[(.int .i64 g),(.string m),(.slice h a e),(.string f),(.slice j c b)])] w1.drew (post R fun v q =>
 ∃(k:Int) (i:Int),v=(.tuple #[(.int .u64 k),(.int .i64 i)]) ∧
 ∃J4:World→Prop,(∀ (n:World),J4 n→F40_j4 k i n R) ∧
 (Br (i == (0:Int))
 (Calls Tryz.prog 74 #[(.pointer d),(.int .u64 k)] q (post R fun v2 n =>
 ∃(s:Int),v2=(.int .u64 s) ∧
 Calls Tryz.prog 70 #[(.pointer d),(.int .u64 k),(.int .u64 s)] n (post R fun v3 p =>
 ∃(r:Int),v3=(.int .u64 r) ∧
 J4 p)))
 (J4 q)))
theorem ok40 (d:Option Addr) (where_:Int) (at_:Int) (x_0:Int) (x_1:ByteArray) (x_2:Option Addr) (x_2N:Nat) (x_2C:Nat) (x_3:ByteArray) (x_4:Option Addr) (x_4N:Nat) (x_4C:Nat) {w:World}{R:Ending→World→Prop} (h:F40 d where_ at_ x_0 x_1 x_2 x_2N x_2C x_3 x_4 x_4N x_4C w R):Calls Tryz.prog 40 #[(.pointer d),(.int .i64 where_),(.int .u64 at_),(.agg #[(.int .i64 x_0),(.string x_1),(.slice x_2 x_2N x_2C),(.string x_3),(.slice x_4 x_4N x_4C)])] w R :=
 vc_calls (pl:=⟨32,⟨[]⟩,[(4,⟨[],[(22,30)]⟩)],[]⟩) Tryz.func40 (by kernel_rfl) (by kernel_rfl) (by kernel_rfl) (Eq.mp (by kernel_rfl) h)
def F220_j6 (b:Int) (a:World) (R:Ending→World→Prop):Prop :=
 R (.returned (.int .i64 b)) a
def F220 (d:Option Addr) (n:Int) (where_:Int) (at_:Int) (p:World) (R:Ending→World→Prop):Prop :=
 NonNil d fun p13 =>
 Calls Tryz.prog 228 #[(.pointer (some p13)),(.int .u64 n),(.int .i64 where_),(.int .u64 at_)] p (post R fun v w1 =>
 ∃(k:Int),v=(.int .i64 k) ∧
 ∃J6:World→Prop,(∀ (i:World),J6 i→F220_j6 k i R) ∧
 (Br (k == (0:Int))
 (NonNil d fun p23 =>
 Calls Tryz.prog 56 #[(.pointer (some p23)),(.int .u64 n)] w1 (post R fun v2 i =>
 ∃(e:Option Addr) (a:Nat) (b:Nat) (c:Int),v2=(.tuple #[(.slice e a b),(.int .i64 c)]) ∧
 Calls Tryz.prog 225 #[(.pointer d),(.slice e a b)] i (post R fun v3 h =>
 v3=(.tuple #[]) ∧
 Calls Tryz.prog 74 #[(.pointer d),(.int .u64 n)] h (post R fun v4 f =>
 ∃(m:Int),v4=(.int .u64 m) ∧
 Calls Tryz.prog 70 #[(.pointer d),(.int .u64 n),(.int .u64 m)] f (post R fun v5 g =>
 ∃(j:Int),v5=(.int .u64 j) ∧
 J6 g)))))
 (J6 w1)))
theorem ok220 (d:Option Addr) (n:Int) (where_:Int) (at_:Int) {w:World}{R:Ending→World→Prop} (h:F220 d n where_ at_ w R):Calls Tryz.prog 220 #[(.pointer d),(.int .u64 n),(.int .i64 where_),(.int .u64 at_)] w R :=
 vc_calls (pl:=⟨39,⟨[]⟩,[(6,⟨[],[(10,38)]⟩)],[]⟩) Tryz.func220 (by kernel_rfl) (by kernel_rfl) (by kernel_rfl) (Eq.mp (by kernel_rfl) h)
def F221 (d:Option Addr) (n:Int) (name:ByteArray) (value:ByteArray) (b:World) (R:Ending→World→Prop):Prop :=
 NonNil d fun p10 =>
 Calls Tryz.prog 229 #[(.pointer (some p10)),(.int .u64 n),(.string name),(.string value)] b (post R fun v w1 =>
 ∃(a:Int),v=(.int .i64 a) ∧
 R (.returned (.int .i64 a)) w1)
theorem ok221 (d:Option Addr) (n:Int) (name:ByteArray) (value:ByteArray) {w:World}{R:Ending→World→Prop} (h:F221 d n name value w R):Calls Tryz.prog 221 #[(.pointer d),(.int .u64 n),(.string name),(.string value)] w R :=
 vc_calls (pl:=⟨16,⟨[]⟩,[],[]⟩) Tryz.func221 (by kernel_rfl) (by kernel_rfl) (by kernel_rfl) (Eq.mp (by kernel_rfl) h)
def F222 (d:Option Addr) (n:Int) (name:ByteArray) (b:World) (R:Ending→World→Prop):Prop :=
 NonNil d fun p8 =>
 Calls Tryz.prog 230 #[(.pointer (some p8)),(.int .u64 n),(.string name)] b (post R fun v w1 =>
 ∃(a:Int),v=(.int .i64 a) ∧
 R (.returned (.int .i64 a)) w1)
theorem ok222 (d:Option Addr) (n:Int) (name:ByteArray) {w:World}{R:Ending→World→Prop} (h:F222 d n name w R):Calls Tryz.prog 222 #[(.pointer d),(.int .u64 n),(.string name)] w R :=
 vc_calls (pl:=⟨13,⟨[]⟩,[],[]⟩) Tryz.func222 (by kernel_rfl) (by kernel_rfl) (by kernel_rfl) (Eq.mp (by kernel_rfl) h)
def F223 (d:Option Addr) (n:Int) (text:ByteArray) (b:World) (R:Ending→World→Prop):Prop :=
 NonNil d fun p8 =>
 Calls Tryz.prog 231 #[(.pointer (some p8)),(.int .u64 n),(.string text)] b (post R fun v w1 =>
 ∃(a:Int),v=(.int .i64 a) ∧
 R (.returned (.int .i64 a)) w1)
theorem ok223 (d:Option Addr) (n:Int) (text:ByteArray) {w:World}{R:Ending→World→Prop} (h:F223 d n text w R):Calls Tryz.prog 223 #[(.pointer d),(.int .u64 n),(.string text)] w R :=
 vc_calls (pl:=⟨13,⟨[]⟩,[],[]⟩) Tryz.func223 (by kernel_rfl) (by kernel_rfl) (by kernel_rfl) (Eq.mp (by kernel_rfl) h)
def F34 (d:Option Addr) (a:World) (R:Ending→World→Prop):Prop :=
 NonNil d fun p4 =>
 Calls Tryz.prog 64 #[(.pointer (some p4))] a (post R fun v w1 =>
 ∃(b:Option Addr),v=(.pointer b) ∧
 R (.returned (.pointer b)) w1)
theorem ok34 (d:Option Addr) {w:World}{R:Ending→World→Prop} (h:F34 d w R):Calls Tryz.prog 34 #[(.pointer d)] w R :=
 vc_calls (pl:=⟨7,⟨[]⟩,[],[]⟩) Tryz.func34 (by kernel_rfl) (by kernel_rfl) (by kernel_rfl) (Eq.mp (by kernel_rfl) h)
def F74_j12 (t:Int) (a:World) (R:Ending→World→Prop):Prop :=
 R (.returned (.int .u64 t)) a
def F74_l7 (d:Option Addr) (n:Int) (l:Option Addr) (lN:Nat) (J12:Int→World→Prop) (L7:Int→Int→World→Prop) (t:Int) (e:Int) (g:World) (R:Ending→World→Prop):Prop :=
 Br (decide (e < ((lN:Nat):Int)))
 (IdxA l lN e 1 fun i =>
 LdI .u64 (g.cell? i) fun h =>
 Br (h == n)
 (J12 t g)
 (NonNil d fun p50 =>
 LdM (g.cell? (p50.add 9)) fun f =>
 Raw Tryz.prog (Instr.lookup 103 (.map f) (.int .u64 h) false) g fun v4 c =>
 ∃(b:Int) (a:Int),v4=(.agg #[(.int .u64 b),(.int .u64 a)]) ∧
 InR .i64 (e+(1:Int))∧L7 a (e+(1:Int)) c))
 (J12 t g)
def F74_j5 (d:Option Addr) (n:Int) (b:Int) (l:Option Addr) (lN:Nat) (lC:Nat) (h:World) (R:Ending→World→Prop):Prop :=
 NonNil d fun p34 =>
 LdM (h.cell? (p34.add 9)) fun i =>
 Raw Tryz.prog (Instr.lookup 103 (.map i) (.int .u64 b) false) h fun v3 f =>
 ∃(a:Int) (c:Int),v3=(.agg #[(.int .u64 a),(.int .u64 c)]) ∧
 ∃J12:Int→World→Prop,(∀(t:Int) (e:World),J12 t e→F74_j12 t e R) ∧
 (∃(I:Int→Int→World→Prop) (m:Int→Int→World→Nat),I a (0:Int) f ∧
 ∀(t:Int) (g:Int) (e:World),I t g e→F74_l7 d n l lN J12 (fun t' g' w2=>I t' g' w2∧m t' g' w2 < m t g e) t g e R)
def F74 (d:Option Addr) (n:Int) (p:World) (R:Ending→World→Prop):Prop :=
 NonNil d fun p13 =>
 Calls Tryz.prog 124 #[(.pointer (some p13)),(.int .u64 n)] p (post R fun v w1 =>
 ∃(f:Int) (g:Int),v=(.tuple #[(.int .u64 f),(.int .i64 g)]) ∧
 NonNil d fun p20 =>
 Calls Tryz.prog 69 #[(.pointer (some p20))] w1 (post R fun v2 k =>
 ∃(m:Option Addr) (i:Nat) (h:Nat),v2=(.slice m i h) ∧
 ∃J5:Option Addr→Nat→Nat→World→Prop,(∀(l:Option Addr) (lN:Nat) (lC:Nat) (j:World),J5 l lN lC j→F74_j5 d n f l lN lC j R) ∧
 (Br (f != (0:Int))
 (NonNil d fun p27 =>
 Calls Tryz.prog 117 #[(.pointer (some p27)),(.int .u64 f)] k (post R fun v3 j =>
 ∃(c:Option Addr) (b:Nat) (a:Nat) (e:Int),v3=(.tuple #[(.slice c b a),(.int .i64 e)]) ∧
 J5 c b a j))
 (J5 m i h k))))
theorem ok74 (d:Option Addr) (n:Int) {w:World}{R:Ending→World→Prop} (h:F74 d n w R):Calls Tryz.prog 74 #[(.pointer d),(.int .u64 n)] w R :=
 vc_calls (pl:=⟨58,⟨[]⟩,[(12,⟨[(8,(.s (.int .u64)))],[(8,57)]⟩),(5,⟨[(7,(.s .slice))],[(7,33)]⟩)],[(7,⟨[(8,(.s (.int .u64))),(42,(.s (.int .i64)))],[(8,11),(42,57)]⟩)]⟩) Tryz.func74 (by kernel_rfl) (by kernel_rfl) (by kernel_rfl) (Eq.mp (by kernel_rfl) h)
def F70_j13 (d:Option Addr) (n:Int) (g7:Addr) (g:World) (R:Ending→World→Prop):Prop :=
 ∃S:World→Prop,S g.drew∧NonNil d fun p62 =>
 ∃(f:Option Nat),Held S (p62.add 9) (.map f)∧∃(a:Int),Held S g7 (.int .u64 a)∧∃(b:Int),Held S (g7.add 1) (.int .u64 b)∧Raw Tryz.prog (Instr.mapUpdate 103 (.map f) (.int .u64 n) (.agg #[(.int .u64 a),(.int .u64 b)])) g.drew fun _ c =>
 LdI .u64 (c.cell? (g7.add 1)) fun e =>
 R (.returned (.int .u64 e)) c
def F70_l6 (d:Option Addr) (n:Int) (g7:Addr) (e:Option Addr) (a:Nat) (L6:Int→Int→World→Prop) (last:Int) (p:Int) (m:World) (R:Ending→World→Prop):Prop :=
 Br (decide (p < ((a:Nat):Int)))
 (IdxA e a p 1 fun k =>
 LdI .u64 (m.cell? k) fun j =>
 Calls Tryz.prog 70 #[(.pointer d),(.int .u64 j),(.int .u64 last)] m (post R fun v3 g =>
 ∃(r:Int),v3=(.int .u64 r) ∧
 InR .i64 (p+(1:Int))∧L6 r (p+(1:Int)) g))
 (NonNil d fun p45 =>
 Calls Tryz.prog 116 #[(.pointer (some (p45.add 5))),(.int .u64 last)] m (post R fun v3 g =>
 ∃(c:Int) (b:Int),v3=(.tuple #[(.int .u64 c),(.int .i64 b)]) ∧
 St g (g7.add 1) (.int .u64 c) fun f =>
 ∃J13:World→Prop,(∀ (i:World),J13 i→F70_j13 d n g7 i R) ∧
 (NonNil d fun p53 =>
 LdM (f.cell? (p53.add 9)) fun q =>
 Br (q).isNone
 (AlM f fun r58 i =>
 NonNil d fun p59 =>
 St i (p59.add 9) (.map (some r58)) fun h =>
 J13 h)
 (J13 f))))
def F70 (d:Option Addr) (n:Int) (behind:Int) (r:World) (R:Ending→World→Prop):Prop :=
 Al r #[(.int .u64 0),(.int .u64 0)] 146 fun g7 w1 =>
 NonNil d fun p15 =>
 Calls Tryz.prog 116 #[(.pointer (some (p15.add 5))),(.int .u64 behind)] w1 (post R fun v k =>
 ∃(c:Int) (g:Int),v=(.tuple #[(.int .u64 c),(.int .i64 g)]) ∧
 St k g7 (.int .u64 c) fun j =>
 LdI .u64 (j.cell? g7) fun p =>
 NonNil d fun p26 =>
 Calls Tryz.prog 117 #[(.pointer (some p26)),(.int .u64 n)] j (post R fun v2 h =>
 ∃(f:Option Addr) (b:Nat) (a:Nat) (e:Int),v2=(.tuple #[(.slice f b a),(.int .i64 e)]) ∧
 ∃(I:Int→Int→World→Prop) (m:Int→Int→World→Nat),I p (0:Int) h ∧
 ∀(last:Int) (q:Int) (i:World),I last q i→F70_l6 d n g7 f b (fun last' q' w2=>I last' q' w2∧m last' q' w2 < m last q i) last q i R))
theorem ok70 (d:Option Addr) (n:Int) (behind:Int) {w:World}{R:Ending→World→Prop} (h:F70 d n behind w R):Calls Tryz.prog 70 #[(.pointer d),(.int .u64 n),(.int .u64 behind)] w R :=
 vc_calls (pl:=⟨69,⟨[]⟩,[(13,⟨[],[(52,61)]⟩)],[(6,⟨[(8,(.s (.int .u64))),(34,(.s (.int .i64)))],[(8,13),(34,43)]⟩)]⟩) Tryz.func70 (by kernel_rfl) (by kernel_rfl) (by kernel_rfl) (Eq.mp (by kernel_rfl) h)
def F225_l1 (d:Option Addr) (all:Option Addr) (allN:Nat) (L1:Int→World→Prop) (u:Int) (q:World) (R:Ending→World→Prop):Prop :=
 Br (decide (u < ((allN:Nat):Int)))
 (IdxA all allN u 1 fun k =>
 LdI .u64 (q.cell? k) fun s =>
 ∃S:World→Prop,S q.drew∧NonNil d fun p13 =>
 NonNil d fun p16 =>
 ∃(r:Option Nat),Held S (p16.add 9) (.map r)∧Raw Tryz.prog (Instr.lookup 103 (.map r) (.int .u64 s) false) q.drew fun v i =>
 ∃(e:Int) (b:Int),v=(.agg #[(.int .u64 e),(.int .u64 b)]) ∧
 Calls Tryz.prog 232 #[(.pointer (some (p13.add 5))),(.int .u64 e)] i (post R fun v2 h =>
 ∃(t:Int),v2=(.int .i64 t) ∧
 ∃S2:World→Prop,S2 h.drew∧NonNil d fun p24 =>
 NonNil d fun p27 =>
 ∃(m:Option Nat),Held S2 (p27.add 9) (.map m)∧Raw Tryz.prog (Instr.lookup 103 (.map m) (.int .u64 s) false) h.drew fun v3 g =>
 ∃(a:Int) (c:Int),v3=(.agg #[(.int .u64 a),(.int .u64 c)]) ∧
 Calls Tryz.prog 232 #[(.pointer (some (p24.add 5))),(.int .u64 c)] g (post R fun v4 f =>
 ∃(p:Int),v4=(.int .i64 p) ∧
 NonNil d fun p35 =>
 LdM (f.cell? (p35.add 9)) fun n =>
 Raw Tryz.prog (Builtin.delete_ #[103,65] 0 #[(.map n),(.int .u64 s)]) f fun v5 j =>
 InR .i64 (u+(1:Int))∧L1 (u+(1:Int)) j)))
 (R (.returned (.tuple #[])) q)
def F225 (d:Option Addr) (all:Option Addr) (allN:Nat) (allC:Nat) (a:World) (R:Ending→World→Prop):Prop :=
 ∃(I:Int→World→Prop) (m:Int→World→Nat),I (0:Int) a ∧
 ∀(b:Int) (w1:World),I b w1→F225_l1 d all allN (fun b' w2=>I b' w2∧m b' w2 < m b w1) b w1 R
theorem ok225 (d:Option Addr) (all:Option Addr) (allN:Nat) (allC:Nat) {w:World}{R:Ending→World→Prop} (h:F225 d all allN allC w R):Calls Tryz.prog 225 #[(.pointer d),(.slice all allN allC)] w R :=
 vc_calls (pl:=⟨40,⟨[]⟩,[],[(1,⟨[(8,(.s (.int .i64)))],[(5,6),(8,40)]⟩)]⟩) Tryz.func225 (by kernel_rfl) (by kernel_rfl) (by kernel_rfl) (Eq.mp (by kernel_rfl) h)
def F116_j17 (g41:Addr) (b:World) (R:Ending→World→Prop):Prop :=
 LdI .u64 (b.cell? g41) fun a =>
 R (.returned (.tuple #[(.int .u64 a),(.int .i64 0)])) b
def F116_j13 (l:Option Addr) (a:Option Addr) (g41:Addr) (e:World) (R:Ending→World→Prop):Prop :=
 NonNil a fun p75 =>
 St e (p75.add 3) (.pointer (some g41)) fun b =>
 ∃S2:World→Prop,S2 b.drew∧NonNil l fun p78 =>
 ∃(h:Option Nat),Held S2 p78 (.map h)∧∃(g:Int),Held S2 g41 (.int .u64 g)∧Raw Tryz.prog (Instr.mapUpdate 99 (.map h) (.int .u64 g) (.pointer (some g41))) b.drew fun _ d =>
 ∃J17:World→Prop,(∀ (c:World),J17 c→F116_j17 g41 c R) ∧
 (LdI .u64 (d.cell? (g41.add 1)) fun f =>
 Br (f == (0:Int))
 (Calls Tryz.prog 157 #[(.pointer l)] d (post R fun v3 c =>
 v3=(.tuple #[]) ∧
 J17 c))
 (J17 d))
def F116_j11 (l:Option Addr) (a:Option Addr) (g41:Addr) (d:World) (R:Ending→World→Prop):Prop :=
 ∃J13:World→Prop,(∀ (b:World),J13 b→F116_j13 l a g41 b R) ∧
 (NonNil a fun p62 =>
 LdP (d.cell? (p62.add 3)) fun c =>
 Br (!(c).isNone)
 (NonNil a fun p67 =>
 LdP (d.cell? (p67.add 3)) fun e =>
 NonNil e fun p71 =>
 St d (p71.add 2) (.pointer (some g41)) fun b =>
 J13 b)
 (J13 d))
def F116 (l:Option Addr) (t:Int) (r:World) (R:Ending→World→Prop):Prop :=
 Calls Tryz.prog 107 #[(.pointer l),(.int .u64 t)] r (post R fun v w1 =>
 ∃(b:Option Addr) (a:Int),v=(.tuple #[(.pointer b),(.int .i64 a)]) ∧
 Br (a != (0:Int))
 (R (.returned (.tuple #[(.int .u64 0),(.int .i64 a)])) w1)
 (Calls Tryz.prog 154 #[(.pointer l)] w1 (post R fun v2 h =>
 ∃(q:Int),v2=(.int .i64 q) ∧
 Br (decide (q≥(8192:Int)))
 (R (.returned (.tuple #[(.int .u64 0),(.int .i64 11)])) h)
 (NonNil l fun p25 =>
 LdI .u64 (h.cell? (p25.add 2)) fun p =>
 InR .u64 (p+(1:Int))∧NonNil l fun p29 =>
 St h (p29.add 2) (.int .u64 (p+(1:Int))) fun g =>
 ∃S:World→Prop,S g.drew∧NonNil l fun p32 =>
 ∃(k:Int),Held S (p32.add 2) (.int .u64 k)∧NonNil b fun p37 =>
 ∃(m:Option Addr),Held S (p37.add 3) (.pointer m)∧Al g.drew #[(.int .u64 k),(.int .u64 0),(.pointer b),(.pointer m)] 199 fun g41 e =>
 ∃J11:World→Prop,(∀ (c:World),J11 c→F116_j11 l b g41 c R) ∧
 (∃S2:World→Prop,S2 e.drew∧NonNil b fun p45 =>
 ∃(j:Int),Held S2 (p45.add 1) (.int .u64 j)∧Calls Tryz.prog 155 #[(.pointer b)] e.drew (post R fun v3 d =>
 ∃(n:Int),v3=(.int .u64 n) ∧
 S2 d∧InR .u64 (n-j)∧Br (decide ((n-j)≥(2:Int)))
 (NonNil b fun p54 =>
 LdI .u64 (d.cell? (p54.add 1)) fun i =>
 InR .u64 ((n-j).tdiv (2:Int))∧InR .u64 (i+((n-j).tdiv (2:Int)))∧Calls Tryz.prog 156 #[(.pointer l),(.pointer (some g41)),(.int .u64 (i+((n-j).tdiv (2:Int))))] d (post R fun v4 f =>
 v4=(.tuple #[]) ∧
 J11 f))
 (J11 d)))))))
theorem ok116 (l:Option Addr) (t:Int) {w:World}{R:Ending→World→Prop} (h:F116 l t w R):Calls Tryz.prog 116 #[(.pointer l),(.int .u64 t)] w R :=
 vc_calls (pl:=⟨97,⟨[]⟩,[(17,⟨[],[(86,93)]⟩),(13,⟨[],[(61,73)]⟩),(11,⟨[],[(9,61)]⟩)],[]⟩) Tryz.func116 (by kernel_rfl) (by kernel_rfl) (by kernel_rfl) (Eq.mp (by kernel_rfl) h)
def F232_j7 (l:Option Addr) (t:Int) (b:World) (R:Ending→World→Prop):Prop :=
 NonNil l fun p45 =>
 LdM (b.cell? p45) fun c =>
 Raw Tryz.prog (Builtin.delete_ #[99,144] 0 #[(.map c),(.int .u64 t)]) b fun v2 a =>
 R (.returned (.int .i64 0)) a
def F232_j4 (l:Option Addr) (t:Int) (a:Option Addr) (g:World) (R:Ending→World→Prop):Prop :=
 ∃S:World→Prop,S g.drew∧NonNil a fun p20 =>
 ∃(i:Option Addr),Held S (p20.add 2) (.pointer i)∧NonNil a fun p24 =>
 ∃(f:Option Addr),Held S (p24.add 3) (.pointer f)∧NonNil i fun p27 =>
 St g.drew (p27.add 3) (.pointer f) fun d =>
 ∃J7:World→Prop,(∀ (b:World),J7 b→F232_j7 l t b R) ∧
 (NonNil a fun p30 =>
 LdP (d.cell? (p30.add 3)) fun h =>
 Br (!(h).isNone)
 (∃S2:World→Prop,S2 d.drew∧NonNil a fun p35 =>
 ∃(e:Option Addr),Held S2 (p35.add 3) (.pointer e)∧NonNil a fun p39 =>
 ∃(j:Option Addr),Held S2 (p39.add 2) (.pointer j)∧NonNil e fun p42 =>
 St d.drew (p42.add 2) (.pointer j) fun c =>
 J7 c)
 (J7 d))
def F232 (l:Option Addr) (t:Int) (d:World) (R:Ending→World→Prop):Prop :=
 Calls Tryz.prog 107 #[(.pointer l),(.int .u64 t)] d (post R fun v w1 =>
 ∃(b:Option Addr) (a:Int),v=(.tuple #[(.pointer b),(.int .i64 a)]) ∧
 ∃J4:World→Prop,(∀ (c:World),J4 c→F232_j4 l t b c R) ∧
 (Br (a != (0:Int))
 (R (.returned (.int .i64 10)) w1)
 (Br (t == (0:Int))
 (R (.returned (.int .i64 10)) w1)
 (J4 w1))))
theorem ok232 (l:Option Addr) (t:Int) {w:World}{R:Ending→World→Prop} (h:F232 l t w R):Calls Tryz.prog 232 #[(.pointer l),(.int .u64 t)] w R :=
 vc_calls (pl:=⟨49,⟨[]⟩,[(7,⟨[],[(29,44)]⟩),(4,⟨[],[(4,5),(13,19)]⟩)],[]⟩) Tryz.func232 (by kernel_rfl) (by kernel_rfl) (by kernel_rfl) (Eq.mp (by kernel_rfl) h)
def F154 (l:Option Addr) (b:World) (R:Ending→World→Prop):Prop :=
 Calls Tryz.prog 150 #[(.pointer l)] b (post R fun v w1 =>
 v=(.tuple #[]) ∧
 NonNil l fun p6 =>
 LdM (w1.cell? p6) fun c =>
 Raw Tryz.prog (Builtin.len_ #[99] 3 #[(.map c)]) w1 fun v2 a =>
 ∃(d:Int),v2=(.int .i64 d) ∧
 InR .i64 (d-(1:Int))∧R (.returned (.int .i64 (d-(1:Int)))) a)
theorem ok154 (l:Option Addr) {w:World}{R:Ending→World→Prop} (h:F154 l w R):Calls Tryz.prog 154 #[(.pointer l)] w R :=
 vc_calls (pl:=⟨11,⟨[]⟩,[],[]⟩) Tryz.func154 (by kernel_rfl) (by kernel_rfl) (by kernel_rfl) (Eq.mp (by kernel_rfl) h)
def F150 (l:Option Addr) (f:World) (R:Ending→World→Prop):Prop :=
 NonNil l fun p3 =>
 LdP (f.cell? (p3.add 1)) fun g =>
 Br (g).isNone
 (Al f #[(.int .u64 0),(.int .u64 0),(.pointer none),(.pointer none)] 199 fun g9 w1 =>
 NonNil l fun p10 =>
 St w1 (p10.add 1) (.pointer (some g9)) fun d =>
 AlM d fun r13 c =>
 NonNil l fun p15 =>
 LdP (c.cell? (p15.add 1)) fun e =>
 Raw Tryz.prog (Instr.mapUpdate 99 (.map (some r13)) (.int .u64 0) (.pointer e)) c fun _ a =>
 NonNil l fun p19 =>
 St a p19 (.map (some r13)) fun b =>
 R (.returned (.tuple #[])) b)
 (R (.returned (.tuple #[])) f)
theorem ok150 (l:Option Addr) {w:World}{R:Ending→World→Prop} (h:F150 l w R):Calls Tryz.prog 150 #[(.pointer l)] w R :=
 vc_calls (pl:=⟨21,⟨[]⟩,[],[]⟩) Tryz.func150 (by kernel_rfl) (by kernel_rfl) (by kernel_rfl) (Eq.mp (by kernel_rfl) h)
def F107 (l:Option Addr) (t:Int) (e:World) (R:Ending→World→Prop):Prop :=
 Calls Tryz.prog 150 #[(.pointer l)] e (post R fun v w1 =>
 v=(.tuple #[]) ∧
 NonNil l fun p12 =>
 LdM (w1.cell? p12) fun d =>
 Raw Tryz.prog (Instr.lookup 99 (.map d) (.int .u64 t) true) w1 fun v2 c =>
 ∃(a:Option Addr) (b:Bool),v2=(.tuple #[(.pointer a),(.bool b)]) ∧
 Br (!b)
 (R (.returned (.tuple #[(.pointer none),(.int .i64 10)])) c)
 (R (.returned (.tuple #[(.pointer a),(.int .i64 0)])) c))
theorem ok107 (l:Option Addr) (t:Int) {w:World}{R:Ending→World→Prop} (h:F107 l t w R):Calls Tryz.prog 107 #[(.pointer l),(.int .u64 t)] w R :=
 vc_calls (pl:=⟨22,⟨[]⟩,[],[]⟩) Tryz.func107 (by kernel_rfl) (by kernel_rfl) (by kernel_rfl) (Eq.mp (by kernel_rfl) h)
def F157_l3 (l:Option Addr) (d:Int) (L3:Int→Option Addr→World→Prop) (label:Int) (x:Option Addr) (b:World) (R:Ending→World→Prop):Prop :=
 Br (!(x).isNone)
 (InR .u64 (label+((4611686018427387904:Int).tdiv ((d+(1:Int)))))∧Calls Tryz.prog 156 #[(.pointer l),(.pointer x),(.int .u64 (label+((4611686018427387904:Int).tdiv ((d+(1:Int))))))] b (post R fun v2 a =>
 v2=(.tuple #[]) ∧
 NonNil x fun p23 =>
 LdP (a.cell? (p23.add 3)) fun c =>
 L3 (label+((4611686018427387904:Int).tdiv ((d+(1:Int))))) c a))
 (R (.returned (.tuple #[])) b)
def F157 (l:Option Addr) (d:World) (R:Ending→World→Prop):Prop :=
 NonNil l fun p6 =>
 LdM (d.cell? p6) fun f =>
 Raw Tryz.prog (Builtin.len_ #[99] 3 #[(.map f)]) d fun v w1 =>
 ∃(e:Int),v=(.int .i64 e) ∧
 InR .i64 (e+(1:Int))∧InR .u64 ((e+(1:Int)))∧((e+(1:Int)))≠0∧InR .u64 ((4611686018427387904:Int).tdiv ((e+(1:Int))))∧NonNil l fun p14 =>
 LdP (w1.cell? (p14.add 1)) fun c =>
 NonNil c fun p17 =>
 LdP (w1.cell? (p17.add 3)) fun b =>
 ∃(I:Int→Option Addr→World→Prop) (m:Int→Option Addr→World→Nat),I (0:Int) b w1 ∧
 ∀(label:Int) (x:Option Addr) (a:World),I label x a→F157_l3 l e (fun label' x' w2=>I label' x' w2∧m label' x' w2 < m label x a) label x a R
theorem ok157 (l:Option Addr) {w:World}{R:Ending→World→Prop} (h:F157 l w R):Calls Tryz.prog 157 #[(.pointer l)] w R :=
 vc_calls (pl:=⟨33,⟨[]⟩,[],[(3,⟨[(3,(.s (.int .u64))),(4,(.s .ptr))],[(3,33)]⟩)]⟩) Tryz.func157 (by kernel_rfl) (by kernel_rfl) (by kernel_rfl) (Eq.mp (by kernel_rfl) h)
def F156 (l:Option Addr) (x:Option Addr) (label:Int) (c:World) (R:Ending→World→Prop):Prop :=
 NonNil x fun p7 =>
 LdI .u64 (c.cell? (p7.add 1)) fun d =>
 Br (d != label)
 (NonNil x fun p14 =>
 St c (p14.add 1) (.int .u64 label) fun w1 =>
 NonNil l fun p17 =>
 LdI .u64 (w1.cell? (p17.add 3)) fun b =>
 NonNil l fun p21 =>
 St w1 (p21.add 3) (.int .u64 (IntKind.wrap .u64 (b+(1:Int)))) fun a =>
 R (.returned (.tuple #[])) a)
 (R (.returned (.tuple #[])) c)
theorem ok156 (l:Option Addr) (x:Option Addr) (label:Int) {w:World}{R:Ending→World→Prop} (h:F156 l x label w R):Calls Tryz.prog 156 #[(.pointer l),(.pointer x),(.int .u64 label)] w R :=
 vc_calls (pl:=⟨23,⟨[(2,4)]⟩,[],[]⟩) Tryz.func156 (by kernel_rfl) (by kernel_rfl) (by kernel_rfl) (Eq.mp (by kernel_rfl) h)
def F155 (x:Option Addr) (c:World) (R:Ending→World→Prop):Prop :=
 NonNil x fun p4 =>
 LdP (c.cell? (p4.add 3)) fun d =>
 Br (d).isNone
 (R (.returned (.int .u64 4611686018427387904)) c)
 (NonNil x fun p9 =>
 LdP (c.cell? (p9.add 3)) fun a =>
 NonNil a fun p12 =>
 LdI .u64 (c.cell? (p12.add 1)) fun b =>
 R (.returned (.int .u64 b)) c)
theorem ok155 (x:Option Addr) {w:World}{R:Ending→World→Prop} (h:F155 x w R):Calls Tryz.prog 155 #[(.pointer x)] w R :=
 vc_calls (pl:=⟨15,⟨[]⟩,[],[]⟩) Tryz.func155 (by kernel_rfl) (by kernel_rfl) (by kernel_rfl) (Eq.mp (by kernel_rfl) h)
end Go.Proofs.YtccplipiahdhiaaGreatDoor
namespace Go.Proofs.YtccplipiahdhiaaGreatDoor
open Go.RowKit Go.Vc
set_option linter.unusedVariables false
set_option linter.unusedSimpArgs false
set_option maxRecDepth 100000
theorem insAt_get {α:Type}{l:List α}{m:Nat}{h:α} (hm:m≤l.length) (j:Nat):(l.take m++h :: l.drop m)[j]?=if j < m then l[j]? else if j=m then some h else l[j-1]?:=by
 have hl:(l.take m).length=m:=by rw [List.length_take];omega
 by_cases h1:j < m
 ·rw [if_pos h1,List.getElem?_append_left (by omega),List.getElem?_take,if_pos h1]
 ·rw [if_neg h1,List.getElem?_append_right (by omega),hl]
  by_cases h2:j=m
  ·rw [if_pos h2,h2,Nat.sub_self];rfl
  ·rw [if_neg h2,show j-m=(j-m-1)+1 by omega,List.getElem?_cons_succ,List.getElem?_drop]
   congr 1;omega
theorem idx_iff {l:List Nat} (hn:l.Nodup) {k j:Nat}:l[j]?=some k↔k∈l∧l.idxOf k=j:=by
 constructor
 ·intro h
  obtain⟨hj,he⟩:=List.getElem?_eq_some_iff.1 h
  have hm:k∈l:=List.mem_of_getElem? h
  refine⟨hm,?_⟩
  have hlt:=List.idxOf_lt_length_iff.2 hm
  have h2:=List.getElem_idxOf hlt
  have hp:=List.pairwise_iff_getElem.1 hn
  rcases Nat.lt_trichotomy (l.idxOf k) j with h3 | h3 | h3
  ·exact absurd (h2.trans he.symm) (hp _ _ hlt hj h3)
  ·exact h3
  ·exact absurd (he.trans h2.symm) (hp _ _ hj hlt h3)
 ·rintro ⟨hm,rfl⟩
  have hlt:=List.idxOf_lt_length_iff.2 hm
  rw [List.getElem?_eq_getElem hlt,List.getElem_idxOf hlt]
def pB (b:Option Nat):Value:=.pointer (b.map fun b=>⟨b,0,none⟩)
def pvB (bs:List Nat) (i:Nat):Option Nat:=if i=0 then none else bs[i-1]?
def nxB (bs:List Nat) (i:Nat):Option Nat:=bs[i+1]?
def tgC (bs nms lbs:List Nat) (i:Nat):Array Value:=#[.int .u64 (nms.getD i 0:Nat),.int .u64 (lbs.getD i 0:Nat),pB (pvB bs i),pB (nxB bs i)]
def mpT (bs nms:List Nat) (k:Int):Option Value:=if 0≤k∧k.toNat∈nms then some (pB (some (bs.getD (nms.idxOf k.toNat) 0))) else none
structure TgR (w:World) (o:Nat→Nat) (bs nms lbs:List Nat) (mb:Nat):Prop where
 blk:∀(i b:Nat),bs[i]?=some b→Blk w b (tgC bs nms lbs i) 199
 col:∀b∈bs,o b=4
 nd:bs.Nodup
 mp:Mp .u64 w mb (mpT bs nms)
 mcol:o mb=5
structure TgI (nms lbs:List Nat) (gv:Nat):Prop where
 len:lbs.length=nms.length
 h0:nms[0]?=some 0
 l0:lbs[0]?=some 0
 nd:nms.Nodup
 le:∀x∈nms,x≤gv
 up:lbs.Pairwise (· < ·)
 mx:∀x∈lbs,x < 4611686018427387904
 few:nms.length≤8193
structure Fr where
 a:Value
 b:Value
 c:Value
 d:Value
 e:Value
 m:Value
 t:TypeId
def dkC (f:Fr) (mb:Option Nat) (hd:Option Nat) (gv:Nat) (wr:Int):Array Value:=#[f.a,f.b,f.c,f.d,f.e,.map mb,pB hd,.int .u64 (gv:Nat),.int .u64 wr,f.m]
structure TgD (w:World) (o:Nat→Nat) (g:Nat) (f:Fr) (bs nms lbs:List Nat) (mb gv:Nat) (wr:Int):Prop where
 blk:Blk w g (dkC f (some mb) bs[0]? gv wr) f.t
 gcol:o g=1
 r:TgR w o bs nms lbs mb
 len:bs.length=nms.length
 len2:lbs.length=nms.length
 pos:0 < nms.length
 nn:nms.Nodup
 lt:∀b,o b≠0→b < w.heap.size
structure EvT (w:World) (o:Nat→Nat) (w1:World) (o1:Nat→Nat):Prop where
 fm:Fm (fun b=>o b=1∨o b=4∨o b=5) w w1
 same:∀b,o b≠0→o1 b=o b
 old:∀b,b < w.heap.size→o b=0→o1 b=0
 new:∀b,o1 b≠0→o b≠0∨o1 b=4∨o1 b=5
section
variable {w w1 w2:World}{o o1 o2:Nat→Nat}{g:Nat}{f:Fr}{bs nms lbs:List Nat}{mb gv:Nat}{wr:Int}{M:Nat→Prop}{R:Ending→World→Prop}
theorem EvT.refl:EvT w o w o:=⟨.refl _ _,fun _ _=>rfl,fun _ _ h=>h,fun _ h=>.inl h⟩
theorem EvT.trans (h:EvT w o w1 o1) (hlt:∀b,o b≠0→b < w.heap.size) (k:EvT w1 o1 w2 o2):EvT w o w2 o2:=by
 refine⟨⟨k.fm.os.trans h.fm.os,k.fm.tape.trans h.fm.tape,k.fm.output.trans h.fm.output,Nat.le_trans h.fm.size k.fm.size,fun b hb hm=>?_⟩,fun b hb=>?_,fun b hb h1=>k.old b (Nat.lt_of_lt_of_le hb h.fm.size) (h.old b hb h1),fun b hb=>?_⟩
 ·rw [k.fm.block b (Nat.lt_of_lt_of_le hb h.fm.size) fun e=>?_]
  ·exact h.fm.block b hb hm
  ·by_cases h1:o b=0
   ·have:=h.old b hb h1;omega
   ·rw [h.same b h1] at e;exact hm e
 ·rw [k.same b (by rw [h.same b hb];exact hb)];exact h.same b hb
 ·rcases k.new b hb with e | e
  ·rcases h.new b e with e2 | e2
   ·exact .inl e2
   ·rw [k.same b e];exact .inr e2
  ·exact .inr e
theorem TgR.fm (h:TgR w o bs nms lbs mb) (hf:Fm M w w1) (hm:∀b,(o b=4∨o b=5)→¬M b):TgR w1 o bs nms lbs mb :=
 ⟨fun i b hb=>hf.blk (h.blk i b hb) (hm b (.inl (h.col b (List.mem_of_getElem? hb)))),h.col,h.nd,h.mp.fm hf (hm mb (.inr h.mcol)),h.mcol⟩
theorem TgD.keep (h:TgD w o g f bs nms lbs mb gv wr) (hb:Below w.heap.size w w1):TgD w1 o g f bs nms lbs mb gv wr :=
 ⟨h.blk.keep hb,h.gcol,h.r.fm (M:=fun _=>False) (.below hb) (fun _ _ h=>h),h.len,h.len2,h.pos,h.nn,fun b h1=>Nat.lt_of_lt_of_le (h.lt b h1) hb.size⟩
theorem TgD.bpos (h:TgD w o g f bs nms lbs mb gv wr):∃b,bs[0]?=some b:=by
 exact⟨_,List.getElem?_eq_getElem (by rw [h.len];exact h.pos)⟩
theorem mpT_some {i x b:Nat} (hn:nms.Nodup) (hx:nms[i]?=some x) (hb:bs[i]?=some b):mpT bs nms (x:Nat)=some (pB (some b)):=by
 obtain⟨h1,h2⟩:=(idx_iff hn).1 hx
 unfold mpT
 rw [if_pos ⟨by omega,by rw [Int.toNat_natCast];exact h1⟩,Int.toNat_natCast,h2,List.getD_eq_getElem?_getD,hb];rfl
theorem mpT_none {x:Nat} (h:x∉nms):mpT bs nms (x:Nat)=none:=by
 unfold mpT
 rw [if_neg (fun e=>h (by rw [Int.toNat_natCast] at e;exact e.2))]
theorem mapType:Tryz.prog.underlying 99=some (.map 144 100):=by kernel_rfl
theorem keyType:Tryz.prog.underlying 144=some (.int .u64):=by kernel_rfl
theorem zeroTag (w:World):(zeroValue 100).run Tryz.prog w=.ok (.pointer none) w:=by kernel_rfl
theorem begin_calls (h:TgD w o g f bs nms lbs mb gv wr) (hK:R (.returned (.tuple #[])) w):Calls Tryz.prog 150 #[.pointer (some ⟨g,5,none⟩)] w R:=by
 refine ok150 (some ⟨g,5,none⟩) ?_
 unfold F150
 obtain⟨b,hb⟩:=h.bpos
 have hB:=h.blk
 unfold dkC at hB
 rw [hb] at hB
 simp only [NonNil_some,Addr.add_mk,Nat.reduceAdd,hB.cell,List.getElem?_toArray,List.getElem?_cons_zero,List.getElem?_cons_succ,pB,Option.map_some,lds]
 simp only [Option.isNone_some,Br_f]
 exact hK
theorem find_some (h:TgD w o g f bs nms lbs mb gv wr) {i x b:Nat} (hx:nms[i]?=some x) (hb:bs[i]?=some b) (hK:R (.returned (.tuple #[pB (some b),.int .i64 0])) w):Calls Tryz.prog 107 #[.pointer (some ⟨g,5,none⟩),.int .u64 (x:Nat)] w R:=by
 refine ok107 (some ⟨g,5,none⟩) x ?_
 unfold F107
 refine begin_calls h ⟨rfl,?_⟩
 have hB:=h.blk
 unfold dkC at hB
 simp only [NonNil_some,Addr.add_mk,Nat.reduceAdd,Nat.zero_add,hB.cell,lds]
 refine h.r.mp.look mapType keyType (zeroTag w) x true ?_
 rw [mpT_some h.nn hx hb]
 exact⟨some ⟨b,0,none⟩,true,rfl,hK⟩
theorem lenM (h:TgD w o g f bs nms lbs mb gv wr) {t:TypeId}{K:Value→World→Prop} (hK:K (.int .i64 (nms.length:Nat)) w):Raw Tryz.prog (Builtin.len_ #[99] t #[.map (some mb)]) w K:=by
 refine h.r.mp.len mapType (l:=nms.map fun (x:Nat)=>((x:Nat):Int)) ?_ (fun k=>?_) (by rw [List.length_map];exact hK)
 ·exact List.pairwise_map.2 (h.nn.imp fun {a c} hac e=>hac (by omega))
 ·constructor
  ·intro hk
   obtain⟨x,hx,rfl⟩:=List.mem_map.1 hk
   obtain⟨i,hi⟩:=List.mem_iff_getElem?.1 hx
   obtain⟨b,hb⟩:∃b,bs[i]?=some b:=⟨_,List.getElem?_eq_getElem (by rw [h.len];exact (List.getElem?_eq_some_iff.1 hi).1)⟩
   exact⟨_,mpT_some h.nn hi hb⟩
  ·rintro ⟨v,hv⟩
   unfold mpT at hv
   by_cases hc:0≤k∧k.toNat∈nms
   ·exact List.mem_map.2 ⟨k.toNat,hc.2,by omega⟩
   ·rw [if_neg hc] at hv;cases hv
theorem Len_calls (h:TgD w o g f bs nms lbs mb gv wr) (hf:nms.length≤8193) (hK:R (.returned (.int .i64 ((nms.length:Nat)-1:Int))) w):Calls Tryz.prog 154 #[.pointer (some ⟨g,5,none⟩)] w R:=by
 refine ok154 (some ⟨g,5,none⟩) ?_
 unfold F154
 refine begin_calls h ⟨rfl,?_⟩
 have hB:=h.blk
 unfold dkC at hB
 simp only [NonNil_some,Addr.add_mk,Nat.reduceAdd,Nat.zero_add,hB.cell,lds]
 exact lenM h ⟨_,rfl,inR_i64 (by omega) (by omega),hK⟩
theorem TgD.tag (h:TgD w o g f bs nms lbs mb gv wr) {i b:Nat} (hb:bs[i]?=some b):∃x l,nms[i]?=some x∧lbs[i]?=some l∧Blk w b #[.int .u64 (x:Nat),.int .u64 (l:Nat),pB (pvB bs i),pB (nxB bs i)] 199:=by
 have h1:=(List.getElem?_eq_some_iff.1 hb).1
 have h2:nms[i]?=some (nms[i]'(by rw [←h.len];exact h1)):=List.getElem?_eq_getElem _
 have h3:lbs[i]?=some (lbs[i]'(by rw [h.len2,←h.len];exact h1)):=List.getElem?_eq_getElem _
 refine⟨_,_,h2,h3,?_⟩
 have:=h.r.blk i b hb
 unfold tgC at this
 rw [List.getD_eq_getElem?_getD,List.getD_eq_getElem?_getD,h2,h3] at this
 exact this
theorem past_calls (h:TgD w o g f bs nms lbs mb gv wr) {i b:Nat} (hb:bs[i]?=some b) (hK:R (.returned (.int .u64 ((lbs[i+1]?).getD 4611686018427387904:Nat))) w):Calls Tryz.prog 155 #[pB (some b)] w R:=by
 refine ok155 (some ⟨b,0,none⟩) ?_
 unfold F155
 obtain⟨x',l',h1,h2,hB⟩:=h.tag hb
 unfold nxB pB at hB
 simp only [NonNil_some,Addr.add_mk,Nat.reduceAdd,Nat.zero_add,hB.cell,lds]
 cases hn:bs[i+1]? with
 | none =>
  have:lbs[i+1]?=none:=by
   rw [List.getElem?_eq_none_iff] at hn ⊢
   rw [h.len2,←h.len];exact hn
  rw [this] at hK
  simp only [Option.map_none,Option.isNone_none,Br_t]
  exact hK
 | some b2 =>
  obtain⟨x2,l2,h3,h4,hB2⟩:=h.tag hn
  rw [h4] at hK
  simp only [Option.map_some,Option.isNone_some,Br_f,NonNil_some,Addr.add_mk,Nat.reduceAdd,Nat.zero_add,hB2.cell,lds]
  exact hK
theorem TgD.gne (h:TgD w o g f bs nms lbs mb gv wr) {b:Nat} (hb:b∈bs):b≠g∧b≠mb:=⟨fun e=>by have:=h.r.col b hb;rw [e,h.gcol] at this;omega,fun e=>by have:=h.r.col b hb;rw [e,h.r.mcol] at this;omega⟩
theorem nd_get {l:List Nat} (hn:l.Nodup) {i j b:Nat} (hi:l[i]?=some b) (hj:l[j]?=some b):i=j:=by
 have h1:=((idx_iff hn).1 hi).2
 have h2:=((idx_iff hn).1 hj).2
 omega
theorem write_calls (h:TgD w o g f bs nms lbs mb gv wr) {i b:Nat} (hb:bs[i]?=some b) (v:Nat) (hK:∀w' wr',TgD w' o g f bs nms (lbs.set i v) mb gv wr'→Fm (fun x=>x=g∨x=b) w w'→R (.returned (.tuple #[])) w') :
  Calls Tryz.prog 156 #[.pointer (some ⟨g,5,none⟩),pB (some b),.int .u64 (v:Nat)] w R:=by
 refine ok156 (some ⟨g,5,none⟩) (some ⟨b,0,none⟩) v ?_
 unfold F156
 obtain⟨x',l',h1,h2,hB⟩:=h.tag hb
 have hbm:=List.mem_of_getElem? hb
 obtain⟨hne,-⟩:=h.gne hbm
 have hil:=(List.getElem?_eq_some_iff.1 h2).1
 simp only [NonNil_some,Addr.add_mk,Nat.reduceAdd,Nat.zero_add,hB.cell,lds]
 refine brn (fun hv=>?_) (fun hv=>?_)
 ·refine st_blk hB (by simp) fun w1 b1 f1=>?_
  simp only [List.setIfInBounds_toArray,List.set_cons_zero,List.set_cons_succ] at b1
  have hD:=f1.blk h.blk (fun e=>hne e.symm)
  unfold dkC at hD
  simp only [NonNil_some,Addr.add_mk,Nat.reduceAdd,Nat.zero_add,hD.cell,lds]
  refine st_blk hD (by simp) fun w2 b2 f2=>?_
  simp only [List.setIfInBounds_toArray,List.set_cons_zero,List.set_cons_succ] at b2
  have FF:Fm (fun x=>x=g∨x=b) w w2:=(f1.mono fun x _ e=>.inr e).trans (f2.mono fun x _ e=>.inl e)
  refine hK w2 _ ⟨b2,h.gcol,⟨fun j c hc=>?_,h.r.col,h.r.nd,h.r.mp.fm FF fun e=>?_,h.r.mcol⟩,h.len,by rw [List.length_set];exact h.len2,h.pos,h.nn,fun c hc=>Nat.lt_of_lt_of_le (h.lt c hc) FF.size⟩ FF
  ·unfold tgC
   by_cases e:j=i
   ·subst e
    rw [hb] at hc;cases hc
    have:=f2.blk b1 (fun e=>hne e)
    rw [List.getD_eq_getElem?_getD,List.getD_eq_getElem?_getD,h1,List.getElem?_set_self hil]
    exact this
   ·rw [List.getD_eq_getElem?_getD (l:=lbs.set i v),List.getElem?_set_ne (Ne.symm e),←List.getD_eq_getElem?_getD]
    have hcm:=List.mem_of_getElem? hc
    exact FF.blk (h.r.blk j c hc) (fun e2=>by
     rcases e2 with e2 | e2
     ·exact (h.gne hcm).1 e2
     ·subst e2;exact e (nd_get h.r.nd hc hb))
  ·rcases e with e | e
   ·have:=h.gcol;rw [←e,h.r.mcol] at this;omega
   ·exact (h.gne hbm).2 e.symm
 ·have e:lbs.set i v=lbs:=by
   have:l'=v:=by omega
   subst this
   obtain⟨h3,h4⟩:=List.getElem?_eq_some_iff.1 h2
   rw [←h4,List.set_getElem_self]
  exact hK w wr (by rw [e];exact h) (.refl _ _)
end
set_option maxRecDepth 100000
theorem insAt_at {l:List Nat}{m h:Nat} (hm:m≤l.length) (j:Nat):(insAt l m h)[j]?=if j < m then l[j]? else if j=m then some h else l[j-1]?:=insAt_get hm j
theorem insAt_len {l:List Nat}{m h:Nat} (hm:m≤l.length):(insAt l m h).length=l.length+1:=by unfold insAt;simp;omega
section
variable {w w1 w2:World}{o o1 o2:Nat→Nat}{g:Nat}{f:Fr}{bs nms lbs:List Nat}{mb gv:Nat}{wr:Int}{M:Nat→Prop}{R:Ending→World→Prop}
theorem spread_calls (h:TgD w o g f bs nms lbs mb gv wr) (hf:nms.length≤8193) (h0:lbs[0]?=some 0)
  (hK:∀w' lbs' wr',TgD w' o g f bs nms lbs' mb gv wr'→Fm (fun x=>x=g∨x∈bs) w w'→lbs'[0]?=some 0→lbs'.Pairwise (· < ·)→(∀x∈lbs',x < 4611686018427387904)→R (.returned (.tuple #[])) w'):Calls Tryz.prog 157 #[.pointer (some ⟨g,5,none⟩)] w R:=by
 refine ok157 (some ⟨g,5,none⟩) ?_
 unfold F157
 obtain⟨b0,hb0⟩:=h.bpos
 have hB:=h.blk
 unfold dkC at hB
 rw [hb0] at hB
 have hpos:=h.pos
 simp only [NonNil_some,Addr.add_mk,Nat.reduceAdd,Nat.zero_add,hB.cell,lds]
 obtain⟨st,hst⟩:∃st:Nat,st=4611686018427387904 / (nms.length+1):=⟨_,rfl⟩
 have hdiv:(4611686018427387904:Int).tdiv (((nms.length:Nat):Int)+1)=((st:Nat):Int):=by
  rw [hst,show ((nms.length:Nat):Int)+1=((nms.length+1:Nat):Int) by omega,Int.tdiv_eq_ediv_of_nonneg (by omega)];rfl
 have hst1:st*(nms.length+1)≤4611686018427387904:=by rw [hst];exact Nat.div_mul_le_self _ _
 have hst2:1≤st:=by rw [hst];exact (Nat.le_div_iff_mul_le (by omega)).2 (by omega)
 have hst3:st≤4611686018427387904:=by rw [hst];exact Nat.div_le_self _ _
 refine lenM h ⟨_,rfl,inR_i64 (by omega) (by omega),inR_u64 (by omega) (by omega),by omega,?_⟩
 rw [hdiv]
 refine⟨inR_u64 (by omega) (by omega),?_⟩
 simp only [pB,Option.map_some,NonNil_some,Addr.add_mk,Nat.reduceAdd,Nat.zero_add,hB.cell,lds]
 obtain⟨x0,l0,t1,t2,tB⟩:=h.tag hb0
 unfold nxB pB at tB
 simp only [NonNil_some,Addr.add_mk,Nat.reduceAdd,Nat.zero_add,tB.cell,lds]
 have hmul:∀j,j≤nms.length→st*j≤4611686018427387904:=fun j hj=>Nat.le_trans (Nat.mul_le_mul_left st (show j≤nms.length+1 by omega)) hst1
 refine⟨fun lab x w'=>∃(j:Nat) (ls:List Nat) (wr':Int),1≤j∧j≤nms.length∧lab=((st*(j-1):Nat):Int)∧x=bs[j]?.map (fun b=>(⟨b,0,none⟩:Addr))∧TgD w' o g f bs nms ls mb gv wr'∧Fm (fun x=>x=g∨x∈bs) w w'∧∀i,i < j→ls[i]?=some (st*i),fun lab x w'=>nms.length-(lab / (st:Int)).toNat,
  ⟨1,lbs,wr,Nat.le_refl _,by omega,by simp,rfl,h,.refl _ _,fun i hi=>by rw [show i=0 by omega];exact h0⟩,?_⟩
 rintro lab x w2 ⟨j,ls,wr2,hj1,hj2,rfl,rfl,h2,f2,hl⟩
 unfold F157_l3
 cases hbj:bs[j]? with
 | none =>
  have hjn:j=nms.length:=by
   rw [List.getElem?_eq_none_iff,h.len] at hbj;omega
  simp only [Option.map_none,Option.isNone_none,Bool.not_true,Br_f]
  have hlen:=h2.len2
  have hget:∀i,∀hi:i < ls.length,ls[i]=st*i:=fun i hi=>by
   have:=hl i (by omega)
   rw [List.getElem?_eq_getElem hi] at this;exact Option.some.inj this
  refine hK w2 ls wr2 h2 f2 (by rw [hl 0 (by omega)];rfl) (List.pairwise_iff_getElem.2 fun a c ha hc hac=>?_) fun y hy=>?_
  ·rw [hget a ha,hget c hc]
   exact Nat.mul_lt_mul_of_pos_left hac (by omega)
  ·obtain⟨a,ha,rfl⟩:=List.mem_iff_getElem.1 hy
   rw [hget a ha]
   have h3:st*(a+1)≤4611686018427387904:=hmul (a+1) (by omega)
   rw [Nat.mul_succ] at h3
   omega
 | some b =>
  simp only [Option.map_some,Option.isNone_some,Bool.not_false,Br_t]
  have hjl:=(List.getElem?_eq_some_iff.1 hbj).1
  rw [h.len] at hjl
  have e1:((st*(j-1):Nat):Int)+((st:Nat):Int)=((st*j:Nat):Int):=by
   have:st*j=st*(j-1)+st:=by rw [←Nat.mul_succ];congr 1;omega
   rw [this];omega
  rw [hdiv,e1]
  have hmj:=hmul j hj2
  refine⟨inR_u64 (by omega) (by omega),?_⟩
  refine write_calls h2 hbj (st*j) fun w3 wr3 h3 f3=>⟨rfl,?_⟩
  obtain⟨x3,l3,t3,t4,tB3⟩:=h3.tag hbj
  unfold nxB pB at tB3
  simp only [NonNil_some,Addr.add_mk,Nat.reduceAdd,Nat.zero_add,tB3.cell,lds]
  have hjls:j < ls.length:=by rw [h2.len2];exact hjl
  refine⟨⟨j+1,ls.set j (st*j),wr3,by omega,by omega,by simp,rfl,h3,f2.trans (f3.mono fun x _ e=>?_),fun i hi=>?_⟩,?_⟩
  ·rcases e with e | e
   ·exact .inl e
   ·subst e;exact .inr (List.mem_of_getElem? hbj)
  ·by_cases e:i=j
   ·subst e;rw [List.getElem?_set_self hjls]
   ·rw [List.getElem?_set_ne (Ne.symm e)];exact hl i (by omega)
  ·show nms.length-(((st*j:Nat):Int) / (st:Int)).toNat < nms.length-(((st*(j-1):Nat):Int) / (st:Int)).toNat
   have d1:∀a:Nat,(((st*a:Nat):Int) / (st:Int)).toNat=a:=fun a=>by
    rw [show (((st*a:Nat):Int) / (st:Int))=((st*a / st:Nat):Int) from rfl,Int.toNat_natCast,Nat.mul_div_cancel_left a (by omega)]
   rw [d1,d1];omega
theorem writeN_calls (h:TgD w o g f bs nms lbs mb gv wr) {b:Nat}{nm l:Nat}{p q:Value} (hb:o b=0) (hB:Blk w b #[.int .u64 (nm:Nat),.int .u64 (l:Nat),p,q] 199) (v:Nat)
  (hK:∀w' wr',TgD w' o g f bs nms lbs mb gv wr'→Blk w' b #[.int .u64 (nm:Nat),.int .u64 (v:Nat),p,q] 199→Fm (fun x=>x=g∨x=b) w w'→R (.returned (.tuple #[])) w') :
  Calls Tryz.prog 156 #[.pointer (some ⟨g,5,none⟩),.pointer (some ⟨b,0,none⟩),.int .u64 (v:Nat)] w R:=by
 refine ok156 (some ⟨g,5,none⟩) (some ⟨b,0,none⟩) v ?_
 unfold F156
 have hne:b≠g:=fun e=>by have:=h.gcol;rw [←e] at this;omega
 simp only [NonNil_some,Addr.add_mk,Nat.reduceAdd,Nat.zero_add,hB.cell,lds]
 refine brn (fun hv=>?_) (fun hv=>?_)
 ·refine st_blk hB (by simp) fun w1 b1 f1=>?_
  simp only [List.setIfInBounds_toArray,List.set_cons_zero,List.set_cons_succ] at b1
  have hD:=f1.blk h.blk (fun e=>hne e.symm)
  unfold dkC at hD
  simp only [NonNil_some,Addr.add_mk,Nat.reduceAdd,Nat.zero_add,hD.cell,lds]
  refine st_blk hD (by simp) fun w2 b2 f2=>?_
  simp only [List.setIfInBounds_toArray,List.set_cons_zero,List.set_cons_succ] at b2
  have FF:Fm (fun x=>x=g∨x=b) w w2:=(f1.mono fun x _ e=>.inr e).trans (f2.mono fun x _ e=>.inl e)
  refine hK w2 _ ⟨b2,h.gcol,h.r.fm FF fun c hc e=>?_,h.len,h.len2,h.pos,h.nn,fun c hc=>Nat.lt_of_lt_of_le (h.lt c hc) FF.size⟩ (f2.blk b1 (fun e=>hne e)) FF
  rcases e with e | e
  ·have:=h.gcol;rw [←e] at this;omega
  ·rw [e] at hc;omega
 ·have:l=v:=by omega
  subst this
  exact hK w wr h hB (.refl _ _)
end
set_option maxRecDepth 100000
theorem mpT_ins {bs nms:List Nat}{i nb x:Nat} (hn:nms.Nodup) (hx:x∉nms) (hl:bs.length=nms.length) (hi:i+1≤nms.length):mpT (insAt bs (i+1) nb) (insAt nms (i+1) x)=upd (mpT bs nms) x (some (pB (some nb))):=by
 have hn':(insAt nms (i+1) x).Nodup:=nodup_insAt hn hx
 funext k
 unfold upd
 by_cases hk:k=(x:Int)
 ·rw [if_pos hk,hk]
  exact mpT_some (i:=i+1) hn' (by rw [insAt_at hi,if_neg (by omega),if_pos rfl]) (by rw [insAt_at (by omega),if_neg (by omega),if_pos rfl])
 ·rw [if_neg hk]
  by_cases hm:0≤k∧k.toNat∈nms
  ·obtain⟨hk0,hkm⟩:=hm
   obtain⟨a,rfl⟩:∃a:Nat,k=a:=⟨k.toNat,by omega⟩
   rw [Int.toNat_natCast] at hkm
   obtain⟨j,hj⟩:=List.mem_iff_getElem?.1 hkm
   have hjl:=(List.getElem?_eq_some_iff.1 hj).1
   obtain⟨b,hb⟩:∃b,bs[j]?=some b:=⟨_,List.getElem?_eq_getElem (by omega)⟩
   rw [mpT_some hn hj hb]
   by_cases hji:j < i+1
   ·exact mpT_some hn' (by rw [insAt_at hi,if_pos hji];exact hj) (by rw [insAt_at (by omega),if_pos hji];exact hb)
   ·refine mpT_some (i:=j+1) hn' ?_ ?_
    ·rw [insAt_at hi,if_neg (by omega),if_neg (by omega)];exact hj
    ·rw [insAt_at (by omega),if_neg (by omega),if_neg (by omega)];exact hb
  ·unfold mpT
   rw [if_neg hm,if_neg]
   rintro ⟨h0,h1⟩
   rcases mem_insAt.1 h1 with h1 | h1
   ·exact hk (by omega)
   ·exact hm ⟨h0,h1⟩
theorem TgI.ins {nms lbs:List Nat}{gv i l L:Nat} (h:TgI nms lbs gv) (hi:i+1≤nms.length) (hl:lbs[i]?=some l) (h1:l < L) (h2:∀m,lbs[i+1]?=some m→L < m) (h3:L < 4611686018427387904) (hf:nms.length≤8192):TgI (insAt nms (i+1) (gv+1)) (insAt lbs (i+1) L) (gv+1):=by
 have hlen:=h.len
 have hx:gv+1∉nms:=fun hx=>by have:=h.le _ hx;omega
 refine⟨by rw [insAt_len hi,insAt_len (by omega),hlen],by rw [insAt_at hi,if_pos (by omega)];exact h.h0,by rw [insAt_at (by omega),if_pos (by omega)];exact h.l0,nodup_insAt h.nd hx,fun x hx=>?_,?_,fun x hx=>?_,by rw [insAt_len hi];omega⟩
 ·rcases mem_insAt.1 hx with rfl | hx
  ·omega
  ·have:=h.le x hx;omega
 ·unfold insAt
  have hp:=h.up
  rw [←List.take_append_drop (i+1) lbs,List.pairwise_append] at hp
  obtain⟨q1,q2,q3⟩:=hp
  have hg:=List.pairwise_iff_getElem.1 h.up
  obtain⟨hil,hie⟩:=List.getElem?_eq_some_iff.1 hl
  have htake:∀x∈lbs.take (i+1),x < L:=fun x hx=>by
   obtain⟨a,ha,rfl⟩:=List.mem_iff_getElem.1 hx
   rw [List.length_take] at ha
   rw [List.getElem_take]
   rcases Nat.lt_or_ge a i with h4 | h4
   ·have:=hg a i (by omega) hil h4;omega
   ·have:a=i:=by omega
    subst this;omega
  have hdrop:∀x∈lbs.drop (i+1),L < x:=fun x hx=>by
   obtain⟨a,ha,rfl⟩:=List.mem_iff_getElem.1 hx
   rw [List.length_drop] at ha
   rw [List.getElem_drop]
   have h5:=h2 _ (List.getElem?_eq_getElem (show i+1 < lbs.length by omega))
   by_cases h4:a=0
   ·subst h4;exact h5
   ·have:=hg (i+1) (i+1+a) (by omega) (by omega) (by omega);omega
  rw [List.pairwise_append,List.pairwise_cons]
  refine⟨q1,⟨hdrop,q2⟩,fun x hx y hy=>?_⟩
  rcases List.mem_cons.1 hy with rfl | hy
  ·exact htake x hx
  ·exact q3 x hx y hy
 ·rcases mem_insAt.1 hx with rfl | hx
  ·exact h3
  ·exact h.mx x hx
theorem TgI.renum {nms lbs lbs':List Nat}{gv i L:Nat} (h:TgI nms lbs gv) (hi:i+1≤nms.length) (hf:nms.length≤8192) (hl:lbs'.length=(insAt nms (i+1) (gv+1)).length) (h0:lbs'[0]?=some 0) (hp:lbs'.Pairwise (· < ·)) (hm:∀x∈lbs',x < 4611686018427387904):TgI (insAt nms (i+1) (gv+1)) lbs' (gv+1):=by
 have hx:gv+1∉nms:=fun hx=>by have:=h.le _ hx;omega
 refine⟨hl,by rw [insAt_at hi,if_pos (by omega)];exact h.h0,h0,nodup_insAt h.nd hx,fun x hx=>?_,hp,hm,by rw [insAt_len hi];omega⟩
 rcases mem_insAt.1 hx with rfl | hx
 ·omega
 ·have:=h.le x hx;omega
theorem TgR.ins {w w1:World}{o:Nat→Nat}{bs nms lbs:List Nat}{mb i b nb x L:Nat} (h:TgR w o bs nms lbs mb) (hlen:bs.length=nms.length) (hlen2:lbs.length=nms.length) (hb:bs[i]?=some b) (hnb:∀c,o c≠0→c≠nb)
  (h1:Blk w1 b #[.int .u64 (nms.getD i 0:Nat),.int .u64 (lbs.getD i 0:Nat),pB (pvB bs i),pB (some nb)] 199) (h2:Blk w1 nb #[.int .u64 (x:Nat),.int .u64 (L:Nat),pB (some b),pB (nxB bs i)] 199)
  (h3:∀c,bs[i+1]?=some c→Blk w1 c #[.int .u64 (nms.getD (i+1) 0:Nat),.int .u64 (lbs.getD (i+1) 0:Nat),pB (some nb),pB (nxB bs (i+1))] 199)
  (h4:∀j c,bs[j]?=some c→j≠i→j≠i+1→Blk w1 c (tgC bs nms lbs j) 199) (hm:Mp .u64 w1 mb (mpT (insAt bs (i+1) nb) (insAt nms (i+1) x))) :
  TgR w1 (fun c=>if c=nb then 4 else o c) (insAt bs (i+1) nb) (insAt nms (i+1) x) (insAt lbs (i+1) L) mb:=by
 have hil:=(List.getElem?_eq_some_iff.1 hb).1
 have hi:i+1≤bs.length:=hil
 have hi2:i+1≤nms.length:=by omega
 have hi3:i+1≤lbs.length:=by omega
 have gd:∀(l:List Nat) (y:Nat),i+1≤l.length→∀j,(insAt l (i+1) y).getD j 0=if j < i+1 then l.getD j 0 else if j=i+1 then y else l.getD (j-1) 0:=fun l y hl j=>by
  rw [List.getD_eq_getElem?_getD,insAt_at hl]
  split
  ·rw [List.getD_eq_getElem?_getD]
  ·split
   ·rfl
   ·rw [List.getD_eq_getElem?_getD]
 refine⟨fun j c hc=>?_,fun c hc=>?_,nodup_insAt h.nd fun hx=>hnb nb (by rw [h.col nb hx];decide) rfl,hm,?_⟩
 ·rw [insAt_at hi] at hc
  unfold tgC pvB nxB
  rw [gd nms x hi2,gd lbs L hi3,insAt_at hi,insAt_at hi]
  by_cases c1:j < i+1
  ·rw [if_pos c1] at hc
   rw [if_pos c1,if_pos c1]
   by_cases c2:j=i
   ·subst c2
    rw [hb] at hc;cases hc
    have e:(if j=0 then none else if j-1 < j+1 then bs[j-1]? else if j-1=j+1 then some nb else bs[j-1-1]?)=pvB bs j:=by
     unfold pvB
     split
     ·rfl
     ·rw [if_pos (by omega)]
    rw [e,if_neg (by omega),if_pos rfl];exact h1
   ·have e:(if j=0 then none else if j-1 < i+1 then bs[j-1]? else if j-1=i+1 then some nb else bs[j-1-1]?)=pvB bs j:=by
     unfold pvB
     split
     ·rfl
     ·rw [if_pos (by omega)]
    rw [e,if_pos (by omega)]
    exact h4 j c hc c2 (by omega)
  ·rw [if_neg c1] at hc
   rw [if_neg c1,if_neg c1]
   by_cases c2:j=i+1
   ·rw [if_pos c2] at hc;cases hc
    subst c2
    rw [if_pos rfl,if_pos rfl,if_neg (by omega),if_pos (by omega),show i+1-1=i by omega,hb,if_neg (by omega),if_neg (by omega)]
    exact h2
   ·rw [if_neg c2] at hc
    rw [if_neg c2,if_neg c2,if_neg (show ¬j=0 by omega),if_neg (show ¬j-1 < i+1 by omega),if_neg (show ¬j+1 < i+1 by omega),if_neg (show ¬j+1=i+1 by omega),show j+1-1=j by omega]
    by_cases c3:j=i+2
    ·subst c3
     rw [if_pos (by omega)]
     exact h3 c hc
    ·rw [if_neg (by omega)]
     have:=h4 (j-1) c hc (by omega) (by omega)
     unfold tgC pvB nxB at this
     rw [if_neg (by omega),show j-1+1=j by omega] at this
     exact this
 ·by_cases e:c=nb
  ·rw [if_pos e]
  ·rw [if_neg e]
   rcases mem_insAt.1 hc with rfl | hc
   ·exact absurd rfl e
   ·exact h.col c hc
 ·rw [if_neg (hnb mb (by rw [h.mcol];decide))];exact h.mcol
set_option maxRecDepth 100000
section
variable {w w1 w2:World}{o o1 o2:Nat→Nat}{g:Nat}{f:Fr}{bs nms lbs:List Nat}{mb gv:Nat}{wr:Int}{M:Nat→Prop}{R:Ending→World→Prop}
theorem Fm.tr2 {M M':Nat→Prop}{w w1 w2:World} (h:Fm M w w1) (k:Fm M' w1 w2) (hm:∀b,b < w.heap.size→M' b→M b):Fm M w w2 :=
 ⟨k.os.trans h.os,k.tape.trans h.tape,k.output.trans h.output,Nat.le_trans h.size k.size,fun b hb hn=>by
  rw [k.block b (by have:=h.size;omega) (fun e=>hn (hm b hb e)),h.block b hb hn]⟩
theorem After_gen {w0:World}{o0:Nat→Nat} (hlt0:∀b,o0 b≠0→b < w0.heap.size) (hf:nms.length≤8192) (hgv:gv < 9223372036854775808) {i x:Nat} (hx:nms[i]?=some x)
  (hF:∀R':Ending→World→Prop,(∀w o bs lbs mb wr b,TgD w o g f bs nms lbs mb gv wr→TgI nms lbs gv→EvT w0 o0 w o→bs[i]?=some b→R' (.returned (.tuple #[pB (some b),.int .i64 0])) w)→Calls Tryz.prog 107 #[.pointer (some ⟨g,5,none⟩),.int .u64 (x:Nat)] w0 R')
  (hK:∀w' o' bs' lbs' mb wr',TgD w' o' g f bs' (insAt nms (i+1) (gv+1)) lbs' mb (gv+1) wr'→TgI (insAt nms (i+1) (gv+1)) lbs' (gv+1)→EvT w0 o0 w' o'→R (.returned (.tuple #[.int .u64 (gv+1:Nat),.int .i64 0])) w') :
  Calls Tryz.prog 116 #[.pointer (some ⟨g,5,none⟩),.int .u64 (x:Nat)] w0 R:=by
 refine ok116 (some ⟨g,5,none⟩) x ?_
 unfold F116
 have hxl:=(List.getElem?_eq_some_iff.1 hx).1
 have hi2:i+1≤nms.length:=hxl
 refine hF _ fun w o bs lbs mb wr b h hI ev0 hb=>⟨_,_,rfl,brn (fun e=>absurd rfl e) fun _=>?_⟩
 have hbm:=List.mem_of_getElem? hb
 have hlt:=h.lt
 refine Len_calls h (by omega) ⟨_,rfl,brd (fun e=>absurd e (by omega)) fun _=>?_⟩
 obtain⟨b0,hb0⟩:=h.bpos
 have hD:=h.blk
 unfold dkC at hD
 simp only [NonNil_some,Addr.add_mk,Nat.reduceAdd,Nat.zero_add,hD.cell,lds]
 have eg:((gv:Nat):Int)+1=((gv+1:Nat):Int):=by omega
 rw [eg]
 refine⟨inR_u64 (by omega) (by omega),?_⟩
 refine st_blk hD (by simp) fun w1 bD1 f1=>?_
 simp only [List.setIfInBounds_toArray,List.set_cons_zero,List.set_cons_succ] at bD1
 have hgne:∀c,(o c=4∨o c=5)→¬c=g:=fun c hc e=>by have:=h.gcol;rw [←e] at this;omega
 have h1:TgD w1 o g f bs nms lbs mb (gv+1) wr:=⟨bD1,h.gcol,h.r.fm f1 hgne,h.len,h.len2,h.pos,h.nn,fun c hc=>Nat.lt_of_lt_of_le (hlt c hc) f1.size⟩
 have hdr1:Below w1.heap.size w1 w1.drew:=(Below.refl _ _).drew
 obtain⟨x1,l,t1,t2,tB⟩:=h1.tag hb
 rw [hx] at t1;cases t1
 have hs1:=f1.size
 refine⟨fun w'=>Below w1.heap.size w1 w',hdr1,?_⟩
 refine⟨_,fun w' hw=>by rw [(bD1.keep hw).cell];rfl,?_⟩
 simp only [Option.map_some,NonNil_some,Addr.add_mk,Nat.reduceAdd,Nat.zero_add]
 refine⟨(nxB bs i).map fun b=>(⟨b,0,none⟩:Addr),fun w' hw=>by rw [(tB.keep hw).cell];rfl,?_⟩
 refine al fun nb w2 hb2 bn2 hge2=>?_
 have D2:Below w1.heap.size w1 w2:=btr hdr1 hdr1.size hb2
 have h2:=h1.keep D2
 have onb:o nb=0:=Classical.byContradiction fun e=>by have:=hlt nb e;have:w1.heap.size≤nb:=hge2;omega
 have hnb:∀c,o c≠0→c≠nb:=fun c hc e=>hc (by rw [e];exact onb)
 have tB2:=tB.keep D2
 have hup:=List.pairwise_iff_getElem.1 hI.up
 obtain⟨hil,hie⟩:=List.getElem?_eq_some_iff.1 t2
 have hlmx:=hI.mx l (List.mem_of_getElem? t2)
 have hpast:l < (lbs[i+1]?).getD 4611686018427387904∧(lbs[i+1]?).getD 4611686018427387904≤4611686018427387904:=by
  cases hn:lbs[i+1]? with
  | none=>exact⟨hlmx,Nat.le_refl _⟩
  | some m =>
   obtain⟨h3,h4⟩:=List.getElem?_eq_some_iff.1 hn
   have:=hup i (i+1) hil h3 (by omega)
   have h5:=hI.mx m (List.mem_of_getElem? hn)
   show l < m∧m≤_
   omega
 refine⟨fun w'=>∃(L:Nat) (wr':Int),TgD w' o g f bs nms lbs mb (gv+1) wr'∧Blk w' nb #[.int .u64 (gv+1:Nat),.int .u64 (L:Nat),pB (some b),pB (nxB bs i)] 199∧Fm (fun c=>c=g∨c=nb) w2 w'∧(L=0∨(l < L∧(∀m,lbs[i+1]?=some m→L < m)∧L < 4611686018427387904)),?_,?_⟩
 rotate_left
 ·have hdr2:Below w2.heap.size w2 w2.drew:=(Below.refl _ _).drew
  refine⟨fun w'=>Below w2.heap.size w2 w',hdr2,?_⟩
  refine⟨_,fun w' hw=>by rw [(tB2.keep hw).cell];rfl,?_⟩
  refine past_calls (h2.keep hdr2) hb ⟨_,rfl,hdr2,?_⟩
  generalize hpp:(lbs[i+1]?).getD 4611686018427387904=p at hpast ⊢
  have hnext:∀m,lbs[i+1]?=some m→p=m:=fun m hm=>by rw [←hpp,hm];rfl
  have esub:((p:Nat):Int)-((l:Nat):Int)=((p-l:Nat):Int):=by omega
  rw [esub]
  refine⟨inR_u64 (by omega) (by omega),?_⟩
  have bn2d:=bn2.keep hdr2
  have tB2d:=tB2.keep hdr2
  refine brd (fun hgap=>?_) (fun hgap=>⟨0,wr,h2.keep hdr2,bn2d,.below hdr2,.inl rfl⟩)
  simp only [NonNil_some,Addr.add_mk,Nat.reduceAdd,Nat.zero_add,tB2d.cell,lds]
  have ediv:((p-l:Nat):Int).tdiv 2=(((p-l) / 2:Nat):Int):=by rw [Int.tdiv_eq_ediv_of_nonneg (by omega)];rfl
  rw [ediv]
  have eadd:((l:Nat):Int)+(((p-l) / 2:Nat):Int)=((l+(p-l) / 2:Nat):Int):=by omega
  rw [eadd]
  refine⟨inR_u64 (by omega) (by omega),inR_u64 (by omega) (by omega),?_⟩
  refine writeN_calls (h2.keep hdr2) onb (b:=nb) (nm:=gv+1) (l:=0) (p:=pB (some b)) (q:=pB (nxB bs i)) bn2d (l+(p-l) / 2) fun w3 wr3 h3 b3 f3=>⟨rfl,?_⟩
  exact⟨_,wr3,h3,b3,(Fm.below hdr2).trans f3,.inr ⟨by omega,fun m hm=>by have:=hnext m hm;omega,by omega⟩⟩
 rintro w3 ⟨L,wr3,h3,b3,f3,hL⟩
 unfold F116_j11
 obtain⟨x3,l3,t3,t4,tB3⟩:=h3.tag hb
 rw [hx] at t3;cases t3
 rw [t2] at t4;cases t4
 have hgd1:nms.getD i 0=x:=by rw [List.getD_eq_getElem?_getD,hx];rfl
 have hgd2:lbs.getD i 0=l:=by rw [List.getD_eq_getElem?_getD,t2];rfl
 refine⟨fun w'=>Fm (fun c=>bs[i+1]?=some c) w3 w'∧∀c,bs[i+1]?=some c→Blk w' c #[.int .u64 (nms.getD (i+1) 0:Nat),.int .u64 (lbs.getD (i+1) 0:Nat),pB (some nb),pB (nxB bs (i+1))] 199,?_,?_⟩
 rotate_left
 ·simp only [pB,NonNil_some,Addr.add_mk,Nat.reduceAdd,Nat.zero_add,tB3.cell,lds]
  cases hn:bs[i+1]? with
  | none =>
   have e:nxB bs i=none:=hn
   rw [e]
   simp only [Option.map_none,Option.isNone_none,Bool.not_true,Br_f]
   exact⟨.refl _ _,fun c hc=>by cases hc⟩
  | some c =>
   have e:nxB bs i=some c:=hn
   rw [e]
   simp only [Option.map_some,Option.isNone_some,Bool.not_false,Br_t,NonNil_some,Addr.add_mk,Nat.reduceAdd,Nat.zero_add]
   have hc3:=h3.r.blk (i+1) c hn
   unfold tgC at hc3
   refine st_blk hc3 (by simp) fun w4 b4 f4=>?_
   simp only [List.setIfInBounds_toArray,List.set_cons_zero,List.set_cons_succ] at b4
   exact⟨f4.mono fun y _ e=>by rw [e],fun c' hc'=>by cases hc';exact b4⟩
 rintro w4 ⟨f4,hc4⟩
 unfold F116_j13
 have hne1:∀c,bs[i+1]?=some c→c≠b∧c≠g∧c≠nb∧c≠mb:=fun c hc=>by
  have hcm:=List.mem_of_getElem? hc
  refine⟨fun e=>?_,(h.gne hcm).1,hnb c (by rw [h.r.col c hcm];decide),(h.gne hcm).2⟩
  subst e
  have:=nd_get h.r.nd hc hb;omega
 have tB4:=f4.blk tB3 (fun e=>(hne1 b e).1 rfl)
 have b4:=f4.blk b3 (fun e=>(hne1 nb e).2.2.1 rfl)
 have bD4:=f4.blk h3.blk (fun e=>(hne1 g e).2.1 rfl)
 unfold dkC at bD4
 simp only [pB,NonNil_some,Addr.add_mk,Nat.reduceAdd,Nat.zero_add]
 have hbnb:b≠nb:=hnb b (by rw [h.r.col b hbm];decide)
 obtain⟨hbg,hbmb⟩:=h.gne hbm
 refine st_blk tB4 (by simp) fun w5 tB5 f5=>?_
 simp only [List.setIfInBounds_toArray,List.set_cons_zero,List.set_cons_succ] at tB5
 have b5:=f5.blk b4 (fun e=>hbnb e.symm)
 have bD5:=f5.blk bD4 (fun e=>hbg e.symm)
 have hdr5:Below w5.heap.size w5 w5.drew:=(Below.refl _ _).drew
 refine⟨fun w'=>Below w5.heap.size w5 w',hdr5,?_⟩
 refine⟨_,fun w' hw=>by rw [(bD5.keep hw).cell];rfl,?_⟩
 refine⟨_,fun w' hw=>by rw [(b5.keep hw).cell];rfl,?_⟩
 have mcol:=h.r.mcol
 have hmb4:¬bs[i+1]?=some mb:=fun e=>(hne1 mb e).2.2.2 rfl
 have mp5:Mp .u64 w5.drew mb (mpT bs nms):=((h3.r.mp.fm f4 hmb4).fm f5 (fun e=>hbmb e.symm)).fm (M:=fun _=>False) (.below hdr5) fun h=>h
 have hgx:gv+1∉nms:=fun e=>by have:=hI.le _ e;omega
 refine mp5.update mapType keyType (gv+1:Nat) _ fun w6 mp6 f6=>?_
 have F36:Fm (fun c=>c=b∨c=mb∨bs[i+1]?=some c) w3 w6:=((f4.mono fun c _ e=>.inr (.inr e)).trans (f5.mono fun c _ e=>.inl e)).trans ((Fm.below hdr5).trans (f6.mono fun c _ e=>.inr (.inl e)))
 have F56:Fm (·=mb) w5 w6:=(Fm.below hdr5).trans f6
 have b6:=F56.blk b5 (fun e=>by have e:nb=mb:=e;rw [e] at onb;omega)
 have hR6:=h3.r.ins (w1:=w6) (L:=L) (x:=gv+1) (nb:=nb) h.len h.len2 hb hnb (by rw [hgd1,hgd2];exact F56.blk tB5 hbmb) b6 (fun c hc=>F56.blk (f5.blk (hc4 c hc) (hne1 c hc).1) (hne1 c hc).2.2.2)
  (fun j c hc hji hji1=>F36.blk (h3.r.blk j c hc) (fun e=>by
   have hcm:=List.mem_of_getElem? hc
   rcases e with e | e | e
   ·subst e;exact hji (nd_get h.r.nd hc hb)
   ·exact (h.gne hcm).2 e
   ·exact hji1 (nd_get h.r.nd hc e))) (by rw [mpT_ins h.nn hgx h.len hi2];exact mp6)
 have hi3:i+1≤bs.length:=by rw [h.len];exact hi2
 have hi4:i+1≤lbs.length:=by rw [h.len2];exact hi2
 have F26:=F36.size
 have F23:=f3.size
 have hnb6:=b6.lt
 have h6:TgD w6 (fun c=>if c=nb then 4 else o c) g f (insAt bs (i+1) nb) (insAt nms (i+1) (gv+1)) (insAt lbs (i+1) L) mb (gv+1) wr3:=by
  refine⟨?_,?_,hR6,by rw [insAt_len hi3,insAt_len hi2,h.len],by rw [insAt_len hi4,insAt_len hi2,h.len2],by rw [insAt_len hi2];omega,nodup_insAt h.nn hgx,fun c hc=>?_⟩
  ·have:=F56.blk bD5 (fun e=>by have e:g=mb:=e;rw [←e,h.gcol] at mcol;omega)
   unfold dkC
   rw [insAt_at hi3,if_pos (by omega)]
   exact this
  ·show (if g=nb then 4 else o g)=1
   rw [if_neg (hnb g (by rw [h.gcol];decide))];exact h.gcol
  ·by_cases e:c=nb
   ·rw [e];exact hnb6
   ·have hc:(if c=nb then 4 else o c)≠0:=hc
    rw [if_neg e] at hc
    exact Nat.lt_of_lt_of_le (h3.lt c hc) F26
 have hcold:∀c,c < w.heap.size→c≠nb:=fun c hc e=>by have:w1.heap.size≤nb:=hge2;omega
 have F06:Fm (fun c=>o c=1∨o c=4∨o c=5) w w6:=by
  have a1:Fm (fun c=>o c=1∨o c=4∨o c=5) w w2:=(f1.mono fun c _ e=>by have e:c=g:=e;rw [e];exact .inl h.gcol).tr D2
  have a2:=a1.tr2 f3 fun c hc e=>by
   rcases e with e | e
   ·rw [e];exact .inl h.gcol
   ·exact absurd e (hcold c hc)
  refine a2.tr2 F36 fun c hc e=>?_
  rcases e with e | e | e
  ·rw [e];exact .inr (.inl (h.r.col b hbm))
  ·rw [e];exact .inr (.inr mcol)
  ·exact .inr (.inl (h.r.col c (List.mem_of_getElem? e)))
 have ev6:EvT w o w6 (fun c=>if c=nb then 4 else o c):=⟨F06,fun c hc=>by show (if c=nb then 4 else o c)=o c;rw [if_neg (hnb c hc)],fun c hc h9=>by show (if c=nb then 4 else o c)=0;rw [if_neg (hcold c hc)];exact h9,fun c hc=>by
  by_cases e:c=nb
  ·right;left;show (if c=nb then 4 else o c)=4;rw [if_pos e]
  ·left
   have hc:(if c=nb then 4 else o c)≠0:=hc
   rw [if_neg e] at hc;exact hc⟩
 refine⟨fun w'=>∃lbs' wr',TgD w' (fun c=>if c=nb then 4 else o c) g f (insAt bs (i+1) nb) (insAt nms (i+1) (gv+1)) lbs' mb (gv+1) wr'∧TgI (insAt nms (i+1) (gv+1)) lbs' (gv+1)∧EvT w o w' (fun c=>if c=nb then 4 else o c),?_,?_⟩
 ·rintro w7 ⟨lbs',wr',h7,i7,ev7⟩
  unfold F116_j17
  obtain⟨x7,l7,u1,u2,u3⟩:=h7.tag (i:=i+1) (b:=nb) (by rw [insAt_at hi3,if_neg (by omega),if_pos rfl])
  rw [insAt_at hi2,if_neg (by omega),if_pos rfl] at u1
  cases u1
  simp only [NonNil_some,Addr.add_mk,Nat.reduceAdd,Nat.zero_add,u3.cell,lds]
  exact hK w7 _ _ lbs' mb wr' h7 i7 (ev0.trans hlt0 ev7)
 ·simp only [NonNil_some,Addr.add_mk,Nat.reduceAdd,Nat.zero_add,b6.cell,lds]
  refine bre (fun hz=>?_) (fun hnz=>?_)
  ·have hl0:(insAt lbs (i+1) L)[0]?=some 0:=by rw [insAt_at hi4,if_pos (by omega)];exact hI.l0
   refine spread_calls h6 (by rw [insAt_len hi2];omega) hl0 fun w7 lbs' wr' h7 f7 z0 z1 z2=>⟨rfl,?_⟩
   refine⟨lbs',wr',h7,hI.renum (L:=L) hi2 hf h7.len2 z0 z1 z2,ev6.trans hlt ⟨f7.mono fun c hc e=>?_,fun _ _=>rfl,fun _ _ h=>h,fun _ h=>.inl h⟩⟩
   rcases e with e | e
   ·rw [e];exact .inl h6.gcol
   ·exact .inr (.inl (h6.r.col c e))
  ·rcases hL with hL | ⟨q1,q2,q3⟩
   ·exact absurd (by omega) hnz
   ·exact⟨_,wr3,h6,hI.ins hi2 t2 q1 q2 q3 hf,ev6⟩
theorem After_calls (h:TgD w o g f bs nms lbs mb gv wr) (hI:TgI nms lbs gv) (hf:nms.length≤8192) (hgv:gv < 9223372036854775808) {i x:Nat} (hx:nms[i]?=some x)
  (hK:∀w' o' bs' lbs' mb wr',TgD w' o' g f bs' (insAt nms (i+1) (gv+1)) lbs' mb (gv+1) wr'→TgI (insAt nms (i+1) (gv+1)) lbs' (gv+1)→EvT w o w' o'→R (.returned (.tuple #[.int .u64 (gv+1:Nat),.int .i64 0])) w') :
  Calls Tryz.prog 116 #[.pointer (some ⟨g,5,none⟩),.int .u64 (x:Nat)] w R :=
 After_gen h.lt hf hgv hx (fun R' k=>by
  obtain⟨b,hb⟩:∃b,bs[i]?=some b:=⟨_,List.getElem?_eq_getElem (by rw [h.len];exact (List.getElem?_eq_some_iff.1 hx).1)⟩
  exact find_some h hx hb (k w o bs lbs mb wr b h hI .refl hb)) hK
structure TgZ (w:World) (o:Nat→Nat) (g:Nat) (f:Fr):Prop where
 blk:Blk w g (dkC f none none 0 0) f.t
 gcol:o g=1
 lt:∀b,o b≠0→b < w.heap.size
theorem begin_zero (h:TgZ w o g f) (hK:∀w' o' b mb,TgD w' o' g f [b] [0] [0] mb 0 0→EvT w o w' o'→R (.returned (.tuple #[])) w'):Calls Tryz.prog 150 #[.pointer (some ⟨g,5,none⟩)] w R:=by
 refine ok150 (some ⟨g,5,none⟩) ?_
 unfold F150
 have hD:=h.blk
 unfold dkC pB at hD
 simp only [NonNil_some,Addr.add_mk,Nat.reduceAdd,Nat.zero_add,hD.cell,List.getElem?_toArray,List.getElem?_cons_zero,List.getElem?_cons_succ,Option.map_none,lds]
 simp only [Option.isNone_none,Br_t]
 refine al fun gb w1 hb1 b1 hge1=>?_
 have hgl:=hD.lt
 refine st_blk (hD.keep hb1) (by simp) fun w2 bD2 f2=>?_
 simp only [List.setIfInBounds_toArray,List.set_cons_zero,List.set_cons_succ] at bD2
 have hne1:gb≠g:=by omega
 have b2:=f2.blk b1 (fun e=>hne1 e)
 have hs1:=hb1.size
 have hs2:=f2.size
 have hb3:Below w2.heap.size w2 (w2.alloc (.map #[] 0)):=(Below.refl _ _).alloc (Nat.le_refl _) _
 have mp3:Mp .u64 (w2.alloc (.map #[] 0)) w2.heap.size fun _=>none:=Mp.made w2 .u64
 unfold AlM
 have bD3:=bD2.keep hb3
 have b3:=b2.keep hb3
 generalize (w2.alloc (.map #[] 0))=w3 at *
 have hbl:=b2.lt
 have hD2l:=bD2.lt
 generalize hmb:w2.heap.size=mb at *
 simp only [NonNil_some,Addr.add_mk,Nat.reduceAdd,Nat.zero_add,bD3.cell,lds]
 refine mp3.update mapType keyType (0:Nat) _ fun w4 mp4 f4=>?_
 have bD4:=f4.blk bD3 (fun e=>by have e:g=mb:=e;omega)
 have b4:=f4.blk b3 (fun e=>by have e:gb=mb:=e;omega)
 refine st_blk bD4 (by simp) fun w5 bD5 f5=>?_
 simp only [List.setIfInBounds_toArray,List.set_cons_zero,List.set_cons_succ] at bD5
 have hs3:=hb3.size
 have hs4:=f4.size
 have hs5:=f5.size
 have ogb:o gb=0:=Classical.byContradiction fun e=>by have:=h.lt gb e;omega
 have omb:o mb=0:=Classical.byContradiction fun e=>by have:=h.lt mb e;omega
 have b5:=f5.blk b4 (fun e=>hne1 e)
 have mp5:=mp4.fm f5 (fun e=>by have e:mb=g:=e;omega)
 have hgb:g≠gb:=fun e=>hne1 e.symm
 have hgm:g≠mb:=by omega
 have hmg:gb≠mb:=by omega
 have mplt:=mp5.lt
 refine hK w5 (fun c=>if c=gb then 4 else if c=mb then 5 else o c) gb mb ⟨bD5,?_,⟨fun i c hc=>?_,fun c hc=>?_,by simp,?_,?_⟩,rfl,rfl,by simp,by simp,fun c hc=>?_⟩ ⟨?_,fun c hc=>?_,fun c hcl hc=>?_,fun c hc=>?_⟩
 ·show (if g=gb then 4 else if g=mb then 5 else o g)=1
  rw [if_neg hgb,if_neg hgm];exact h.gcol
 ·cases i with
  | succ i=>cases hc
  | zero=>cases hc;exact b5
 ·rw [List.mem_singleton] at hc;subst hc
  show (if c=c then 4 else _)=4
  rw [if_pos rfl]
 ·have e:mpT [gb] [0]=upd (fun _=>none) ((0:Nat):Int) (some (Value.pointer (some ⟨gb,0,none⟩))):=by
   funext k
   unfold mpT upd
   by_cases hk:k=((0:Nat):Int)
   ·subst hk;rfl
   ·rw [if_neg hk,if_neg]
    rintro ⟨h1,h2⟩
    rw [List.mem_singleton] at h2
    exact hk (by omega)
  rw [e];exact mp5
 ·show (if mb=gb then 4 else if mb=mb then 5 else o mb)=5
  rw [if_neg (fun e=>hmg e.symm),if_pos rfl]
 ·have hc:(if c=gb then 4 else if c=mb then 5 else o c)≠0:=hc
  by_cases e1:c=gb
  ·rw [e1];exact b5.lt
  ·rw [if_neg e1] at hc
   by_cases e2:c=mb
   ·rw [e2];exact mplt
   ·rw [if_neg e2] at hc
    have:=h.lt c hc;omega
 ·have a1:Fm (fun c=>o c=1∨o c=4∨o c=5) w w2:=(Fm.below hb1).trans (f2.mono fun c _ e=>by have e:c=g:=e;rw [e];exact .inl h.gcol)
  have a2:Fm (fun c=>o c=1∨o c=4∨o c=5) w w3:=a1.tr (by rw [hmb];exact hb3)
  have a3:=a2.tr2 f4 fun c hc e=>by have e:c=mb:=e;omega
  exact a3.tr2 f5 fun c hc e=>by have e:c=g:=e;rw [e];exact .inl h.gcol
 ·show (if c=gb then 4 else if c=mb then 5 else o c)=o c
  rw [if_neg (fun e=>hc (by rw [e];exact ogb)),if_neg (fun e=>hc (by rw [e];exact omb))]
 ·show (if c=gb then 4 else if c=mb then 5 else o c)=0
  rw [if_neg (by omega),if_neg (by omega)];exact hc
 ·by_cases e1:c=gb
  ·right;left;show (if c=gb then 4 else if c=mb then 5 else o c)=4;rw [if_pos e1]
  ·by_cases e2:c=mb
   ·right;right;show (if c=gb then 4 else if c=mb then 5 else o c)=5;rw [if_neg e1,if_pos e2]
   ·left
    have hc:(if c=gb then 4 else if c=mb then 5 else o c)≠0:=hc
    rw [if_neg e1,if_neg e2] at hc;exact hc
theorem find_zero (h:TgZ w o g f) (hK:∀w' o' b mb,TgD w' o' g f [b] [0] [0] mb 0 0→EvT w o w' o'→R (.returned (.tuple #[pB (some b),.int .i64 0])) w'):Calls Tryz.prog 107 #[.pointer (some ⟨g,5,none⟩),.int .u64 (0:Nat)] w R:=by
 refine ok107 (some ⟨g,5,none⟩) (0:Nat) ?_
 unfold F107
 refine begin_zero h fun w1 o1 b mb h1 ev=>⟨rfl,?_⟩
 have hB:=h1.blk
 unfold dkC at hB
 simp only [NonNil_some,Addr.add_mk,Nat.reduceAdd,Nat.zero_add,hB.cell,lds]
 refine h1.r.mp.look mapType keyType (zeroTag w1) (0:Nat) true ?_
 rw [mpT_some (i:=0) (x:=0) (b:=b) h1.nn rfl rfl]
 exact⟨some ⟨b,0,none⟩,true,rfl,hK w1 o1 b mb h1 ev⟩
theorem one_I:TgI [0] [0] 0:=⟨rfl,rfl,rfl,by simp,by simp,by simp,by simp,by simp⟩
theorem After_zero (h:TgZ w o g f)
  (hK:∀w' o' bs' lbs' mb wr',TgD w' o' g f bs' (insAt [0] 1 1) lbs' mb 1 wr'→TgI (insAt [0] 1 1) lbs' 1→EvT w o w' o'→R (.returned (.tuple #[.int .u64 (1:Nat),.int .i64 0])) w') :
  Calls Tryz.prog 116 #[.pointer (some ⟨g,5,none⟩),.int .u64 (0:Nat)] w R :=
 After_gen (nms:=[0]) (gv:=0) (i:=0) (x:=0) (f:=f) h.lt (by simp) (by decide) rfl (fun R' k=>find_zero h fun w1 o1 b mb h1 ev=>k w1 o1 [b] [0] mb 0 b h1 one_I ev rfl) hK
end
set_option maxRecDepth 100000
theorem er_at {l:List Nat} (i j:Nat):(l.eraseIdx i)[j]?=if j < i then l[j]? else l[j+1]?:=List.getElem?_eraseIdx
theorem er_mem {l:List Nat}{i x:Nat} (hx:x∈l.eraseIdx i):x∈l:=(List.eraseIdx_sublist l i).subset hx
theorem er_nd {l:List Nat}{i:Nat} (h:l.Nodup):(l.eraseIdx i).Nodup:=h.sublist (List.eraseIdx_sublist l i)
theorem er_len {l:List Nat}{i:Nat} (h:i < l.length):(l.eraseIdx i).length+1=l.length:=by rw [List.length_eraseIdx,if_pos h];omega
theorem mpT_del {bs nms:List Nat}{i x:Nat} (hn:nms.Nodup) (hx:nms[i]?=some x) (hl:bs.length=nms.length):mpT (bs.eraseIdx i) (nms.eraseIdx i)=upd (mpT bs nms) x none:=by
 have hn':=er_nd (i:=i) hn
 have hni:x∉nms.eraseIdx i:=fun h=>by
  obtain⟨j,hj⟩:=List.mem_iff_getElem?.1 h
  rw [er_at] at hj
  split at hj
  ·have:=nd_get hn hj hx;omega
  ·have:=nd_get hn hj hx;omega
 funext k
 unfold upd
 by_cases hk:k=(x:Int)
 ·rw [if_pos hk,hk];exact mpT_none hni
 ·rw [if_neg hk]
  by_cases hm:0≤k∧k.toNat∈nms
  ·obtain⟨hk0,hkm⟩:=hm
   obtain⟨a,rfl⟩:∃a:Nat,k=a:=⟨k.toNat,by omega⟩
   rw [Int.toNat_natCast] at hkm
   obtain⟨j,hj⟩:=List.mem_iff_getElem?.1 hkm
   have hjl:=(List.getElem?_eq_some_iff.1 hj).1
   obtain⟨b,hb⟩:∃b,bs[j]?=some b:=⟨_,List.getElem?_eq_getElem (by omega)⟩
   have hji:j≠i:=fun e=>by subst e;rw [hx] at hj;cases hj;exact hk rfl
   rw [mpT_some hn hj hb]
   rcases Nat.lt_or_ge j i with h1 | h1
   ·exact mpT_some hn' (by rw [er_at,if_pos h1];exact hj) (by rw [er_at,if_pos h1];exact hb)
   ·exact mpT_some (i:=j-1) hn' (by rw [er_at,if_neg (by omega),show j-1+1=j by omega];exact hj) (by rw [er_at,if_neg (by omega),show j-1+1=j by omega];exact hb)
  ·unfold mpT
   rw [if_neg hm,if_neg]
   rintro ⟨h0,h1⟩
   exact hm ⟨h0,er_mem h1⟩
theorem TgI.del {nms lbs:List Nat}{gv i:Nat} (h:TgI nms lbs gv) (hi:1≤i) (hl:i < nms.length):TgI (nms.eraseIdx i) (lbs.eraseIdx i) gv:=by
 have hlen:=h.len
 have e1:=er_len hl
 have e2:=er_len (l:=lbs) (i:=i) (by omega)
 exact⟨by omega,by rw [er_at,if_pos (by omega)];exact h.h0,by rw [er_at,if_pos (by omega)];exact h.l0,er_nd h.nd,fun x hx=>h.le x (er_mem hx),h.up.sublist (List.eraseIdx_sublist _ _),fun x hx=>h.mx x (er_mem hx),by have:=h.few;omega⟩
theorem TgR.del {w w1:World}{o:Nat→Nat}{bs nms lbs:List Nat}{mb i b:Nat} (h:TgR w o bs nms lbs mb) (hlen:bs.length=nms.length) (hlen2:lbs.length=nms.length) (hi:1≤i) (hil:i < bs.length) (hb:bs[i-1]?=some b)
  (h1:Blk w1 b #[.int .u64 (nms.getD (i-1) 0:Nat),.int .u64 (lbs.getD (i-1) 0:Nat),pB (pvB bs (i-1)),pB (nxB bs i)] 199)
  (h3:∀c,bs[i+1]?=some c→Blk w1 c #[.int .u64 (nms.getD (i+1) 0:Nat),.int .u64 (lbs.getD (i+1) 0:Nat),pB (some b),pB (nxB bs (i+1))] 199)
  (h4:∀j c,bs[j]?=some c→j≠i-1→j≠i→j≠i+1→Blk w1 c (tgC bs nms lbs j) 199) (hm:Mp .u64 w1 mb (mpT (bs.eraseIdx i) (nms.eraseIdx i))) :
  TgR w1 o (bs.eraseIdx i) (nms.eraseIdx i) (lbs.eraseIdx i) mb:=by
 have gd:∀(l:List Nat) (j:Nat),(l.eraseIdx i).getD j 0=if j < i then l.getD j 0 else l.getD (j+1) 0:=fun l j=>by
  rw [List.getD_eq_getElem?_getD,er_at]
  split
  ·rw [List.getD_eq_getElem?_getD]
  ·rw [List.getD_eq_getElem?_getD]
 refine⟨fun j c hc=>?_,fun c hc=>h.col c (er_mem hc),er_nd h.nd,hm,h.mcol⟩
 rw [er_at] at hc
 unfold tgC pvB nxB
 rw [gd,gd,er_at,er_at]
 by_cases c1:j < i
 ·rw [if_pos c1] at hc
  rw [if_pos c1,if_pos c1]
  have e:(if j=0 then none else if j-1 < i then bs[j-1]? else bs[j-1+1]?)=pvB bs j:=by
   unfold pvB
   split
   ·rfl
   ·rw [if_pos (by omega)]
  rw [e]
  by_cases c2:j=i-1
  ·subst c2
   rw [hb] at hc;cases hc
   rw [if_neg (by omega),show i-1+1+1=i+1 by omega]
   exact h1
  ·rw [if_pos (by omega)]
   exact h4 j c hc c2 (by omega) (by omega)
 ·rw [if_neg c1] at hc
  rw [if_neg c1,if_neg c1,if_neg (show ¬j=0 by omega),if_neg (show ¬j+1 < i by omega)]
  by_cases c2:j=i
  ·subst c2
   rw [if_pos (by omega),hb]
   exact h3 c hc
  ·rw [if_neg (show ¬j-1 < i by omega),show j-1+1=j by omega]
   have:=h4 (j+1) c hc (by omega) (by omega) (by omega)
   unfold tgC pvB nxB at this
   rw [if_neg (by omega),show j+1-1=j by omega] at this
   exact this
section
variable {w w1 w2:World}{o o1 o2:Nat→Nat}{g:Nat}{f:Fr}{bs nms lbs:List Nat}{mb gv:Nat}{wr:Int}{M:Nat→Prop}{R:Ending→World→Prop}
theorem Drop_calls (h:TgD w o g f bs nms lbs mb gv wr) {i x:Nat} (hx:nms[i]?=some x) (hi:1≤i) (hx0:x≠0)
  (hK:∀w',TgD w' o g f (bs.eraseIdx i) (nms.eraseIdx i) (lbs.eraseIdx i) mb gv wr→EvT w o w' o→R (.returned (.int .i64 0)) w') :
  Calls Tryz.prog 232 #[.pointer (some ⟨g,5,none⟩),.int .u64 (x:Nat)] w R:=by
 refine ok232 (some ⟨g,5,none⟩) x ?_
 unfold F232
 have hxl:=(List.getElem?_eq_some_iff.1 hx).1
 obtain⟨b,hb⟩:∃b,bs[i]?=some b:=⟨_,List.getElem?_eq_getElem (by rw [h.len];exact hxl)⟩
 obtain⟨p,hp⟩:∃p,bs[i-1]?=some p:=⟨_,List.getElem?_eq_getElem (by rw [h.len];omega)⟩
 have hbm:=List.mem_of_getElem? hb
 have hpm:=List.mem_of_getElem? hp
 refine find_some h hx hb ⟨_,_,rfl,fun w'=>w=w',?_,?_⟩
 rotate_left
 ·exact brn (fun e=>absurd rfl e) fun _=>bre (fun e=>absurd (by omega) hx0) fun _=>rfl
 rintro _ rfl
 unfold F232_j4
 obtain⟨x1,l1,t1,t2,tB⟩:=h.tag hb
 obtain⟨xp,lp,tp1,tp2,tBp⟩:=h.tag hp
 have hpv:pvB bs i=some p:=by unfold pvB;rw [if_neg (by omega)];exact hp
 have hnp:nxB bs (i-1)=some b:=by unfold nxB;rw [show i-1+1=i by omega];exact hb
 rw [hpv] at tB
 have hdr:Below w.heap.size w w.drew:=(Below.refl _ _).drew
 refine⟨fun w'=>Below w.heap.size w w',hdr,?_⟩
 simp only [Option.map_some,NonNil_some,Addr.add_mk,Nat.reduceAdd,Nat.zero_add]
 refine⟨_,fun w' hw=>by rw [(tB.keep hw).cell];rfl,?_⟩
 refine⟨(nxB bs i).map fun b=>(⟨b,0,none⟩:Addr),fun w' hw=>by rw [(tB.keep hw).cell];rfl,?_⟩
 simp only [Option.map_some,NonNil_some,Addr.add_mk,Nat.reduceAdd,Nat.zero_add]
 obtain⟨hbg,hbmb⟩:=h.gne hbm
 obtain⟨hpg,hpmb⟩:=h.gne hpm
 have hbp:b≠p:=fun e=>by subst e;have:=nd_get h.r.nd hb hp;omega
 refine st_blk (tBp.keep hdr) (by simp) fun w1 tBp1 f1=>?_
 simp only [List.setIfInBounds_toArray,List.set_cons_zero,List.set_cons_succ] at tBp1
 have F1:Fm (·=p) w w1:=(Fm.below hdr).trans f1
 have tB1:=F1.blk tB hbp
 have hne1:∀c,bs[i+1]?=some c→c≠b∧c≠p∧c≠g∧c≠mb:=fun c hc=>by
  have hcm:=List.mem_of_getElem? hc
  refine⟨fun e=>?_,fun e=>?_,(h.gne hcm).1,(h.gne hcm).2⟩
  ·subst e;have:=nd_get h.r.nd hc hb;omega
  ·subst e;have:=nd_get h.r.nd hc hp;omega
 refine⟨fun w'=>Fm (fun c=>bs[i+1]?=some c) w1 w'∧∀c,bs[i+1]?=some c→Blk w' c #[.int .u64 (nms.getD (i+1) 0:Nat),.int .u64 (lbs.getD (i+1) 0:Nat),pB (some p),pB (nxB bs (i+1))] 199,?_,?_⟩
 rotate_left
 ·simp only [pB,NonNil_some,Addr.add_mk,Nat.reduceAdd,Nat.zero_add,tB1.cell,lds]
  cases hn:bs[i+1]? with
  | none =>
   have e:nxB bs i=none:=hn
   rw [e]
   simp only [Option.map_none,Option.isNone_none,Bool.not_true,Br_f]
   exact⟨.refl _ _,fun c hc=>by cases hc⟩
  | some c =>
   have e:nxB bs i=some c:=hn
   rw [e] at tB1 ⊢
   simp only [Option.map_some,Option.isNone_some,Bool.not_false,Br_t]
   have hd1:Below w1.heap.size w1 w1.drew:=(Below.refl _ _).drew
   refine⟨fun w'=>Below w1.heap.size w1 w',hd1,?_⟩
   refine⟨_,fun w' hw=>by rw [(tB1.keep hw).cell];rfl,?_⟩
   refine⟨_,fun w' hw=>by rw [(tB1.keep hw).cell];rfl,?_⟩
   simp only [Option.map_some,NonNil_some,Addr.add_mk,Nat.reduceAdd,Nat.zero_add]
   have hc1:=F1.blk (h.r.blk (i+1) c hn) (hne1 c hn).2.1
   unfold tgC at hc1
   refine st_blk (hc1.keep hd1) (by simp) fun w4 b4 f4=>?_
   simp only [List.setIfInBounds_toArray,List.set_cons_zero,List.set_cons_succ] at b4
   exact⟨(Fm.below hd1).trans (f4.mono fun y _ e=>by rw [e]),fun c' hc'=>by cases hc';exact b4⟩
 rintro w2 ⟨f2,hc2⟩
 unfold F232_j7
 have mcol:=h.r.mcol
 have bD2:=f2.blk (F1.blk h.blk (fun e=>hpg e.symm)) (fun e=>(hne1 g e).2.2.1 rfl)
 unfold dkC at bD2
 simp only [NonNil_some,Addr.add_mk,Nat.reduceAdd,Nat.zero_add,bD2.cell,lds]
 have mp2:Mp .u64 w2 mb (mpT bs nms):=(h.r.mp.fm F1 (fun e=>hpmb e.symm)).fm f2 (fun e=>(hne1 mb e).2.2.2 rfl)
 refine mp2.del mapType keyType (x:Nat) fun w3 mp3 f3=>?_
 rw [←mpT_del h.nn hx h.len] at mp3
 have F03:Fm (fun c=>c=p∨c=mb∨bs[i+1]?=some c) w w3:=((F1.mono fun c _ e=>.inl e).trans (f2.mono fun c _ e=>.inr (.inr e))).trans (f3.mono fun c _ e=>.inr (.inl e))
 have hgdp1:nms.getD (i-1) 0=xp:=by rw [List.getD_eq_getElem?_getD,tp1];rfl
 have hgdp2:lbs.getD (i-1) 0=lp:=by rw [List.getD_eq_getElem?_getD,tp2];rfl
 have hil:i < bs.length:=by rw [h.len];exact hxl
 have hR:=h.r.del (w1:=w3) h.len h.len2 hi hil hp (by rw [hgdp1,hgdp2];exact f3.blk (f2.blk tBp1 (fun e=>(hne1 p e).2.1 rfl)) hpmb)
  (fun c hc=>f3.blk (hc2 c hc) (hne1 c hc).2.2.2)
  (fun j c hc hj1 hj2 hj3=>F03.blk (h.r.blk j c hc) (fun e=>by
   have hcm:=List.mem_of_getElem? hc
   rcases e with e | e | e
   ·subst e;exact hj1 (nd_get h.r.nd hc hp)
   ·exact (h.gne hcm).2 e
   ·exact hj3 (nd_get h.r.nd hc e))) mp3
 have e1:=er_len hxl
 have e2:=er_len (l:=bs) hil
 have e3:=er_len (l:=lbs) (i:=i) (by rw [h.len2];exact hxl)
 have hl1:=h.len
 have hl2:=h.len2
 refine hK w3 ⟨?_,h.gcol,hR,by omega,by omega,by omega,er_nd h.nn,fun c hc=>Nat.lt_of_lt_of_le (h.lt c hc) F03.size⟩ ⟨F03.mono fun c hc e=>?_,fun _ _=>rfl,fun _ _ h=>h,fun _ h=>.inl h⟩
 ·have:=f3.blk bD2 (fun e=>by have e:g=mb:=e;rw [←e,h.gcol] at mcol;omega)
  unfold dkC
  rw [er_at,if_pos (by omega)]
  exact this
 ·rcases e with e | e | e
  ·rw [e];exact .inr (.inl (h.r.col p hpm))
  ·rw [e];exact .inr (.inr mcol)
  ·exact .inr (.inl (h.r.col c (List.mem_of_getElem? e)))
end
set_option maxRecDepth 100000
def mpE (E:Nat→Option (Nat × Nat)) (k:Int):Option Value:=if 0≤k then (E k.toNat).map (fun p=>.agg #[.int .u64 (p.1:Nat),.int .u64 (p.2:Nat)]) else none
def tlL (mb hd:Option Nat) (gv:Nat) (wr:Int) (em:Option Nat):List Value:=[.map mb,pB hd,.int .u64 (gv:Nat),.int .u64 wr,.map em]
def EndR (w:World) (o:Nat→Nat) (em:Option Nat) (E:Nat→Option (Nat × Nat)):Prop:=match em with
 | none=>∀y,E y=none
 | some eb=>o eb=6∧Mp .u64 w eb (mpE E)
structure LM (w:World) (o:Nat→Nat) (g:Nat) (ty:TypeId) (S:PS) (bs nms lbs:List Nat) (mb gv:Nat) (wr:Int) (em:Option Nat) (E:Nat→Option (Nat × Nat)):Prop where
 pm:PM w o ⟨g,ty,tlL (some mb) bs[0]? gv wr em⟩ S
 r:TgR w o bs nms lbs mb
 i:TgI nms lbs gv
 len:bs.length=nms.length
 e:EndR w o em E
structure LZ (w:World) (o:Nat→Nat) (g:Nat) (ty:TypeId) (S:PS):Prop where
 pm:PM w o ⟨g,ty,tlL none none 0 0 none⟩ S
structure EvL (w:World) (o:Nat→Nat) (w1:World) (o1:Nat→Nat):Prop where
 fm:Fm (fun b=>o b=1∨o b=4∨o b=5∨o b=6) w w1
 same:∀b,o b≠0→o1 b=o b
 old:∀b,b < w.heap.size→o b=0→o1 b=0
 new:∀b,o1 b≠0→o b≠0∨o1 b=4∨o1 b=5∨o1 b=6
section
variable {w w1 w2:World}{o o1 o2:Nat→Nat}{g:Nat}{ty:TypeId}{S:PS}{bs nms lbs:List Nat}{mb gv:Nat}{wr:Int}{em:Option Nat}{E:Nat→Option (Nat × Nat)}{M:Nat→Prop}{R:Ending→World→Prop}{θ:Th}
theorem EvL.refl:EvL w o w o:=⟨.refl _ _,fun _ _=>rfl,fun _ _ h=>h,fun _ h=>.inl h⟩
theorem EvL.trans (h:EvL w o w1 o1) (k:EvL w1 o1 w2 o2):EvL w o w2 o2:=by
 refine⟨⟨k.fm.os.trans h.fm.os,k.fm.tape.trans h.fm.tape,k.fm.output.trans h.fm.output,Nat.le_trans h.fm.size k.fm.size,fun b hb hm=>?_⟩,fun b hb=>?_,fun b hb h1=>k.old b (Nat.lt_of_lt_of_le hb h.fm.size) (h.old b hb h1),fun b hb=>?_⟩
 ·rw [k.fm.block b (Nat.lt_of_lt_of_le hb h.fm.size) fun e=>?_]
  ·exact h.fm.block b hb hm
  ·by_cases h1:o b=0
   ·have:=h.old b hb h1;omega
   ·rw [h.same b h1] at e;exact hm e
 ·rw [k.same b (by rw [h.same b hb];exact hb)];exact h.same b hb
 ·rcases k.new b hb with e | e
  ·rcases h.new b e with e2 | e2
   ·exact .inl e2
   ·rw [k.same b e];exact .inr e2
  ·exact .inr e
theorem EvT.l (h:EvT w o w1 o1):EvL w o w1 o1:=⟨h.fm.mono fun b _ e=>by rcases e with e | e | e <;> simp [e],h.same,h.old,fun b hb=>by rcases h.new b hb with e | e | e <;> simp [e]⟩
theorem EvL.below (hb:Below w.heap.size w w1):EvL w o w1 o:=⟨.below hb,fun _ _=>rfl,fun _ _ h=>h,fun _ h=>.inl h⟩
theorem PM.tail (h:PM w o θ S) {tl:List Value} (hf:Fm M w w1) (hm:∀b,pc (o b)→o b≠1→¬M b) (hB:∀nv rv,Blk w θ.g (docC nv rv S.lv S.wn S.lo θ.tl) θ.t→Blk w1 θ.g (docC nv rv S.lv S.wn S.lo tl) θ.t) (ho:∀b,o b≠0→o1 b=o b) (hl:∀b,o1 b≠0→b < w1.heap.size) :
  PM w1 o1 { θ with tl:=tl } S:=by
 have hg:=h.col
 have hn:∀b c,o b=c→c≠1→pc c→¬M b:=fun b c hb hc hp hM=>by
  exact hm b (by rw [hb];exact hp) (by omega) hM
 have p2:pc 2:=.inr (.inl rfl)
 have p3:pc 3:=.inr (.inr (.inl rfl))
 obtain⟨nv,rv,hd⟩:=h.doc
 refine⟨by show o1 θ.g=1;rw [ho _ (by rw [hg];decide)];exact hg,hl,h.len,h.few,fun i b hb=>?_,⟨nv,rv,⟨hB nv rv hd.blk,own_fm hd.n1 hf fun x hx=>hn x 2 (hd.n2 x hx) (by decide) p2,fun x hx=>?_,own_fm hd.r1 hf fun x hx=>hn x 3 (hd.r2 x hx) (by decide) p3,fun x hx=>?_⟩⟩,fun i b s hb hs=>?_,h.rng,h.rts,h.cnt⟩
 ·have:=h.nc i b hb
  rw [ho b (by rw [this];omega)];exact this
 ·have:=hd.n2 x hx
  rw [ho x (by rw [this];decide)];exact this
 ·have:=hd.r2 x hx
  rw [ho x (by rw [this];decide)];exact this
 ·obtain⟨a,kv,hnd⟩:=h.nodes i b s hb hs
  obtain⟨q1,q2,q3⟩:=pc_nd i
  refine⟨a,kv,hnd.keep (h.nc i b hb) hf (fun x hx=>?_) (fun x hx=>?_)⟩
  ·rcases hx with e | e | e
   ·exact hn x _ e (by omega) q1
   ·exact hn x _ e (by omega) q2
   ·exact hn x _ e (by omega) q3
  ·exact ho x (by rcases hx with e | e <;> rw [e] <;> omega)
theorem LM.tg (h:LM w o g ty S bs nms lbs mb gv wr em E):∃f,TgD w o g f bs nms lbs mb gv wr∧f.m=.map em∧f.t=ty∧∃nv rv,f.a=slV nv∧f.b=slV rv∧f.c=.int .i64 (S.lv:Nat)∧f.d=.int .i64 (S.wn:Nat)∧f.e=.int .i64 (S.lo:Nat)∧Blk w g (docC nv rv S.lv S.wn S.lo (tlL (some mb) bs[0]? gv wr em)) ty:=by
 obtain⟨nv,rv,hd⟩:=h.pm.doc
 have hpos:=(List.getElem?_eq_some_iff.1 h.i.h0).1
 exact⟨⟨slV nv,slV rv,.int .i64 (S.lv:Nat),.int .i64 (S.wn:Nat),.int .i64 (S.lo:Nat),.map em,ty⟩,⟨hd.blk,h.pm.col,h.r,h.len,h.i.len,hpos,h.i.nd,h.pm.lt⟩,rfl,rfl,nv,rv,rfl,rfl,rfl,rfl,rfl,hd.blk⟩
theorem blk_inj {b:Nat}{c c':Array Value}{t t':TypeId} (h:Blk w b c t) (k:Blk w b c' t'):c=c'∧t=t':=by
 unfold Blk at h k
 rw [h] at k
 simp only [Option.some.injEq,Obj.cells.injEq] at k
 exact⟨k.1,k.2.1⟩
theorem EndR.fm (h:EndR w o em E) (hf:Fm M w w1) (hm:∀b,o b=6→¬M b) (ho:∀b,o b≠0→o1 b=o b):EndR w1 o1 em E:=by
 cases em with
 | none=>exact h
 | some eb =>
  obtain⟨h1,h2⟩:=h
  exact⟨by rw [ho eb (by rw [h1];decide)];exact h1,h2.fm hf (hm eb h1)⟩
theorem LM.setTg {f:Fr}{bs' nms' lbs':List Nat}{mb' gv':Nat}{wr':Int}{hd0 mb0:Option Nat}{gv0:Nat}{wr0:Int} (hp:PM w o ⟨g,ty,tlL mb0 hd0 gv0 wr0 em⟩ S) (he:EndR w o em E)
  (hf:∃nv rv,f.a=slV nv∧f.b=slV rv∧f.c=.int .i64 (S.lv:Nat)∧f.d=.int .i64 (S.wn:Nat)∧f.e=.int .i64 (S.lo:Nat)∧Blk w g (docC nv rv S.lv S.wn S.lo (tlL mb0 hd0 gv0 wr0 em)) ty) (hm:f.m=.map em) (ht:f.t=ty)
  (h1:TgD w1 o1 g f bs' nms' lbs' mb' gv' wr') (hI:TgI nms' lbs' gv') (ev:EvT w o w1 o1):LM w1 o1 g ty S bs' nms' lbs' mb' gv' wr' em E:=by
 have hgc:o g=1:=hp.col
 refine⟨hp.tail (tl:=tlL (some mb') bs'[0]? gv' wr' em) ev.fm (fun b hb h1 hM=>by unfold pc at hb;omega) (fun nv rv hB=>?_) ev.same h1.lt,h1.r,hI,h1.len,he.fm ev.fm (fun b hb=>by omega) ev.same⟩
 ·obtain⟨nv',rv',a1,a2,a3,a4,a5,a6⟩:=hf
  have hB:Blk w g (docC nv rv S.lv S.wn S.lo (tlL mb0 hd0 gv0 wr0 em)) ty:=hB
  obtain⟨q1,-⟩:=blk_inj hB a6
  have hb1:=h1.blk
  unfold dkC at hb1
  rw [a1,a2,a3,a4,a5,hm,ht] at hb1
  have e1:docC nv rv S.lv S.wn S.lo (tlL (some mb') bs'[0]? gv' wr' em)=docC nv' rv' S.lv S.wn S.lo (tlL (some mb') bs'[0]? gv' wr' em):=by
   unfold docC at q1 ⊢
   simp only [Array.mk.injEq,List.cons.injEq,and_true,true_and,List.toArray_inj] at q1 ⊢
   exact⟨q1.1,q1.2⟩
  show Blk w1 g (docC nv rv S.lv S.wn S.lo _) ty
  rw [e1];exact hb1
end
set_option maxRecDepth 100000
def LB (w:World) (o:Nat→Nat) (g:Nat) (ty:TypeId) (S:PS) (nms:List Nat) (gv:Nat) (E:Nat→Option (Nat × Nat)):Prop:=∃bs lbs mb wr em,LM w o g ty S bs nms lbs mb gv wr em E
def LX (w:World) (o:Nat→Nat) (g:Nat) (ty:TypeId) (S:PS) (nms:List Nat) (gv:Nat) (E:Nat→Option (Nat × Nat)):Prop :=
 (∃bs lbs mb wr em,LM w o g ty S bs nms lbs mb gv wr em E)∨(LZ w o g ty S∧nms=[0]∧gv=0∧∀y,E y=none)
section
variable {w w1 w2:World}{o o1 o2:Nat→Nat}{g:Nat}{ty:TypeId}{S:PS}{bs nms lbs:List Nat}{mb gv:Nat}{wr:Int}{em:Option Nat}{E:Nat→Option (Nat × Nat)}{M:Nat→Prop}{R:Ending→World→Prop}{θ:Th}
theorem LX.pm (h:LX w o g ty S nms gv E):∃tl,tl.length=5∧PM w o ⟨g,ty,tl⟩ S:=by
 rcases h with ⟨bs,lbs,mb,wr,em,h⟩ | ⟨h,_⟩
 ·exact⟨_,rfl,h.pm⟩
 ·exact⟨_,rfl,h.pm⟩
theorem LX.lt (h:LX w o g ty S nms gv E):∀b,o b≠0→b < w.heap.size:=by obtain⟨tl,_,h⟩:=h.pm;exact h.lt
theorem LX.I (h:LX w o g ty S nms gv E):∃lbs,TgI nms lbs gv:=by
 rcases h with ⟨bs,lbs,mb,wr,em,h⟩ | ⟨h,rfl,rfl,_⟩
 ·exact⟨lbs,h.i⟩
 ·exact⟨_,one_I⟩
theorem LM.below (h:LM w o g ty S bs nms lbs mb gv wr em E) (hb:Below w.heap.size w w1):LM w1 o g ty S bs nms lbs mb gv wr em E :=
 ⟨h.pm.below hb,h.r.fm (M:=fun _=>False) (.below hb) (fun _ _ h=>h),h.i,h.len,h.e.fm (M:=fun _=>False) (.below hb) (fun _ _ h=>h) fun _ _=>rfl⟩
theorem LX.below (h:LX w o g ty S nms gv E) (hb:Below w.heap.size w w1):LX w1 o g ty S nms gv E:=by
 rcases h with ⟨bs,lbs,mb,wr,em,h⟩ | ⟨h,h2⟩
 ·exact .inl ⟨bs,lbs,mb,wr,em,h.below hb⟩
 ·exact .inr ⟨⟨h.pm.below hb⟩,h2⟩
theorem LX.fm (h:LX w o g ty S nms gv E) (hf:Fm M w w1) (hm:∀b,b < w.heap.size→M b→o b=0):LX w1 o g ty S nms gv E:=by
 have hlt:=h.lt
 have hM:∀b,o b≠0→¬M b:=fun b hb hM=>hb (hm b (hlt b hb) hM)
 have hl:∀b,o b≠0→b < w1.heap.size:=fun b hb=>Nat.lt_of_lt_of_le (hlt b hb) hf.size
 have hp:∀b,pc (o b)→¬M b:=fun b hb=>hM b fun e=>by rw [e] at hb;unfold pc at hb;omega
 rcases h with ⟨bs,lbs,mb,wr,em,h⟩ | ⟨h,h2⟩
 ·exact .inl ⟨bs,lbs,mb,wr,em,h.pm.keep hf hp (fun _ _=>rfl) hl,h.r.fm hf (fun b hb=>hM b (by omega)),h.i,h.len,h.e.fm hf (fun b hb=>hM b (by omega)) fun _ _=>rfl⟩
 ·exact .inr ⟨⟨h.pm.keep hf hp (fun _ _=>rfl) hl⟩,h2⟩
theorem After_x (h:LX w o g ty S nms gv E) (hf:nms.length≤8192) (hgv:gv < 9223372036854775808) {i x:Nat} (hx:nms[i]?=some x)
  (hK:∀w' o',LB w' o' g ty S (insAt nms (i+1) (gv+1)) (gv+1) E→EvL w o w' o'→R (.returned (.tuple #[.int .u64 (gv+1:Nat),.int .i64 0])) w') :
  Calls Tryz.prog 116 #[.pointer (some ⟨g,5,none⟩),.int .u64 (x:Nat)] w R:=by
 rcases h with ⟨bs,lbs,mb,wr,em,h⟩ | ⟨h,rfl,rfl,h2⟩
 ·obtain⟨f,t1,t2,t3,t4⟩:=h.tg
  refine After_calls t1 h.i hf hgv hx fun w' o' bs' lbs' mb' wr' q1 q2 ev=>hK w' o' ⟨bs',lbs',mb',wr',em,?_⟩ ev.l
  exact LM.setTg h.pm h.e t4 t2 t3 q1 q2 ev
 ·have hi0:i=0:=by have:=(List.getElem?_eq_some_iff.1 hx).1;simp at this;exact this
  subst hi0
  have hx0:x=0:=by simpa using hx.symm
  subst hx0
  obtain⟨nv,rv,hd⟩:=h.pm.doc
  refine After_zero (f:=⟨slV nv,slV rv,.int .i64 (S.lv:Nat),.int .i64 (S.wn:Nat),.int .i64 (S.lo:Nat),.map none,ty⟩) ⟨hd.blk,h.pm.col,h.pm.lt⟩ fun w' o' bs' lbs' mb' wr' q1 q2 ev=>hK w' o' ⟨bs',lbs',mb',wr',none,?_⟩ ev.l
  exact LM.setTg (mb0:=none) (hd0:=none) (gv0:=0) (wr0:=0) h.pm h2 ⟨nv,rv,rfl,rfl,rfl,rfl,rfl,hd.blk⟩ rfl rfl q1 q2 ev
theorem LX.emc (h:LX w o g ty S nms gv E):∃em,w.cell? ⟨g,9,none⟩=some (.map em)∧EndR w o em E:=by
 rcases h with ⟨bs,lbs,mb,wr,em,h⟩ | ⟨h,h2,h3,h4⟩
 ·obtain⟨nv,rv,hd⟩:=h.pm.doc
  exact⟨em,by rw [hd.blk.cell];rfl,h.e⟩
 ·obtain⟨nv,rv,hd⟩:=h.pm.doc
  exact⟨none,by rw [hd.blk.cell];rfl,h4⟩
theorem mapTypeE:Tryz.prog.underlying 103=some (.map 65 146):=by kernel_rfl
theorem keyTypeE:Tryz.prog.underlying 65=some (.int .u64):=by kernel_rfl
theorem zeroEnd (w:World):(zeroValue 146).run Tryz.prog w=.ok (.agg #[.int .u64 0,.int .u64 0]) w:=by kernel_rfl
def eN (E:Nat→Option (Nat × Nat)) (y:Nat):Nat × Nat:=(E y).getD (0,0)
theorem look_nil {P:Program}{t kt et:TypeId} (ht:P.underlying t=some (.map kt et)) (hk:P.underlying kt=some (.int .u64)) {z:Value} (hz:(zeroValue et).run P w=.ok z w) (k:Int) {K:Value→World→Prop} (hK:K z w):Raw P (Instr.lookup t (.map none) (.int .u64 k) false) w K:=by
 have hc:(Instr.checkKey true 10000 kt (.int .u64 k)).run P w=.ok () w:=MapKept.run_checkKey (k:=.int .u64 k) hk (by simp [MapKept.IsKey]) _ 9999
 exact⟨_,w,by simp [Instr.lookup,run_underlying ht,hc,MapKept.run_findKey hk (show Instr.findNow (.int .u64) (.int .u64 k) [] 0=some none from rfl),hz,Result.andThen],hK⟩
theorem lookE {em:Option Nat} (h:EndR w o em E) (y:Nat) {K:Value→World→Prop} (hK:K (.agg #[.int .u64 ((eN E y).1:Nat),.int .u64 ((eN E y).2:Nat)]) w):Raw Tryz.prog (Instr.lookup 103 (.map em) (.int .u64 (y:Nat)) false) w K:=by
 cases em with
 | none =>
  have:eN E y=(0,0):=by unfold eN;rw [h y];rfl
  rw [this] at hK
  exact look_nil mapTypeE keyTypeE (zeroEnd w) y hK
 | some eb =>
  obtain⟨h1,h2⟩:=h
  refine h2.look mapTypeE keyTypeE (zeroEnd w) y false ?_
  have:(mpE E (y:Nat)).getD (.agg #[.int .u64 0,.int .u64 0])=.agg #[.int .u64 ((eN E y).1:Nat),.int .u64 ((eN E y).2:Nat)]:=by
   unfold mpE eN
   rw [if_pos (by omega),Int.toNat_natCast]
   cases E y with
   | none=>rfl
   | some p=>rfl
  simp only [this]
  exact hK
def updE (E:Nat→Option (Nat × Nat)) (y:Nat) (p:Option (Nat × Nat)):Nat→Option (Nat × Nat):=fun z=>if z=y then p else E z
theorem mpE_upd {E:Nat→Option (Nat × Nat)}{y:Nat}{p:Option (Nat × Nat)}:mpE (updE E y p)=upd (mpE E) (y:Nat) (p.map fun p=>.agg #[.int .u64 (p.1:Nat),.int .u64 (p.2:Nat)]):=by
 funext k
 unfold mpE upd updE
 by_cases h0:0≤k
 ·rw [if_pos h0]
  by_cases hk:k=(y:Int)
  ·rw [if_pos hk,if_pos (by omega)]
  ·rw [if_neg hk,if_neg (by omega)]
   dsimp only
   rw [if_pos h0]
 ·rw [if_neg h0,if_neg (by omega)]
  dsimp only
  rw [if_neg h0]
theorem LB.x (h:LB w o g ty S nms gv E):LX w o g ty S nms gv E:=.inl h
theorem LB.fm (h:LB w o g ty S nms gv E) (hf:Fm M w w1) (hm:∀b,b < w.heap.size→M b→o b=0):LB w1 o g ty S nms gv E:=by
 have hlt:=h.x.lt
 have hM:∀b,o b≠0→¬M b:=fun b hb hM=>hb (hm b (hlt b hb) hM)
 have hl:∀b,o b≠0→b < w1.heap.size:=fun b hb=>Nat.lt_of_lt_of_le (hlt b hb) hf.size
 have hp:∀b,pc (o b)→¬M b:=fun b hb=>hM b fun e=>by rw [e] at hb;unfold pc at hb;omega
 obtain⟨bs,lbs,mb,wr,em,h⟩:=h
 exact⟨bs,lbs,mb,wr,em,h.pm.keep hf hp (fun _ _=>rfl) hl,h.r.fm hf (fun b hb=>hM b (by omega)),h.i,h.len,h.e.fm hf (fun b hb=>hM b (by omega)) fun _ _=>rfl⟩
theorem LM.made (h:LM w o g ty S bs nms lbs mb gv wr none E) {K:World→Prop} (hK:∀w' o' eb,LM w' o' g ty S bs nms lbs mb gv wr (some eb) E→EvL w o w' o'→K w'):AlM w fun r w1=>St w1 ⟨g,9,none⟩ (.map (some r)) K:=by
 obtain⟨nv,rv,hd⟩:=h.pm.doc
 have hg:=hd.blk.lt
 unfold AlM
 have hb1:Below w.heap.size w (w.alloc (.map #[] 0)):=(Below.refl _ _).alloc (Nat.le_refl _) _
 have mp1:Mp .u64 (w.alloc (.map #[] 0)) w.heap.size fun _=>none:=Mp.made w .u64
 generalize (w.alloc (.map #[] 0))=w1 at *
 have hB:Blk w g (docC nv rv S.lv S.wn S.lo (tlL (some mb) bs[0]? gv wr none)) ty:=hd.blk
 refine st_blk (hB.keep hb1) (by simp [docC,tlL]) fun w2 b2 f2=>?_
 have hn:o w.heap.size=0:=Classical.byContradiction fun e=>by have:=h.pm.lt _ e;omega
 have hcol:=h.pm.col
 have hs1:=hb1.size
 have mp2:=mp1.fm f2 (fun e=>by have e:w.heap.size=g:=e;have hg:g < w.heap.size:=hg;omega)
 have F2:Fm (·=g) w w2:=(Fm.below hb1).trans f2
 have hss:∀b,o b≠0→(if b=w.heap.size then 6 else o b)=o b:=fun b hb=>by rw [if_neg (fun e=>hb (by rw [e];exact hn))]
 have hl:∀b,(if b=w.heap.size then 6 else o b)≠0→b < w2.heap.size:=fun b hb=>by
  by_cases e:b=w.heap.size
  ·rw [e];exact mp2.lt
  ·rw [if_neg e] at hb
   exact Nat.lt_of_lt_of_le (h.pm.lt b hb) F2.size
 have hp:=h.pm.tail (o1:=fun b=>if b=w.heap.size then 6 else o b) (tl:=tlL (some mb) bs[0]? gv wr (some w.heap.size)) F2 (fun b hb h1 e=>h1 (by have e:b=g:=e;rw [e];exact hcol)) (fun nv' rv' hB'=>by
  obtain⟨q1,-⟩:=blk_inj hB' hB
  have e1:docC nv' rv' S.lv S.wn S.lo (tlL (some mb) bs[0]? gv wr (some w.heap.size))=docC nv rv S.lv S.wn S.lo (tlL (some mb) bs[0]? gv wr (some w.heap.size)):=by
   unfold docC at q1 ⊢
   simp only [Array.mk.injEq,List.cons.injEq,and_true,true_and,List.toArray_inj] at q1 ⊢
   exact⟨q1.1,q1.2⟩
  rw [e1];exact b2) hss hl
 refine hK w2 (fun b=>if b=w.heap.size then 6 else o b) w.heap.size ⟨hp,?_,h.i,h.len,?_,?_⟩ ⟨F2.mono fun b _ e=>by have e:b=g:=e;rw [e];exact .inl hcol,hss,fun b hb h0=>by show (if b=w.heap.size then 6 else o b)=0;rw [if_neg (by omega)];exact h0,fun b hb=>?_⟩
 ·have hr:=h.r.fm F2 (fun b hb e=>by have e:b=g:=e;rw [e,hcol] at hb;omega)
  exact⟨hr.blk,fun b hb=>by show (if b=w.heap.size then 6 else o b)=4;rw [hss b (by rw [hr.col b hb];decide)];exact hr.col b hb,hr.nd,hr.mp,by show (if mb=w.heap.size then 6 else o mb)=5;rw [hss mb (by rw [hr.mcol];decide)];exact hr.mcol⟩
 ·show (if w.heap.size=w.heap.size then 6 else _)=6
  rw [if_pos rfl]
 ·have e:mpE E=fun _=>none:=by
   funext k
   unfold mpE
   rw [h.e k.toNat]
   split <;> rfl
  rw [e];exact mp2
 ·by_cases e:b=w.heap.size
  ·right;right;right;show (if b=w.heap.size then 6 else o b)=6;rw [if_pos e]
  ·left
   have hb:(if b=w.heap.size then 6 else o b)≠0:=hb
   rw [if_neg e] at hb;exact hb
theorem LM.setE {eb:Nat} (h:LM w o g ty S bs nms lbs mb gv wr (some eb) E) (hf:Fm (·=eb) w w1) {E':Nat→Option (Nat × Nat)} (hm:Mp .u64 w1 eb (mpE E')):LM w1 o g ty S bs nms lbs mb gv wr (some eb) E'∧EvL w o w1 o:=by
 obtain⟨e1,e2⟩:=h.e
 have hl:∀b,o b≠0→b < w1.heap.size:=fun b hb=>Nat.lt_of_lt_of_le (h.pm.lt b hb) hf.size
 refine⟨⟨h.pm.keep hf (fun b hb e=>?_) (fun _ _=>rfl) hl,h.r.fm hf (fun b hb e=>?_),h.i,h.len,e1,hm⟩,⟨hf.mono fun b _ e=>?_,fun _ _=>rfl,fun _ _ h=>h,fun _ h=>.inl h⟩⟩
 ·have e:b=eb:=e
  rw [e,e1] at hb;unfold pc at hb;omega
 ·have e:b=eb:=e
  rw [e,e1] at hb;omega
 ·have e:b=eb:=e
  rw [e];exact .inr (.inr (.inr e1))
end
set_option maxRecDepth 100000
def wrd (A:Nat→Option Sl) (E:Nat→Option (Nat × Nat)):Nat→Nat→List Nat
 | 0,_=>[]
 | r+1,n=>match A n with | some s=>(eN E n).1 :: s.kids.flatMap (wrd A E r)++[(eN E n).2] | none=>[]
theorem wrd_some {A:Nat→Option Sl}{E:Nat→Option (Nat × Nat)}{r n:Nat}{s:Sl} (h:A n=some s):wrd A E (r+1) n=(eN E n).1 :: s.kids.flatMap (wrd A E r)++[(eN E n).2]:=by rw [wrd,h]
theorem flat_congr {α:Type}{f h:Nat→List α}:∀{l:List Nat},(∀y∈l,f y=h y)→l.flatMap f=l.flatMap h
 | [],_=>rfl
 | y :: l,k=>by rw [List.flatMap_cons,List.flatMap_cons,k y (by simp),flat_congr fun z hz=>k z (by simp [hz])]
theorem wrd_congr {A:Nat→Option Sl}{E E':Nat→Option (Nat × Nat)}:∀(r n:Nat),(∀y∈allA A r n,E y=E' y)→wrd A E r n=wrd A E' r n
 | 0,n,_=>rfl
 | r+1,n,h=>by
  cases hs:A n with
  | none=>unfold wrd;rw [hs]
  | some s =>
   rw [allA_some hs] at h
   rw [wrd_some hs,wrd_some hs]
   have e1:eN E n=eN E' n:=by unfold eN;rw [h n (by simp)]
   rw [e1,flat_congr fun y hy=>wrd_congr r y fun z hz=>h z (List.mem_cons_of_mem _ (List.mem_flatMap.2 ⟨y,hy,hz⟩))]
theorem flat_len2 {f h:Nat→List Nat}:∀{l:List Nat},(∀y∈l,(f y).length=2*(h y).length)→(l.flatMap f).length=2*(l.flatMap h).length
 | [],_=>rfl
 | y :: l,k=>by
  rw [List.flatMap_cons,List.flatMap_cons,List.length_append,List.length_append,k y (by simp),flat_len2 fun z hz=>k z (by simp [hz])];omega
theorem wrd_len {A:Nat→Option Sl}{E:Nat→Option (Nat × Nat)}{roots loose:List Nat} (hA:WfA A roots loose):∀(r n c:Nat) {s:Sl},A n=some s→Ch A n c→65≤c+r→(wrd A E r n).length=2*(allA A r n).length:=by
 intro r
 induction r with
 | zero =>
  intro n c s hs hc hr
  obtain⟨c',h1,h2⟩:=hA.chain n s hs
  have:=hc.fn h2;omega
 | succ r ih =>
  intro n c s hs hc hr
  rw [wrd_some hs,allA_some hs,List.length_append,List.length_cons,List.length_cons,flat_len2 (h:=allA A r) fun y hy=>by
   obtain⟨t,t1,t2⟩:=((hA.kid n s hs).2 y hy).2
   exact ih y (c+1) t1 (.succ (hA.ne0 t1) t1 (by rw [t2];exact hc)) (by omega)]
  simp;omega
section
variable {w w1 w2:World}{o o1 o2:Nat→Nat}{g:Nat}{ty:TypeId}{S:PS}{bs nms lbs:List Nat}{mb gv:Nat}{wr:Int}{em:Option Nat}{E:Nat→Option (Nat × Nat)}{M:Nat→Prop}{R:Ending→World→Prop}{θ:Th}{loose:List Nat}
theorem insAt_mid {a b:List Nat}{x y:Nat}{ws:List Nat}{j:Nat} (hj:j=a.length+1+ws.length):insAt (a++(x :: ws)++b) j y=a++(x :: ws++[y])++b:=by
 unfold insAt
 have hl:(a++(x :: ws)).length=j:=by simp;omega
 rw [List.take_append_of_le_length (by omega),List.drop_append_of_le_length (by omega),←hl,List.take_length,List.drop_length]
 simp
theorem EvL.mine (h:EvL w o w1 o1) (hf:Fm M w1 w2) (hm:∀b,b < w1.heap.size→M b→w.heap.size≤b):EvL w o w2 o1 :=
 ⟨⟨hf.os.trans h.fm.os,hf.tape.trans h.fm.tape,hf.output.trans h.fm.output,Nat.le_trans h.fm.size hf.size,fun b hb hn=>by
  rw [hf.block b (Nat.lt_of_lt_of_le hb h.fm.size) (fun e=>by have:=hm b (Nat.lt_of_lt_of_le hb h.fm.size) e;omega),h.fm.block b hb hn]⟩,h.same,h.old,h.new⟩
theorem tag_calls (hA:WfA (slA S.D.sl) S.D.roots []):∀(r n c:Nat) {s:Sl}{w:World}{o:Nat→Nat}{nms:List Nat}{gv:Nat}{E:Nat→Option (Nat × Nat)}{i x:Nat}{R:Ending→World→Prop},slA S.D.sl n=some s→Ch (slA S.D.sl) n c→65≤c+r →
  LX w o g ty S nms gv E→nms[i]?=some x→nms.length+2*(allA (slA S.D.sl) r n).length≤8193→gv+2*(allA (slA S.D.sl) r n).length < 9223372036854775808 →
  (∀w' o' E',LB w' o' g ty S (nms.take (i+1)++wrd (slA S.D.sl) E' r n++nms.drop (i+1)) (gv+2*(allA (slA S.D.sl) r n).length) E'→EvL w o w' o'→(∀y,y∉allA (slA S.D.sl) r n→E' y=E y)→(∀y∈allA (slA S.D.sl) r n,E' y≠none)→R (.returned (.int .u64 ((eN E' n).2:Nat))) w') →
  Calls Tryz.prog 70 #[.pointer (some ⟨g,0,none⟩),.int .u64 (n:Nat),.int .u64 (x:Nat)] w R:=by
 intro r
 induction r with
 | zero =>
  intro n c s w o nms gv E i x R hs hc hr
  obtain⟨c',h1,h2⟩:=hA.chain n s hs
  have:=hc.fn h2;omega
 | succ r ih =>
  intro n c s w o nms gv E i x R hs hc hr h hx hroom hgv hK
  have hil:=(List.getElem?_eq_some_iff.1 hx).1
  have hnd:=all_nodup hA (r+1) n ⟨s,hs⟩ (fun z hz=>by simp at hz)
  rw [allA_some hs] at hroom hgv hK hnd
  rw [List.length_cons] at hroom hgv hK
  obtain⟨hnn,hnd⟩:=List.nodup_cons.1 hnd
  refine ok70 (some ⟨g,0,none⟩) n x ?_
  unfold F70
  refine al fun g7 w1 hb1 b7 hge7=>?_
  have o7:o g7=0:=Classical.byContradiction fun e=>by have:=h.lt g7 e;omega
  simp only [NonNil_some,Addr.add_mk,Nat.zero_add]
  refine After_x (h.below hb1) (by omega) (by omega) hx fun w2 o2 h2 ev2=>⟨_,_,rfl,?_⟩
  have b72:=ev2.fm.blk b7 (fun e=>by omega)
  have o72:o2 g7=0:=ev2.old g7 b7.lt o7
  refine st_blk b72 (by simp) fun w3 b73 f3=>?_
  simp only [List.setIfInBounds_toArray,List.set_cons_zero,List.set_cons_succ] at b73
  have h3:=h2.fm f3 fun b hb e=>by have e:b=g7:=e;rw [e];exact o72
  simp only [NonNil_some,Addr.add_mk,Nat.zero_add,b73.cell,lds]
  obtain⟨tl,-,hpm⟩:=h3.x.pm
  refine Kids_calls (θ:=⟨g,ty,tl⟩) hpm hA hpm.few hs fun v w4 hb4 ov=>⟨_,_,_,_,rfl,?_⟩
  have h4:=h3.fm (M:=fun _=>False) (.below hb4) fun _ _ h=>h.elim
  have b74:=b73.keep hb4
  have hkid:∀y∈s.kids,∃t,slA S.D.sl y=some t∧t.parent=n:=fun y hy=>((hA.kid n s hs).2 y hy).2
  have hv1:v.2.1=s.kids.length:=by
   obtain⟨A,cc,hvf,_⟩:=ov.form
   rw [slvF hvf]
  have evA:EvL w o w2 o2:=(EvL.below hb1).trans ev2
  have E4:EvL w o w4 o2:=(evA.mine f3 fun b _ e=>by have e:b=g7:=e;omega).trans (EvL.below hb4)
  have hvc:∀b,rowOf (slV v)=some b→o2 b=0:=fun b hb=>Classical.byContradiction fun e=>by
   have:=h3.x.lt b e
   have:=(ov.lt b hb).1
   omega
  have hkl:∀y∈s.kids,(∃t,slA S.D.sl y=some t)∧Ch (slA S.D.sl) y (c+1):=fun y hy=>by
   obtain⟨t,t1,t2⟩:=hkid y hy
   exact⟨⟨t,t1⟩,.succ (hA.ne0 t1) t1 (by rw [t2];exact hc)⟩
  have hk4:s.kids.length≤4096:=Nat.le_trans (live_few (fun y hy=>(hkl y hy).1) (hA.kid n s hs).1) hpm.few
  have hwl:∀(E':Nat→Option (Nat × Nat)) (l:List Nat),(∀y∈l,y∈s.kids)→(l.flatMap (wrd (slA S.D.sl) E' r)).length=2*(l.flatMap (allA (slA S.D.sl) r)).length:=fun E' l hl=>flat_len2 fun y hy=>by
   obtain⟨⟨t,t1⟩,t2⟩:=hkl y (hl y hy)
   exact wrd_len hA r y (c+1) t1 t2 (by omega)
  refine⟨fun last j w'=>∃(k:Nat) (o':Nat→Nat) (E':Nat→Option (Nat × Nat)) (la:Nat),last=(la:Nat)∧j=k∧k≤s.kids.length ∧
    LB w' o' g ty S (nms.take (i+1)++((gv+1) :: (s.kids.take k).flatMap (wrd (slA S.D.sl) E' r))++nms.drop (i+1)) (gv+1+2*((s.kids.take k).flatMap (allA (slA S.D.sl) r)).length) E' ∧
    EvL w o w' o'∧(∀y,y∉(s.kids.take k).flatMap (allA (slA S.D.sl) r)→E' y=E y)∧(∀y∈(s.kids.take k).flatMap (allA (slA S.D.sl) r),E' y≠none) ∧
    Blk w' g7 #[.int .u64 (gv+1:Nat),.int .u64 0] 146∧o' g7=0∧Own LHn w' w3.heap.size 65 (slV v) s.kids∧(∀b,rowOf (slV v)=some b→o' b=0) ∧
    (nms.take (i+1)++((gv+1) :: (s.kids.take k).flatMap (wrd (slA S.D.sl) E' r))++nms.drop (i+1))[i+1+((s.kids.take k).flatMap (wrd (slA S.D.sl) E' r)).length]?=some la,fun _ j _=>s.kids.length-j.toNat,
   ⟨0,o2,E,gv+1,rfl,rfl,Nat.zero_le _,?_,E4,fun _ _=>rfl,fun y hy=>by simp at hy,b74,o72,ov,hvc,?_⟩,?_⟩
  ·have e:insAt nms (i+1) (gv+1)=nms.take (i+1)++((gv+1) :: (s.kids.take 0).flatMap (wrd (slA S.D.sl) E r))++nms.drop (i+1):=by unfold insAt;simp
   rw [e] at h4
   simpa using h4
  ·rw [List.append_assoc,List.getElem?_append_right (by simp;omega)]
   simp only [List.take_zero,List.flatMap_nil,List.length_nil,Nat.add_zero,List.length_take]
   rw [show i+1-min (i+1) nms.length=0 by omega];rfl
  rintro last j w5 ⟨k,o5,E5,la,rfl,rfl,hk,h5,ev5,q1,q2,b75,o75,ov5,ovc,hla⟩
  unfold F70_l6
  have hm5:=hwl E5 (s.kids.take k) fun y hy=>List.mem_of_mem_take hy
  have htl:(nms.take (i+1)).length=i+1:=by rw [List.length_take];omega
  refine brd (fun hlt=>?_) (fun hge=>?_)
  ·have hk2:k < s.kids.length:=by omega
   obtain⟨A,cc,hvf,hrd⟩:=ov5.form
   have e1:v.1=A:=by rw [slvF hvf]
   rw [←e1] at hrd
   refine hrd.hn hv1 rfl hk2 fun bb oo cx=>?_
   simp only [cx,lds]
   have hkm:s.kids[k]∈s.kids:=List.getElem_mem hk2
   obtain⟨⟨t,t1⟩,t2⟩:=hkl s.kids[k] hkm
   have hst:∀f:Nat→List Nat,(s.kids.take (k+1)).flatMap f=(s.kids.take k).flatMap f++f s.kids[k]:=fun f=>by
    rw [List.take_succ_eq_append_getElem hk2,List.flatMap_append];simp
   have hle:((s.kids.take (k+1)).flatMap (allA (slA S.D.sl) r)).length≤(s.kids.flatMap (allA (slA S.D.sl) r)).length:=by
    have e:s.kids.flatMap (allA (slA S.D.sl) r)=(s.kids.take (k+1)).flatMap (allA (slA S.D.sl) r)++(s.kids.drop (k+1)).flatMap (allA (slA S.D.sl) r):=by rw [←List.flatMap_append,List.take_append_drop]
    rw [e,List.length_append];omega
   have hdis:∀y∈(s.kids.take k).flatMap (allA (slA S.D.sl) r),y∉allA (slA S.D.sl) r s.kids[k]:=fun y hy hy2=>by
    have e:s.kids.flatMap (allA (slA S.D.sl) r)=(s.kids.take (k+1)).flatMap (allA (slA S.D.sl) r)++(s.kids.drop (k+1)).flatMap (allA (slA S.D.sl) r):=by rw [←List.flatMap_append,List.take_append_drop]
    rw [e,hst] at hnd
    have:=(List.nodup_append.1 hnd).1
    exact (List.nodup_append.1 this).2.2 y hy y hy2 rfl
   rw [hst,List.length_append] at hle
   have hLlen:(nms.take (i+1)++((gv+1) :: (s.kids.take k).flatMap (wrd (slA S.D.sl) E5 r))++nms.drop (i+1)).length=nms.length+1+((s.kids.take k).flatMap (wrd (slA S.D.sl) E5 r)).length:=by simp;omega
   refine ih s.kids[k] (c+1) t1 t2 (by omega) h5.x hla (by rw [hLlen,hm5];omega) (by omega) fun w6 o6 E6 h6 ev6 z1 z2=>⟨_,rfl,inR_i64 (by omega) (by omega),⟨k+1,o6,E6,_,rfl,by simp,by omega,?_,ev5.trans ev6,?_,?_,ev6.fm.blk b75 (fun e=>by omega),ev6.old g7 b75.lt o75,own_fm ov5 ev6.fm fun b hb e=>by have:=ovc b hb;omega,fun b hb=>ev6.old b (ov5.lt b hb).2 (ovc b hb),?_⟩,(by first | omega | (dsimp only;omega))⟩
   ·have hcg:(s.kids.take k).flatMap (wrd (slA S.D.sl) E5 r)=(s.kids.take k).flatMap (wrd (slA S.D.sl) E6 r):=flat_congr fun y hy=>wrd_congr r y fun z hz=>(z1 z (hdis z (List.mem_flatMap.2 ⟨y,hy,hz⟩))).symm
    rw [hst,hst,←hcg]
    have e1:(nms.take (i+1)++((gv+1) :: (s.kids.take k).flatMap (wrd (slA S.D.sl) E5 r))).length=i+1+((s.kids.take k).flatMap (wrd (slA S.D.sl) E5 r)).length+1:=by rw [List.length_append,htl,List.length_cons];omega
    rw [List.take_left' e1,List.drop_left' e1] at h6
    have e2:nms.take (i+1)++((gv+1) :: (s.kids.take k).flatMap (wrd (slA S.D.sl) E5 r))++wrd (slA S.D.sl) E6 r s.kids[k]++nms.drop (i+1)=nms.take (i+1)++((gv+1) :: ((s.kids.take k).flatMap (wrd (slA S.D.sl) E5 r)++wrd (slA S.D.sl) E6 r s.kids[k]))++nms.drop (i+1):=by simp
    rw [e2] at h6
    have e3:gv+1+2*((s.kids.take k).flatMap (allA (slA S.D.sl) r)).length+2*(allA (slA S.D.sl) r s.kids[k]).length=gv+1+2*((s.kids.take k).flatMap (allA (slA S.D.sl) r)++allA (slA S.D.sl) r s.kids[k]).length:=by rw [List.length_append];omega
    rw [e3] at h6
    exact h6
   ·intro y hy
    rw [hst,List.mem_append,not_or] at hy
    rw [z1 y hy.2];exact q1 y hy.1
   ·intro y hy
    rw [hst,List.mem_append] at hy
    rcases hy with hy | hy
    ·rw [z1 y (hdis y hy)];exact q2 y hy
    ·exact z2 y hy
   ·obtain⟨c',d1,d2⟩:=hA.chain _ t t1
    have:=t2.fn d2
    obtain⟨r',rfl⟩:∃r',r=r'+1:=⟨r-1,by omega⟩
    rw [hst,wrd_some (E:=E6) t1]
    generalize (s.kids.take k).flatMap (wrd (slA S.D.sl) E6 (r'+1))=ws
    generalize t.kids.flatMap (wrd (slA S.D.sl) E6 r')=xs
    have e1:nms.take (i+1)++(gv+1) :: (ws++((eN E6 s.kids[k]).1 :: xs++[(eN E6 s.kids[k]).2]))++nms.drop (i+1)=(nms.take (i+1)++(gv+1) :: (ws++((eN E6 s.kids[k]).1 :: xs)))++((eN E6 s.kids[k]).2 :: nms.drop (i+1)):=by simp
    rw [e1,List.getElem?_append_right (by simp only [List.length_append,List.length_cons,List.length_nil,htl];omega)]
    simp only [List.length_append,List.length_cons,List.length_nil,htl]
    rw [show i+1+(ws.length+(xs.length+1+(0+1)))-(i+1+(ws.length+(xs.length+1)+1))=0 by omega]
    rfl
  ·have hk2:k=s.kids.length:=by omega
   subst hk2
   rw [List.take_length] at h5 q1 q2 hla hm5
   have hLlen:(nms.take (i+1)++((gv+1) :: s.kids.flatMap (wrd (slA S.D.sl) E5 r))++nms.drop (i+1)).length=nms.length+1+(s.kids.flatMap (wrd (slA S.D.sl) E5 r)).length:=by simp;omega
   simp only [NonNil_some,Addr.add_mk,Nat.zero_add]
   refine After_x h5.x (by rw [hLlen,hm5];omega) (by omega) hla fun w6 o6 h6 ev6=>⟨_,_,rfl,?_⟩
   rw [insAt_mid (by rw [htl];omega)] at h6
   have b76:=ev6.fm.blk b75 (fun e=>by omega)
   have o76:=ev6.old g7 b75.lt o75
   refine st_blk b76 (by simp) fun w7 b77 f7=>?_
   simp only [List.setIfInBounds_toArray,List.set_cons_zero,List.set_cons_succ] at b77
   have h7:=h6.fm f7 fun b hb e=>by have e:b=g7:=e;rw [e];exact o76
   have ev7:EvL w o w7 o6:=(ev5.trans ev6).mine f7 fun b _ e=>by have e:b=g7:=e;omega
   refine⟨fun w'=>∃o' bs lbs mb wr eb,LM w' o' g ty S bs (nms.take (i+1)++((gv+1) :: s.kids.flatMap (wrd (slA S.D.sl) E5 r)++[gv+1+2*(s.kids.flatMap (allA (slA S.D.sl) r)).length+1])++nms.drop (i+1)) lbs mb (gv+1+2*(s.kids.flatMap (allA (slA S.D.sl) r)).length+1) wr (some eb) E5∧EvL w o w' o'∧o' g7=0∧Blk w' g7 #[.int .u64 (gv+1:Nat),.int .u64 (gv+1+2*(s.kids.flatMap (allA (slA S.D.sl) r)).length+1:Nat)] 146,?_,?_⟩
   ·rintro w8 ⟨o8,bs8,lbs8,mb8,wr8,eb,h8,ev8,o78,b78⟩
    unfold F70_j13
    have hdr:Below w8.heap.size w8 w8.drew:=(Below.refl _ _).drew
    obtain⟨nv,rv,hd⟩:=h8.pm.doc
    have cm:w8.cell? ⟨g,9,none⟩=some (.map (some eb)):=by rw [hd.blk.cell];rfl
    refine⟨fun w'=>Below w8.heap.size w8 w',hdr,?_⟩
    simp only [NonNil_some,Addr.add_mk,Nat.zero_add]
    refine⟨_,fun w' hw=>(sub_below hw).cell cm,?_⟩
    refine⟨_,fun w' hw=>by rw [(b78.keep hw).cell];rfl,?_⟩
    refine⟨_,fun w' hw=>by rw [(b78.keep hw).cell];rfl,?_⟩
    have h8d:=h8.below hdr
    obtain⟨e1,e2⟩:=h8d.e
    refine e2.update mapTypeE keyTypeE (n:Nat) _ fun w9 mp9 f9=>?_
    have hmu:mpE (updE E5 n (some (gv+1,gv+1+2*(s.kids.flatMap (allA (slA S.D.sl) r)).length+1)))=upd (mpE E5) (n:Nat) (some (.agg #[.int .u64 (gv+1:Nat),.int .u64 (gv+1+2*(s.kids.flatMap (allA (slA S.D.sl) r)).length+1:Nat)])):=mpE_upd
    obtain⟨h9,ev9⟩:=h8d.setE f9 (by rw [hmu];exact mp9)
    have hne:g7≠eb:=fun e=>by rw [e,e1] at o78;omega
    have b79:=f9.blk (b78.keep hdr) hne
    simp only [b79.cell,lds]
    have hsame:∀y,y≠n→updE E5 n (some (gv+1,gv+1+2*(s.kids.flatMap (allA (slA S.D.sl) r)).length+1)) y=E5 y:=fun y hy=>by unfold updE;rw [if_neg hy]
    have hself:updE E5 n (some (gv+1,gv+1+2*(s.kids.flatMap (allA (slA S.D.sl) r)).length+1)) n=some (gv+1,gv+1+2*(s.kids.flatMap (allA (slA S.D.sl) r)).length+1):=by unfold updE;rw [if_pos rfl]
    have hcg:s.kids.flatMap (wrd (slA S.D.sl) E5 r)=s.kids.flatMap (wrd (slA S.D.sl) (updE E5 n (some (gv+1,gv+1+2*(s.kids.flatMap (allA (slA S.D.sl) r)).length+1))) r):=flat_congr fun y hy=>wrd_congr r y fun z hz=>(hsame z (fun e=>by subst e;exact hnn (List.mem_flatMap.2 ⟨y,hy,hz⟩))).symm
    have hen:eN (updE E5 n (some (gv+1,gv+1+2*(s.kids.flatMap (allA (slA S.D.sl) r)).length+1))) n=(gv+1,gv+1+2*(s.kids.flatMap (allA (slA S.D.sl) r)).length+1):=by unfold eN;rw [hself];rfl
    have:=hK w9 o8 (updE E5 n (some (gv+1,gv+1+2*(s.kids.flatMap (allA (slA S.D.sl) r)).length+1))) ?_ ((ev8.trans (EvL.below hdr)).trans ev9) (fun y hy=>?_) (fun y hy=>?_)
    ·rw [hen] at this;exact this
    ·rw [wrd_some hs,hen,←hcg,show gv+2*((s.kids.flatMap (allA (slA S.D.sl) r)).length+1)=gv+1+2*(s.kids.flatMap (allA (slA S.D.sl) r)).length+1 by omega]
     exact⟨bs8,lbs8,mb8,wr8,some eb,h9⟩
    ·rw [List.mem_cons,not_or] at hy
     rw [hsame y hy.1];exact q1 y hy.2
    ·rcases List.mem_cons.1 hy with rfl | hy
     ·rw [hself];simp
     ·by_cases e:y=n
      ·rw [e,hself];simp
      ·rw [hsame y e];exact q2 y hy
   ·obtain⟨bs7,lbs7,mb7,wr7,em7,h7⟩:=h7
    obtain⟨nv,rv,hd⟩:=h7.pm.doc
    have cm:w7.cell? ⟨g,9,none⟩=some (.map em7):=by rw [hd.blk.cell];rfl
    simp only [NonNil_some,Addr.add_mk,Nat.zero_add,cm,lds]
    cases em7 with
    | none =>
     simp only [Option.isNone_none,Br_t]
     refine h7.made fun w8 o8 eb h8 ev8=>⟨o8,bs7,lbs7,mb7,wr7,eb,h8,ev7.trans ev8,ev8.old g7 b77.lt o76,ev8.fm.blk b77 (fun e=>by omega)⟩
    | some eb =>
     simp only [Option.isNone_some,Br_f]
     exact⟨o6,bs7,lbs7,mb7,wr7,eb,h7,ev7,o76,b77⟩
end
set_option maxRecDepth 100000
def aheadF (D:Im) (E:Nat→Option (Nat × Nat)) (n:Nat):Nat:=match slA D.sl n with
 | some s=>if (lstI D s.parent).idxOf n=0 then (eN E s.parent).1 else (eN E ((lstI D s.parent).getD ((lstI D s.parent).idxOf n-1) 0)).2
 | none=>0
section
variable {w w1 w2:World}{o o1 o2:Nat→Nat}{g:Nat}{ty:TypeId}{S:PS}{bs nms lbs:List Nat}{mb gv:Nat}{wr:Int}{em:Option Nat}{E:Nat→Option (Nat × Nat)}{M:Nat→Prop}{R:Ending→World→Prop}{θ:Th}{loose:List Nat}
theorem ahead_calls (h:LX w o g ty S nms gv E) (hA:WfA (slA S.D.sl) S.D.roots []) {n:Nat}{s:Sl} (hn:slA S.D.sl n=some s) (hK:∀w',Below w.heap.size w w'→R (.returned (.int .u64 (aheadF S.D E n:Nat))) w') :
  Calls Tryz.prog 74 #[.pointer (some ⟨g,0,none⟩),.int .u64 (n:Nat)] w R:=by
 refine ok74 (some ⟨g,0,none⟩) n ?_
 unfold F74
 obtain⟨tl,-,hpm⟩:=h.pm
 have hfew:=hpm.few
 rw [NonNil_some]
 refine Parent_calls (θ:=⟨g,ty,tl⟩) hpm hA hn fun w1 B1=>⟨_,_,rfl,?_⟩
 rw [NonNil_some]
 refine Roots_calls (θ:=⟨g,ty,tl⟩) (hpm.below B1) hA fun v w2 hb2 ov=>⟨_,_,_,rfl,?_⟩
 have B2:=btr B1 B1.size hb2
 have hpar:=hA.par n s hn
 have hmem:n∈lstI S.D s.parent:=hA.mem n s hn (by simp)
 have hahead:aheadF S.D E n=if (lstI S.D s.parent).idxOf n=0 then (eN E s.parent).1 else (eN E ((lstI S.D s.parent).getD ((lstI S.D s.parent).idxOf n-1) 0)).2:=by unfold aheadF;rw [hn]
 have hlf:(lstI S.D s.parent).length≤4096:=Nat.le_trans (live_few (fun y hy=>by obtain⟨_,t,ht,_⟩:=(hA.lst s.parent).2 y hy;exact⟨t,ht⟩) (hA.lst s.parent).1) hfew
 refine⟨fun A N C w'=>Below w.heap.size w w'∧∃B,Own LHn w' B 65 (.slice A N C) (lstI S.D s.parent),?_,?_⟩
 rotate_left
 ·refine brn (fun h0=>?_) (fun h0=>⟨B2,w1.heap.size,?_⟩)
  ·obtain⟨t,ht,_⟩:=hpar.resolve_left (by omega)
   rw [NonNil_some]
   refine Kids_calls (θ:=⟨g,ty,tl⟩) (hpm.below B2) hA hfew ht fun v' w3 hb3 ov3=>⟨_,_,_,_,rfl,btr B2 B2.size hb3,w2.heap.size,?_⟩
   have:lstI S.D s.parent=t.kids:=by unfold lstI;exact lstA_some (by omega) ht
   rw [this];exact ov3
  ·have:lstI S.D s.parent=S.D.roots:=by rw [show s.parent=0 by omega];unfold lstI;exact lstA_zero
   rw [this];exact ov
 rintro A N C w3 ⟨B3,B,ov3⟩
 unfold F74_j5
 obtain⟨em,cm,he⟩:=(h.below B3).emc
 simp only [NonNil_some,Addr.add_mk,Nat.zero_add,cm,lds]
 refine lookE he s.parent ⟨_,_,rfl,?_⟩
 obtain⟨A',c',hvf,hrd⟩:=ov3.form
 cases hvf
 generalize lstI S.D s.parent=l at *
 have hlt:=List.idxOf_lt_length_iff.2 hmem
 refine⟨fun t w'=>w'=w3∧t=(aheadF S.D E n:Nat),?_,?_⟩
 ·rintro t _ ⟨rfl,rfl⟩
  unfold F74_j12
  exact hK _ B3
 refine⟨fun t j w'=>w'=w3∧∃k:Nat,j=k∧k≤l.idxOf n∧t=((if k=0 then (eN E s.parent).1 else (eN E (l.getD (k-1) 0)).2:Nat):Int),fun _ j _=>l.length-j.toNat,⟨rfl,0,rfl,Nat.zero_le _,by rw [if_pos rfl]⟩,?_⟩
 rintro t j _ ⟨rfl,k,rfl,hk,rfl⟩
 unfold F74_l7
 refine brd (fun h1=>?_) (fun h1=>absurd (by omega) h1)
 have hkl:k < l.length:=by omega
 refine hrd.hn rfl rfl hkl fun bb oo cx=>?_
 simp only [cx,lds]
 refine bre (fun h2=>?_) (fun h2=>?_)
 ·have h2:l[k]=n:=by omega
  have h3:l.idxOf n=k:=by
   have h4:¬k < l.idxOf n:=fun h5=>by
    have:=List.not_of_lt_findIdx (p:=fun y=>y == n) (xs:=l) h5
    rw [h2] at this;simp at this
   omega
  exact⟨by trivial,by rw [hahead,h3]⟩
 ·have h3:k≠l.idxOf n:=fun e=>h2 (by
   have:=List.getElem_idxOf hlt
   subst e;rw [this])
  simp only [NonNil_some,Addr.add_mk,Nat.zero_add,cm,lds]
  refine lookE he l[k] ⟨_,_,rfl,inR_i64 (by omega) (by omega),⟨by trivial,k+1,by omega,by omega,?_⟩,(by first | omega | (dsimp only;omega))⟩
  rw [if_neg (by omega),Nat.add_sub_cancel,List.getD_eq_getElem?_getD,List.getElem?_eq_getElem hkl];rfl
end
end Go.Proofs.YtccplipiahdhiaaGreatDoor
