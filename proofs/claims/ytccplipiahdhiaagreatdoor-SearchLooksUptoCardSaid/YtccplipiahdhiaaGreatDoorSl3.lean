/- Search: SearchLooks, the card. -/
import Derived.Test.YtccplipiahdhiaaGreatDoorProg
import Derived.Lib.Bytealg
import Derived.Laws.Externs
import Derived.MapKept
import Derived.Laws.IdiomRangeMap
import Derived.Test.YtccplipiahdhiaaGreatDoorSl2
namespace Go.Proofs.YtccplipiahdhiaaGreatDoor
open Go.RowKit Go.Vc
set_option linter.unusedVariables false
set_option linter.unusedSimpArgs false
set_option maxRecDepth 100000
def wornN (sl:List Sl):Nat:=(sl.filter fun s=>!s.live && decide (4294967295≤s.gen)).length
theorem tk_sum (sl:List Sl):tk sl=liveN sl+wornN sl:=by
 induction sl with
 | nil=>rfl
 | cons s l ih =>
  unfold tk liveN wornN at *
  simp only [List.filter_cons]
  cases hl:s.live <;> cases hd:decide (4294967295≤s.gen) <;> simp_all <;> omega
theorem live_set {sl:List Sl}{k:Nat}{a b:Sl} (h:sl[k]?=some a):liveN (sl.set k b)+(if a.live then 1 else 0)=liveN sl+(if b.live then 1 else 0):=filter_set_len (fun s:Sl=>s.live) sl k a b h
theorem worn_set {sl:List Sl}{k:Nat}{a b:Sl} (h:sl[k]?=some a):wornN (sl.set k b)+(if (!a.live && decide (4294967295≤a.gen)) then 1 else 0)=wornN sl+(if (!b.live && decide (4294967295≤b.gen)) then 1 else 0):=filter_set_len (fun s:Sl=>!s.live && decide (4294967295≤s.gen)) sl k a b h
theorem live_room {sl:List Sl}:liveN (roomF sl)=liveN sl∧wornN (roomF sl)=wornN sl:=by
 unfold roomF liveN wornN
 split
 ·exact⟨rfl,rfl⟩
 ·rw [List.filter_append,List.filter_append];simp [deadS]
def bornS (g:Nat):Sl:=⟨g,true,0,noB,[],noB,0,[]⟩
structure PI (S:PS):Prop where
 lv:S.lv=liveN S.D.sl
 wn:S.wn=wornN S.D.sl
 lo:S.lo≤S.D.sl.length
 lo2:∀(i:Nat) (s:Sl),i < S.lo→S.D.sl[i]?=some s→s.live=true∨4294967295≤s.gen
def Cl (S:PS) (c:Nat):Prop:=pc c∧∀(i:Nat) (s:Sl),S.D.sl[i]?=some s→s.live=true→c≠8+4*i
theorem free_low {sl:List Sl}{n:Nat} (h:∀(i:Nat) (s:Sl),i < n→sl[i]?=some s→s.live=true∨4294967295≤s.gen) (hn:n≤sl.length):n≤freeI sl:=by
 refine Classical.byContradiction fun hlt=>?_
 have hf:freeI sl < sl.length:=by omega
 obtain⟨s,h1,h2,h3⟩:=freeI_lt hf
 rcases h _ s (by omega) h1 with h4 | h4
 ·rw [h2] at h4;cases h4
 ·omega
theorem below_free {sl:List Sl}{i:Nat}{s:Sl} (hi:i < freeI sl) (hs:sl[i]?=some s):s.live=true∨4294967295≤s.gen:=by
 have h1:=List.not_of_lt_findIdx (p:=fun s:Sl=>!s.live && decide (s.gen < 4294967295)) (xs:=sl) hi
 obtain⟨hl,e⟩:=List.getElem?_eq_some_iff.1 hs
 rw [e] at h1
 cases hv:s.live
 ·simp [hv] at h1;exact .inr h1
 ·exact .inl rfl
def lowIn (g:Nat) (w:World):Nat:=match w.cell? ⟨g,4,none⟩ with | some (.int _ n)=>n.toNat | _=>0
section
variable {w w1 w2:World}{o o1 o2:Nat→Nat}{θ:Th}{S:PS}{M:Nat→Prop}{bs:List Nat}{R:Ending→World→Prop}
theorem Cl_zero:¬Cl S 0:=fun h=>not_pc0 h.1
theorem Cl_doc {c:Nat} (h:c=1∨c=2∨c=3):Cl S c:=by
 refine⟨?_,fun i s _ _=>by omega⟩
 unfold pc;omega
theorem Cl_node {c i:Nat} (h:c=8+4*i∨c=9+4*i∨c=10+4*i) (hd:∀s,S.D.sl[i]?=some s→s.live=false):Cl S c:=by
 refine⟨?_,fun j s hs hl e=>?_⟩
 ·unfold pc;omega
 ·have:j=i:=by omega
  subst this
  rw [hd s hs] at hl;cases hl
theorem lowIn_pm (h:PM w o θ S):lowIn θ.g w=S.lo:=by unfold lowIn;rw [h.cells.2.2.2];simp
theorem fresh_calls (h:PM w o θ S) (hp:PI S) (hw:WfS S.D.sl) (ht:tk S.D.sl < 4096) (hK:∀w' o' S' b,PM w' o' θ S'→PI S'→S'.D={ S.D with sl:=(roomF S.D.sl).set (freeI S.D.sl) (bornS (genI S.D.sl)) }→(∃x,S'.bs=S.bs++x) →
   S'.bs[freeI S.D.sl]?=some b→EvC (Cl S) w o w' o'→R (.returned (.pointer (some ⟨b,0,none⟩))) w'):Calls Tryz.prog 159 #[.pointer (some ⟨θ.g,0,none⟩)] w R:=by
 refine ok159 (some ⟨θ.g,0,none⟩) ?_
 unfold F159
 have hlo:=free_low hp.lo2 hp.lo
 have hfl:=freeI_le (sl:=S.D.sl)
 have hfew:=h.few
 have hlt:=h.lt
 have tr:∀{w1 w2:World}{o1 o2:Nat→Nat},EvC (Cl S) w o w1 o1→EvC (Cl S) w1 o1 w2 o2→EvC (Cl S) w o w2 o2:=fun a b=>a.trans Cl_zero hlt (fun _ _ h=>h) b
 refine⟨fun w'=>PM w' o θ { S with lo:=freeI S.D.sl }∧EvC (Cl S) w o w' o,?_,?_⟩
 ·rintro w1 ⟨h1,e1⟩
  unfold F159_j3
  refine⟨fun w'=>∃o' S',PM w' o' θ S'∧S'.D={ S.D with sl:=roomF S.D.sl }∧S'.lv=S.lv∧S'.wn=S.wn∧S'.lo=freeI S.D.sl∧(∃x,S'.bs=S.bs++x)∧EvC (Cl S) w o w' o',?_,?_⟩
  ·rintro w2 ⟨o2,S2,h2,hD,hlv,hwn,hlo2,hbs,e2⟩
   unfold F159_j5
   refine dr fun w3 hb3 _=>?_
   have h3:=h2.below hb3
   obtain⟨⟨v,v1,v2,v3⟩,_,_,c4⟩:=h3.cells
   obtain⟨A,c,ev,hr⟩:=v2.form
   obtain⟨s,s1,s2,s3,s4⟩:=room_get hw
   have hsl:S2.D.sl=roomF S.D.sl:=by rw [hD]
   have hgl:=(List.getElem?_eq_some_iff.1 s1).1
   have hlen:=h3.len
   rw [hsl] at hlen
   have hgb:freeI S.D.sl < S2.bs.length:=by omega
   have k1:S2.bs[freeI S.D.sl]?=some S2.bs[freeI S.D.sl]:=List.getElem?_eq_getElem hgb
   generalize hb:S2.bs[freeI S.D.sl]=b at k1
   have k2:S2.D.sl[freeI S.D.sl]?=some s:=by rw [hsl];exact s1
   rw [hlo2] at c4
   rw [ev] at v1
   have hdead:∀t,S.D.sl[freeI S.D.sl]?=some t→t.live=false:=fun t ht=>by
    have:=room_old ht
    rw [s1] at this;cases this;exact s4
   simp only [NonNil_some,v1,c4,lds]
   refine hr.pt rfl rfl hgb fun x y c0=>?_
   rw [hb] at c0
   simp only [c0,NonNil_some,h3.cGen k1 k2,lds]
   have e5:((s.gen:Nat):Int)+1=((s.gen+1:Nat):Int):=by omega
   rw [e5]
   refine⟨⟨by simp [IntKind.min,IntKind.signed];omega,by simp [IntKind.max,IntKind.signed,IntKind.bits];omega⟩,?_⟩
   refine h3.stGen k1 k2 (g:=s.gen+1) (by omega) fun w4 h4 e4=>?_
   have k3:(S2.setS (freeI S.D.sl) { s with gen:=s.gen+1 }).D.sl[freeI S.D.sl]?=some { s with gen:=s.gen+1 }:=by simp [PS.setS,hsl,hgl]
   refine h4.stLiv (b:=b) k1 k3 true fun w5 h5 e5'=>?_
   obtain⟨_,d2,_,_⟩:=h5.cells
   have d2:w5.cell? ⟨θ.g,2,none⟩=some (.int .i64 (S.lv:Nat)):=by rw [←hlv];exact d2
   simp only [d2,lds]
   have hlvn:=hp.lv
   have htk:=tk_sum S.D.sl
   have e6:((S.lv:Nat):Int)+1=((S.lv+1:Nat):Int):=by omega
   rw [e6]
   refine⟨inR_i64 (by omega) (by omega),h5.stLive (S.lv+1) (by omega) fun w6 h6 e7=>?_⟩
   have hev:EvC (Cl S) w o w6 o2:=by
    refine tr (tr (tr (tr e2 (EvC.below hb3)) (e4.mono fun c hc=>Cl_node hc hdead)) (e5'.mono fun c hc=>Cl_node hc hdead)) (e7.mono fun c hc=>Cl_doc hc)
   obtain⟨S6,hS6⟩:∃S6:PS,S6={ (S2.setS (freeI S.D.sl) { s with gen:=s.gen+1 }).setS (freeI S.D.sl) { { s with gen:=s.gen+1 } with live:=true } with lv:=S.lv+1 }:=⟨_,rfl⟩
   have h6':PM w6 o2 θ S6:=by rw [hS6];exact h6
   have hfin:S6.D.sl=(roomF S.D.sl).set (freeI S.D.sl) (bornS (genI S.D.sl)):=by
    rw [hS6]
    show (S2.D.sl.set _ _).set _ _=_
    rw [List.set_set,hsl,genI_eq s1]
    congr 1
    rw [s2];rfl
   have f1:S6.lv=S.lv+1:=by rw [hS6]
   have f2:S6.wn=S2.wn:=by rw [hS6];rfl
   have f3:S6.lo=S2.lo:=by rw [hS6];rfl
   have f4:S6.bs=S2.bs:=by rw [hS6];rfl
   have f5:S6.D.roots=S2.D.roots:=by rw [hS6];rfl
   have hset:=live_set (b:=(bornS (genI S.D.sl))) s1
   have wset:=worn_set (b:=(bornS (genI S.D.sl))) s1
   rw [s4] at hset wset
   have hg2:¬4294967295≤s.gen:=by omega
   simp [live_room.1,live_room.2,hg2,show (bornS (genI S.D.sl)).live=true from rfl] at hset wset
   refine hK w6 o2 S6 b h6' ⟨?_,?_,?_,?_⟩ ?_ (by rw [f4];exact hbs) (by rw [f4];exact k1) hev
   ·rw [f1,hfin];omega
   ·rw [f2,hfin,hwn,hp.wn];omega
   ·rw [f3,hfin,hlo2,List.length_set];omega
   ·intro i t hi ht2
    rw [f3,hlo2] at hi
    rw [hfin,List.getElem?_set_ne (by omega)] at ht2
    have hi2:i < S.D.sl.length:=by omega
    have:=room_old (List.getElem?_eq_getElem hi2)
    rw [this] at ht2
    exact below_free hi (by rw [←ht2];exact List.getElem?_eq_getElem hi2)
   ·cases hS:S6.D with
    | mk l r =>
     rw [hS] at hfin f5
     dsimp only at hfin f5
     rw [hfin,f5,hD]
  ·refine dr fun w2 hb2 _=>?_
   have h2:=h1.below hb2
   obtain⟨⟨v,v1,v2,v3⟩,_,_,c4⟩:=h2.cells
   obtain⟨A,c,ev,hr⟩:=v2.form
   rw [ev] at v1
   have c4:w2.cell? ⟨θ.g,4,none⟩=some (.int .i64 (freeI S.D.sl:Nat)):=c4
   have hlen:S.bs.length=S.D.sl.length:=h2.len
   simp only [NonNil_some,v1,c4,lds]
   refine bre (fun heq=>?_) (fun hne=>?_)
   ·have heq:freeI S.D.sl=S.bs.length:=Int.ofNat.inj heq
    have hfull:¬freeI S.D.sl < S.D.sl.length:=by omega
    have hl4:S.D.sl.length < 4096:=by have:=tk_full hfull;omega
    refine⟨fun w'=>Below w2.heap.size w2 w',(Below.refl _ _).drew,?_⟩
    refine⟨_,_,_,fun w' hb=>by rw [(sub_below hb).cell v1],?_⟩
    refine⟨_,fun w' hb=>by rw [(sub_below hb).cell c4],?_⟩
    have e5:((freeI S.D.sl:Nat):Int)+1=((freeI S.D.sl+1:Nat):Int):=by omega
    rw [e5]
    refine⟨inR_i64 (by omega) (by omega),⟨by simp [IntKind.min,IntKind.signed];omega,by simp [IntKind.max,IntKind.signed,IntKind.bits];omega⟩,?_⟩
    refine al fun b w3 hb3 bn hge3=>?_
    have D3:Below w2.heap.size w2 w3:=btr ((Below.refl _ w2).drew) (by simp) hb3
    refine⟨D3,al fun g5 w4 hb4 b5 hge4=>?_⟩
    have D4:=btr D3 D3.size hb4
    refine⟨D4,?_⟩
    have hO4:Own LPt w4 0 152 (.slice A S.bs.length c) S.bs:=by rw [←ev];exact v2.keep D4
    have hbl:=bn.lt
    have hgeb:w2.heap.size≤b:=by simpa using hge3
    refine ap (L:=LPt) (xs:=S.bs) (ys:=[b]) (base:=0) (.pointer none) 8 rfl (by kernel_rfl) (by kernel_rfl) (by kernel_rfl) hO4 ?_ (Nat.zero_le _) (by simp;omega) (by simp [maxLen];omega) fun A' c' w5 o5 g5'=>⟨A',_,c',rfl,?_⟩
    ·refine⟨by simp,by simp [maxLen],fun h0=>(by cases h0),fun _=>⟨g5,0,rfl,fun j u hj=>?_⟩⟩
     rw [LPt.all_one] at hj
     rw [b5.cell];simpa [LPt] using hj
    ·have F5:Fm (fun x=>rowOf (slV (A,S.bs.length,c))=some x) w2 w5:=(Fm.below D4).trans (Fm.grown g5'.grown fun x hx=>hx)
     have hbn5:Blk w5 b (nodeC S.D.sl.length (deadS 0) (none,0,0) none (none,0,0)) 202:=by
      have bn4:=bn.keep hb4
      have:Blk w5 b _ 202:=(Fm.grown g5'.grown (M:=fun x=>rowOf (slV (A,S.bs.length,c))=some x) fun x hx=>hx).blk bn4 fun e=>by
       have:=v3 b (by rw [ev];exact e)
       have:=h2.lt b (by rw [this];decide)
       omega
      rw [heq,hlen] at this
      exact this
     refine h2.grow (v:=(A,S.bs.length,c)) (v':=(A',S.bs.length+1,c')) hgeb hbn5 (fun x hx=>v3 x (by rw [ev];exact hx)) F5 o5 ?_ hl4 fun w6 o6 h6 e6=>?_
     ·rcases g5'.row with e | e | ⟨g,e,hge⟩
      ·exact .inl e
      ·exact .inr (.inl e)
      ·refine .inr (.inr ⟨g,e,?_,?_⟩)
       ·have:=D4.size;omega
       ·have:=hb4.size;omega
     ·refine⟨o6,_,h6,?_,rfl,rfl,rfl,⟨[b],rfl⟩,tr (tr e1 (EvC.below hb2)) (e6.mono fun c hc=>Cl_doc (by omega))⟩
      show { S.D with sl:=S.D.sl++[deadS 0] }=_
      unfold roomF
      rw [if_neg hfull]
   ·have hne:freeI S.D.sl≠S.bs.length:=fun e=>hne (by rw [e])
    refine⟨o,_,h2,?_,rfl,rfl,rfl,⟨[],by simp⟩,tr e1 (EvC.below hb2)⟩
    show S.D=_
    unfold roomF
    rw [if_pos (by omega)]
 ·refine⟨fun w'=>∃n,n≤freeI S.D.sl∧PM w' o θ { S with lo:=n }∧EvC (Cl S) w o w' o,fun w'=>4097-lowIn θ.g w',⟨S.lo,hlo,h,EvC.refl⟩,?_⟩
  rintro w1 ⟨n,hn,h1,e1⟩
  have hlw:lowIn θ.g w1=n:=lowIn_pm h1
  unfold F159_l1
  refine⟨fun w'=>n < freeI S.D.sl∧PM w' o θ { S with lo:=n }∧EvC (Cl S) w o w' o,?_,?_⟩
  ·rintro w2 ⟨hn2,h2,e2⟩
   unfold F159_j2
   obtain⟨_,_,_,c4⟩:=h2.cells
   have c4:w2.cell? ⟨θ.g,4,none⟩=some (.int .i64 (n:Nat)):=c4
   simp only [NonNil_some,c4,lds]
   have e5:((n:Nat):Int)+1=((n+1:Nat):Int):=by omega
   rw [e5]
   refine⟨inR_i64 (by omega) (by omega),h2.stLow (n+1) (by omega) fun w3 h3 e3=>⟨⟨n+1,by omega,h3,tr e2 (e3.mono fun c hc=>Cl_doc hc)⟩,?_⟩⟩
   have:=lowIn_pm h3
   dsimp only at this
   rw [this,hlw];omega
  ·refine dr fun w2 hb2 _=>?_
   have h2:=h1.below hb2
   have e2:=tr e1 (EvC.below hb2)
   obtain⟨⟨v,v1,v2,v3⟩,_,_,c4⟩:=h2.cells
   obtain⟨A,c,ev,hr⟩:=v2.form
   rw [ev] at v1
   have c4:w2.cell? ⟨θ.g,4,none⟩=some (.int .i64 (n:Nat)):=c4
   have hlen:S.bs.length=S.D.sl.length:=h2.len
   simp only [NonNil_some,v1,c4,lds]
   have exit:(∀s,S.D.sl[n]?=some s→s.live=false∧s.gen < 4294967295)→n=freeI S.D.sl:=fun hs=>by
    refine Classical.byContradiction fun hne=>?_
    have hlt2:n < freeI S.D.sl:=by omega
    have hl:n < S.D.sl.length:=by omega
    have:=below_free hlt2 (List.getElem?_eq_getElem hl)
    obtain⟨a,b⟩:=hs _ (List.getElem?_eq_getElem hl)
    rcases this with h3 | h3
    ·rw [a] at h3;cases h3
    ·omega
   refine brd (fun hlt2=>?_) (fun hge=>?_)
   ·have hnl:n < S.bs.length:=by simpa using hlt2
    have k1:S.bs[n]?=some S.bs[n]:=List.getElem?_eq_getElem hnl
    have k2:S.D.sl[n]?=some (S.D.sl[n]'(by omega)):=List.getElem?_eq_getElem (by omega)
    generalize hb:S.bs[n]=b at k1
    generalize (S.D.sl[n]'(by omega))=s at k2
    refine hr.pt rfl rfl hnl fun x y c0=>?_
    rw [hb] at c0
    have gl:=h2.cLive k1 k2
    have gg:=h2.cGen k1 k2
    simp only [c0,gl,NonNil_some,lds]
    have notfree:(s.live=true∨4294967295≤s.gen)→n < freeI S.D.sl:=fun hs=>by
     refine Nat.lt_of_le_of_ne hn fun e=>?_
     have hf:freeI S.D.sl < S.D.sl.length:=by omega
     obtain⟨t,t1,t2,t3⟩:=freeI_lt hf
     rw [←e,k2] at t1;cases t1
     rcases hs with h3 | h3
     ·rw [t2] at h3;cases h3
     ·omega
    refine br (fun hl=>⟨notfree (.inl hl),h2,e2⟩) (fun hl=>?_)
    refine hr.pt rfl rfl hnl fun x y c0=>?_
    rw [hb] at c0
    simp only [c0,gg,NonNil_some,lds]
    refine bre (fun hg=>⟨notfree (.inr (by omega)),h2,e2⟩) (fun hg=>?_)
    have hsg:=(h.rng s (List.mem_of_getElem? k2)).gen
    have:=exit fun t ht=>by rw [k2] at ht;cases ht;exact⟨hl,by omega⟩
    rw [←this]
    exact⟨h2,e2⟩
   ·have:=exit fun t ht=>by
     have:=(List.getElem?_eq_some_iff.1 ht).1
     have hge:¬((n:Nat):Int) < ((S.bs.length:Nat):Int):=hge
     omega
    rw [←this]
    exact⟨h2,e2⟩
end
set_option maxRecDepth 100000
theorem cloneOwn_calls (l:List At) (v:Sv) {w:World}{R:Ending→World→Prop} (hl:RR LAt w l v) (h:∀v' w',Below w.heap.size w w'→Own LAt w' w.heap.size 205 (slV v') l→R (.returned (slV v')) w') :
  Calls Tryz.prog 109 #[slV v] w R:=by
 refine ok109 v.1 v.2.1 v.2.2 ?_
 unfold F109
 refine br (fun hz=>?_) (fun hz=>?_)
 ·have h1:v.1=none:=by simpa using hz
  have h2:=hl.2.2.2.2.1 h1
  have h3:=hl.2.2.1
  have:l=[]:=List.eq_nil_of_length_eq_zero (by omega)
  subst this
  exact h (none,0,0) w (Below.refl _ _) (Own.nil _ _ _ _)
 ·refine al fun g w1 hb1 b1 hge=>?_
  obtain⟨h1,h2,h3⟩:=hl.keep hb1
  have hm:l.length*32≤1048576*32:=Nat.mul_le_mul h1 (Nat.le_refl _)
  refine ap (L:=LAt) (xs:=[]) (ys:=l) (base:=w.heap.size) (.agg #[.string ⟨#[]⟩,.string ⟨#[]⟩]) 32 h2 rfl rfl rfl (Own.bare _ _ _ _ _) h3 hb1.size (by simp only [List.length_nil,Nat.zero_add];omega) (by simp [maxLen];omega) fun A' c' w2 o2 g2=>⟨_,_,_,rfl,?_⟩
  exact h (A',_,c') w2 (hb1.trans g2.below) (by rw [List.nil_append] at o2;exact o2)
theorem makesF_snoc {x:Tr}{h i:Nat}:∀(l:List Tr) (sl:List Sl),makesF (l++[x]) h i sl=(makeF x h (makesF l h i sl)).modify i fun s=>{ s with kids:=s.kids++[freshH (makesF l h i sl)] }
 | [],sl=>by
  rw [List.nil_append,makesF]
  simp only [makesF]
 | y :: l,sl=>by
  rw [List.cons_append,makesF]
  conv=>rhs;simp only [makesF]
  exact makesF_snoc l _
theorem okL_take:∀(l:List Tr) (k:Nat),okL l→okL (l.take k)
 | [],k,h=>by simp [okL]
 | x :: l,0,h=>by simp [okL]
 | x :: l,k+1,h=>by
  simp only [List.take_succ_cons,okL] at *
  exact⟨h.1,okL_take l k h.2⟩
theorem okL_get:∀(l:List Tr) (k:Nat) (hk:k < l.length),okL l→okT l[k]
 | [],k,hk,h=>by simp at hk
 | x :: l,0,hk,h=>by simp only [okL] at h;exact h.1
 | x :: l,k+1,hk,h=>by simp only [okL] at h;exact okL_get l k (by simpa using hk) h.2
theorem dpL_take:∀(l:List Tr) (k:Nat),dpL (l.take k)≤dpL l
 | [],k=>by simp [dpL]
 | x :: l,0=>by simp [dpL]
 | x :: l,k+1=>by
  have:=dpL_take l k
  simp only [List.take_succ_cons,dpL];omega
theorem dpL_get:∀(l:List Tr) (k:Nat) (hk:k < l.length),dpT l[k]≤dpL l
 | [],k,hk=>by simp at hk
 | x :: l,0,hk=>by simp only [List.getElem_cons_zero,dpL];omega
 | x :: l,k+1,hk=>by
  have:=dpL_get l k (by simpa using hk)
  simp only [List.getElem_cons_succ,dpL];omega
theorem szL_get:∀(l:List Tr) (k:Nat) (hk:k < l.length),szL (l.take k)+szT l[k]≤szL l
 | [],k,hk=>by simp at hk
 | x :: l,0,hk=>by simp only [List.take_zero,List.getElem_cons_zero,szL];omega
 | x :: l,k+1,hk=>by
  have:=szL_get l k (by simpa using hk)
  simp only [List.take_succ_cons,List.getElem_cons_succ,szL];omega
theorem szL_take:∀(l:List Tr) (k:Nat),szL (l.take k)≤szL l
 | [],k=>by simp
 | x :: l,0=>by simp [szL]
 | x :: l,k+1=>by
  have:=szL_take l k
  simp only [List.take_succ_cons,szL];omega
section
variable {w w1 w2:World}{o o1 o2:Nat→Nat}{θ:Th}{S:PS}{M:Nat→Prop}{bs:List Nat}{R:Ending→World→Prop}
theorem PI.set (h:PI S) {i:Nat}{s s':Sl} (hs:S.D.sl[i]?=some s) (hl:s'.live=s.live) (hg:s'.gen=s.gen):PI (S.setS i s'):=by
 have h1:=live_set (b:=s') hs
 have h2:=worn_set (b:=s') hs
 rw [hl] at h1
 rw [hl,hg] at h2
 refine⟨?_,?_,?_,fun j t hj ht=>?_⟩
 ·show S.lv=liveN (S.D.sl.set i s');rw [h.lv];omega
 ·show S.wn=wornN (S.D.sl.set i s');rw [h.wn];omega
 ·show S.lo≤(S.D.sl.set i s').length;rw [List.length_set];exact h.lo
 ·have ht:(S.D.sl.set i s')[j]?=some t:=ht
  by_cases e:i=j
  ·subst e
   rw [List.getElem?_set_self (List.getElem?_eq_some_iff.1 hs).1] at ht
   cases ht
   rw [hl,hg];exact h.lo2 i s hj hs
  ·rw [List.getElem?_set_ne e] at ht
   exact h.lo2 j t hj ht
theorem pb_ext {y:List Nat}{h:Nat} (hh:inN bs.length h):pb (bs++y) h=pb bs h:=by
 obtain⟨h1,h2⟩:=hh
 unfold pb
 rw [List.getD_eq_getElem?_getD,List.getD_eq_getElem?_getD,List.getElem?_append_left (by omega)]
theorem ptr_ext {y:List Nat}{h:Nat} (hh:h=0∨inN bs.length h):ptrH (bs++y) h=ptrH bs h:=by
 unfold ptrH
 split
 ·rfl
 ·rw [pb_ext (hh.resolve_left (by assumption))]
theorem live_inN {sl:List Sl}{p:Nat} (hp:p=0∨∃t,slA sl p=some t∧t.kind=1):p=0∨inN sl.length p:=by
 rcases hp with hp | ⟨t,ht,_⟩
 ·exact .inl hp
 ·obtain⟨k,h1,h2,_⟩:=slA_iff.1 ht
  have:=(List.getElem?_eq_some_iff.1 h2).1
  exact .inr ⟨by omega,by omega⟩
theorem live_few {sl:List Sl}{l:List Nat} (hl:∀h∈l,∃s,slA sl h=some s) (hn:l.Nodup):l.length≤sl.length:=by
 have h1:(l.map fun h=>h % 4294967296-1).Nodup:=by
  refine List.pairwise_map.2 (List.Pairwise.imp_of_mem (fun {a b} ha hb hab e=>?_) hn)
  obtain⟨s,hs⟩:=hl a ha
  obtain⟨t,ht⟩:=hl b hb
  obtain⟨i,i1,i2,i3,i4⟩:=slA_iff.1 hs
  obtain⟨j,j1,j2,j3,j4⟩:=slA_iff.1 ht
  obtain rfl:i=j:=by omega
  rw [i2] at j2;cases j2
  exact hab (i4.symm.trans j4)
 have h2:=nodup_sub h1 (b:=List.range sl.length) fun x hx=>by
  obtain⟨h,hh,rfl⟩:=List.mem_map.1 hx
  obtain⟨s,hs⟩:=hl h hh
  obtain⟨i,i1,i2,i3,i4⟩:=slA_iff.1 hs
  have:=(List.getElem?_eq_some_iff.1 i2).1
  exact List.mem_range.2 (by omega)
 simpa using h2
theorem setS_setS {i:Nat}{a b:Sl}:(S.setS i a).setS i b=S.setS i b:=by unfold PS.setS;dsimp only;rw [List.set_set]
theorem make_calls:∀(x:Tr) {w:World}{o:Nat→Nat}{S:PS}{p c:Nat}{loose:List Nat}{e:E5}{R:Ending→World→Prop},PM w o θ S→PI S→okT x→WfS S.D.sl→WfA (slA S.D.sl) S.D.roots loose→(p=0∨∃t,slA S.D.sl p=some t∧t.kind=1) →
  Ch (slA S.D.sl) p c→c+dpT x≤64→tk S.D.sl+szT x≤4096→RTr (wc o w) x e →
  (∀w' o' S',PM w' o' θ S'→PI S'→S'.D={ S.D with sl:=makeF x p S.D.sl }→(∃y,S'.bs=S.bs++y)→EvC (Cl S) w o w' o'→R (.returned (.pointer (ptrH S'.bs (freshH S.D.sl)))) w') →
  Calls Tryz.prog 122 #[.pointer (some ⟨θ.g,0,none⟩),.agg #[.int .i64 e.kind,.string e.nm,slV e.ats,.string e.text,slV e.kids],.pointer (ptrH S.bs p)] w R:=by
 refine Tr.ind fun kind nm attrs text kids ih=>?_
 intro w o S p c loose e R h hp hok hw hA hpp hc hd ht hT hK
 simp only [RTr] at hT
 obtain⟨t1,t2,t3,t4,t5,es,t6,t7,t8⟩:=hT
 have hel:=t8.len
 have hW:=make_wf (.mk kind nm attrs text kids) hok hw hA hpp hc hd ht
 unfold okT at hok
 obtain⟨ok1,ok2,ok3⟩:=hok
 unfold dpT at hd
 unfold szT at ht
 have htk:tk S.D.sl < 4096:=by split at ht <;> omega
 have hlt:=h.lt
 refine ok122 (some ⟨θ.g,0,none⟩) e.kind e.nm e.ats.1 e.ats.2.1 e.ats.2.2 e.text e.kids.1 e.kids.2.1 e.kids.2.2 (ptrH S.bs p) ?_
 unfold F122
 refine al fun g4 w1 hb1 b4 hge4=>?_
 have h1:=h.below hb1
 have o4:o g4=0:=Classical.byContradiction fun h0=>by have:=hlt g4 h0;omega
 refine fresh_calls h1 hp hw htk fun w2 o2 S2 b h2 p2 hD2 ⟨y2,hy2⟩ hb2 e2=>⟨_,rfl,?_⟩
 have tr:∀{w1 w2:World}{o1 o2:Nat→Nat},EvC (Cl S) w o w1 o1→EvC (Cl S) w1 o1 w2 o2→EvC (Cl S) w o w2 o2:=fun a b=>a.trans Cl_zero hlt (fun _ _ h=>h) b
 have E2:EvC (Cl S) w o w2 o2:=tr (EvC.below hb1) e2
 obtain⟨sd,d1,d2,d3,d4⟩:=room_get hw
 generalize hi:freeI S.D.sl=i at *
 generalize hg:genI S.D.sl=g at *
 have hgl:=(List.getElem?_eq_some_iff.1 d1).1
 have hsl2:S2.D.sl=(roomF S.D.sl).set i (bornS g):=by rw [hD2]
 have k2:S2.D.sl[i]?=some (bornS g):=by rw [hsl2];simp [hgl]
 have hdead:∀t,S.D.sl[i]?=some t→t.live=false:=fun t ht=>by
  have:=room_old ht
  rw [d1] at this;cases this;exact d4
 have g4k:∀{w':World}{o':Nat→Nat}{ce:Array Value}{ty:TypeId},EvC (Cl S) w1 o w' o'→Blk w1 g4 ce ty→Blk w' g4 ce ty:=fun ev hb=>ev.fm.blk hb (by rw [o4];exact Cl_zero)
 have B2:=g4k e2 b4
 simp only [Addr.add_mk,Nat.zero_add,NonNil_some,B2.cell,lds]
 refine h2.stKind hb2 k2 e.kind fun w3 h3 e3=>?_
 have h3:PM w3 o2 θ (S2.setS i ⟨g,true,e.kind,noB,[],noB,0,[]⟩):=h3
 have kS:∀s',(S2.setS i s').D.sl[i]?=some s':=fun s'=>by simp [PS.setS,hsl2,hgl]
 have hpn:p=0∨inN S.bs.length p:=by rw [h.len];exact live_inN hpp
 have hlen2:S.D.sl.length≤S2.D.sl.length:=by
  rw [hsl2,List.length_set]
  rcases room_len (sl:=S.D.sl) with h | h <;> omega
 have hlenS:∀s',(S2.setS i s').D.sl.length=S2.D.sl.length:=fun s'=>by simp [PS.setS]
 have hpn2:p=0∨inN (S2.setS i ⟨g,true,e.kind,noB,[],noB,0,[]⟩).D.sl.length p:=by
  rcases hpn with e | ⟨a,b⟩
  ·exact .inl e
  ·refine .inr ⟨a,?_⟩
   rw [h.len] at b
   rw [hlenS];omega
 have hpe:ptrH S.bs p=ptrH (S2.setS i ⟨g,true,e.kind,noB,[],noB,0,[]⟩).bs p:=by
  show _=ptrH S2.bs p
  rw [hy2];exact (ptr_ext hpn).symm
 rw [hpe]
 refine h3.stPar (b:=b) hb2 (kS _) hpn2 fun w4 h4 e4=>?_
 have h4:PM w4 o2 θ (S2.setS i ⟨g,true,e.kind,noB,[],noB,p,[]⟩):=by rw [setS_setS] at h4;exact h4
 have nd:∀{c:Nat},(c=8+4*i∨c=9+4*i∨c=10+4*i)→Cl S c:=fun hc=>Cl_node hc hdead
 have e24:EvC (Cl S) w1 o w4 o2:=(e2.trans Cl_zero h1.lt (fun _ _ h=>h) (e3.mono fun c hc=>nd hc)).trans Cl_zero h1.lt (fun _ _ h=>h) (e4.mono fun c hc=>nd hc)
 have E4:EvC (Cl S) w o w4 o2:=tr (EvC.below hb1) e24
 have B4:=g4k e24 b4
 have p4:PI (S2.setS i ⟨g,true,e.kind,noB,[],noB,p,[]⟩):=p2.set k2 rfl rfl
 have hh:freshH S.D.sl % 4294967296=i+1:=by
  have:=(room_wf hw htk).few
  unfold freshH;rw [hi];exact hnd_mod (by omega)
 have hne:freshH S.D.sl≠0:=by unfold freshH hnd;omega
 have hfin:∀{bs':List Nat},(∃y,bs'=S2.bs++y)→pb bs' (freshH S.D.sl)=b:=fun {bs'} ⟨y,hy⟩=>by
  unfold pb
  rw [hh,Nat.add_sub_cancel,hy,List.getD_eq_getElem?_getD,List.getElem?_append_left (List.getElem?_eq_some_iff.1 hb2).1,hb2];rfl
 have hfinp:∀{bs':List Nat},(∃y,bs'=S2.bs++y)→ptrH bs' (freshH S.D.sl)=some ⟨b,0,none⟩:=fun {bs'} hy=>by
  unfold ptrH
  rw [if_neg hne,hfin hy]
 have hDS:∀s',(S2.setS i s').D={ S.D with sl:=(roomF S.D.sl).set i s' }:=fun s'=>by
  show { S2.D with sl:=S2.D.sl.set i s' }=_
  rw [hD2]
  dsimp only
  rw [List.set_set]
 simp only [Addr.add_mk,Nat.zero_add,NonNil_some,B4.cell,lds]
 refine bre (fun hk=>?_) (fun hk=>?_)
 ·-- a text
  refine h4.stText (b:=b) hb2 (kS _) e.text fun w5 h5 e5=>?_
  have h5:PM w5 o2 θ (S2.setS i ⟨g,true,e.kind,noB,[],e.text,p,[]⟩):=by rw [setS_setS] at h5;exact h5
  have:=hK w5 o2 _ h5 (p2.set k2 rfl rfl) ?_ ⟨y2,hy2⟩ (tr E4 (e5.mono fun c hc=>nd hc))
  ·have e6:=hfinp (bs':=S2.bs) ⟨[],by simp⟩
   rw [←e6];exact this
  ·rw [hDS]
   unfold makeF
   rw [if_pos (by rw [←t1];exact hk),hi,hg,←t1,←t3]
 ·-- an element
  have hk1:kind≠2:=by rw [←t1];exact hk
  have hkk:kind=1:=ok2.resolve_right hk1
  rw [if_neg hk1] at hd ht
  have hd4:Below w4.heap.size w4 w4.drew:=(Below.refl _ _).drew
  refine⟨fun w'=>Below w4.heap.size w4 w',hd4,?_⟩
  refine⟨_,fun w' hb=>by rw [(B4.keep hb).cell];rfl,?_⟩
  refine⟨_,_,_,fun w' hb=>by rw [(B4.keep hb).cell];rfl,?_⟩
  have E4d:EvC (Cl S) w o w4.drew o2:=tr E4 (EvC.below hd4)
  have hats:RR LAt w4.drew attrs e.ats:=(t4.sub (EvP.sub (E4d.mono fun c h=>h.1))).sub sub_of_only
  refine cloneOwn_calls attrs e.ats hats fun a w5 hb5 ha=>⟨_,_,_,rfl,?_⟩
  have D5:Below w4.heap.size w4 w5:=btr hd4 (by simp) hb5
  refine⟨D5,?_⟩
  obtain⟨a0,kv0,hn⟩:=h4.nodes i b _ hb2 (kS _)
  have hb6:o2 b=8+4*i:=h4.nc i b hb2
  have hbl:=hn.blk.lt
  refine st_blk (hn.blk.keep D5) (by simp [nodeC]) fun w6 b6 f6=>st_blk b6 (by simp [nodeC]) fun w7 b7 f7=>?_
  have b7:Blk w7 b (nodeC i ⟨g,true,e.kind,e.nm,attrs,noB,p,[]⟩ a (ptrH S2.bs p) kv0) 202:=by
   simpa [nodeC,slV,PS.setS] using b7
  have F67:Fm (·=b) w5 w7:=Fm.trans f6 f7
  have harow:∀x,rowOf (slV a)=some x→w4.heap.size≤x:=fun x hx=>by have:=(ha.lt x hx).1;simpa using this
  have F47b:Fm (·=b) w4 w7:=(Fm.below D5).trans F67
  have F47:Fm (fun x=>o2 x=8+4*i∨o2 x=9+4*i∨o2 x=10+4*i) w4 w7:=F47b.mono fun x _ e=>.inl (by have e:x=b:=e;rw [e];exact hb6)
  have oz:∀x,w4.heap.size≤x→o2 x=0:=fun x hx=>Classical.byContradiction fun h0=>by have:=h4.lt x h0;omega
  have hN:NodeR w7 (cl o2 (rowOf (slV a)) (10+4*i)) S2.bs i b ⟨g,true,e.kind,e.nm,attrs,noB,p,[]⟩ a kv0:=by
   refine⟨b7,(own_fm ha F67 fun x hx e=>?_).rebase fun k _=>Nat.zero_le _,fun x hx=>cl_row hx (.inl (oz x (harow x hx))),own_fm hn.kd1 F47b fun x hx e=>?_,fun x hx=>?_⟩
   ·have e:x=b:=e
    have:=harow x hx;omega
   ·have e:x=b:=e
    have:=hn.kd2 x hx;rw [e,hb6] at this;omega
   ·have:=hn.kd2 x hx
    rw [cl_old (by omega)];exact this
  have rg4:=h4.rng _ (List.mem_of_getElem? (kS _))
  obtain⟨h7,e7⟩:=h4.setNode (r:=rowOf (slV a)) (c:=10+4*i) hb2 (kS _) F47 (fun x hx=>.inl hx) (.inr rfl) (fun x hx=>⟨fun _=>harow x hx,Nat.lt_of_lt_of_le (ha.lt x hx).2 F67.size⟩) hN ⟨rg4.gen,rg4.par,by simp,by simp,t4.1⟩
  generalize cl o2 (rowOf (slV a)) (10+4*i)=o7 at h7 e7
  rw [setS_setS] at h7
  have e17:EvC (Cl S) w1 o w7 o7:=e24.trans Cl_zero h1.lt (fun _ _ h=>h) (e7.mono fun c hc=>nd hc)
  have E7:EvC (Cl S) w o w7 o7:=tr (EvC.below hb1) e17
  have B7:=g4k e17 b4
  simp only [Addr.add_mk,Nat.zero_add,NonNil_some,B7.cell,lds]
  clear hN F47 F47b F67 b7 b6 f6 f7 hn ha hats D5 hd4 B4 e4 e3 h3 h4 hb5 E4d E4 e24
  have hok7:okSl ⟨g,true,1,nm,attrs,noB,p,[]⟩:=⟨by rw [hkk] at ok1;unfold ownF at ok1 ⊢;exact ok1,.inl ⟨rfl,rfl⟩⟩
  obtain⟨M7,hs7⟩:=one_wf (s:=⟨g,true,1,nm,attrs,noB,p,[]⟩) hok7 rfl rfl rfl hg.symm hw hA hpp hc (by omega) (by omega)
  rw [hi] at M7 hs7
  generalize hsl7:(roomF S.D.sl).set i ⟨g,true,1,nm,attrs,noB,p,[]⟩=sl7 at M7 hs7
  have hD7:(S2.setS i ⟨g,true,e.kind,e.nm,attrs,noB,p,[]⟩).D={ S.D with sl:=sl7 }:=by rw [hDS,←hsl7,t1,hkk,t2]
  have p7:PI (S2.setS i ⟨g,true,e.kind,e.nm,attrs,noB,p,[]⟩):=p2.set k2 rfl rfl
  have hbs7:(S2.setS i ⟨g,true,e.kind,e.nm,attrs,noB,p,[]⟩).bs=S2.bs:=rfl
  generalize S2.setS i ⟨g,true,e.kind,e.nm,attrs,noB,p,[]⟩=S7 at h7 hD7 p7 hbs7
  generalize hH:freshH S.D.sl=hh0 at *
  have hc7:Ch (slA sl7) hh0 (c+1):=.succ hne hs7 (hc.mono fun y t hy=>⟨t,M7.ext y t hy,rfl⟩)
  have mt7:=M7.tk
  have hmake:makeF (.mk kind nm attrs text kids) p S.D.sl=makesF kids hh0 i sl7:=by
   unfold makeF
   rw [if_neg hk1,hi,hg,hkk,hsl7,hH]
  rw [hmake] at hK
  have WK:∀k,k≤kids.length→WfS (makesF (kids.take k) hh0 i sl7)∧WfA (slA (makesF (kids.take k) hh0 i sl7)) S.D.roots (hh0 :: loose)∧(∃ks,slA (makesF (kids.take k) hh0 i sl7) hh0=some { (⟨g,true,1,nm,attrs,noB,p,[]⟩:Sl) with kids:=[]++ks })∧tk (makesF (kids.take k) hh0 i sl7)=tk sl7+szL (kids.take k)∧(∀y t,slA S.D.sl y=some t→slA (makesF (kids.take k) hh0 i sl7) y=some t):=fun k hk=>by
   have ht2:=szL_take kids k
   have hd2:=dpL_take kids k
   obtain⟨r1,r2,r3,r4,r5,r6⟩:=makes_wf (kids.take k) (fun x hx {sl loose p c}=>make_wf x (roots:=S.D.roots)) (sl:=sl7) (loose:=hh0 :: loose) (h:=hh0) (c:=c+1) (i:=i) (okL_take _ _ (ok3 hkk)) M7.wfs M7.wf hh hs7 rfl hc7 (by omega) (by omega)
   refine⟨r1,r2,r4,r5,fun y t hy=>r3 y t ?_ (M7.ext y t hy)⟩
   rintro rfl
   have:=M7.new
   rw [this] at hy;cases hy
  refine⟨fun j w'=>∃(k:Nat) (o':Nat→Nat) (S':PS),j=k∧k≤kids.length∧PM w' o' θ S'∧PI S'∧S'.D={ S.D with sl:=makesF (kids.take k) hh0 i sl7 }∧(∃y,S'.bs=S2.bs++y)∧EvC (Cl S) w1 o w' o',fun j _=>kids.length-j.toNat,
   ⟨0,o7,S7,rfl,by omega,h7,p7,by simpa [makesF] using hD7,⟨[],by simp [hbs7]⟩,e17⟩,?_⟩
  rintro j w8 ⟨k,o8,S8,rfl,hk8,h8,p8,hD8,⟨y8,hy8⟩,e8⟩
  unfold F122_l8
  have hsub8:Sub (wc o w) (wc o8 w8):=EvP.sub ((tr (EvC.below hb1) e8).mono fun c h=>h.1)
  have hr8:Rd LE5 w8 e.kids.1 e.kids.2.2 es:=sub_of_only.rd (hsub8.rd t7)
  refine brd (fun hlt8=>?_) (fun hge8=>?_)
  rotate_left
  ·have hk9:k=kids.length:=by omega
   subst hk9
   rw [List.take_length] at hD8
   have:=hK w8 o8 S8 h8 p8 hD8 ⟨y2++y8,by rw [hy8,hy2,List.append_assoc]⟩ (tr (EvC.below hb1) e8)
   rw [hfinp ⟨y8,hy8⟩] at this
   exact this
  ·have hk9:k < kids.length:=by omega
   have hk10:k < es.length:=by omega
   obtain⟨r1,r2,⟨ks,r4⟩,r5,r6⟩:=WK k hk8
   have hsnoc:=makesF_snoc (x:=kids[k]) (h:=hh0) (i:=i) (kids.take k) sl7
   generalize hslk:makesF (kids.take k) hh0 i sl7=slk at *
   have hsl8:S8.D.sl=slk:=by rw [hD8]
   have hro8:S8.D.roots=S.D.roots:=by rw [hD8]
   rw [List.nil_append] at r4
   have hs8:slA S8.D.sl hh0=some ⟨g,true,1,nm,attrs,noB,p,ks⟩:=by rw [hsl8];exact r4
   refine hr8.e5 t6 rfl (k:=k) hk10 fun bb oo c0 c1 c2 c3 c4=>?_
   simp only [Addr.add_mk,Nat.zero_add,c0,c1,c2,c3,c4,lds]
   refine al fun kb w9 hb9 bk9 hge9=>?_
   refine st_blk bk9 (by simp) fun u1 q1 f1=>st_blk q1 (by simp) fun u2 q2 f2=>st_blk q2 (by simp) fun u3 q3 f3=>st_blk q3 (by simp) fun u4 q4 f4=>st_blk q4 (by simp) fun w10 q5 f5=>?_
   simp only [List.setIfInBounds_toArray,List.set_cons_zero,List.set_cons_succ] at q5
   have FK:Fm (·=kb) w9 w10:=(((f1.trans f2).trans f3).trans f4).trans f5
   have D10:Below w8.heap.size w8 w10:=hb9.trans (FK.toBelow hb9.size fun b hb e=>by have e:b=kb:=e;omega)
   have D10d:Below w8.heap.size w8 w10.drew:=btr D10 D10.size ((Below.refl _ _).drew)
   have h10:=h8.below D10d
   obtain⟨i8,i8a,i8b,i8c,i8d⟩:=h10.of hs8
   obtain rfl:i=i8:=by omega
   have hpb8:pb S8.bs hh0=b:=hfin ⟨y8,hy8⟩
   rw [hpb8] at i8b
   obtain⟨v,cv,ov,rv,lv⟩:=h10.list (.inr i8d)
   have hlad:lad θ.g S8.bs hh0=⟨b,8,none⟩:=by unfold lad;rw [if_neg hne,hpb8]
   rw [hlad] at cv
   have okb:o8 kb=0:=Classical.byContradiction fun h0=>by have:=h8.lt kb h0;omega
   simp only [Addr.add_mk,Nat.zero_add,NonNil_some]
   refine⟨fun w'=>w'.cell? ⟨b,8,none⟩=some (slV v)∧Blk w' kb #[.int .i64 es[k].kind,.string es[k].nm,slV es[k].ats,.string es[k].text,slV es[k].kids] 84,⟨cv,q5⟩,?_⟩
   refine⟨_,_,_,fun w' hw'=>hw'.1,?_⟩
   refine⟨_,fun w' hw'=>by rw [hw'.2.cell];rfl,?_⟩
   refine⟨_,fun w' hw'=>by rw [hw'.2.cell];rfl,?_⟩
   refine⟨_,_,_,fun w' hw'=>by rw [hw'.2.cell];rfl,?_⟩
   refine⟨_,fun w' hw'=>by rw [hw'.2.cell];rfl,?_⟩
   refine⟨_,_,_,fun w' hw'=>by rw [hw'.2.cell];rfl,?_⟩
   have hdk:=dpL_get kids k hk9
   have hzk:=szL_get kids k hk9
   have hA8:WfA (slA S8.D.sl) S8.D.roots (hh0 :: loose):=by rw [hsl8,hro8];exact r2
   have hw8:WfS S8.D.sl:=by rw [hsl8];exact r1
   have hck:Ch (slA S8.D.sl) hh0 (c+1):=by
    rw [hsl8]
    exact .succ hne r4 (hc.mono fun y t hy=>⟨t,r6 y t hy,rfl⟩)
   have om1:c+1+dpT kids[k]≤64:=by omega
   have om2:tk S8.D.sl+szT kids[k]≤4096:=by rw [hsl8];omega
   have key:=fun R=>ih kids[k] (List.getElem_mem hk9) (w:=w10.drew) (o:=o8) (S:=S8) (p:=hh0) (c:=c+1) (loose:=hh0 :: loose) (e:=es[k]) (R:=R) h10 p8 (okL_get kids k hk9 (ok3 hkk)) hw8 hA8 (.inr ⟨_,hs8,rfl⟩) hck om1 om2
    (RTr.sub (EvP.sub (EvC.below D10d)) _ _ (RTr.sub hsub8 _ _ (t8.get k hk9 hk10)))
   rw [hfinp ⟨y8,hy8⟩] at key
   refine key _ fun w11 o11 S11 h11 p11 hD11 ⟨y11,hy11⟩ e11=>⟨_,rfl,?_⟩
   clear key
   have hlive8:∃s,S8.D.sl[i]?=some s∧s.live=true:=⟨_,i8c,slA_live hs8⟩
   have hbk:w11.heap[b]?=w10.drew.heap[b]?:=e11.fm.block b (Array.getElem?_eq_some_iff.1 (h10.nodes i b _ i8b i8c).choose_spec.choose_spec.blk).1 (by
    rw [h10.nc i b i8b]
    rintro ⟨_,hc⟩
    exact hc i _ i8c (slA_live hs8) rfl)
   have hcell:w11.cell? ⟨b,8,none⟩=some (slV v):=by
    rw [←cv];unfold World.cell?;rw [hbk]
   have hkb:Blk w11 kb #[.int .i64 es[k].kind,.string es[k].nm,slV es[k].ats,.string es[k].text,slV es[k].kids] 84:=e11.fm.blk (show Blk w10.drew kb _ _ from q5) (by rw [okb];exact Cl_zero)
   have Mk:=make_wf kids[k] (okL_get kids k hk9 (ok3 hkk)) hw8 hA8 (.inr ⟨_,hs8,rfl⟩) hck om1 om2
   have hne2:freshH S8.D.sl≠0:=by unfold freshH hnd;omega
   have hptr:ptrH S11.bs (freshH S8.D.sl)=some ⟨pb S11.bs (freshH S8.D.sl),0,none⟩:=by unfold ptrH;rw [if_neg hne2]
   rw [hptr]
   have hsl11:S11.D.sl=makeF kids[k] hh0 S8.D.sl:=by rw [hD11]
   have hro11:S11.D.roots=S.D.roots:=by rw [hD11,hD8]
   have hs11:slA S11.D.sl hh0=some ⟨g,true,1,nm,attrs,noB,p,ks⟩:=by rw [hsl11];exact Mk.ext _ _ hs8
   obtain⟨i11,i11a,i11b,i11c,i11d⟩:=h11.of hs11
   obtain rfl:i=i11:=by omega
   have hpb11:pb S11.bs hh0=b:=hfin ⟨y8++y11,by rw [hy11,hy8,List.append_assoc]⟩
   rw [hpb11] at i11b
   obtain⟨v11,cv11,ov11,rv11,lv11⟩:=h11.list (.inr i11d)
   have hlad11:lad θ.g S11.bs hh0=⟨b,8,none⟩:=by unfold lad;rw [if_neg hne,hpb11]
   rw [hlad11,hcell] at cv11
   have hvv:v11=v:=by
    obtain⟨a1,a2,a3⟩:=v
    obtain⟨c1,c2,c3⟩:=v11
    unfold slV at cv11
    simp only [Option.some.injEq,Value.slice.injEq] at cv11
    obtain⟨rfl,rfl,rfl⟩:=cv11
    rfl
   subst hvv
   have hlst:lstR S11.D hh0=ks:=by
    unfold lstR
    rw [if_neg hne,hh,Nat.add_sub_cancel,i11c]
   rw [hlst] at ov11
   refine⟨⟨hcell,hkb⟩,al fun g57 w12 hb12 b57 hge57=>⟨⟨by rw [(sub_below hb12).cell hcell],hkb.keep hb12⟩,?_⟩⟩
   obtain⟨A9,c9,hv9,hr9⟩:=ov11.form
   have hlen9:(ks.map (pb S11.bs)).length=ks.length:=List.length_map _
   have hks4:ks.length≤S8.D.sl.length:=live_few (fun x hx=>by
    obtain⟨_,t,ht,_⟩:=(hA8.kid hh0 _ hs8).2 x hx
    exact⟨t,ht⟩) (hA8.kid hh0 _ hs8).1
   have hfew8:=h8.few
   have hO12:Own LPt w12 0 152 (slV v11) (ks.map (pb S11.bs)):=ov11.keep hb12
   refine ap (L:=LPt) (xs:=ks.map (pb S11.bs)) (ys:=[pb S11.bs (freshH S8.D.sl)]) (base:=0) (v:=slV v11) (.pointer none) 8 rfl (by kernel_rfl) (by kernel_rfl) (by kernel_rfl) hO12 ?_ (Nat.zero_le _) (by rw [hlen9];simp;omega) (by rw [hlen9];simp [maxLen];omega) fun A' c' w13 o13 g13=>⟨A',_,c',rfl,?_⟩
   ·refine⟨by simp,by simp [maxLen],fun h0=>(by cases h0),fun _=>⟨g57,0,rfl,fun j u hj=>?_⟩⟩
    rw [LPt.all_one] at hj
    rw [b57.cell];simpa [LPt] using hj
   ·obtain⟨st,hst,hstp⟩:=Mk.top
    have hst11:slA S11.D.sl (freshH S8.D.sl)=some st:=by rw [hsl11];exact hst
    have F13:Fm (fun x=>rowOf (slV v11)=some x) w11 w13:=(Fm.below hb12).trans (Fm.grown g13.grown fun x hx=>hx)
    have hrow13:rowOf (slV (A',(ks.map (pb S11.bs)).length+[pb S11.bs (freshH S8.D.sl)].length,c'))=rowOf (slV v11)∨rowOf (slV (A',(ks.map (pb S11.bs)).length+[pb S11.bs (freshH S8.D.sl)].length,c'))=none∨∃g,rowOf (slV (A',(ks.map (pb S11.bs)).length+[pb S11.bs (freshH S8.D.sl)].length,c'))=some g∧w11.heap.size≤g:=by
     rcases g13.row with e | e | ⟨g,e,hge⟩
     ·exact .inl e
     ·exact .inr (.inl e)
     ·exact .inr (.inr ⟨g,e,by have:=hb12.size;omega⟩)
    have hkin:∀x∈ks++[freshH S8.D.sl],inN S11.D.sl.length x:=fun x hx=>by
     rcases List.mem_append.1 hx with hx | hx
     ·exact (h11.rng _ (List.mem_of_getElem? i11c)).kids x hx
     ·rw [List.mem_singleton] at hx
      subst hx
      obtain⟨_,_,_,_,hin⟩:=h11.of hst11
      exact hin
    have hst14:=fun K=>h11.setList (K:=K) (p:=hh0) (v':=(A',(ks.map (pb S11.bs)).length+[pb S11.bs (freshH S8.D.sl)].length,c')) (l:=ks++[freshH S8.D.sl]) (.inr i11d) rv11 F13 (by rw [List.map_append];exact o13) hrow13 ⟨hkin,by simp;omega⟩
    rw [hlad11] at hst14
    refine hst14 _ fun w14 o14 h14 e14=>⟨inR_i64 (by omega) (by omega),⟨k+1,o14,_,by simp,by omega,h14,?_,?_,⟨y8++y11,?_⟩,?_⟩,(by first | omega | (dsimp only;omega))⟩
    ·-- the counters
     have hi11:=i11c
     have e5:(setI S11.D hh0 (ks++[freshH S8.D.sl])).sl=S11.D.sl.set i ⟨g,true,1,nm,attrs,noB,p,ks++[freshH S8.D.sl]⟩:=by
      unfold setI
      rw [if_neg hne,hh,Nat.add_sub_cancel,modify_set _ _ _ _ hi11]
     have e6:(setI S11.D hh0 (ks++[freshH S8.D.sl])).roots=S11.D.roots:=by
      unfold setI
      rw [if_neg hne]
     have:=p11.set (s':=⟨g,true,1,nm,attrs,noB,p,ks++[freshH S8.D.sl]⟩) hi11 rfl rfl
     refine⟨?_,?_,?_,?_⟩
     ·show S11.lv=liveN (setI _ _ _).sl;rw [e5];exact this.lv
     ·show S11.wn=wornN (setI _ _ _).sl;rw [e5];exact this.wn
     ·show S11.lo≤(setI _ _ _).sl.length;rw [e5];exact this.lo
     ·intro j t hj ht
      have ht:(setI S11.D hh0 (ks++[freshH S8.D.sl])).sl[j]?=some t:=ht
      rw [e5] at ht
      exact this.lo2 j t hj ht
    ·show setI S11.D hh0 (ks++[freshH S8.D.sl])=_
     rw [List.take_succ_eq_append_getElem hk9,hsnoc]
     unfold setI
     rw [if_neg hne,hh,Nat.add_sub_cancel]
     have hi8:(makeF kids[k] hh0 slk)[i]?=some ⟨g,true,1,nm,attrs,noB,p,ks⟩:=by rw [←hsl8,←hsl11];exact i11c
     rw [hD11,hD8]
     dsimp only
     rw [modify_set _ _ _ _ hi8,modify_set _ _ _ _ hi8]
    ·show S11.bs=_
     rw [hy11,hy8,List.append_assoc]
    ·have hC:∀b,b < w1.heap.size→Cl S8 (o b)→Cl S (o b):=fun x _ hx=>⟨hx.1,fun j t hj hl=>by
      have hjl:j+1 < 4294967296:=by
       have:=(List.getElem?_eq_some_iff.1 hj).1
       have:=hw.few
       omega
      have h1:=r6 _ _ (slA_hnd hjl hj hl)
      rw [←hsl8] at h1
      obtain⟨j',j1,j2,j3,j4⟩:=slA_iff.1 h1
      rw [hnd_mod hjl] at j1
      obtain rfl:j'=j:=by omega
      exact hx.2 j' t j2 j3⟩
     have e18:=(e8.trans Cl_zero h1.lt (fun _ _ h=>h) (EvC.below (C:=Cl S) D10d)).trans Cl_zero h1.lt hC e11
     exact e18.trans Cl_zero h1.lt (fun x _ hx=>by
      refine nd ?_
      unfold lcC at hx
      rw [if_neg hne,hh,Nat.add_sub_cancel] at hx
      exact hx) e14
end
set_option maxRecDepth 100000
section
variable {w w1 w2:World}{o o1 o2:Nat→Nat}{θ:Th}{S:PS}{M:Nat→Prop}{bs:List Nat}{R:Ending→World→Prop}
theorem ptrL_H (h0:slA S.D.sl 0=none) {x:Nat} (hx:x=0∨∃s,slA S.D.sl x=some s):ptrL S x=ptrH S.bs x:=by
 unfold ptrL ptrH
 rcases hx with rfl | ⟨s,hs⟩
 ·rw [h0];simp
 ·have:x≠0:=fun e=>by subst e;rw [h0] at hs;cases hs
  rw [hs,if_neg this];simp
theorem lstI_R {p:Nat} (hp:p=0∨∃s,slA S.D.sl p=some s):lstR S.D p=lstI S.D p:=by
 unfold lstR lstI lstA
 by_cases h0:p=0
 ·rw [if_pos h0,if_pos h0]
 ·rw [if_neg h0,if_neg h0]
  obtain⟨s,hs⟩:=hp.resolve_left h0
  obtain⟨k,h1,h2,_⟩:=slA_iff.1 hs
  rw [h1,Nat.add_sub_cancel,h2,hs]
theorem pb_inj (h:PM w o θ S) {x y:Nat}{s t:Sl} (hx:slA S.D.sl x=some s) (hy:slA S.D.sl y=some t) (e:pb S.bs x=pb S.bs y):x=y:=by
 obtain⟨i,i1,i2,i3,_⟩:=h.of hx
 obtain⟨j,j1,j2,j3,_⟩:=h.of hy
 rw [e] at i2
 obtain rfl:=nodup_col h i2 j2
 obtain⟨i',a1,a2,a3,a4⟩:=slA_iff.1 hx
 obtain⟨j',b1,b2,b3,b4⟩:=slA_iff.1 hy
 obtain rfl:i'=i:=by omega
 obtain rfl:j'=i':=by omega
 rw [a2] at b2;cases b2
 exact a4.symm.trans b4
theorem idxOf_map {f:Nat→Nat}{a:Nat}:∀{l:List Nat},(∀x∈l,f x=f a→x=a)→(l.map f).idxOf (f a)=l.idxOf a
 | [],_=>rfl
 | x :: l,h=>by
  rw [List.map_cons,List.idxOf_cons,List.idxOf_cons]
  by_cases e:x=a
  ·subst e;simp
  ·have h1:f x≠f a:=fun e2=>e (h x (by simp) e2)
   have e1:(f x == f a)=false:=by simpa using h1
   have e2:(x == a)=false:=by simpa using e
   rw [e1,e2]
   simp only [cond_false]
   rw [idxOf_map fun y hy=>h y (by simp [hy])]
theorem take_drop_erase {a:Nat}:∀{l:List Nat},a∈l→l.take (l.idxOf a)++l.drop (l.idxOf a+1)=l.erase a
 | [],h=>by simp at h
 | x :: l,h=>by
  rw [List.idxOf_cons,List.erase_cons]
  by_cases e:x=a
  ·subst e;simp
  ·have e2:(x == a)=false:=by simpa using e
   rw [e2]
   simp only [cond_false,List.take_succ_cons,List.drop_succ_cons,List.cons_append,Bool.false_eq_true,if_false]
   rw [take_drop_erase ((List.mem_cons.1 h).resolve_left (Ne.symm e))]
theorem pb_cells (h:PM w o θ S) {x:Nat}{s:Sl} (hx:slA S.D.sl x=some s):∃c t,w.heap[pb S.bs x]?=some (.cells c t (0,0)):=by
 obtain⟨i,i1,i2,i3,_⟩:=h.of hx
 obtain⟨a,kv,hn⟩:=h.nodes _ _ _ i2 i3
 exact⟨_,_,hn.blk⟩
theorem idxH_calls (h:PM w o θ S) {l:List Nat}{v:Sv}{a:Nat}{s:Sl} (hv:v.2.1=l.length) (hr:Rd LPt w v.1 v.2.2 (l.map (pb S.bs))) (hl:l.length≤1048576) (ha:slA S.D.sl a=some s) (hll:∀x∈l,∃t,slA S.D.sl x=some t) (hm:a∈l)
  (hK:R (.returned (.int .i64 (l.idxOf a:Nat))) w):Calls Tryz.prog 160 #[slV v,.pointer (some ⟨pb S.bs a,0,none⟩)] w R:=by
 refine idx_calls (l:=l.map (pb S.bs)) (by rw [List.length_map];exact hv) hr (by rw [List.length_map];exact hl) (fun x hx=>?_) (List.mem_map.2 ⟨a,hm,rfl⟩) ?_
 ·rcases hx with rfl | hx
  ·exact pb_cells h ha
  ·obtain⟨y,hy,rfl⟩:=List.mem_map.1 hx
   obtain⟨t,ht⟩:=hll y hy
   exact pb_cells h ht
 ·rw [idxOf_map fun x hx e=>?_]
  ·exact hK
  ·obtain⟨t,ht⟩:=hll x hx
   exact pb_inj h ht ha e
theorem put_calls (h:PM w o θ S) {n p a:Nat}{wh:Int}{s:Sl} (hn:slA S.D.sl n=some s) (hp:p=0∨∃t,slA S.D.sl p=some t) (hll:∀x∈lstI S.D p,∃t,slA S.D.sl x=some t) (hfew:(lstI S.D p).length≤4096)
  (ha:2 < wh→a∈lstI S.D p) (hnp:n≠p)
  (hK:∀w' o',PM w' o' θ { S with D:=updI (putI S.D n p wh a) n fun s=>{ s with parent:=p } }→EvP w o w' o'→R (.returned (.tuple #[])) w') :
  Calls Tryz.prog 123 #[.pointer (some ⟨θ.g,0,none⟩),.pointer (some ⟨pb S.bs n,0,none⟩),.pointer (ptrH S.bs p),.int .i64 wh,.pointer (ptrH S.bs a)] w R:=by
 obtain⟨i,i1,i2,i3,i4⟩:=h.of hn
 have hpn:p=0∨inN S.D.sl.length p:=by
  rcases hp with e | ⟨t,ht⟩
  ·exact .inl e
  ·obtain⟨_,_,_,_,hin⟩:=h.of ht;exact .inr hin
 refine ok123 (some ⟨θ.g,0,none⟩) (some ⟨pb S.bs n,0,none⟩) (ptrH S.bs p) wh (ptrH S.bs a) ?_
 unfold F123
 refine list_calls ⟨_,rfl,?_⟩
 obtain⟨v,cv,ov,rv,lv⟩:=h.list hpn
 rw [lstI_R hp] at ov lv
 generalize hL:lstI S.D p=l at *
 obtain⟨A,c,hv,hr⟩:=ov.form
 have hv2:v=(A,l.length,c):=by
  obtain⟨a1,a2,a3⟩:=v
  unfold slV at hv
  simp only [Value.slice.injEq,List.length_map] at hv
  obtain⟨rfl,rfl,rfl⟩:=hv
  rfl
 have cv':w.cell? (lad θ.g S.bs p)=some (.slice A l.length c):=by rw [cv,hv2];rfl
 rw [hv2] at ov rv
 have hpos:posF wh a l≤l.length:=by
  unfold posF
  split
  ·omega
  ·split
   ·exact List.idxOf_le_length
   ·split
    ·have:=List.idxOf_lt_length_iff.2 (ha (by omega));omega
    ·omega
 refine⟨fun j w'=>w=w'∧j=(posF wh a l:Nat),?_,?_⟩
 ·rintro j _ ⟨rfl,rfl⟩
  unfold F123_j9
  simp only [NonNil_some,cv',LdSl_some]
  refine al fun gx w1 hb1 bx hgex=>?_
  have h1:=h.below hb1
  refine insP_calls (x:=pb S.bs n) (ov.keep hb1) (by rw [List.length_map];exact hpos) bx rfl (fun e=>by
   have:=rv gx e
   have:=h.lt gx (by unfold lcl at this;split at this <;> omega)
   omega) (by rw [List.length_map];omega) fun v' w2 o2 f2 r2=>⟨_,_,_,rfl,?_⟩
  rw [←List.map_take,←List.map_drop,←List.map_cons,←List.map_append] at o2
  refine h1.setList (v':=v') (l:=insAt l (posF wh a l) n) hpn rv f2 o2 r2 ⟨fun x hx=>?_,?_⟩ fun w3 o3 h3 e3=>?_
  ·rcases mem_insAt.1 hx with rfl | hx
   ·exact i4
   ·obtain⟨t,ht⟩:=hll x hx
    obtain⟨_,_,_,_,hin⟩:=h.of ht
    exact hin
  ·unfold insAt;simp;omega
  ·have e4:slA (setI S.D p (insAt l (posF wh a l) n)).sl n=some s:=by
    rw [(setI_A (l:=insAt l (posF wh a l) n) hp).1,setA_of hn,if_neg (fun e=>hnp e.1)]
   obtain⟨j,j1,j2,j3,j4⟩:=h3.of e4
   obtain rfl:i=j:=by omega
   simp only [NonNil_some,Addr.add_mk,Nat.zero_add]
   have hlen3:(setI S.D p (insAt l (posF wh a l) n)).sl.length=S.D.sl.length:=by
    unfold setI;split
    ·rfl
    ·simp
   have:=fun K=>h3.stPar (K:=K) j2 j3 (p:=p) (by dsimp only;rw [hlen3];exact hpn)
   refine this _ fun w4 h4 e4'=>?_
   refine hK w4 o3 ?_ (EvP.trans (EvP.trans (EvC.below hb1) (e3.mono fun c hc=>?_)) (e4'.mono fun c hc=>?_))
   ·have e5:({ S with D:=setI S.D p (insAt l (posF wh a l) n) }:PS).setS i { s with parent:=p }={ S with D:=updI (putI S.D n p wh a) n fun s=>{ s with parent:=p } }:=by
     unfold PS.setS updI putI
     rw [hL,i1,Nat.add_sub_cancel,modify_set _ _ _ _ j3]
    rw [←e5];exact h4
   ·unfold lcC at hc
    unfold pc
    split at hc <;> omega
   ·unfold pc;omega
 ·refine bre (fun h2=>?_) (fun h2=>bre (fun h3=>?_) (fun h3=>bre (fun h4=>?_) (fun h4=>?_)))
  ·simp only [NonNil_some,cv',LdSl_some]
   exact⟨trivial,by unfold posF;rw [if_pos h2]⟩
  ·simp only [NonNil_some,cv',LdSl_some]
   have ham:=ha (by omega)
   obtain⟨t,ht⟩:=hll a ham
   have a0:ptrH S.bs a=some ⟨pb S.bs a,0,none⟩:=by
    unfold ptrH;rw [if_neg]
    rintro rfl;rw [slA_zero] at ht;cases ht
   rw [a0]
   refine idxH_calls (v:=(A,l.length,c)) h rfl hr lv ht hll ham ⟨_,rfl,rfl,?_⟩
   unfold posF;rw [if_neg h2,if_pos h3]
  ·simp only [NonNil_some,cv',LdSl_some]
   have ham:=ha (by omega)
   obtain⟨t,ht⟩:=hll a ham
   have a0:ptrH S.bs a=some ⟨pb S.bs a,0,none⟩:=by
    unfold ptrH;rw [if_neg]
    rintro rfl;rw [slA_zero] at ht;cases ht
   rw [a0]
   have hlt:=List.idxOf_lt_length_iff.2 ham
   refine idxH_calls (v:=(A,l.length,c)) h rfl hr lv ht hll ham ⟨_,rfl,inR_i64 (by omega) (by omega),rfl,?_⟩
   unfold posF;rw [if_neg h2,if_neg h3,if_pos h4];omega
  ·exact⟨rfl,by unfold posF;rw [if_neg h2,if_neg h3,if_neg h4];rfl⟩
end
set_option maxRecDepth 100000
theorem Tabs.sub {w w1:World} (h:Tabs w) (hs:Sub w w1):Tabs w1:=⟨fun c hc=>hs.cell (h.1 c hc),fun i hi=>⟨hs.cell (h.2 i hi).1,hs.cell (h.2 i hi).2⟩⟩
theorem looks_app:∀(l m:List Tr) (deep n:Nat),looksF (l++m) deep n=if (looksF l deep n).2≠0 then looksF l deep n else looksF m deep (looksF l deep n).1
 | [],m,deep,n=>by simp [looksF]
 | x :: l,m,deep,n=>by
  rw [List.cons_append,looksF]
  conv=>rhs;rw [looksF]
  by_cases h:(lookF x deep n).2≠0
  ·simp only [if_pos h]
  ·simp only [if_neg h]
   exact looks_app l m deep _
theorem dpL_snoc (l:List Tr) (x:Tr):dpL (l++[x])=max (dpL l) (dpT x):=by
 induction l with
 | nil=>simp [dpL]
 | cons y l ih=>simp only [List.cons_append,dpL,ih];omega
theorem subB {w w':World}{gl:Nat} (hf:Fm (·=gl) w w'):Sub (but gl w) (but gl w') :=
 sub_only (fun b _ h=>h) fun b hb h=>hf.block b hb fun e=>by
  have e:b=gl:=e
  subst e
  rw [show Nat.beq b b=true from Nat.beq_refl b] at h;cases h
theorem look_calls:∀(x:Tr) {w:World}{gl deep n md:Nat}{e:E5}{R:Ending→World→Prop},Blk w gl #[.int .i64 (n:Nat),.int .i64 (md:Nat)] 222→RTr (but gl w) x e→Tabs (but gl w)→n≤4096→deep≤65→1≤deep→md≤65 →
  (∀w' n' md',Fm (·=gl) w w'→Blk w' gl #[.int .i64 (n':Nat),.int .i64 (md':Nat)] 222→n'=(lookF x deep n).1→((lookF x deep n).2=0→md'=max md (deep+dpT x-1))→R (.returned (.int .i64 (lookF x deep n).2)) w') →
  Calls Tryz.prog 120 #[.pointer (some ⟨gl,0,none⟩),.agg #[.int .i64 e.kind,.string e.nm,slV e.ats,.string e.text,slV e.kids],.int .i64 (deep:Nat)] w R:=by
 refine Tr.ind fun kind nm attrs text kids ih=>?_
 intro w gl deep n md e R hB hT hTb hn hd hd1 hmd hK
 have hT0:=hT
 simp only [RTr] at hT
 obtain⟨t1,t2,t3,t4,t5,es,t6,t7,t8⟩:=hT
 have hel:=t8.len
 refine ok120 (some ⟨gl,0,none⟩) e.kind e.nm e.ats.1 e.ats.2.1 e.ats.2.2 e.text e.kids.1 e.kids.2.1 e.kids.2.2 (deep:Nat) ?_
 unfold F120
 refine al fun g4 w1 hb1 b4 hge4=>?_
 have hgl:=hB.lt
 have hB1:=hB.keep hb1
 have hne4:g4≠gl:=by omega
 have hlook:lookF (.mk kind nm attrs text kids) deep n=if 64 < deep∨4096≤n then (n,2) else if ownF kind nm attrs text≠0 then (n,ownF kind nm attrs text) else if kind=2 then (n+1,0) else looksF kids (deep+1) (n+1):=by rw [lookF]
 refine⟨fun w'=>w1=w'∧¬(64 < deep∨4096≤n),?_,?_⟩
 ·rintro _ ⟨rfl,hlim⟩
  rw [if_neg hlim] at hlook
  unfold F120_j3
  simp only [Addr.add_mk,Nat.zero_add,NonNil_some,b4.cell,lds]
  have hs1:Sub (but gl w) (but gl w1):=subB (.below hb1)
  refine own1_calls e.kind e.nm attrs e.ats e.text e.kids ((hTb.sub hs1).sub sub_of_only) ((t4.sub hs1).sub sub_of_only) fun w2 hb2=>⟨_,rfl,?_⟩
  rw [t1,t2,t3]
  have hB2:=hB1.keep hb2
  have b42:=b4.keep hb2
  refine brn (fun hne=>?_) (fun heq=>?_)
  ·rw [if_pos hne] at hlook
   have:=hK w2 n md (.below (btr hb1 hb1.size hb2)) hB2 (by rw [hlook]) (fun h=>by rw [hlook] at h;exact absurd h hne)
   rw [hlook] at this;exact this
  rw [if_neg (by rw [heq];simp)] at hlook
  simp only [Addr.add_mk,Nat.zero_add,NonNil_some,hB2.cell,lds]
  have e5:((n:Nat):Int)+1=((n+1:Nat):Int):=by omega
  rw [e5]
  refine⟨inR_i64 (by omega) (by omega),st_blk hB2 (by simp) fun w3 hB3 f3=>?_⟩
  simp only [List.setIfInBounds_toArray,List.set_cons_zero,List.set_cons_succ] at hB3
  simp only [Addr.add_mk,Nat.zero_add,NonNil_some,hB3.cell,lds]
  refine st_blk hB3 (by simp) fun w4 hB4 f4=>?_
  simp only [List.setIfInBounds_toArray,List.set_cons_zero,List.set_cons_succ] at hB4
  have e6:(if ((deep:Nat):Int) > ((md:Nat):Int) then ((deep:Nat):Int) else ((md:Nat):Int))=((max md deep:Nat):Int):=by
   split <;> omega
  rw [e6] at hB4
  have F4:Fm (·=gl) w w4:=((Fm.below (btr hb1 hb1.size hb2)).trans f3).trans f4
  have b44:Blk w4 g4 _ 84:=(f3.trans f4).blk b42 (fun e=>hne4 e)
  simp only [Addr.add_mk,Nat.zero_add,NonNil_some,b44.cell,lds]
  have hpos:dpT (.mk kind nm attrs text kids)=if kind=2 then 1 else 1+dpL kids:=by rw [dpT]
  refine bre (fun hk=>?_) (fun hk=>?_)
  ·rw [if_pos (by rw [←t1];exact hk)] at hlook hpos
   have:=hK w4 (n+1) (max md deep) F4 hB4 (by rw [hlook]) (fun _=>by rw [hpos];omega)
   rw [hlook] at this;exact this
  ·rw [if_neg (by rw [←t1];exact hk)] at hlook hpos
   refine⟨fun j w'=>∃k n' md':Nat,j=k∧k≤kids.length∧Fm (·=gl) w w'∧Blk w' gl #[.int .i64 (n':Nat),.int .i64 (md':Nat)] 222∧(looksF (kids.take k) (deep+1) (n+1)).2=0∧n'=(looksF (kids.take k) (deep+1) (n+1)).1∧md'=max (max md deep) (deep+dpL (kids.take k))∧n'≤4096∧md'≤65,fun j _=>kids.length-j.toNat,
    ⟨0,n+1,max md deep,rfl,by omega,F4,hB4,by simp [looksF],by simp [looksF],by simp [dpL],by omega,by omega⟩,?_⟩
   rintro j w5 ⟨k,n5,md5,rfl,hk5,F5,hB5,q1,q2,q3,q4,q5⟩
   unfold F120_l11
   have hs5:Sub (but gl w) (but gl w5):=subB F5
   have hr5:Rd LE5 w5 e.kids.1 e.kids.2.2 es:=sub_of_only.rd (hs5.rd t7)
   refine brd (fun hlt=>?_) (fun hge=>?_)
   ·have hk6:k < kids.length:=by omega
    have hk7:k < es.length:=by omega
    refine hr5.e5 t6 rfl (k:=k) hk7 fun bb oo c0 c1 c2 c3 c4=>?_
    simp only [Addr.add_mk,Nat.zero_add,c0,c1,c2,c3,c4,lds]
    refine al fun kb w6 hb6 bk6 hge6=>?_
    refine st_blk bk6 (by simp) fun u1 s1 f1=>st_blk s1 (by simp) fun u2 s2 f2=>st_blk s2 (by simp) fun u3 s3 f3=>st_blk s3 (by simp) fun u4 s4 f4=>st_blk s4 (by simp) fun w7 s5 f5=>?_
    simp only [List.setIfInBounds_toArray,List.set_cons_zero,List.set_cons_succ] at s5
    have FK:Fm (·=kb) w6 w7:=(((f1.trans f2).trans f3).trans f4).trans f5
    have D7:Below w5.heap.size w5 w7:=hb6.trans (FK.toBelow hb6.size fun b hb e=>by have e:b=kb:=e;omega)
    simp only [Addr.add_mk,Nat.zero_add,NonNil_some,s5.cell,lds]
    have e8:((deep:Nat):Int)+1=((deep+1:Nat):Int):=by omega
    rw [e8]
    have hs7:Sub (but gl w) (but gl w7):=hs5.trans (subB (.below D7))
    refine⟨inR_i64 (by omega) (by omega),?_⟩
    refine ih kids[k] (List.getElem_mem hk6) (gl:=gl) (n:=n5) (md:=md5) (e:=es[k]) (hB5.keep D7) (RTr.sub hs7 _ _ (t8.get k hk6 hk7)) (hTb.sub hs7) q4 (by omega) (by omega) q5 fun w8 n8 md8 F8 hB8 z1 z2=>⟨_,rfl,?_⟩
    have F58:Fm (·=gl) w w8:=(F5.trans (.below D7)).trans F8
    have hst:=looks_app (kids.take k) [kids[k]] (deep+1) (n+1)
    rw [if_neg (by rw [q1];simp),←q2] at hst
    have hst2:looksF [kids[k]] (deep+1) n5=lookF kids[k] (deep+1) n5:=by
     rw [looksF]
     by_cases h:(lookF kids[k] (deep+1) n5).2≠0
     ·rw [if_pos h]
     ·rw [if_neg h,looksF]
      have h:(lookF kids[k] (deep+1) n5).2=0:=by simpa using h
      rw [←h]
    rw [hst2,←List.take_succ_eq_append_getElem hk6] at hst
    refine brn (fun hne=>?_) (fun heq=>?_)
    ·have hall:=looks_app (kids.take (k+1)) (kids.drop (k+1)) (deep+1) (n+1)
     rw [List.take_append_drop,hst,if_pos hne] at hall
     rw [hall] at hlook
     have:=hK w8 n8 md8 F58 hB8 (by rw [hlook];exact z1) (fun h=>by rw [hlook] at h;exact absurd h hne)
     rw [hlook] at this;exact this
    ·obtain⟨a1,a2,a3,a4⟩:=look_ok kids[k] (deep+1) n5 heq
     have z2:=z2 heq
     refine⟨inR_i64 (by omega) (by omega),⟨k+1,n8,md8,by simp,by omega,F58,hB8,by rw [hst];exact heq,by rw [hst];exact z1,?_,by omega,by omega⟩,(by first | omega | (dsimp only;omega))⟩
     rw [List.take_succ_eq_append_getElem hk6,dpL_snoc]
     omega
   ·have hk6:k=kids.length:=by omega
    subst hk6
    rw [List.take_length] at q1 q2 q3
    have:=hK w5 n5 md5 F5 hB5 (by rw [hlook];exact q2) (fun _=>by rw [hpos];omega)
    rw [hlook,q1] at this;exact this
 ·have hbad:(64 < deep∨4096≤n)→R (.returned (.int .i64 2)) w1:=fun h=>by
   rw [if_pos h] at hlook
   have:=hK w1 n md (.below hb1) hB1 (by rw [hlook]) (fun h=>by rw [hlook] at h;cases h)
   rw [hlook] at this;exact this
  refine brd (fun h=>hbad (.inl (by omega))) (fun h=>?_)
  simp only [Addr.add_mk,Nat.zero_add,NonNil_some,hB1.cell,lds]
  exact brd (fun h2=>hbad (.inr (by omega))) (fun h2=>⟨trivial,by omega⟩)
section
variable {w w1 w2:World}{o o1 o2:Nat→Nat}{θ:Th}{S:PS}{M:Nat→Prop}{bs:List Nat}{R:Ending→World→Prop}
end
set_option maxRecDepth 100000
section
variable {w w1 w2:World}{o o1 o2:Nat→Nat}{θ:Th}{S:PS}{M:Nat→Prop}{bs:List Nat}{R:Ending→World→Prop}
theorem lst_live {loose:List Nat} (hA:WfA (slA S.D.sl) S.D.roots loose) (p:Nat):∀x∈lstI S.D p,∃t,slA S.D.sl x=some t:=fun x hx=>by
 obtain⟨_,t,ht,_⟩:=(hA.lst p).2 x hx
 exact⟨t,ht⟩
theorem lst_few {loose:List Nat} (hw:WfS S.D.sl) (hA:WfA (slA S.D.sl) S.D.roots loose) (p:Nat):(lstI S.D p).length≤4096 :=
 Nat.le_trans (live_few (lst_live hA p) (hA.lst p).1) hw.few
theorem upd_same {D:Im}{n:Nat}{f:Sl→Sl}{s:Sl} (hn:slA D.sl n=some s) (hf:f s=s):updI D n f=D:=by
 obtain⟨k,h1,h2,_⟩:=slA_iff.1 hn
 unfold updI
 rw [h1,Nat.add_sub_cancel,modify_set _ _ _ _ h2,hf]
 have:D.sl.set k s=D.sl:=by
  refine List.ext_getElem? fun j=>?_
  by_cases e:k=j
  ·subst e;rw [List.getElem?_set_self (List.getElem?_eq_some_iff.1 h2).1,h2]
  ·rw [List.getElem?_set_ne e]
 rw [this]
theorem insert_calls (h:PM w o θ S) (hp:PI S) (hw:Wf S.D) (hT:Tabs (wc o w)) {x:Tr}{e:E5} (hx:RTr (wc o w) x e) {wh:Int}{a:Nat} (ha:a < 18446744073709551616)
  (hK:∀w' o' S',PM w' o' θ S'→PI S'→S'.D=(insF S.D wh a x).1→EvP w o w' o'→R (.returned (.tuple #[.int .u64 ((insF S.D wh a x).2.1:Nat),.int .i64 (insF S.D wh a x).2.2])) w') :
  Calls Tryz.prog 73 #[.pointer (some ⟨θ.g,0,none⟩),.int .i64 wh,.int .u64 (a:Nat),.agg #[.int .i64 e.kind,.string e.nm,slV e.ats,.string e.text,slV e.kids]] w R:=by
 have h00:=slA_zero S.D.sl
 have hfewS:=h.few
 refine ok73 (some ⟨θ.g,0,none⟩) wh (a:Nat) e.kind e.nm e.ats.1 e.ats.2.1 e.ats.2.2 e.text e.kids.1 e.kids.2.1 e.kids.2.2 ?_
 unfold F73
 refine al fun g7 w1 hb1 b7 hge7=>?_
 have h1:=h.below hb1
 refine shaped_calls ⟨_,rfl,?_⟩
 rw [Bool.not_not]
 have hpl:(placeF S.D wh a)=if wh < 1∨4 < wh∨(a=0∧2 < wh) then ((0,1):Nat × Int) else if a=0 then (0,0) else match slA S.D.sl a with
  | none=>(0,8)
  | some s=>if wh≤2 then (if s.kind=2 then (0,31) else (a,0)) else (s.parent,0):=by unfold placeF;rfl
 refine brd (fun hsh=>?_) (fun hsh=>?_)
 ·rw [if_pos hsh] at hpl
  have e1:insF S.D wh a x=(S.D,0,1):=by unfold insF;rw [hpl,if_pos rfl]
  have:=hK w1 o S h1 hp (by rw [e1]) (EvC.below hb1)
  rw [e1] at this;exact this
 rw [if_neg hsh] at hpl
 have hne1:(placeF S.D wh a).2≠1:=by
  rw [hpl]
  split
  ·simp
  ·split
   ·simp
   ·split
    ·split <;> simp
    ·simp
 refine al fun gl w2 hb2 bl hgel=>?_
 have h2:=h1.below hb2
 have b72:=b7.keep hb2
 have B12:=btr hb1 hb1.size hb2
 simp only [Addr.add_mk,Nat.zero_add,NonNil_some,b72.cell,lds]
 have hlsub:Sub w (but gl w2):=old_but B12 (by have:=hb1.size;omega)
 refine look_calls x (gl:=gl) (deep:=1) (n:=0) (md:=0) (e:=e) bl (RTr.sub (sub_of_only.trans hlsub) _ _ hx) (hT.sub (sub_of_only.trans hlsub)) (by omega) (by omega) (by omega) (by omega) fun w3 n3 md3 F3 hB3 q1 q2=>⟨_,rfl,?_⟩
 have og:o gl=0:=Classical.byContradiction fun h0=>by have:=h1.lt gl h0;have:=hb1.size;omega
 have o7:o g7=0:=Classical.byContradiction fun h0=>by have:=h.lt g7 h0;omega
 have h3:PM w3 o θ S:=h2.keep F3 (fun b hb hm=>by have hm:b=gl:=hm;rw [hm,og] at hb;exact not_pc0 hb) (fun _ _=>rfl) fun b hb=>Nat.lt_of_lt_of_le (h2.lt b hb) F3.size
 have E3:EvP w o w3 o:=⟨(Fm.below B12).trans' F3 (fun b hb hm=>by have hm:b=gl:=hm;have:=hb1.size;omega),fun _ _=>rfl,fun _ _ h=>h,fun _ h=>.inl h⟩
 refine brn (fun hne=>?_) (fun heq=>?_)
 ·have e1:insF S.D wh a x=(S.D,0,(lookF x 1 0).2):=by unfold insF;rw [if_neg hne1,if_pos hne]
  have:=hK w3 o S h3 hp (by rw [e1]) E3
  rw [e1] at this;exact this
 obtain⟨k1,k2,k3,k4⟩:=look_ok x 1 0 heq
 have q2:=q2 heq
 rw [k2] at q1
 have hdpos:=dpT_pos x
 have hmd:md3=dpT x:=by rw [q2];omega
 refine atL_calls h3 ha fun w4 hb4=>⟨_,rfl,?_⟩
 have h4:=h3.below hb4
 have E4:=EvP.trans E3 (EvC.below hb4)
 have bl4:=hB3.keep hb4
 have b74:Blk w4 g7 _ 84:=(F3.blk b72 (fun e=>by have e:g7=gl:=e;have:=b7.lt;omega)).keep hb4
 refine⟨fun w'=>w4=w'∧(a=0∨∃s,slA S.D.sl a=some s),?_,?_⟩
 ·rintro _ ⟨rfl,hae⟩
  unfold F73_j10
  rw [ptrL_H h00 hae]
  refine par_calls h4 hsh hae ⟨_,_,rfl,?_⟩
  have hins:insF S.D wh a x=if (placeF S.D wh a).2≠0 then (S.D,0,(placeF S.D wh a).2) else
    if 64 < cntI S.D (placeF S.D wh a).1+dpT x then (S.D,0,32) else if 4096 < tk S.D.sl+szT x then (S.D,0,33) else
    (putI { S.D with sl:=makeF x (placeF S.D wh a).1 S.D.sl } (freshH S.D.sl) (placeF S.D wh a).1 wh a,freshH S.D.sl,0):=by
   unfold insF;rw [if_neg hne1,if_neg (by rw [heq];simp)]
  refine brn (fun hne=>?_) (fun hpz=>?_)
  ·rw [if_pos hne] at hins
   have:=hK w4 o S h4 hp (by rw [hins]) E4
   rw [hins] at this;exact this
  rw [if_neg (by rw [hpz];simp)] at hins
  obtain⟨p1,p2,p3,p4,p5,p6⟩:=place_ok hw hpz
  generalize hP:(placeF S.D wh a).1=p at *
  obtain⟨c1,c2⟩:=hw.cnt (p1.imp id fun⟨t,h,_⟩=>⟨t,h⟩)
  have hd4:Below w4.heap.size w4 w4.drew:=(Below.refl _ _).drew
  refine⟨fun w'=>Below w4.heap.size w4 w',hd4,?_⟩
  simp only [Addr.add_mk,Nat.zero_add]
  refine⟨_,fun w' hb=>by rw [(bl4.keep hb).cell];rfl,?_⟩
  refine level_calls (h4.below hd4) h00 c2 c1 ⟨_,rfl,hd4,?_⟩
  refine⟨inR_i64 (by clear p1;omega) (by clear p1;omega),inR_i64 (by clear p1;omega) (by clear p1;omega),?_⟩
  refine brd (fun hgt=>?_) (fun hle=>?_)
  ·rw [if_pos (by clear p1;omega)] at hins
   have:=hK w4.drew o S (h4.below hd4) hp (by rw [hins]) (EvP.trans E4 (EvC.below hd4))
   rw [hins] at this;exact this
  rw [if_neg (by clear p1;omega)] at hins
  refine dr fun w5 hb5 _=>?_
  have D5:=btr hd4 (by simp) hb5
  have h5:=h4.below D5
  have bl5:=bl4.keep D5
  obtain⟨_,d2,d3,_⟩:=h5.cells
  have htk:=tk_sum S.D.sl
  have hlv:=hp.lv
  have hwn:=hp.wn
  have htl:=tk_le (sl:=S.D.sl)
  simp only [NonNil_some,d2,d3,bl5.cell,lds]
  refine⟨inR_i64 (by clear p1;omega) (by clear p1;omega),inR_i64 (by clear p1;omega) (by clear p1;omega),?_⟩
  refine brd (fun hgt=>?_) (fun hle2=>?_)
  ·rw [if_pos (by clear p1;omega)] at hins
   have:=hK w5 o S h5 hp (by rw [hins]) (EvP.trans E4 (EvC.below D5))
   rw [hins] at this;exact this
  rw [if_neg (by clear p1;omega)] at hins
  have b75:=b74.keep D5
  simp only [Addr.add_mk,Nat.zero_add,NonNil_some,b75.cell,lds]
  have E5:=EvP.trans E4 (EvC.below D5)
  refine make_calls x (p:=p) (c:=cntI S.D p) (loose:=[]) h5 hp k1 hw.s hw.a p1 c2 (by clear p1;omega) (by clear p1;omega) (RTr.sub E5.sub _ _ hx) fun w6 o6 S6 h6 p6' hD6 ⟨y6,hy6⟩ e6=>⟨_,rfl,?_⟩
  have Mk:=make_wf x k1 hw.s hw.a p1 c2 (by clear p1;omega) (by clear p1;omega)
  obtain⟨st,st1,st2⟩:=Mk.top
  have hne0:freshH S.D.sl≠0:=by unfold freshH hnd;omega
  have hsl6:S6.D.sl=makeF x p S.D.sl:=by rw [hD6]
  have hro6:S6.D.roots=S.D.roots:=by rw [hD6]
  have hn6:slA S6.D.sl (freshH S.D.sl)=some st:=by rw [hsl6];exact st1
  have hA6:WfA (slA S6.D.sl) S6.D.roots [freshH S.D.sl]:=by rw [hsl6,hro6];exact Mk.wf
  have hpe:p=0∨∃t,slA S6.D.sl p=some t:=by
   rcases p1 with e | ⟨t,ht,_⟩
   ·exact .inl e
   ·exact .inr ⟨t,by rw [hsl6];exact Mk.ext _ _ ht⟩
  have hptr:ptrH S6.bs (freshH S.D.sl)=some ⟨pb S6.bs (freshH S.D.sl),0,none⟩:=by unfold ptrH;rw [if_neg hne0]
  have hpp:ptrH S.bs p=ptrH S6.bs p:=by
   rw [hy6]
   refine (ptr_ext ?_).symm
   rw [h.len];exact live_inN p1
  have hpa:ptrH S.bs a=ptrH S6.bs a:=by
   rw [hy6]
   refine (ptr_ext ?_).symm
   rw [h.len]
   rcases hae with e | ⟨s,hs⟩
   ·exact .inl e
   ·obtain⟨_,_,_,_,hin⟩:=h.of hs;exact .inr hin
  have hnp:freshH S.D.sl≠p:=fun e=>by
   rcases p1 with e1 | ⟨t,ht,_⟩
   ·exact hne0 (e.trans e1)
   ·rw [←e,Mk.new] at ht;cases ht
  rw [hptr,hpp,hpa]
  have hlst6:lstI S6.D p=lstI S.D p:=by
   unfold lstI lstA
   rw [hro6]
   by_cases h0:p=0
   ·rw [if_pos h0,if_pos h0]
   ·rw [if_neg h0,if_neg h0]
    obtain⟨t,ht,_⟩:=p1.resolve_left h0
    rw [ht,hsl6,Mk.ext _ _ ht]
  refine put_calls h6 hn6 hpe (lst_live hA6 p) (lst_few (by rw [hsl6];exact Mk.wfs) hA6 p) (fun h2=>?_) hnp fun w7 o7 h7 e7=>⟨rfl,?_⟩
  ·rw [hlst6]
   obtain⟨s,s1,s2⟩:=p4 h2
   have:=hw.a.mem a s s1 (by simp)
   rw [s2] at this;exact this
  have hput:updI (putI S6.D (freshH S.D.sl) p wh a) (freshH S.D.sl) (fun s=>{ s with parent:=p })=putI S6.D (freshH S.D.sl) p wh a:=by
   have e4:slA (putI S6.D (freshH S.D.sl) p wh a).sl (freshH S.D.sl)=some st:=by
    unfold putI
    rw [(setI_A (l:=insAt (lstI S6.D p) (posF wh a (lstI S6.D p)) (freshH S.D.sl)) hpe).1,setA_of hn6,if_neg (fun e=>hnp e.1)]
   refine upd_same e4 ?_
   cases st
   simp only at st2
   simp only [st2]
  rw [hput] at h7
  have e4:slA (putI S6.D (freshH S.D.sl) p wh a).sl (freshH S.D.sl)=some st:=by
   unfold putI
   rw [(setI_A (l:=insAt (lstI S6.D p) (posF wh a (lstI S6.D p)) (freshH S.D.sl)) hpe).1,setA_of hn6,if_neg (fun e=>hnp e.1)]
  refine hnd_calls h7 e4 fun w8 hb8=>⟨_,rfl,?_⟩
  have p7:PI { S6 with D:=putI S6.D (freshH S.D.sl) p wh a }:=by
   unfold putI setI
   by_cases h0:p=0
   ·rw [if_pos h0];exact⟨p6'.lv,p6'.wn,p6'.lo,p6'.lo2⟩
   ·rw [if_neg h0]
    obtain⟨t,ht⟩:=hpe.resolve_left h0
    obtain⟨k,m1,m2,_⟩:=slA_iff.1 ht
    rw [m1,Nat.add_sub_cancel,modify_set _ _ _ _ m2]
    exact p6'.set (s':={ t with kids:=insAt (lstI S6.D p) (posF wh a (lstI S6.D p)) (freshH S.D.sl) }) m2 rfl rfl
  have:=hK w8 o7 { S6 with D:=putI S6.D (freshH S.D.sl) p wh a } (h7.below hb8) p7 (by rw [hins,hD6]) (EvP.trans (EvP.trans (EvP.trans E5 (e6.mono fun c h=>h.1)) e7) (EvC.below hb8))
  rw [hins] at this;exact this
 ·have hbad:slA S.D.sl a=none→a≠0→R (.returned (.tuple #[.int .u64 0,.int .i64 8])) w4:=fun hn h0=>by
   rw [if_neg h0,hn] at hpl
   have e1:insF S.D wh a x=(S.D,0,8):=by unfold insF;rw [if_neg hne1,if_neg (by rw [heq];simp),if_pos (by rw [hpl];simp),hpl]
   have:=hK w4 o S h4 hp (by rw [e1]) E4
   rw [e1] at this;exact this
  refine brn (fun h0=>?_) (fun h0=>⟨rfl,.inl (by omega)⟩)
  have h0:a≠0:=by omega
  cases hs:slA S.D.sl a with
  | none =>
   have e:ptrL S a=none:=by unfold ptrL;rw [hs];rfl
   rw [e]
   simp only [Option.isNone_none,Br_t]
   exact hbad hs h0
  | some s =>
   have e:(ptrL S a).isNone=false:=by unfold ptrL;rw [hs];rfl
   rw [e,Br_f]
   exact⟨rfl,.inr ⟨s,rfl⟩⟩
theorem dpA_fuel {A:Nat→Option Sl}{roots loose:List Nat} (hA:WfA A roots loose):∀(r x c:Nat) {s:Sl},A x=some s→Ch A x c→c+r=65→∀r',r≤r'→dpA A r x=dpA A r' x:=by
 intro r
 induction r with
 | zero =>
  intro x c s hx hc hr r' _
  obtain⟨c',h1,h2⟩:=hA.chain x s hx
  have:=hc.fn h2
  omega
 | succ r ih =>
  intro x c s hx hc hr r' hr'
  obtain⟨q,rfl⟩:∃q,r'=q+1:=⟨r'-1,by omega⟩
  rw [dpA_some hx,dpA_some hx]
  congr 2
  refine List.map_congr_left fun k hk=>?_
  obtain⟨_,t,t1,t2⟩:=(hA.kid x s hx).2 k hk
  exact ih k (c+1) t1 (.succ (hA.ne0 t1) t1 (by rw [t2];exact hc)) (by omega) q (by omega)
theorem allA_fuel {A:Nat→Option Sl}{roots loose:List Nat} (hA:WfA A roots loose):∀(r x c:Nat) {s:Sl},A x=some s→Ch A x c→c+r=65→∀r',r≤r'→allA A r x=allA A r' x:=by
 intro r
 induction r with
 | zero =>
  intro x c s hx hc hr r' _
  obtain⟨c',h1,h2⟩:=hA.chain x s hx
  have:=hc.fn h2
  omega
 | succ r ih =>
  intro x c s hx hc hr r' hr'
  obtain⟨q,rfl⟩:∃q,r'=q+1:=⟨r'-1,by omega⟩
  rw [allA_some hx,allA_some hx]
  congr 1
  rw [List.flatMap_def,List.flatMap_def]
  congr 1
  refine List.map_congr_left fun k hk=>?_
  obtain⟨_,t,t1,t2⟩:=(hA.kid x s hx).2 k hk
  exact ih k (c+1) t1 (.succ (hA.ne0 t1) t1 (by rw [t2];exact hc)) (by omega) q (by omega)
end
set_option maxRecDepth 100000
section
variable {w w1 w2:World}{o o1 o2:Nat→Nat}{θ:Th}{S:PS}{M:Nat→Prop}{bs:List Nat}{R:Ending→World→Prop}
end
end Go.Proofs.YtccplipiahdhiaaGreatDoor
set_option linter.unusedVariables false
set_option maxRecDepth 100000
namespace Go.Proofs.YtccplipiahdhiaaGreatDoor
open Go.Vc
end Go.Proofs.YtccplipiahdhiaaGreatDoor
namespace Go.Proofs.YtccplipiahdhiaaGreatDoor
open Go.RowKit Go.Vc
set_option linter.unusedVariables false
set_option linter.unusedSimpArgs false
set_option maxRecDepth 100000
set_option maxRecDepth 100000
section
variable {w w1 w2:World}{o o1 o2:Nat→Nat}{θ:Th}{S:PS}{M:Nat→Prop}{bs:List Nat}{R:Ending→World→Prop}
end
set_option maxRecDepth 100000
section
variable {w w1 w2:World}{o o1 o2:Nat→Nat}{θ:Th}{S:PS}{M:Nat→Prop}{bs:List Nat}{R:Ending→World→Prop}
end
set_option maxRecDepth 100000
section
variable {w w1 w2 w0:World}{o o1 o2:Nat→Nat}{θ:Th}{S:PS}{M:Nat→Prop}{bs:List Nat}{R:Ending→World→Prop}{loose:List Nat}
theorem slvF {v:Sv}{A:Option Addr}{n c:Nat} (h:slV v=.slice A n c):v=(A,n,c):=by
 obtain⟨a1,a2,a3⟩:=v
 unfold slV at h
 simp only [Value.slice.injEq] at h
 obtain⟨rfl,rfl,rfl⟩:=h
 rfl
theorem handles_calls (h:PM w o θ S) {l:List Nat}{v:Sv} (hv:v.2.1=l.length) (hr:Rd LPt w v.1 v.2.2 (l.map (pb S.bs))) (hl:l.length≤1048576) (hll:∀x∈l,∃t,slA S.D.sl x=some t)
  (hK:∀v' w',Below w.heap.size w w'→Own LHn w' w.heap.size 65 (slV v') l→R (.returned (slV v')) w'):Calls Tryz.prog 115 #[.slice v.1 v.2.1 v.2.2] w R:=by
 refine ok115 v.1 v.2.1 v.2.2 ?_
 unfold F115
 rw [hv]
 refine⟨by omega,by omega,by omega,?_⟩
 refine al fun g8 w1 hb1 b1 hge1=>?_
 have o1:Own LHn w1 w.heap.size 65 (.slice (some ⟨g8,0,none⟩) 0 l.length) []:=Own.made b1 hge1 (by simp [zrow,LHn]) (by simp [maxLen];omega)
 refine⟨fun A n c j w'=>∃k:Nat,j=k∧k≤l.length∧Below w.heap.size w w'∧Own LHn w' w.heap.size 65 (.slice A n c) (l.take k),fun _ _ _ j _=>l.length-j.toNat,⟨0,rfl,by omega,hb1,by simpa using o1⟩,?_⟩
 rintro A n c j w2 ⟨k,rfl,hk,hb2,ho⟩
 unfold F115_l3
 refine brd (fun hlt=>?_) (fun hge=>?_)
 ·have hk2:k < l.length:=by omega
  refine (hr.keep hb2).pt (by rw [List.length_map]) rfl (k:=k) (by rw [List.length_map];exact hk2) fun bb oo cc=>?_
  rw [List.getElem_map] at cc
  simp only [cc,lds]
  obtain⟨t,ht⟩:=hll l[k] (List.getElem_mem hk2)
  refine hnd_calls (h.below hb2) ht fun w3 hb3=>⟨_,rfl,?_⟩
  have B3:=btr hb2 hb2.size hb3
  refine ap1 (L:=LHn) (x:=l[k]) (xs:=l.take k) (.int .u64 0) 8 rfl (by kernel_rfl) (by kernel_rfl) (by kernel_rfl) (ho.keep hb3) B3.size (by rw [List.length_take];omega) (by rw [List.length_take];simp [maxLen];omega) fun A' c' w4 o4 g4=>⟨A',_,c',rfl,inR_i64 (by omega) (by omega),⟨k+1,by simp,by omega,B3.trans g4.below,?_⟩,(by first | omega | (dsimp only;omega))⟩
  rw [List.take_succ_eq_append_getElem hk2];exact o4
 ·have hk2:k=l.length:=by omega
  subst hk2
  rw [List.take_length] at ho
  exact hK (A,n,c) w2 hb2 ho
theorem Kids_calls (h:PM w o θ S) (hA:WfA (slA S.D.sl) S.D.roots loose) (hf:S.D.sl.length≤4096) {x:Nat}{s:Sl} (hx:slA S.D.sl x=some s)
  (hK:∀v' w',Below w.heap.size w w'→Own LHn w' w.heap.size 65 (slV v') s.kids→R (.returned (.tuple #[slV v',.int .i64 0])) w'):Calls Tryz.prog 117 #[.pointer (some ⟨θ.g,0,none⟩),.int .u64 (x:Nat)] w R:=by
 refine ok117 (some ⟨θ.g,0,none⟩) x ?_
 unfold F117
 obtain⟨i,i1,i2,i3,i4⟩:=h.of hx
 have hgen:=(h.rng s (List.mem_of_getElem? i3)).gen
 have hxl:x < 18446744073709551616:=by
  obtain⟨k,k1,k2,k3,k4⟩:=slA_iff.1 hx
  have:=(List.getElem?_eq_some_iff.1 k2).1
  unfold hnd at k4;omega
 refine atL_calls h hxl fun w1 hb1=>⟨_,rfl,?_⟩
 have e:ptrL S x=some ⟨pb S.bs x,0,none⟩:=by unfold ptrL;rw [hx];rfl
 rw [e]
 simp only [Option.isNone_some,Br_f,NonNil_some,Addr.add_mk,Nat.zero_add]
 have h1:=h.below hb1
 obtain⟨v,cv,ov,rv⟩:=h1.cKids i2 i3
 obtain⟨A,c,hvf,hrd⟩:=ov.form
 have e1:=slvF hvf
 have cv':w1.cell? ⟨pb S.bs x,8,none⟩=some (.slice v.1 v.2.1 v.2.2):=cv
 simp only [cv',lds]
 refine handles_calls h1 (v:=v) (l:=s.kids) (by rw [e1];simp) (by rw [e1];exact hrd) (Nat.le_trans (live_few (fun y hy=>by obtain⟨_,t,ht,_⟩:=(hA.kid x s hx).2 y hy;exact⟨t,ht⟩) (hA.kid x s hx).1) (by omega)) (fun y hy=>by obtain⟨_,t,ht,_⟩:=(hA.kid x s hx).2 y hy;exact⟨t,ht⟩) fun v' w2 hb2 ho=>⟨_,_,_,rfl,?_⟩
 exact hK v' w2 (btr hb1 hb1.size hb2) (ho.rebase fun k hk=>Nat.le_trans hb1.size (ho.lt k hk).1)
theorem Roots_calls (h:PM w o θ S) (hA:WfA (slA S.D.sl) S.D.roots loose)
  (hK:∀v' w',Below w.heap.size w w'→Own LHn w' w.heap.size 65 (slV v') S.D.roots→R (.returned (slV v')) w'):Calls Tryz.prog 69 #[.pointer (some ⟨θ.g,0,none⟩)] w R:=by
 refine ok69 (some ⟨θ.g,0,none⟩) ?_
 unfold F69
 obtain⟨nv,rv,hd⟩:=h.doc
 obtain⟨A,c,hvf,hrd⟩:=hd.r1.form
 have e1:=slvF hvf
 have cv':w.cell? ⟨θ.g,1,none⟩=some (.slice rv.1 rv.2.1 rv.2.2):=by rw [hd.blk.cell];rfl
 simp only [NonNil_some,Addr.add_mk,Nat.zero_add,cv',lds]
 exact handles_calls h (v:=rv) (l:=S.D.roots) (by rw [e1];simp) (by rw [e1];exact hrd) h.rts.2 (fun y hy=>by obtain⟨_,t,ht,_⟩:=hA.root.2 y hy;exact⟨t,ht⟩) fun v' w2 hb2 ho=>⟨_,_,_,rfl,hK v' w2 hb2 ho⟩
theorem hx_lt (h:PM w o θ S) {x:Nat}{s:Sl} (hx:slA S.D.sl x=some s):x < 18446744073709551616:=by
 obtain⟨i,i1,i2,i3,i4⟩:=h.of hx
 have hgen:=(h.rng s (List.mem_of_getElem? i3)).gen
 have hf:=h.few
 obtain⟨k,k1,k2,k3,k4⟩:=slA_iff.1 hx
 have:=(List.getElem?_eq_some_iff.1 k2).1
 unfold hnd at k4;omega
theorem Parent_calls (h:PM w o θ S) (hA:WfA (slA S.D.sl) S.D.roots loose) {x:Nat}{s:Sl} (hx:slA S.D.sl x=some s)
  (hK:∀w',Below w.heap.size w w'→R (.returned (.tuple #[.int .u64 (s.parent:Nat),.int .i64 0])) w'):Calls Tryz.prog 124 #[.pointer (some ⟨θ.g,0,none⟩),.int .u64 (x:Nat)] w R:=by
 refine ok124 (some ⟨θ.g,0,none⟩) x ?_
 unfold F124
 obtain⟨i,i1,i2,i3,i4⟩:=h.of hx
 refine atL_calls h (hx_lt h hx) fun w1 hb1=>⟨_,rfl,?_⟩
 have e:ptrL S x=some ⟨pb S.bs x,0,none⟩:=by unfold ptrL;rw [hx];rfl
 rw [e]
 have h1:=h.below hb1
 simp only [Option.isNone_some,Br_f,NonNil_some,Addr.add_mk,Nat.zero_add,h1.cPar i2 i3,lds]
 rcases hA.par x s hx with hp | ⟨t,ht,_⟩
 ·have e2:ptrH S.bs s.parent=none:=by unfold ptrH;rw [if_pos hp]
  rw [e2]
  refine hndN_calls ⟨_,rfl,?_⟩
  have:=hK w1 hb1
  rw [hp] at this;exact this
 ·have p0:s.parent≠0:=fun e=>by rw [e,slA_zero] at ht;cases ht
  have e2:ptrH S.bs s.parent=some ⟨pb S.bs s.parent,0,none⟩:=by unfold ptrH;rw [if_neg p0]
  rw [e2]
  exact hnd_calls h1 ht fun w2 hb2=>⟨_,rfl,hK w2 (btr hb1 hb1.size hb2)⟩
theorem allP_calls (h:PM w0 o θ S) (hA:WfA (slA S.D.sl) S.D.roots loose):∀(r:Nat) {l:List Nat}{v:Sv}{cc:Nat}{w:World}{A:Option Addr}{n c:Nat}{xs:List Nat}{R:Ending→World→Prop},v.2.1=l.length→Rd LPt w0 v.1 v.2.2 (l.map (pb S.bs))→l.length≤1048576→(∀x∈l,∃t,slA S.D.sl x=some t∧Ch (slA S.D.sl) x cc)→65≤cc+r →
  Below w0.heap.size w0 w→Own LHn w w0.heap.size 65 (.slice A n c) xs→xs.length+(l.flatMap (allA (slA S.D.sl) r)).length≤4398046511104 →
  (∀A' n' c' w',Below w0.heap.size w0 w'→Own LHn w' w0.heap.size 65 (.slice A' n' c') (xs++l.flatMap (allA (slA S.D.sl) r))→R (.returned (.slice A' n' c')) w') →
  Calls Tryz.prog 96 #[.slice v.1 v.2.1 v.2.2,.slice A n c] w R:=by
 intro r
 induction r with
 | zero =>
  intro l v cc w A n c xs R hv hr hl hll hcr hb ho hlen hK
  have hl0:l=[]:=by
   cases l with
   | nil=>rfl
   | cons x l =>
    obtain⟨t,t1,t2⟩:=hll x (by simp)
    obtain⟨c',h1,h2⟩:=hA.chain x t t1
    have:=t2.fn h2;omega
  subst hl0
  refine ok96 v.1 v.2.1 v.2.2 A n c ?_
  unfold F96
  refine⟨fun A' n' c' j w'=>j=0∧A'=A∧n'=n∧c'=c∧w'=w,fun _ _ _ _ _=>0,⟨rfl,rfl,rfl,rfl,rfl⟩,?_⟩
  rintro _ _ _ _ _ ⟨rfl,rfl,rfl,rfl,rfl⟩
  unfold F96_l2
  refine brd (fun hlt=>absurd hlt (by rw [hv];simp)) (fun _=>hK _ _ _ _ hb (by simpa using ho))
 | succ r ih =>
  intro l v cc w A n c xs R hv hr hl hll hcr hb ho hlen hK
  refine ok96 v.1 v.2.1 v.2.2 A n c ?_
  unfold F96
  refine⟨fun A' n' c' j w'=>∃k:Nat,j=k∧k≤l.length∧Below w0.heap.size w0 w'∧Own LHn w' w0.heap.size 65 (.slice A' n' c') (xs++(l.take k).flatMap (allA (slA S.D.sl) (r+1))),fun _ _ _ j _=>l.length-j.toNat,⟨0,rfl,by omega,hb,by simpa using ho⟩,?_⟩
  rintro A1 n1 c1 j w1 ⟨k,rfl,hk,hb1,ho1⟩
  unfold F96_l2
  refine brd (fun hlt=>?_) (fun hge=>?_)
  ·have hk2:k < l.length:=by omega
   refine (hr.keep hb1).pt (by rw [List.length_map];exact hv) rfl (k:=k) (by rw [List.length_map];exact hk2) fun bb oo cx=>?_
   rw [List.getElem_map] at cx
   simp only [cx,lds]
   obtain⟨t,t1,t2⟩:=hll l[k] (List.getElem_mem hk2)
   obtain⟨i,i1,i2,i3,i4⟩:=h.of t1
   have hdr:Below w1.heap.size w1 w1.drew:=(Below.refl _ _).drew
   have B1d:=btr hb1 hb1.size hdr
   obtain⟨kv,ck,ok,rk⟩:=h.cKids i2 i3
   obtain⟨Ak,ckk,hkf,hkr⟩:=ok.form
   have ek:=slvF hkf
   have hkids:∀y∈t.kids,∃u,slA S.D.sl y=some u∧u.parent=l[k]:=fun y hy=>((hA.kid _ t t1).2 y hy).2
   have hst:(l.take (k+1)).flatMap (allA (slA S.D.sl) (r+1))=(l.take k).flatMap (allA (slA S.D.sl) (r+1))++(l[k] :: t.kids.flatMap (allA (slA S.D.sl) r)):=by
    rw [List.take_succ_eq_append_getElem hk2,List.flatMap_append,←allA_some t1];simp
   have hle:((l.take (k+1)).flatMap (allA (slA S.D.sl) (r+1))).length≤(l.flatMap (allA (slA S.D.sl) (r+1))).length:=by
    have e:l.flatMap (allA (slA S.D.sl) (r+1))=(l.take (k+1)).flatMap (allA (slA S.D.sl) (r+1))++(l.drop (k+1)).flatMap (allA (slA S.D.sl) (r+1)):=by rw [←List.flatMap_append,List.take_append_drop]
    rw [e,List.length_append];omega
   rw [hst,List.length_append,List.length_cons] at hle
   refine⟨fun w'=>Below w0.heap.size w0 w',B1d,?_⟩
   simp only [NonNil_some,Addr.add_mk,Nat.zero_add]
   refine⟨kv.1,kv.2.1,kv.2.2,fun w' hw=>(sub_below hw).cell ck,?_⟩
   refine hnd_calls (h.below B1d) t1 fun w2 hb2=>⟨_,rfl,?_⟩
   have B2:=btr B1d B1d.size hb2
   refine⟨B2,?_⟩
   refine ap1S (L:=LHn) (x:=l[k]) (S:=fun w'=>Below w0.heap.size w0 w') (.int .u64 0) 8 rfl (by kernel_rfl) (by kernel_rfl) (by kernel_rfl) ((ho1.keep hdr).keep hb2) B2.size (by simp only [List.length_append];omega) (by simp only [maxLen,List.length_append];omega) (fun w' hb'=>btr B2 B2.size hb') fun A3 c3 w3 o3 g3=>⟨A3,_,c3,rfl,?_⟩
   have B3:=B2.trans g3.below
   refine⟨B3,?_⟩
   refine ih (l:=t.kids) (v:=kv) (cc:=cc+1) (by rw [ek];simp) (by rw [ek];exact hkr) (Nat.le_trans (live_few (fun y hy=>by obtain⟨u,hu,_⟩:=hkids y hy;exact⟨u,hu⟩) (hA.kid _ t t1).1) (by have:=h.few;omega)) (fun y hy=>by
    obtain⟨u,u1,u2⟩:=hkids y hy
    exact⟨u,u1,.succ (hA.ne0 u1) u1 (by rw [u2];exact t2)⟩) (by omega) B3 o3 (by simp only [List.length_append,List.length_singleton];omega) fun A4 n4 c4 w4 hb4 o4=>⟨A4,n4,c4,rfl,inR_i64 (by omega) (by omega),⟨k+1,by simp,by omega,hb4,?_⟩,(by first | omega | (dsimp only;omega))⟩
   rw [hst,←List.append_assoc]
   rw [List.append_assoc _ [l[k]],List.singleton_append] at o4
   exact o4
  ·have hk2:k=l.length:=by omega
   subst hk2
   rw [List.take_length] at ho1
   exact hK _ _ _ _ hb1 ho1
end
set_option maxRecDepth 100000
structure MpE (q:IntKind) (es:Array MapEntry) (clock:Nat) (f:Int→Option Value):Prop where
 key:∀x∈es.toList,∃k,x.key=.int q k∧f k=some x.val
 has:∀k v,f k=some v→∃x∈es.toList,x.key=.int q k
 one:(es.toList.map (·.key)).Nodup
 born:∀x∈es.toList,x.born < clock
 age:(es.toList.map (·.born)).Nodup
def Mp (q:IntKind) (w:World) (b:Nat) (f:Int→Option Value):Prop:=∃es clock,w.heap[b]?=some (.map es clock)∧MpE q es clock f
theorem nodup_map_inj {α β:Type}{f:α→β}:∀{l:List α},(l.map f).Nodup→∀x∈l,∀y∈l,f x=f y→x=y
 | [],_,x,hx,_,_,_=>by simp at hx
 | a :: l,h,x,hx,y,hy,e=>by
  rw [List.map_cons,List.nodup_cons] at h
  rcases List.mem_cons.1 hx with h1 | h1 <;> rcases List.mem_cons.1 hy with h2 | h2
  ·rw [h1,h2]
  ·subst h1;exact absurd (List.mem_map.2 ⟨y,h2,e.symm⟩) h.1
  ·subst h2;exact absurd (List.mem_map.2 ⟨x,h1,e⟩) h.1
  ·exact nodup_map_inj h.2 x h1 y h2 e
theorem findNow_int {q:IntKind}{k:Int}:∀(l:List MapEntry) (i:Nat),(∀x∈l,∃a,x.key=.int q a) →
  (Instr.findNow (.int q) (.int q k) l i=some none∧∀x∈l,x.key≠.int q k)∨∃j x,l[j]?=some x∧x.key=.int q k∧Instr.findNow (.int q) (.int q k) l i=some (some (i+j,x.val))
 | [],i,_=>.inl ⟨rfl,fun x h=>by simp at h⟩
 | x :: l,i,h=>by
  obtain⟨a,ha⟩:=h x (by simp)
  by_cases hk:k=a
  ·subst hk
   refine .inr ⟨0,x,rfl,ha,?_⟩
   simp [Instr.findNow,ha,Instr.sameNow]
  ·have e:Instr.findNow (.int q) (.int q k) (x :: l) i=Instr.findNow (.int q) (.int q k) l (i+1):=by
    have hb:(k == a)=false:=by simpa using hk
    simp [Instr.findNow,ha,Instr.sameNow,hb]
   rcases findNow_int l (i+1) fun y hy=>h y (by simp [hy]) with ⟨h1,h2⟩ | ⟨j,y,h1,h2,h3⟩
   ·refine .inl ⟨by rw [e,h1],fun y hy=>?_⟩
    rcases List.mem_cons.1 hy with rfl | hy
    ·rw [ha];intro h;injection h with _ h;exact hk h.symm
    ·exact h2 y hy
   ·exact .inr ⟨j+1,y,by simpa using h1,h2,by rw [e,h3];congr 2;simp;omega⟩
section
variable {P:Program}{q:IntKind}{w:World}{b:Nat}{f:Int→Option Value}{t kt et:TypeId}
theorem Mp.find (h:Mp q w b f) (k:Int):∃es clock,w.heap[b]?=some (.map es clock)∧MpE q es clock f ∧
  ((f k=none∧Instr.findNow (.int q) (.int q k) es.toList 0=some none)∨∃j x,es.toList[j]?=some x∧x.key=.int q k∧f k=some x.val∧Instr.findNow (.int q) (.int q k) es.toList 0=some (some (j,x.val))):=by
 obtain⟨es,clock,hb,he⟩:=h
 refine⟨es,clock,hb,he,?_⟩
 rcases findNow_int (k:=k) es.toList 0 fun x hx=>(he.key x hx).imp fun _ h=>h.1 with ⟨h1,h2⟩ | ⟨j,x,h1,h2,h3⟩
 ·refine .inl ⟨?_,h1⟩
  cases hf:f k with
  | none=>rfl
  | some v =>
   obtain⟨x,hx,hk⟩:=he.has k v hf
   exact absurd hk (h2 x hx)
 ·refine .inr ⟨j,x,h1,h2,?_,by simpa using h3⟩
  obtain⟨a,ha,hv⟩:=he.key x (List.mem_of_getElem? h1)
  rw [h2] at ha;injection ha with _ ha;subst ha;exact hv
theorem Mp.look (h:Mp q w b f) (ht:P.underlying t=some (.map kt et)) (hk:P.underlying kt=some (.int q)) {z:Value} (hz:(zeroValue et).run P w=.ok z w) (k:Int) (c:Bool) {K:Value→World→Prop}
  (hK:K (if c then .tuple #[(f k).getD z,.bool (f k).isSome] else (f k).getD z) w):Raw P (Instr.lookup t (.map (some b)) (.int q k) c) w K:=by
 obtain⟨es,clock,hb,he,h2⟩:=h.find k
 have hc:(Instr.checkKey es.isEmpty 10000 kt (.int q k)).run P w=.ok () w:=MapKept.run_checkKey (k:=.int q k) hk (by simp [MapKept.IsKey]) _ 9999
 rcases h2 with ⟨h1,h2⟩ | ⟨j,x,h3,h4,h1,h2⟩
 ·rw [h1] at hK
  refine⟨_,w,?_,hK⟩
  simp [Instr.lookup,run_underlying ht,MapKept.run_getObj_map hb,hc,MapKept.run_findKey hk h2,hz,Result.andThen]
 ·rw [h1] at hK
  refine⟨_,w,?_,hK⟩
  simp [Instr.lookup,run_underlying ht,MapKept.run_getObj_map hb,hc,MapKept.run_findKey hk h2,Result.andThen]
def upd (f:Int→Option Value) (k:Int) (v:Option Value):Int→Option Value:=fun j=>if j=k then v else f j
theorem Mp.lt (h:Mp q w b f):b < w.heap.size:=by
 obtain⟨es,clock,hb,_⟩:=h;exact (Array.getElem?_eq_some_iff.1 hb).1
theorem MpE.push {es:Array MapEntry}{clock:Nat} (he:MpE q es clock f) {k:Int} (hk:f k=none) (v:Value):MpE q (es.push ⟨.int q k,v,clock⟩) (clock+1) (upd f k (some v)):=by
 have hne:∀x∈es.toList,∀a,x.key=.int q a→a≠k:=fun x hx a ha e=>by
  obtain⟨a',h1,h2⟩:=he.key x hx
  rw [ha] at h1;injection h1 with _ h1;subst h1;subst e;rw [hk] at h2;cases h2
 refine⟨fun x hx=>?_,fun j u hu=>?_,?_,fun x hx=>?_,?_⟩
 ·rw [Array.toList_push] at hx
  rcases List.mem_append.1 hx with hx | hx
  ·obtain⟨a,h1,h2⟩:=he.key x hx
   exact⟨a,h1,by unfold upd;rw [if_neg (hne x hx a h1)];exact h2⟩
  ·rw [List.mem_singleton] at hx;subst hx
   exact⟨k,rfl,by unfold upd;rw [if_pos rfl]⟩
 ·unfold upd at hu
  by_cases e:j=k
  ·subst e;exact⟨⟨.int q j,v,clock⟩,by simp,rfl⟩
  ·rw [if_neg e] at hu
   obtain⟨x,hx,h1⟩:=he.has j u hu
   exact⟨x,by simp [Array.mem_toList_iff.1 hx],h1⟩
 ·rw [Array.toList_push,List.map_append,List.nodup_append]
  refine⟨he.one,by simp,fun x hx y hy e=>?_⟩
  rw [List.map_singleton,List.mem_singleton] at hy
  obtain⟨z,hz,rfl⟩:=List.mem_map.1 hx
  obtain⟨a,h1,-⟩:=he.key z hz
  rw [h1,hy] at e;injection e with _ e
  exact hne z hz a h1 e
 ·rw [Array.toList_push] at hx
  rcases List.mem_append.1 hx with hx | hx
  ·have:=he.born x hx;omega
  ·rw [List.mem_singleton] at hx;subst hx;exact Nat.lt_succ_self _
 ·rw [Array.toList_push,List.map_append,List.nodup_append]
  refine⟨he.age,by simp,fun x hx y hy e=>?_⟩
  rw [List.map_singleton,List.mem_singleton] at hy
  obtain⟨z,hz,rfl⟩:=List.mem_map.1 hx
  have:=he.born z hz
  simp only at hy e
  omega
theorem modify_list (es:Array MapEntry) (j:Nat) (g:MapEntry→MapEntry):(es.modify j g).toList=es.toList.modify j g:=Array.toList_modify
theorem map_modify_same {α β:Type} (p:α→β) (g:α→α):∀(l:List α) (j:Nat),(∀x,l[j]?=some x→p (g x)=p x)→(l.modify j g).map p=l.map p
 | [],j,_=>by cases j <;> rfl
 | x :: l,0,h=>by simp [List.modify,h x rfl]
 | x :: l,j+1,h=>by simpa using map_modify_same p g l j fun y hy=>h y (by simpa using hy)
theorem mem_modify {α:Type} (g:α→α):∀(l:List α) (j:Nat) (y:α),l[j]?=some y→∀x,x∈l.modify j g→x=g y∨∃i,i≠j∧l[i]?=some x
 | [],j,y,h,x,hx=>by simp at h
 | a :: l,0,y,h,x,hx=>by
  simp at h;subst h
  rw [List.modify_zero_cons] at hx
  rcases List.mem_cons.1 hx with rfl | hx
  ·exact .inl rfl
  ·obtain⟨i,hi⟩:=List.mem_iff_getElem?.1 hx
   exact .inr ⟨i+1,by omega,by simpa using hi⟩
 | a :: l,j+1,y,h,x,hx=>by
  rw [List.modify_succ_cons] at hx
  rcases List.mem_cons.1 hx with rfl | hx
  ·exact .inr ⟨0,by omega,rfl⟩
  ·rcases mem_modify g l j y (by simpa using h) x hx with h1 | ⟨i,h1,h2⟩
   ·exact .inl h1
   ·exact .inr ⟨i+1,by omega,by simpa using h2⟩
theorem MpE.put {es:Array MapEntry}{clock:Nat} (he:MpE q es clock f) {k:Int}{j:Nat}{y:MapEntry} (hj:es.toList[j]?=some y) (hy:y.key=.int q k) (v:Value) :
  MpE q (es.modify j fun e=>{ e with key:=.int q k,val:=v }) clock (upd f k (some v)):=by
 have hym:=List.mem_of_getElem? hj
 have hkeys:(es.modify j fun e=>{ e with key:=.int q k,val:=v }).toList.map (·.key)=es.toList.map (·.key):=by
  rw [modify_list];exact map_modify_same _ _ _ _ fun x hx=>by rw [hj] at hx;cases hx;exact hy.symm
 have hborn:(es.modify j fun e=>{ e with key:=.int q k,val:=v }).toList.map (·.born)=es.toList.map (·.born):=by
  rw [modify_list];exact map_modify_same _ _ _ _ fun x hx=>rfl
 refine⟨fun x hx=>?_,fun i u hu=>?_,by rw [hkeys];exact he.one,fun x hx=>?_,by rw [hborn];exact he.age⟩
 ·rw [modify_list] at hx
  rcases mem_modify _ _ _ y hj x hx with rfl | ⟨i,hi,hx2⟩
  ·exact⟨k,rfl,by unfold upd;rw [if_pos rfl]⟩
  ·obtain⟨a,h1,h2⟩:=he.key x (List.mem_of_getElem? hx2)
   refine⟨a,h1,?_⟩
   have hne:a≠k:=fun e=>by
    subst e
    obtain⟨l1,l2⟩:=List.getElem?_eq_some_iff.1 hx2
    obtain⟨m1,m2⟩:=List.getElem?_eq_some_iff.1 hj
    have hpw:=List.pairwise_iff_getElem.1 he.one
    rcases Nat.lt_or_gt_of_ne hi with h3 | h3
    ·have:=hpw i j (by simpa using l1) (by simpa using m1) h3
     simp only [List.getElem_map,l2,m2] at this
     exact this (by rw [h1,hy])
    ·have:=hpw j i (by simpa using m1) (by simpa using l1) h3
     simp only [List.getElem_map,l2,m2] at this
     exact this (by rw [h1,hy])
   unfold upd;rw [if_neg hne];exact h2
 ·have hex:∃x∈es.toList,x.key=.int q i:=by
   unfold upd at hu
   by_cases e:i=k
   ·subst e;exact⟨y,hym,hy⟩
   ·rw [if_neg e] at hu;exact he.has i u hu
  obtain⟨x,hx,h1⟩:=hex
  have:Value.int q i∈(es.modify j fun e=>{ e with key:=.int q k,val:=v }).toList.map (·.key):=by
   rw [hkeys];exact List.mem_map.2 ⟨x,hx,h1⟩
  obtain⟨x',hx',h2⟩:=List.mem_map.1 this
  exact⟨x',hx',h2⟩
 ·have:x.born∈es.toList.map (·.born):=by rw [←hborn];exact List.mem_map.2 ⟨x,hx,rfl⟩
  obtain⟨z,hz,h1⟩:=List.mem_map.1 this
  rw [←h1];exact he.born z hz
theorem set_fm (w:World) (b:Nat) (o:Obj):Fm (·=b) w { w with heap:=w.heap.setIfInBounds b o } :=
 ⟨rfl,rfl,rfl,by simp,fun i hi hne=>by
  show (w.heap.setIfInBounds b o)[i]?=_
  rw [Array.getElem?_setIfInBounds_ne (fun e=>hne e.symm)]⟩
theorem Mp.update (h:Mp q w b f) (ht:P.underlying t=some (.map kt et)) (hk:P.underlying kt=some (.int q)) (k:Int) (v:Value) {K:World→Prop}
  (hK:∀w',Mp q w' b (upd f k (some v))→Fm (·=b) w w'→K w'):Raw P (Instr.mapUpdate t (.map (some b)) (.int q k) v) w fun _ w'=>K w':=by
 obtain⟨es,clock,hb,he,h2⟩:=h.find k
 have hlt:=(Array.getElem?_eq_some_iff.1 hb).1
 have hc:(Instr.checkKey false 10000 kt (.int q k)).run P w=.ok () w:=MapKept.run_checkKey (k:=.int q k) hk (by simp [MapKept.IsKey]) _ 9999
 rcases h2 with ⟨h1,h2⟩ | ⟨j,x,h3,h4,h1,h2⟩
 ·refine⟨(),{ w with heap:=w.heap.setIfInBounds b (.map (es.push ⟨.int q k,v,clock⟩) (clock+1)) },?_,hK _ ⟨_,_,?_,he.push h1 v⟩ (set_fm _ _ _)⟩
  ·simp [Instr.mapUpdate,run_underlying ht,MapKept.run_getObj_map hb,hc,MapKept.run_findKey hk h2,MapKept.run_setObj_map _ hb,Result.andThen]
  ·simp [hlt]
 ·refine⟨(),{ w with heap:=w.heap.setIfInBounds b (.map (es.modify j fun e=>{ e with key:=.int q k,val:=v }) clock) },?_,hK _ ⟨_,_,?_,he.put h3 h4 v⟩ (set_fm _ _ _)⟩
  ·have hj:(es[j]?).map (·.key)=some (.int q k):=by
    rw [←Array.getElem?_toList,h3,Option.map_some,h4]
   have hst:(Instr.keyThatStays (.int q k) (.int q k)).run P w=.ok (.int q k) w:=MapKept.run_keyThatStays (d:=.int q) (by simp [MapKept.IsKey])
   simp only [Instr.mapUpdate,Sem.run_bind,run_underlying ht,MapKept.run_getObj_map hb,hc,MapKept.run_findKey hk h2,MapKept.run_setObj_map _ hb,Result.andThen,hj,hst,Option.getD_some]
  ·simp [hlt]
theorem Mp.made (w:World) (q:IntKind):Mp q (w.alloc (.map #[] 0)) w.heap.size fun _=>none :=
 ⟨#[],0,heap_alloc_new _ _,⟨fun x hx=>by simp at hx,fun k v h=>by simp at h,by simp,fun x hx=>by simp at hx,by simp⟩⟩
theorem Mp.fm {M:Nat→Prop}{w1:World} (h:Mp q w b f) (hf:Fm M w w1) (hm:¬M b):Mp q w1 b f:=by
 obtain⟨es,clock,hb,he⟩:=h
 exact⟨es,clock,by rw [hf.block b (Array.getElem?_eq_some_iff.1 hb).1 hm];exact hb,he⟩
end
set_option maxRecDepth 100000
section
variable {P:Program}{q:IntKind}{w:World}{b:Nat}{f:Int→Option Value}{t kt et:TypeId}
theorem Mp.len (h:Mp q w b f) (ht:P.underlying t=some (.map kt et)) {l:List Int} (hn:l.Nodup) (hl:∀k,k∈l↔∃v,f k=some v) {ty:TypeId}{K:Value→World→Prop} (hK:K (.int .i64 (l.length:Nat)) w) :
  Raw P (Builtin.len_ #[t] ty #[.map (some b)]) w K:=by
 obtain⟨es,clock,hb,he⟩:=h
 have hsz:es.size=l.length:=by
  letI:DecidableEq Value:=fun a b=>Classical.propDecidable (a=b)
  have h1:(es.toList.map (·.key)).length≤(l.map (fun k=>Value.int q k)).length:=by
   refine nodup_sub he.one fun x hx=>?_
   obtain⟨e,he',rfl⟩:=List.mem_map.1 hx
   obtain⟨k,k1,k2⟩:=he.key e he'
   rw [k1]
   exact List.mem_map.2 ⟨k,(hl k).2 ⟨_,k2⟩,rfl⟩
  have h2:(l.map (fun k=>Value.int q k)).length≤(es.toList.map (·.key)).length:=by
   refine nodup_sub ?_ fun x hx=>?_
   ·refine List.pairwise_map.2 (hn.imp fun {a c} hac e=>hac ?_)
    injection e
   ·obtain⟨k,hk,rfl⟩:=List.mem_map.1 hx
    obtain⟨v,hv⟩:=(hl k).1 hk
    obtain⟨x,h3,h4⟩:=he.has k v hv
    exact List.mem_map.2 ⟨x,h3,h4⟩
  simp at h1 h2;omega
 refine⟨_,w,?_,hK⟩
 simp [Builtin.len_,run_underlying ht,MapKept.run_getObj_map hb,hsz,goInt]
end
end Go.Proofs.YtccplipiahdhiaaGreatDoor
set_option linter.unusedVariables false
set_option maxRecDepth 100000
namespace Go.Proofs.YtccplipiahdhiaaGreatDoor
open Go.Vc
def F40_j4 (b:Int) (a:Int) (c:World) (R:Ending→World→Prop):Prop :=
 R (.returned (.tuple #[(.int .u64 b),(.int .i64 a)])) c
def F40 (d:Option Addr) (where_:Int) (at_:Int) (x_0:Int) (x_1:ByteArray) (x_2:Option Addr) (x_2N:Nat) (x_2C:Nat) (x_3:ByteArray) (x_4:Option Addr) (x_4N:Nat) (x_4C:Nat) (t:World) (R:Ending→World→Prop):Prop :=
 Al t #[(.int .i64 x_0),(.string x_1),(.slice x_2 x_2N x_2C),(.string x_3),(.slice x_4 x_4N x_4C)] 84 fun g7 w1 =>
 ∃S:World→Prop,S w1.drew∧NonNil d fun p14 =>
 ∃(f:Int),Held S g7 (.int .i64 f)∧∃(i:ByteArray),Held S (g7.add 1) (.string i)∧∃(m:Option Addr) (a:Nat) (e:Nat),Held S (g7.add 2) (.slice m a e)∧∃(k:ByteArray),Held S (g7.add 3) (.string k)∧∃(j:Option Addr) (c:Nat) (b:Nat),Held S (g7.add 4) (.slice j c b)∧Calls Tryz.prog 73 #[(.pointer (some p14)),(.int .i64 where_),(.int .u64 at_),(.agg #[(.int .i64 f),(.string i),(.slice m a e),(.string k),(.slice j c b)])] w1.drew (post R fun v p =>
 ∃(g:Int) (h:Int),v=(.tuple #[(.int .u64 g),(.int .i64 h)]) ∧
 ∃J4:World→Prop,(∀ (n:World),J4 n→F40_j4 g h n R) ∧
 (Br (h == (0:Int))
 (Calls Tryz.prog 74 #[(.pointer d),(.int .u64 g)] p (post R fun v2 n =>
 ∃(s:Int),v2=(.int .u64 s) ∧
 Calls Tryz.prog 70 #[(.pointer d),(.int .u64 g),(.int .u64 s)] n (post R fun v3 q =>
 ∃(r:Int),v3=(.int .u64 r) ∧
 J4 q)))
 (J4 p)))
theorem ok40 (d:Option Addr) (where_:Int) (at_:Int) (x_0:Int) (x_1:ByteArray) (x_2:Option Addr) (x_2N:Nat) (x_2C:Nat) (x_3:ByteArray) (x_4:Option Addr) (x_4N:Nat) (x_4C:Nat) {w:World}{R:Ending→World→Prop} (h:F40 d where_ at_ x_0 x_1 x_2 x_2N x_2C x_3 x_4 x_4N x_4C w R):Calls Tryz.prog 40 #[(.pointer d),(.int .i64 where_),(.int .u64 at_),(.agg #[(.int .i64 x_0),(.string x_1),(.slice x_2 x_2N x_2C),(.string x_3),(.slice x_4 x_4N x_4C)])] w R :=
 vc_calls (pl:=⟨32,⟨[]⟩,[(4,⟨[],[(22,30)]⟩)],[]⟩) Tryz.func40 (by kernel_rfl) (by kernel_rfl) (by kernel_rfl) (Eq.mp (by kernel_rfl) h)
def F34 (d:Option Addr) (b:World) (R:Ending→World→Prop):Prop :=
 NonNil d fun p4 =>
 Calls Tryz.prog 64 #[(.pointer (some p4))] b (post R fun v w1 =>
 ∃(a:Option Addr),v=(.pointer a) ∧
 R (.returned (.pointer a)) w1)
theorem ok34 (d:Option Addr) {w:World}{R:Ending→World→Prop} (h:F34 d w R):Calls Tryz.prog 34 #[(.pointer d)] w R :=
 vc_calls (pl:=⟨7,⟨[]⟩,[],[]⟩) Tryz.func34 (by kernel_rfl) (by kernel_rfl) (by kernel_rfl) (Eq.mp (by kernel_rfl) h)
def F74_j12 (t:Int) (a:World) (R:Ending→World→Prop):Prop :=
 R (.returned (.int .u64 t)) a
def F74_l7 (d:Option Addr) (n:Int) (l:Option Addr) (lN:Nat) (J12:Int→World→Prop) (L7:Int→Int→World→Prop) (t:Int) (f:Int) (h:World) (R:Ending→World→Prop):Prop :=
 Br (decide (f < ((lN:Nat):Int)))
 (IdxA l lN f 1 fun e =>
 LdI .u64 (h.cell? e) fun g =>
 Br (g == n)
 (J12 t h)
 (NonNil d fun p50 =>
 LdM (h.cell? (p50.add 9)) fun i =>
 Raw Tryz.prog (Instr.lookup 103 (.map i) (.int .u64 g) false) h fun v4 c =>
 ∃(b:Int) (a:Int),v4=(.agg #[(.int .u64 b),(.int .u64 a)]) ∧
 InR .i64 (f+(1:Int))∧L7 a (f+(1:Int)) c))
 (J12 t h)
def F74_j5 (d:Option Addr) (n:Int) (c:Int) (l:Option Addr) (lN:Nat) (lC:Nat) (h:World) (R:Ending→World→Prop):Prop :=
 NonNil d fun p34 =>
 LdM (h.cell? (p34.add 9)) fun g =>
 Raw Tryz.prog (Instr.lookup 103 (.map g) (.int .u64 c) false) h fun v3 f =>
 ∃(a:Int) (b:Int),v3=(.agg #[(.int .u64 a),(.int .u64 b)]) ∧
 ∃J12:Int→World→Prop,(∀(t:Int) (e:World),J12 t e→F74_j12 t e R) ∧
 (∃(I:Int→Int→World→Prop) (m:Int→Int→World→Nat),I a (0:Int) f ∧
 ∀(t:Int) (i:Int) (e:World),I t i e→F74_l7 d n l lN J12 (fun t' i' w2=>I t' i' w2∧m t' i' w2 < m t i e) t i e R)
def F74 (d:Option Addr) (n:Int) (p:World) (R:Ending→World→Prop):Prop :=
 NonNil d fun p13 =>
 Calls Tryz.prog 124 #[(.pointer (some p13)),(.int .u64 n)] p (post R fun v w1 =>
 ∃(g:Int) (f:Int),v=(.tuple #[(.int .u64 g),(.int .i64 f)]) ∧
 NonNil d fun p20 =>
 Calls Tryz.prog 69 #[(.pointer (some p20))] w1 (post R fun v2 h =>
 ∃(m:Option Addr) (k:Nat) (j:Nat),v2=(.slice m k j) ∧
 ∃J5:Option Addr→Nat→Nat→World→Prop,(∀(l:Option Addr) (lN:Nat) (lC:Nat) (i:World),J5 l lN lC i→F74_j5 d n g l lN lC i R) ∧
 (Br (g != (0:Int))
 (NonNil d fun p27 =>
 Calls Tryz.prog 117 #[(.pointer (some p27)),(.int .u64 g)] h (post R fun v3 i =>
 ∃(c:Option Addr) (a:Nat) (b:Nat) (e:Int),v3=(.tuple #[(.slice c a b),(.int .i64 e)]) ∧
 J5 c a b i))
 (J5 m k j h))))
theorem ok74 (d:Option Addr) (n:Int) {w:World}{R:Ending→World→Prop} (h:F74 d n w R):Calls Tryz.prog 74 #[(.pointer d),(.int .u64 n)] w R :=
 vc_calls (pl:=⟨58,⟨[]⟩,[(12,⟨[(8,(.s (.int .u64)))],[(8,57)]⟩),(5,⟨[(7,(.s .slice))],[(7,33)]⟩)],[(7,⟨[(8,(.s (.int .u64))),(42,(.s (.int .i64)))],[(8,11),(42,57)]⟩)]⟩) Tryz.func74 (by kernel_rfl) (by kernel_rfl) (by kernel_rfl) (Eq.mp (by kernel_rfl) h)
def F70_j13 (d:Option Addr) (n:Int) (g7:Addr) (g:World) (R:Ending→World→Prop):Prop :=
 ∃S:World→Prop,S g.drew∧NonNil d fun p62 =>
 ∃(f:Option Nat),Held S (p62.add 9) (.map f)∧∃(b:Int),Held S g7 (.int .u64 b)∧∃(a:Int),Held S (g7.add 1) (.int .u64 a)∧Raw Tryz.prog (Instr.mapUpdate 103 (.map f) (.int .u64 n) (.agg #[(.int .u64 b),(.int .u64 a)])) g.drew fun _ c =>
 LdI .u64 (c.cell? (g7.add 1)) fun e =>
 R (.returned (.int .u64 e)) c
def F70_l6 (d:Option Addr) (n:Int) (g7:Addr) (b:Option Addr) (a:Nat) (L6:Int→Int→World→Prop) (last:Int) (p:Int) (m:World) (R:Ending→World→Prop):Prop :=
 Br (decide (p < ((a:Nat):Int)))
 (IdxA b a p 1 fun j =>
 LdI .u64 (m.cell? j) fun q =>
 Calls Tryz.prog 70 #[(.pointer d),(.int .u64 q),(.int .u64 last)] m (post R fun v3 i =>
 ∃(k:Int),v3=(.int .u64 k) ∧
 InR .i64 (p+(1:Int))∧L6 k (p+(1:Int)) i))
 (NonNil d fun p45 =>
 Calls Tryz.prog 116 #[(.pointer (some (p45.add 5))),(.int .u64 last)] m (post R fun v3 i =>
 ∃(c:Int) (e:Int),v3=(.tuple #[(.int .u64 c),(.int .i64 e)]) ∧
 St i (g7.add 1) (.int .u64 c) fun f =>
 ∃J13:World→Prop,(∀ (g:World),J13 g→F70_j13 d n g7 g R) ∧
 (NonNil d fun p53 =>
 LdM (f.cell? (p53.add 9)) fun r =>
 Br (r).isNone
 (AlM f fun r58 g =>
 NonNil d fun p59 =>
 St g (p59.add 9) (.map (some r58)) fun h =>
 J13 h)
 (J13 f))))
def F70 (d:Option Addr) (n:Int) (behind:Int) (r:World) (R:Ending→World→Prop):Prop :=
 Al r #[(.int .u64 0),(.int .u64 0)] 146 fun g7 w1 =>
 NonNil d fun p15 =>
 Calls Tryz.prog 116 #[(.pointer (some (p15.add 5))),(.int .u64 behind)] w1 (post R fun v h =>
 ∃(c:Int) (f:Int),v=(.tuple #[(.int .u64 c),(.int .i64 f)]) ∧
 St h g7 (.int .u64 c) fun j =>
 LdI .u64 (j.cell? g7) fun p =>
 NonNil d fun p26 =>
 Calls Tryz.prog 117 #[(.pointer (some p26)),(.int .u64 n)] j (post R fun v2 i =>
 ∃(e:Option Addr) (a:Nat) (b:Nat) (g:Int),v2=(.tuple #[(.slice e a b),(.int .i64 g)]) ∧
 ∃(I:Int→Int→World→Prop) (m:Int→Int→World→Nat),I p (0:Int) i ∧
 ∀(last:Int) (q:Int) (k:World),I last q k→F70_l6 d n g7 e a (fun last' q' w2=>I last' q' w2∧m last' q' w2 < m last q k) last q k R))
theorem ok70 (d:Option Addr) (n:Int) (behind:Int) {w:World}{R:Ending→World→Prop} (h:F70 d n behind w R):Calls Tryz.prog 70 #[(.pointer d),(.int .u64 n),(.int .u64 behind)] w R :=
 vc_calls (pl:=⟨69,⟨[]⟩,[(13,⟨[],[(52,61)]⟩)],[(6,⟨[(8,(.s (.int .u64))),(34,(.s (.int .i64)))],[(8,13),(34,43)]⟩)]⟩) Tryz.func70 (by kernel_rfl) (by kernel_rfl) (by kernel_rfl) (Eq.mp (by kernel_rfl) h)
def F116_j17 (g41:Addr) (a:World) (R:Ending→World→Prop):Prop :=
 LdI .u64 (a.cell? g41) fun b =>
 R (.returned (.tuple #[(.int .u64 b),(.int .i64 0)])) a
def F116_j13 (l:Option Addr) (a:Option Addr) (g41:Addr) (h:World) (R:Ending→World→Prop):Prop :=
 NonNil a fun p75 =>
 St h (p75.add 3) (.pointer (some g41)) fun c =>
 ∃S2:World→Prop,S2 c.drew∧NonNil l fun p78 =>
 ∃(f:Option Nat),Held S2 p78 (.map f)∧∃(e:Int),Held S2 g41 (.int .u64 e)∧Raw Tryz.prog (Instr.mapUpdate 99 (.map f) (.int .u64 e) (.pointer (some g41))) c.drew fun _ d =>
 ∃J17:World→Prop,(∀ (b:World),J17 b→F116_j17 g41 b R) ∧
 (LdI .u64 (d.cell? (g41.add 1)) fun g =>
 Br (g == (0:Int))
 (Calls Tryz.prog 157 #[(.pointer l)] d (post R fun v3 b =>
 v3=(.tuple #[]) ∧
 J17 b))
 (J17 d))
def F116_j11 (l:Option Addr) (a:Option Addr) (g41:Addr) (d:World) (R:Ending→World→Prop):Prop :=
 ∃J13:World→Prop,(∀ (b:World),J13 b→F116_j13 l a g41 b R) ∧
 (NonNil a fun p62 =>
 LdP (d.cell? (p62.add 3)) fun e =>
 Br (!(e).isNone)
 (NonNil a fun p67 =>
 LdP (d.cell? (p67.add 3)) fun c =>
 NonNil c fun p71 =>
 St d (p71.add 2) (.pointer (some g41)) fun b =>
 J13 b)
 (J13 d))
def F116 (l:Option Addr) (t:Int) (r:World) (R:Ending→World→Prop):Prop :=
 Calls Tryz.prog 107 #[(.pointer l),(.int .u64 t)] r (post R fun v w1 =>
 ∃(a:Option Addr) (b:Int),v=(.tuple #[(.pointer a),(.int .i64 b)]) ∧
 Br (b != (0:Int))
 (R (.returned (.tuple #[(.int .u64 0),(.int .i64 b)])) w1)
 (Calls Tryz.prog 154 #[(.pointer l)] w1 (post R fun v2 c =>
 ∃(i:Int),v2=(.int .i64 i) ∧
 Br (decide (i≥(8192:Int)))
 (R (.returned (.tuple #[(.int .u64 0),(.int .i64 11)])) c)
 (NonNil l fun p25 =>
 LdI .u64 (c.cell? (p25.add 2)) fun j =>
 InR .u64 (j+(1:Int))∧NonNil l fun p29 =>
 St c (p29.add 2) (.int .u64 (j+(1:Int))) fun d =>
 ∃S:World→Prop,S d.drew∧NonNil l fun p32 =>
 ∃(m:Int),Held S (p32.add 2) (.int .u64 m)∧NonNil a fun p37 =>
 ∃(n:Option Addr),Held S (p37.add 3) (.pointer n)∧Al d.drew #[(.int .u64 m),(.int .u64 0),(.pointer a),(.pointer n)] 199 fun g41 h =>
 ∃J11:World→Prop,(∀ (e:World),J11 e→F116_j11 l a g41 e R) ∧
 (∃S2:World→Prop,S2 h.drew∧NonNil a fun p45 =>
 ∃(q:Int),Held S2 (p45.add 1) (.int .u64 q)∧Calls Tryz.prog 155 #[(.pointer a)] h.drew (post R fun v3 f =>
 ∃(k:Int),v3=(.int .u64 k) ∧
 S2 f∧InR .u64 (k-q)∧Br (decide ((k-q)≥(2:Int)))
 (NonNil a fun p54 =>
 LdI .u64 (f.cell? (p54.add 1)) fun p =>
 InR .u64 ((k-q).tdiv (2:Int))∧InR .u64 (p+((k-q).tdiv (2:Int)))∧Calls Tryz.prog 156 #[(.pointer l),(.pointer (some g41)),(.int .u64 (p+((k-q).tdiv (2:Int))))] f (post R fun v4 g =>
 v4=(.tuple #[]) ∧
 J11 g))
 (J11 f)))))))
theorem ok116 (l:Option Addr) (t:Int) {w:World}{R:Ending→World→Prop} (h:F116 l t w R):Calls Tryz.prog 116 #[(.pointer l),(.int .u64 t)] w R :=
 vc_calls (pl:=⟨97,⟨[]⟩,[(17,⟨[],[(86,93)]⟩),(13,⟨[],[(61,73)]⟩),(11,⟨[],[(9,61)]⟩)],[]⟩) Tryz.func116 (by kernel_rfl) (by kernel_rfl) (by kernel_rfl) (Eq.mp (by kernel_rfl) h)
def F154 (l:Option Addr) (c:World) (R:Ending→World→Prop):Prop :=
 Calls Tryz.prog 150 #[(.pointer l)] c (post R fun v w1 =>
 v=(.tuple #[]) ∧
 NonNil l fun p6 =>
 LdM (w1.cell? p6) fun d =>
 Raw Tryz.prog (Builtin.len_ #[99] 3 #[(.map d)]) w1 fun v2 a =>
 ∃(b:Int),v2=(.int .i64 b) ∧
 InR .i64 (b-(1:Int))∧R (.returned (.int .i64 (b-(1:Int)))) a)
theorem ok154 (l:Option Addr) {w:World}{R:Ending→World→Prop} (h:F154 l w R):Calls Tryz.prog 154 #[(.pointer l)] w R :=
 vc_calls (pl:=⟨11,⟨[]⟩,[],[]⟩) Tryz.func154 (by kernel_rfl) (by kernel_rfl) (by kernel_rfl) (Eq.mp (by kernel_rfl) h)
def F150 (l:Option Addr) (g:World) (R:Ending→World→Prop):Prop :=
 NonNil l fun p3 =>
 LdP (g.cell? (p3.add 1)) fun f =>
 Br (f).isNone
 (Al g #[(.int .u64 0),(.int .u64 0),(.pointer none),(.pointer none)] 199 fun g9 w1 =>
 NonNil l fun p10 =>
 St w1 (p10.add 1) (.pointer (some g9)) fun a =>
 AlM a fun r13 c =>
 NonNil l fun p15 =>
 LdP (c.cell? (p15.add 1)) fun e =>
 Raw Tryz.prog (Instr.mapUpdate 99 (.map (some r13)) (.int .u64 0) (.pointer e)) c fun _ b =>
 NonNil l fun p19 =>
 St b p19 (.map (some r13)) fun d =>
 R (.returned (.tuple #[])) d)
 (R (.returned (.tuple #[])) g)
theorem ok150 (l:Option Addr) {w:World}{R:Ending→World→Prop} (h:F150 l w R):Calls Tryz.prog 150 #[(.pointer l)] w R :=
 vc_calls (pl:=⟨21,⟨[]⟩,[],[]⟩) Tryz.func150 (by kernel_rfl) (by kernel_rfl) (by kernel_rfl) (Eq.mp (by kernel_rfl) h)
def F107 (l:Option Addr) (t:Int) (e:World) (R:Ending→World→Prop):Prop :=
 Calls Tryz.prog 150 #[(.pointer l)] e (post R fun v w1 =>
 v=(.tuple #[]) ∧
 NonNil l fun p12 =>
 LdM (w1.cell? p12) fun d =>
 Raw Tryz.prog (Instr.lookup 99 (.map d) (.int .u64 t) true) w1 fun v2 c =>
 ∃(b:Option Addr) (a:Bool),v2=(.tuple #[(.pointer b),(.bool a)]) ∧
 Br (!a)
 (R (.returned (.tuple #[(.pointer none),(.int .i64 10)])) c)
 (R (.returned (.tuple #[(.pointer b),(.int .i64 0)])) c))
theorem ok107 (l:Option Addr) (t:Int) {w:World}{R:Ending→World→Prop} (h:F107 l t w R):Calls Tryz.prog 107 #[(.pointer l),(.int .u64 t)] w R :=
 vc_calls (pl:=⟨22,⟨[]⟩,[],[]⟩) Tryz.func107 (by kernel_rfl) (by kernel_rfl) (by kernel_rfl) (Eq.mp (by kernel_rfl) h)
def F157_l3 (l:Option Addr) (d:Int) (L3:Int→Option Addr→World→Prop) (label:Int) (x:Option Addr) (b:World) (R:Ending→World→Prop):Prop :=
 Br (!(x).isNone)
 (InR .u64 (label+((4611686018427387904:Int).tdiv ((d+(1:Int)))))∧Calls Tryz.prog 156 #[(.pointer l),(.pointer x),(.int .u64 (label+((4611686018427387904:Int).tdiv ((d+(1:Int))))))] b (post R fun v2 a =>
 v2=(.tuple #[]) ∧
 NonNil x fun p23 =>
 LdP (a.cell? (p23.add 3)) fun c =>
 L3 (label+((4611686018427387904:Int).tdiv ((d+(1:Int))))) c a))
 (R (.returned (.tuple #[])) b)
def F157 (l:Option Addr) (d:World) (R:Ending→World→Prop):Prop :=
 NonNil l fun p6 =>
 LdM (d.cell? p6) fun e =>
 Raw Tryz.prog (Builtin.len_ #[99] 3 #[(.map e)]) d fun v w1 =>
 ∃(f:Int),v=(.int .i64 f) ∧
 InR .i64 (f+(1:Int))∧InR .u64 ((f+(1:Int)))∧((f+(1:Int)))≠0∧InR .u64 ((4611686018427387904:Int).tdiv ((f+(1:Int))))∧NonNil l fun p14 =>
 LdP (w1.cell? (p14.add 1)) fun c =>
 NonNil c fun p17 =>
 LdP (w1.cell? (p17.add 3)) fun b =>
 ∃(I:Int→Option Addr→World→Prop) (m:Int→Option Addr→World→Nat),I (0:Int) b w1 ∧
 ∀(label:Int) (x:Option Addr) (a:World),I label x a→F157_l3 l f (fun label' x' w2=>I label' x' w2∧m label' x' w2 < m label x a) label x a R
theorem ok157 (l:Option Addr) {w:World}{R:Ending→World→Prop} (h:F157 l w R):Calls Tryz.prog 157 #[(.pointer l)] w R :=
 vc_calls (pl:=⟨33,⟨[]⟩,[],[(3,⟨[(3,(.s (.int .u64))),(4,(.s .ptr))],[(3,33)]⟩)]⟩) Tryz.func157 (by kernel_rfl) (by kernel_rfl) (by kernel_rfl) (Eq.mp (by kernel_rfl) h)
def F156 (l:Option Addr) (x:Option Addr) (label:Int) (d:World) (R:Ending→World→Prop):Prop :=
 NonNil x fun p7 =>
 LdI .u64 (d.cell? (p7.add 1)) fun c =>
 Br (c != label)
 (NonNil x fun p14 =>
 St d (p14.add 1) (.int .u64 label) fun w1 =>
 NonNil l fun p17 =>
 LdI .u64 (w1.cell? (p17.add 3)) fun b =>
 NonNil l fun p21 =>
 St w1 (p21.add 3) (.int .u64 (IntKind.wrap .u64 (b+(1:Int)))) fun a =>
 R (.returned (.tuple #[])) a)
 (R (.returned (.tuple #[])) d)
theorem ok156 (l:Option Addr) (x:Option Addr) (label:Int) {w:World}{R:Ending→World→Prop} (h:F156 l x label w R):Calls Tryz.prog 156 #[(.pointer l),(.pointer x),(.int .u64 label)] w R :=
 vc_calls (pl:=⟨23,⟨[(2,4)]⟩,[],[]⟩) Tryz.func156 (by kernel_rfl) (by kernel_rfl) (by kernel_rfl) (Eq.mp (by kernel_rfl) h)
def F37_l7 (g23:Addr) (h:Option Addr) (b:Nat) (L7:Int→Int→World→Prop) (last:Int) (e:Int) (d:World) (R:Ending→World→Prop):Prop :=
 Br (decide (e < ((b:Nat):Int)))
 (IdxA h b e 1 fun f =>
 LdI .u64 (d.cell? f) fun g =>
 Calls Tryz.prog 70 #[(.pointer (some g23)),(.int .u64 g),(.int .u64 last)] d (post R fun v3 a =>
 ∃(c:Int),v3=(.int .u64 c) ∧
 InR .i64 (e+(1:Int))∧L7 c (e+(1:Int)) a))
 (R (.returned (.tuple #[(.pointer (some g23)),(.int .i64 0)])) d)
def F37 (x_0:Option Addr) (x_0N:Nat) (x_0C:Nat) (x_1:Option Addr) (x_1N:Nat) (x_1C:Nat) (w_:World) (R:Ending→World→Prop):Prop :=
 Al w_ #[(.slice x_0 x_0N x_0C),(.slice x_1 x_1N x_1C)] 25 fun g1 w1 =>
 LdSl (w1.cell? g1) fun n h g =>
 LdSl (w1.cell? (g1.add 1)) fun i b e =>
 Calls Tryz.prog 68 #[(.agg #[(.slice n h g),(.slice i b e)])] w1 (post R fun v y =>
 ∃(p:Option Addr) (r:Int),v=(.tuple #[(.pointer p),(.int .i64 r)]) ∧
 Br (r != (0:Int))
 (R (.returned (.tuple #[(.pointer none),(.int .i64 r)])) y)
 (NonNil p fun p19 =>
 LdSl (y.cell? p19) fun q c f =>
 LdSl (y.cell? (p19.add 1)) fun k a d =>
 LdI .i64 (y.cell? (p19.add 2)) fun j =>
 LdI .i64 (y.cell? (p19.add 3)) fun s =>
 LdI .i64 (y.cell? (p19.add 4)) fun t =>
 AlM y fun r21 aa =>
 Al aa #[(.slice q c f),(.slice k a d),(.int .i64 j),(.int .i64 s),(.int .i64 t),(.map none),(.pointer none),(.int .u64 0),(.int .u64 0),(.map (some r21))] 105 fun g23 z =>
 Calls Tryz.prog 69 #[(.pointer (some g23))] z (post R fun v2 ca =>
 ∃(fa:Option Addr) (da:Nat) (u:Nat),v2=(.slice fa da u) ∧
 ∃(I:Int→Int→World→Prop) (m:Int→Int→World→Nat),I (0:Int) (0:Int) ca ∧
 ∀(last:Int) (ea:Int) (ba:World),I last ea ba→F37_l7 g23 fa da (fun last' ea' w2=>I last' ea' w2∧m last' ea' w2 < m last ea ba) last ea ba R)))
theorem ok37 (x_0:Option Addr) (x_0N:Nat) (x_0C:Nat) (x_1:Option Addr) (x_1N:Nat) (x_1C:Nat) {w:World}{R:Ending→World→Prop} (h:F37 x_0 x_0N x_0C x_1 x_1N x_1C w R):Calls Tryz.prog 37 #[(.agg #[(.slice x_0 x_0N x_0C),(.slice x_1 x_1N x_1C)])] w R :=
 vc_calls (pl:=⟨39,⟨[]⟩,[],[(7,⟨[(7,(.s (.int .u64))),(29,(.s (.int .i64)))],[(7,10),(29,38)]⟩)]⟩) Tryz.func37 (by kernel_rfl) (by kernel_rfl) (by kernel_rfl) (Eq.mp (by kernel_rfl) h)
def F155 (x:Option Addr) (d:World) (R:Ending→World→Prop):Prop :=
 NonNil x fun p4 =>
 LdP (d.cell? (p4.add 3)) fun c =>
 Br (c).isNone
 (R (.returned (.int .u64 4611686018427387904)) d)
 (NonNil x fun p9 =>
 LdP (d.cell? (p9.add 3)) fun a =>
 NonNil a fun p12 =>
 LdI .u64 (d.cell? (p12.add 1)) fun b =>
 R (.returned (.int .u64 b)) d)
theorem ok155 (x:Option Addr) {w:World}{R:Ending→World→Prop} (h:F155 x w R):Calls Tryz.prog 155 #[(.pointer x)] w R :=
 vc_calls (pl:=⟨15,⟨[]⟩,[],[]⟩) Tryz.func155 (by kernel_rfl) (by kernel_rfl) (by kernel_rfl) (Eq.mp (by kernel_rfl) h)
end Go.Proofs.YtccplipiahdhiaaGreatDoor
namespace Go.Proofs.YtccplipiahdhiaaGreatDoor
open Go.RowKit Go.Vc
set_option linter.unusedVariables false
set_option linter.unusedSimpArgs false
set_option maxRecDepth 100000
theorem insAt_get {α:Type}{l:List α}{m:Nat}{h:α} (hm:m≤l.length) (j:Nat):(l.take m++h :: l.drop m)[j]?=if j < m then l[j]? else if j=m then some h else l[j-1]?:=by
 have hl:(l.take m).length=m:=by rw [List.length_take];omega
 by_cases h1:j < m
 ·rw [if_pos h1,List.getElem?_append_left (by omega),List.getElem?_take,if_pos h1]
 ·rw [if_neg h1,List.getElem?_append_right (by omega),hl]
  by_cases h2:j=m
  ·rw [if_pos h2,h2,Nat.sub_self];rfl
  ·rw [if_neg h2,show j-m=(j-m-1)+1 by omega,List.getElem?_cons_succ,List.getElem?_drop]
   congr 1;omega
theorem idx_iff {l:List Nat} (hn:l.Nodup) {k j:Nat}:l[j]?=some k↔k∈l∧l.idxOf k=j:=by
 constructor
 ·intro h
  obtain⟨hj,he⟩:=List.getElem?_eq_some_iff.1 h
  have hm:k∈l:=List.mem_of_getElem? h
  refine⟨hm,?_⟩
  have hlt:=List.idxOf_lt_length_iff.2 hm
  have h2:=List.getElem_idxOf hlt
  have hp:=List.pairwise_iff_getElem.1 hn
  rcases Nat.lt_trichotomy (l.idxOf k) j with h3 | h3 | h3
  ·exact absurd (h2.trans he.symm) (hp _ _ hlt hj h3)
  ·exact h3
  ·exact absurd (he.trans h2.symm) (hp _ _ hj hlt h3)
 ·rintro ⟨hm,rfl⟩
  have hlt:=List.idxOf_lt_length_iff.2 hm
  rw [List.getElem?_eq_getElem hlt,List.getElem_idxOf hlt]
def pB (b:Option Nat):Value:=.pointer (b.map fun b=>⟨b,0,none⟩)
def pvB (bs:List Nat) (i:Nat):Option Nat:=if i=0 then none else bs[i-1]?
def nxB (bs:List Nat) (i:Nat):Option Nat:=bs[i+1]?
def tgC (bs nms lbs:List Nat) (i:Nat):Array Value:=#[.int .u64 (nms.getD i 0:Nat),.int .u64 (lbs.getD i 0:Nat),pB (pvB bs i),pB (nxB bs i)]
def mpT (bs nms:List Nat) (k:Int):Option Value:=if 0≤k∧k.toNat∈nms then some (pB (some (bs.getD (nms.idxOf k.toNat) 0))) else none
structure TgR (w:World) (o:Nat→Nat) (bs nms lbs:List Nat) (mb:Nat):Prop where
 blk:∀(i b:Nat),bs[i]?=some b→Blk w b (tgC bs nms lbs i) 199
 col:∀b∈bs,o b=4
 nd:bs.Nodup
 mp:Mp .u64 w mb (mpT bs nms)
 mcol:o mb=5
structure TgI (nms lbs:List Nat) (gv:Nat):Prop where
 len:lbs.length=nms.length
 h0:nms[0]?=some 0
 l0:lbs[0]?=some 0
 nd:nms.Nodup
 le:∀x∈nms,x≤gv
 up:lbs.Pairwise (· < ·)
 mx:∀x∈lbs,x < 4611686018427387904
 few:nms.length≤8193
structure Fr where
 a:Value
 b:Value
 c:Value
 d:Value
 e:Value
 m:Value
 t:TypeId
def dkC (f:Fr) (mb:Option Nat) (hd:Option Nat) (gv:Nat) (wr:Int):Array Value:=#[f.a,f.b,f.c,f.d,f.e,.map mb,pB hd,.int .u64 (gv:Nat),.int .u64 wr,f.m]
structure TgD (w:World) (o:Nat→Nat) (g:Nat) (f:Fr) (bs nms lbs:List Nat) (mb gv:Nat) (wr:Int):Prop where
 blk:Blk w g (dkC f (some mb) bs[0]? gv wr) f.t
 gcol:o g=1
 r:TgR w o bs nms lbs mb
 len:bs.length=nms.length
 len2:lbs.length=nms.length
 pos:0 < nms.length
 nn:nms.Nodup
 lt:∀b,o b≠0→b < w.heap.size
structure EvT (w:World) (o:Nat→Nat) (w1:World) (o1:Nat→Nat):Prop where
 fm:Fm (fun b=>o b=1∨o b=4∨o b=5) w w1
 same:∀b,o b≠0→o1 b=o b
 old:∀b,b < w.heap.size→o b=0→o1 b=0
 new:∀b,o1 b≠0→o b≠0∨o1 b=4∨o1 b=5
section
variable {w w1 w2:World}{o o1 o2:Nat→Nat}{g:Nat}{f:Fr}{bs nms lbs:List Nat}{mb gv:Nat}{wr:Int}{M:Nat→Prop}{R:Ending→World→Prop}
theorem EvT.refl:EvT w o w o:=⟨.refl _ _,fun _ _=>rfl,fun _ _ h=>h,fun _ h=>.inl h⟩
theorem EvT.trans (h:EvT w o w1 o1) (hlt:∀b,o b≠0→b < w.heap.size) (k:EvT w1 o1 w2 o2):EvT w o w2 o2:=by
 refine⟨⟨k.fm.os.trans h.fm.os,k.fm.tape.trans h.fm.tape,k.fm.output.trans h.fm.output,Nat.le_trans h.fm.size k.fm.size,fun b hb hm=>?_⟩,fun b hb=>?_,fun b hb h1=>k.old b (Nat.lt_of_lt_of_le hb h.fm.size) (h.old b hb h1),fun b hb=>?_⟩
 ·rw [k.fm.block b (Nat.lt_of_lt_of_le hb h.fm.size) fun e=>?_]
  ·exact h.fm.block b hb hm
  ·by_cases h1:o b=0
   ·have:=h.old b hb h1;omega
   ·rw [h.same b h1] at e;exact hm e
 ·rw [k.same b (by rw [h.same b hb];exact hb)];exact h.same b hb
 ·rcases k.new b hb with e | e
  ·rcases h.new b e with e2 | e2
   ·exact .inl e2
   ·rw [k.same b e];exact .inr e2
  ·exact .inr e
theorem TgR.fm (h:TgR w o bs nms lbs mb) (hf:Fm M w w1) (hm:∀b,(o b=4∨o b=5)→¬M b):TgR w1 o bs nms lbs mb :=
 ⟨fun i b hb=>hf.blk (h.blk i b hb) (hm b (.inl (h.col b (List.mem_of_getElem? hb)))),h.col,h.nd,h.mp.fm hf (hm mb (.inr h.mcol)),h.mcol⟩
theorem TgD.keep (h:TgD w o g f bs nms lbs mb gv wr) (hb:Below w.heap.size w w1):TgD w1 o g f bs nms lbs mb gv wr :=
 ⟨h.blk.keep hb,h.gcol,h.r.fm (M:=fun _=>False) (.below hb) (fun _ _ h=>h),h.len,h.len2,h.pos,h.nn,fun b h1=>Nat.lt_of_lt_of_le (h.lt b h1) hb.size⟩
theorem TgD.bpos (h:TgD w o g f bs nms lbs mb gv wr):∃b,bs[0]?=some b:=by
 exact⟨_,List.getElem?_eq_getElem (by rw [h.len];exact h.pos)⟩
theorem mpT_some {i x b:Nat} (hn:nms.Nodup) (hx:nms[i]?=some x) (hb:bs[i]?=some b):mpT bs nms (x:Nat)=some (pB (some b)):=by
 obtain⟨h1,h2⟩:=(idx_iff hn).1 hx
 unfold mpT
 rw [if_pos ⟨by omega,by rw [Int.toNat_natCast];exact h1⟩,Int.toNat_natCast,h2,List.getD_eq_getElem?_getD,hb];rfl
theorem mapType:Tryz.prog.underlying 99=some (.map 144 100):=by kernel_rfl
theorem keyType:Tryz.prog.underlying 144=some (.int .u64):=by kernel_rfl
theorem zeroTag (w:World):(zeroValue 100).run Tryz.prog w=.ok (.pointer none) w:=by kernel_rfl
theorem begin_calls (h:TgD w o g f bs nms lbs mb gv wr) (hK:R (.returned (.tuple #[])) w):Calls Tryz.prog 150 #[.pointer (some ⟨g,5,none⟩)] w R:=by
 refine ok150 (some ⟨g,5,none⟩) ?_
 unfold F150
 obtain⟨b,hb⟩:=h.bpos
 have hB:=h.blk
 unfold dkC at hB
 rw [hb] at hB
 simp only [NonNil_some,Addr.add_mk,Nat.reduceAdd,hB.cell,List.getElem?_toArray,List.getElem?_cons_zero,List.getElem?_cons_succ,pB,Option.map_some,lds]
 simp only [Option.isNone_some,Br_f]
 exact hK
theorem find_some (h:TgD w o g f bs nms lbs mb gv wr) {i x b:Nat} (hx:nms[i]?=some x) (hb:bs[i]?=some b) (hK:R (.returned (.tuple #[pB (some b),.int .i64 0])) w):Calls Tryz.prog 107 #[.pointer (some ⟨g,5,none⟩),.int .u64 (x:Nat)] w R:=by
 refine ok107 (some ⟨g,5,none⟩) x ?_
 unfold F107
 refine begin_calls h ⟨rfl,?_⟩
 have hB:=h.blk
 unfold dkC at hB
 simp only [NonNil_some,Addr.add_mk,Nat.reduceAdd,Nat.zero_add,hB.cell,lds]
 refine h.r.mp.look mapType keyType (zeroTag w) x true ?_
 rw [mpT_some h.nn hx hb]
 exact⟨some ⟨b,0,none⟩,true,rfl,hK⟩
theorem lenM (h:TgD w o g f bs nms lbs mb gv wr) {t:TypeId}{K:Value→World→Prop} (hK:K (.int .i64 (nms.length:Nat)) w):Raw Tryz.prog (Builtin.len_ #[99] t #[.map (some mb)]) w K:=by
 refine h.r.mp.len mapType (l:=nms.map fun (x:Nat)=>((x:Nat):Int)) ?_ (fun k=>?_) (by rw [List.length_map];exact hK)
 ·exact List.pairwise_map.2 (h.nn.imp fun {a c} hac e=>hac (by omega))
 ·constructor
  ·intro hk
   obtain⟨x,hx,rfl⟩:=List.mem_map.1 hk
   obtain⟨i,hi⟩:=List.mem_iff_getElem?.1 hx
   obtain⟨b,hb⟩:∃b,bs[i]?=some b:=⟨_,List.getElem?_eq_getElem (by rw [h.len];exact (List.getElem?_eq_some_iff.1 hi).1)⟩
   exact⟨_,mpT_some h.nn hi hb⟩
  ·rintro ⟨v,hv⟩
   unfold mpT at hv
   by_cases hc:0≤k∧k.toNat∈nms
   ·exact List.mem_map.2 ⟨k.toNat,hc.2,by omega⟩
   ·rw [if_neg hc] at hv;cases hv
theorem Len_calls (h:TgD w o g f bs nms lbs mb gv wr) (hf:nms.length≤8193) (hK:R (.returned (.int .i64 ((nms.length:Nat)-1:Int))) w):Calls Tryz.prog 154 #[.pointer (some ⟨g,5,none⟩)] w R:=by
 refine ok154 (some ⟨g,5,none⟩) ?_
 unfold F154
 refine begin_calls h ⟨rfl,?_⟩
 have hB:=h.blk
 unfold dkC at hB
 simp only [NonNil_some,Addr.add_mk,Nat.reduceAdd,Nat.zero_add,hB.cell,lds]
 exact lenM h ⟨_,rfl,inR_i64 (by omega) (by omega),hK⟩
theorem TgD.tag (h:TgD w o g f bs nms lbs mb gv wr) {i b:Nat} (hb:bs[i]?=some b):∃x l,nms[i]?=some x∧lbs[i]?=some l∧Blk w b #[.int .u64 (x:Nat),.int .u64 (l:Nat),pB (pvB bs i),pB (nxB bs i)] 199:=by
 have h1:=(List.getElem?_eq_some_iff.1 hb).1
 have h2:nms[i]?=some (nms[i]'(by rw [←h.len];exact h1)):=List.getElem?_eq_getElem _
 have h3:lbs[i]?=some (lbs[i]'(by rw [h.len2,←h.len];exact h1)):=List.getElem?_eq_getElem _
 refine⟨_,_,h2,h3,?_⟩
 have:=h.r.blk i b hb
 unfold tgC at this
 rw [List.getD_eq_getElem?_getD,List.getD_eq_getElem?_getD,h2,h3] at this
 exact this
theorem past_calls (h:TgD w o g f bs nms lbs mb gv wr) {i b:Nat} (hb:bs[i]?=some b) (hK:R (.returned (.int .u64 ((lbs[i+1]?).getD 4611686018427387904:Nat))) w):Calls Tryz.prog 155 #[pB (some b)] w R:=by
 refine ok155 (some ⟨b,0,none⟩) ?_
 unfold F155
 obtain⟨x',l',h1,h2,hB⟩:=h.tag hb
 unfold nxB pB at hB
 simp only [NonNil_some,Addr.add_mk,Nat.reduceAdd,Nat.zero_add,hB.cell,lds]
 cases hn:bs[i+1]? with
 | none =>
  have:lbs[i+1]?=none:=by
   rw [List.getElem?_eq_none_iff] at hn ⊢
   rw [h.len2,←h.len];exact hn
  rw [this] at hK
  simp only [Option.map_none,Option.isNone_none,Br_t]
  exact hK
 | some b2 =>
  obtain⟨x2,l2,h3,h4,hB2⟩:=h.tag hn
  rw [h4] at hK
  simp only [Option.map_some,Option.isNone_some,Br_f,NonNil_some,Addr.add_mk,Nat.reduceAdd,Nat.zero_add,hB2.cell,lds]
  exact hK
theorem TgD.gne (h:TgD w o g f bs nms lbs mb gv wr) {b:Nat} (hb:b∈bs):b≠g∧b≠mb:=⟨fun e=>by have:=h.r.col b hb;rw [e,h.gcol] at this;omega,fun e=>by have:=h.r.col b hb;rw [e,h.r.mcol] at this;omega⟩
theorem nd_get {l:List Nat} (hn:l.Nodup) {i j b:Nat} (hi:l[i]?=some b) (hj:l[j]?=some b):i=j:=by
 have h1:=((idx_iff hn).1 hi).2
 have h2:=((idx_iff hn).1 hj).2
 omega
theorem write_calls (h:TgD w o g f bs nms lbs mb gv wr) {i b:Nat} (hb:bs[i]?=some b) (v:Nat) (hK:∀w' wr',TgD w' o g f bs nms (lbs.set i v) mb gv wr'→Fm (fun x=>x=g∨x=b) w w'→R (.returned (.tuple #[])) w') :
  Calls Tryz.prog 156 #[.pointer (some ⟨g,5,none⟩),pB (some b),.int .u64 (v:Nat)] w R:=by
 refine ok156 (some ⟨g,5,none⟩) (some ⟨b,0,none⟩) v ?_
 unfold F156
 obtain⟨x',l',h1,h2,hB⟩:=h.tag hb
 have hbm:=List.mem_of_getElem? hb
 obtain⟨hne,-⟩:=h.gne hbm
 have hil:=(List.getElem?_eq_some_iff.1 h2).1
 simp only [NonNil_some,Addr.add_mk,Nat.reduceAdd,Nat.zero_add,hB.cell,lds]
 refine brn (fun hv=>?_) (fun hv=>?_)
 ·refine st_blk hB (by simp) fun w1 b1 f1=>?_
  simp only [List.setIfInBounds_toArray,List.set_cons_zero,List.set_cons_succ] at b1
  have hD:=f1.blk h.blk (fun e=>hne e.symm)
  unfold dkC at hD
  simp only [NonNil_some,Addr.add_mk,Nat.reduceAdd,Nat.zero_add,hD.cell,lds]
  refine st_blk hD (by simp) fun w2 b2 f2=>?_
  simp only [List.setIfInBounds_toArray,List.set_cons_zero,List.set_cons_succ] at b2
  have FF:Fm (fun x=>x=g∨x=b) w w2:=(f1.mono fun x _ e=>.inr e).trans (f2.mono fun x _ e=>.inl e)
  refine hK w2 _ ⟨b2,h.gcol,⟨fun j c hc=>?_,h.r.col,h.r.nd,h.r.mp.fm FF fun e=>?_,h.r.mcol⟩,h.len,by rw [List.length_set];exact h.len2,h.pos,h.nn,fun c hc=>Nat.lt_of_lt_of_le (h.lt c hc) FF.size⟩ FF
  ·unfold tgC
   by_cases e:j=i
   ·subst e
    rw [hb] at hc;cases hc
    have:=f2.blk b1 (fun e=>hne e)
    rw [List.getD_eq_getElem?_getD,List.getD_eq_getElem?_getD,h1,List.getElem?_set_self hil]
    exact this
   ·rw [List.getD_eq_getElem?_getD (l:=lbs.set i v),List.getElem?_set_ne (Ne.symm e),←List.getD_eq_getElem?_getD]
    have hcm:=List.mem_of_getElem? hc
    exact FF.blk (h.r.blk j c hc) (fun e2=>by
     rcases e2 with e2 | e2
     ·exact (h.gne hcm).1 e2
     ·subst e2;exact e (nd_get h.r.nd hc hb))
  ·rcases e with e | e
   ·have:=h.gcol;rw [←e,h.r.mcol] at this;omega
   ·exact (h.gne hbm).2 e.symm
 ·have e:lbs.set i v=lbs:=by
   have:l'=v:=by omega
   subst this
   obtain⟨h3,h4⟩:=List.getElem?_eq_some_iff.1 h2
   rw [←h4,List.set_getElem_self]
  exact hK w wr (by rw [e];exact h) (.refl _ _)
end
set_option maxRecDepth 100000
theorem insAt_at {l:List Nat}{m h:Nat} (hm:m≤l.length) (j:Nat):(insAt l m h)[j]?=if j < m then l[j]? else if j=m then some h else l[j-1]?:=insAt_get hm j
theorem insAt_len {l:List Nat}{m h:Nat} (hm:m≤l.length):(insAt l m h).length=l.length+1:=by unfold insAt;simp;omega
section
variable {w w1 w2:World}{o o1 o2:Nat→Nat}{g:Nat}{f:Fr}{bs nms lbs:List Nat}{mb gv:Nat}{wr:Int}{M:Nat→Prop}{R:Ending→World→Prop}
theorem spread_calls (h:TgD w o g f bs nms lbs mb gv wr) (hf:nms.length≤8193) (h0:lbs[0]?=some 0)
  (hK:∀w' lbs' wr',TgD w' o g f bs nms lbs' mb gv wr'→Fm (fun x=>x=g∨x∈bs) w w'→lbs'[0]?=some 0→lbs'.Pairwise (· < ·)→(∀x∈lbs',x < 4611686018427387904)→R (.returned (.tuple #[])) w'):Calls Tryz.prog 157 #[.pointer (some ⟨g,5,none⟩)] w R:=by
 refine ok157 (some ⟨g,5,none⟩) ?_
 unfold F157
 obtain⟨b0,hb0⟩:=h.bpos
 have hB:=h.blk
 unfold dkC at hB
 rw [hb0] at hB
 have hpos:=h.pos
 simp only [NonNil_some,Addr.add_mk,Nat.reduceAdd,Nat.zero_add,hB.cell,lds]
 obtain⟨st,hst⟩:∃st:Nat,st=4611686018427387904 / (nms.length+1):=⟨_,rfl⟩
 have hdiv:(4611686018427387904:Int).tdiv (((nms.length:Nat):Int)+1)=((st:Nat):Int):=by
  rw [hst,show ((nms.length:Nat):Int)+1=((nms.length+1:Nat):Int) by omega,Int.tdiv_eq_ediv_of_nonneg (by omega)];rfl
 have hst1:st*(nms.length+1)≤4611686018427387904:=by rw [hst];exact Nat.div_mul_le_self _ _
 have hst2:1≤st:=by rw [hst];exact (Nat.le_div_iff_mul_le (by omega)).2 (by omega)
 have hst3:st≤4611686018427387904:=by rw [hst];exact Nat.div_le_self _ _
 refine lenM h ⟨_,rfl,inR_i64 (by omega) (by omega),inR_u64 (by omega) (by omega),by omega,?_⟩
 rw [hdiv]
 refine⟨inR_u64 (by omega) (by omega),?_⟩
 simp only [pB,Option.map_some,NonNil_some,Addr.add_mk,Nat.reduceAdd,Nat.zero_add,hB.cell,lds]
 obtain⟨x0,l0,t1,t2,tB⟩:=h.tag hb0
 unfold nxB pB at tB
 simp only [NonNil_some,Addr.add_mk,Nat.reduceAdd,Nat.zero_add,tB.cell,lds]
 have hmul:∀j,j≤nms.length→st*j≤4611686018427387904:=fun j hj=>Nat.le_trans (Nat.mul_le_mul_left st (show j≤nms.length+1 by omega)) hst1
 refine⟨fun lab x w'=>∃(j:Nat) (ls:List Nat) (wr':Int),1≤j∧j≤nms.length∧lab=((st*(j-1):Nat):Int)∧x=bs[j]?.map (fun b=>(⟨b,0,none⟩:Addr))∧TgD w' o g f bs nms ls mb gv wr'∧Fm (fun x=>x=g∨x∈bs) w w'∧∀i,i < j→ls[i]?=some (st*i),fun lab x w'=>nms.length-(lab / (st:Int)).toNat,
  ⟨1,lbs,wr,Nat.le_refl _,by omega,by simp,rfl,h,.refl _ _,fun i hi=>by rw [show i=0 by omega];exact h0⟩,?_⟩
 rintro lab x w2 ⟨j,ls,wr2,hj1,hj2,rfl,rfl,h2,f2,hl⟩
 unfold F157_l3
 cases hbj:bs[j]? with
 | none =>
  have hjn:j=nms.length:=by
   rw [List.getElem?_eq_none_iff,h.len] at hbj;omega
  simp only [Option.map_none,Option.isNone_none,Bool.not_true,Br_f]
  have hlen:=h2.len2
  have hget:∀i,∀hi:i < ls.length,ls[i]=st*i:=fun i hi=>by
   have:=hl i (by omega)
   rw [List.getElem?_eq_getElem hi] at this;exact Option.some.inj this
  refine hK w2 ls wr2 h2 f2 (by rw [hl 0 (by omega)];rfl) (List.pairwise_iff_getElem.2 fun a c ha hc hac=>?_) fun y hy=>?_
  ·rw [hget a ha,hget c hc]
   exact Nat.mul_lt_mul_of_pos_left hac (by omega)
  ·obtain⟨a,ha,rfl⟩:=List.mem_iff_getElem.1 hy
   rw [hget a ha]
   have h3:st*(a+1)≤4611686018427387904:=hmul (a+1) (by omega)
   rw [Nat.mul_succ] at h3
   omega
 | some b =>
  simp only [Option.map_some,Option.isNone_some,Bool.not_false,Br_t]
  have hjl:=(List.getElem?_eq_some_iff.1 hbj).1
  rw [h.len] at hjl
  have e1:((st*(j-1):Nat):Int)+((st:Nat):Int)=((st*j:Nat):Int):=by
   have:st*j=st*(j-1)+st:=by rw [←Nat.mul_succ];congr 1;omega
   rw [this];omega
  rw [hdiv,e1]
  have hmj:=hmul j hj2
  refine⟨inR_u64 (by omega) (by omega),?_⟩
  refine write_calls h2 hbj (st*j) fun w3 wr3 h3 f3=>⟨rfl,?_⟩
  obtain⟨x3,l3,t3,t4,tB3⟩:=h3.tag hbj
  unfold nxB pB at tB3
  simp only [NonNil_some,Addr.add_mk,Nat.reduceAdd,Nat.zero_add,tB3.cell,lds]
  have hjls:j < ls.length:=by rw [h2.len2];exact hjl
  refine⟨⟨j+1,ls.set j (st*j),wr3,by omega,by omega,by simp,rfl,h3,f2.trans (f3.mono fun x _ e=>?_),fun i hi=>?_⟩,?_⟩
  ·rcases e with e | e
   ·exact .inl e
   ·subst e;exact .inr (List.mem_of_getElem? hbj)
  ·by_cases e:i=j
   ·subst e;rw [List.getElem?_set_self hjls]
   ·rw [List.getElem?_set_ne (Ne.symm e)];exact hl i (by omega)
  ·show nms.length-(((st*j:Nat):Int) / (st:Int)).toNat < nms.length-(((st*(j-1):Nat):Int) / (st:Int)).toNat
   have d1:∀a:Nat,(((st*a:Nat):Int) / (st:Int)).toNat=a:=fun a=>by
    rw [show (((st*a:Nat):Int) / (st:Int))=((st*a / st:Nat):Int) from rfl,Int.toNat_natCast,Nat.mul_div_cancel_left a (by omega)]
   rw [d1,d1];omega
theorem writeN_calls (h:TgD w o g f bs nms lbs mb gv wr) {b:Nat}{nm l:Nat}{p q:Value} (hb:o b=0) (hB:Blk w b #[.int .u64 (nm:Nat),.int .u64 (l:Nat),p,q] 199) (v:Nat)
  (hK:∀w' wr',TgD w' o g f bs nms lbs mb gv wr'→Blk w' b #[.int .u64 (nm:Nat),.int .u64 (v:Nat),p,q] 199→Fm (fun x=>x=g∨x=b) w w'→R (.returned (.tuple #[])) w') :
  Calls Tryz.prog 156 #[.pointer (some ⟨g,5,none⟩),.pointer (some ⟨b,0,none⟩),.int .u64 (v:Nat)] w R:=by
 refine ok156 (some ⟨g,5,none⟩) (some ⟨b,0,none⟩) v ?_
 unfold F156
 have hne:b≠g:=fun e=>by have:=h.gcol;rw [←e] at this;omega
 simp only [NonNil_some,Addr.add_mk,Nat.reduceAdd,Nat.zero_add,hB.cell,lds]
 refine brn (fun hv=>?_) (fun hv=>?_)
 ·refine st_blk hB (by simp) fun w1 b1 f1=>?_
  simp only [List.setIfInBounds_toArray,List.set_cons_zero,List.set_cons_succ] at b1
  have hD:=f1.blk h.blk (fun e=>hne e.symm)
  unfold dkC at hD
  simp only [NonNil_some,Addr.add_mk,Nat.reduceAdd,Nat.zero_add,hD.cell,lds]
  refine st_blk hD (by simp) fun w2 b2 f2=>?_
  simp only [List.setIfInBounds_toArray,List.set_cons_zero,List.set_cons_succ] at b2
  have FF:Fm (fun x=>x=g∨x=b) w w2:=(f1.mono fun x _ e=>.inr e).trans (f2.mono fun x _ e=>.inl e)
  refine hK w2 _ ⟨b2,h.gcol,h.r.fm FF fun c hc e=>?_,h.len,h.len2,h.pos,h.nn,fun c hc=>Nat.lt_of_lt_of_le (h.lt c hc) FF.size⟩ (f2.blk b1 (fun e=>hne e)) FF
  rcases e with e | e
  ·have:=h.gcol;rw [←e] at this;omega
  ·rw [e] at hc;omega
 ·have:l=v:=by omega
  subst this
  exact hK w wr h hB (.refl _ _)
end
set_option maxRecDepth 100000
theorem mpT_ins {bs nms:List Nat}{i nb x:Nat} (hn:nms.Nodup) (hx:x∉nms) (hl:bs.length=nms.length) (hi:i+1≤nms.length):mpT (insAt bs (i+1) nb) (insAt nms (i+1) x)=upd (mpT bs nms) x (some (pB (some nb))):=by
 have hn':(insAt nms (i+1) x).Nodup:=nodup_insAt hn hx
 funext k
 unfold upd
 by_cases hk:k=(x:Int)
 ·rw [if_pos hk,hk]
  exact mpT_some (i:=i+1) hn' (by rw [insAt_at hi,if_neg (by omega),if_pos rfl]) (by rw [insAt_at (by omega),if_neg (by omega),if_pos rfl])
 ·rw [if_neg hk]
  by_cases hm:0≤k∧k.toNat∈nms
  ·obtain⟨hk0,hkm⟩:=hm
   obtain⟨a,rfl⟩:∃a:Nat,k=a:=⟨k.toNat,by omega⟩
   rw [Int.toNat_natCast] at hkm
   obtain⟨j,hj⟩:=List.mem_iff_getElem?.1 hkm
   have hjl:=(List.getElem?_eq_some_iff.1 hj).1
   obtain⟨b,hb⟩:∃b,bs[j]?=some b:=⟨_,List.getElem?_eq_getElem (by omega)⟩
   rw [mpT_some hn hj hb]
   by_cases hji:j < i+1
   ·exact mpT_some hn' (by rw [insAt_at hi,if_pos hji];exact hj) (by rw [insAt_at (by omega),if_pos hji];exact hb)
   ·refine mpT_some (i:=j+1) hn' ?_ ?_
    ·rw [insAt_at hi,if_neg (by omega),if_neg (by omega)];exact hj
    ·rw [insAt_at (by omega),if_neg (by omega),if_neg (by omega)];exact hb
  ·unfold mpT
   rw [if_neg hm,if_neg]
   rintro ⟨h0,h1⟩
   rcases mem_insAt.1 h1 with h1 | h1
   ·exact hk (by omega)
   ·exact hm ⟨h0,h1⟩
theorem TgI.ins {nms lbs:List Nat}{gv i l L:Nat} (h:TgI nms lbs gv) (hi:i+1≤nms.length) (hl:lbs[i]?=some l) (h1:l < L) (h2:∀m,lbs[i+1]?=some m→L < m) (h3:L < 4611686018427387904) (hf:nms.length≤8192):TgI (insAt nms (i+1) (gv+1)) (insAt lbs (i+1) L) (gv+1):=by
 have hlen:=h.len
 have hx:gv+1∉nms:=fun hx=>by have:=h.le _ hx;omega
 refine⟨by rw [insAt_len hi,insAt_len (by omega),hlen],by rw [insAt_at hi,if_pos (by omega)];exact h.h0,by rw [insAt_at (by omega),if_pos (by omega)];exact h.l0,nodup_insAt h.nd hx,fun x hx=>?_,?_,fun x hx=>?_,by rw [insAt_len hi];omega⟩
 ·rcases mem_insAt.1 hx with rfl | hx
  ·omega
  ·have:=h.le x hx;omega
 ·unfold insAt
  have hp:=h.up
  rw [←List.take_append_drop (i+1) lbs,List.pairwise_append] at hp
  obtain⟨q1,q2,q3⟩:=hp
  have hg:=List.pairwise_iff_getElem.1 h.up
  obtain⟨hil,hie⟩:=List.getElem?_eq_some_iff.1 hl
  have htake:∀x∈lbs.take (i+1),x < L:=fun x hx=>by
   obtain⟨a,ha,rfl⟩:=List.mem_iff_getElem.1 hx
   rw [List.length_take] at ha
   rw [List.getElem_take]
   rcases Nat.lt_or_ge a i with h4 | h4
   ·have:=hg a i (by omega) hil h4;omega
   ·have:a=i:=by omega
    subst this;omega
  have hdrop:∀x∈lbs.drop (i+1),L < x:=fun x hx=>by
   obtain⟨a,ha,rfl⟩:=List.mem_iff_getElem.1 hx
   rw [List.length_drop] at ha
   rw [List.getElem_drop]
   have h5:=h2 _ (List.getElem?_eq_getElem (show i+1 < lbs.length by omega))
   by_cases h4:a=0
   ·subst h4;exact h5
   ·have:=hg (i+1) (i+1+a) (by omega) (by omega) (by omega);omega
  rw [List.pairwise_append,List.pairwise_cons]
  refine⟨q1,⟨hdrop,q2⟩,fun x hx y hy=>?_⟩
  rcases List.mem_cons.1 hy with rfl | hy
  ·exact htake x hx
  ·exact q3 x hx y hy
 ·rcases mem_insAt.1 hx with rfl | hx
  ·exact h3
  ·exact h.mx x hx
theorem TgI.renum {nms lbs lbs':List Nat}{gv i L:Nat} (h:TgI nms lbs gv) (hi:i+1≤nms.length) (hf:nms.length≤8192) (hl:lbs'.length=(insAt nms (i+1) (gv+1)).length) (h0:lbs'[0]?=some 0) (hp:lbs'.Pairwise (· < ·)) (hm:∀x∈lbs',x < 4611686018427387904):TgI (insAt nms (i+1) (gv+1)) lbs' (gv+1):=by
 have hx:gv+1∉nms:=fun hx=>by have:=h.le _ hx;omega
 refine⟨hl,by rw [insAt_at hi,if_pos (by omega)];exact h.h0,h0,nodup_insAt h.nd hx,fun x hx=>?_,hp,hm,by rw [insAt_len hi];omega⟩
 rcases mem_insAt.1 hx with rfl | hx
 ·omega
 ·have:=h.le x hx;omega
theorem TgR.ins {w w1:World}{o:Nat→Nat}{bs nms lbs:List Nat}{mb i b nb x L:Nat} (h:TgR w o bs nms lbs mb) (hlen:bs.length=nms.length) (hlen2:lbs.length=nms.length) (hb:bs[i]?=some b) (hnb:∀c,o c≠0→c≠nb)
  (h1:Blk w1 b #[.int .u64 (nms.getD i 0:Nat),.int .u64 (lbs.getD i 0:Nat),pB (pvB bs i),pB (some nb)] 199) (h2:Blk w1 nb #[.int .u64 (x:Nat),.int .u64 (L:Nat),pB (some b),pB (nxB bs i)] 199)
  (h3:∀c,bs[i+1]?=some c→Blk w1 c #[.int .u64 (nms.getD (i+1) 0:Nat),.int .u64 (lbs.getD (i+1) 0:Nat),pB (some nb),pB (nxB bs (i+1))] 199)
  (h4:∀j c,bs[j]?=some c→j≠i→j≠i+1→Blk w1 c (tgC bs nms lbs j) 199) (hm:Mp .u64 w1 mb (mpT (insAt bs (i+1) nb) (insAt nms (i+1) x))) :
  TgR w1 (fun c=>if c=nb then 4 else o c) (insAt bs (i+1) nb) (insAt nms (i+1) x) (insAt lbs (i+1) L) mb:=by
 have hil:=(List.getElem?_eq_some_iff.1 hb).1
 have hi:i+1≤bs.length:=hil
 have hi2:i+1≤nms.length:=by omega
 have hi3:i+1≤lbs.length:=by omega
 have gd:∀(l:List Nat) (y:Nat),i+1≤l.length→∀j,(insAt l (i+1) y).getD j 0=if j < i+1 then l.getD j 0 else if j=i+1 then y else l.getD (j-1) 0:=fun l y hl j=>by
  rw [List.getD_eq_getElem?_getD,insAt_at hl]
  split
  ·rw [List.getD_eq_getElem?_getD]
  ·split
   ·rfl
   ·rw [List.getD_eq_getElem?_getD]
 refine⟨fun j c hc=>?_,fun c hc=>?_,nodup_insAt h.nd fun hx=>hnb nb (by rw [h.col nb hx];decide) rfl,hm,?_⟩
 ·rw [insAt_at hi] at hc
  unfold tgC pvB nxB
  rw [gd nms x hi2,gd lbs L hi3,insAt_at hi,insAt_at hi]
  by_cases c1:j < i+1
  ·rw [if_pos c1] at hc
   rw [if_pos c1,if_pos c1]
   by_cases c2:j=i
   ·subst c2
    rw [hb] at hc;cases hc
    have e:(if j=0 then none else if j-1 < j+1 then bs[j-1]? else if j-1=j+1 then some nb else bs[j-1-1]?)=pvB bs j:=by
     unfold pvB
     split
     ·rfl
     ·rw [if_pos (by omega)]
    rw [e,if_neg (by omega),if_pos rfl];exact h1
   ·have e:(if j=0 then none else if j-1 < i+1 then bs[j-1]? else if j-1=i+1 then some nb else bs[j-1-1]?)=pvB bs j:=by
     unfold pvB
     split
     ·rfl
     ·rw [if_pos (by omega)]
    rw [e,if_pos (by omega)]
    exact h4 j c hc c2 (by omega)
  ·rw [if_neg c1] at hc
   rw [if_neg c1,if_neg c1]
   by_cases c2:j=i+1
   ·rw [if_pos c2] at hc;cases hc
    subst c2
    rw [if_pos rfl,if_pos rfl,if_neg (by omega),if_pos (by omega),show i+1-1=i by omega,hb,if_neg (by omega),if_neg (by omega)]
    exact h2
   ·rw [if_neg c2] at hc
    rw [if_neg c2,if_neg c2,if_neg (show ¬j=0 by omega),if_neg (show ¬j-1 < i+1 by omega),if_neg (show ¬j+1 < i+1 by omega),if_neg (show ¬j+1=i+1 by omega),show j+1-1=j by omega]
    by_cases c3:j=i+2
    ·subst c3
     rw [if_pos (by omega)]
     exact h3 c hc
    ·rw [if_neg (by omega)]
     have:=h4 (j-1) c hc (by omega) (by omega)
     unfold tgC pvB nxB at this
     rw [if_neg (by omega),show j-1+1=j by omega] at this
     exact this
 ·by_cases e:c=nb
  ·rw [if_pos e]
  ·rw [if_neg e]
   rcases mem_insAt.1 hc with rfl | hc
   ·exact absurd rfl e
   ·exact h.col c hc
 ·rw [if_neg (hnb mb (by rw [h.mcol];decide))];exact h.mcol
set_option maxRecDepth 100000
section
variable {w w1 w2:World}{o o1 o2:Nat→Nat}{g:Nat}{f:Fr}{bs nms lbs:List Nat}{mb gv:Nat}{wr:Int}{M:Nat→Prop}{R:Ending→World→Prop}
theorem Fm.tr2 {M M':Nat→Prop}{w w1 w2:World} (h:Fm M w w1) (k:Fm M' w1 w2) (hm:∀b,b < w.heap.size→M' b→M b):Fm M w w2 :=
 ⟨k.os.trans h.os,k.tape.trans h.tape,k.output.trans h.output,Nat.le_trans h.size k.size,fun b hb hn=>by
  rw [k.block b (by have:=h.size;omega) (fun e=>hn (hm b hb e)),h.block b hb hn]⟩
theorem After_gen {w0:World}{o0:Nat→Nat} (hlt0:∀b,o0 b≠0→b < w0.heap.size) (hf:nms.length≤8192) (hgv:gv < 9223372036854775808) {i x:Nat} (hx:nms[i]?=some x)
  (hF:∀R':Ending→World→Prop,(∀w o bs lbs mb wr b,TgD w o g f bs nms lbs mb gv wr→TgI nms lbs gv→EvT w0 o0 w o→bs[i]?=some b→R' (.returned (.tuple #[pB (some b),.int .i64 0])) w)→Calls Tryz.prog 107 #[.pointer (some ⟨g,5,none⟩),.int .u64 (x:Nat)] w0 R')
  (hK:∀w' o' bs' lbs' mb wr',TgD w' o' g f bs' (insAt nms (i+1) (gv+1)) lbs' mb (gv+1) wr'→TgI (insAt nms (i+1) (gv+1)) lbs' (gv+1)→EvT w0 o0 w' o'→R (.returned (.tuple #[.int .u64 (gv+1:Nat),.int .i64 0])) w') :
  Calls Tryz.prog 116 #[.pointer (some ⟨g,5,none⟩),.int .u64 (x:Nat)] w0 R:=by
 refine ok116 (some ⟨g,5,none⟩) x ?_
 unfold F116
 have hxl:=(List.getElem?_eq_some_iff.1 hx).1
 have hi2:i+1≤nms.length:=hxl
 refine hF _ fun w o bs lbs mb wr b h hI ev0 hb=>⟨_,_,rfl,brn (fun e=>absurd rfl e) fun _=>?_⟩
 have hbm:=List.mem_of_getElem? hb
 have hlt:=h.lt
 refine Len_calls h (by omega) ⟨_,rfl,brd (fun e=>absurd e (by omega)) fun _=>?_⟩
 obtain⟨b0,hb0⟩:=h.bpos
 have hD:=h.blk
 unfold dkC at hD
 simp only [NonNil_some,Addr.add_mk,Nat.reduceAdd,Nat.zero_add,hD.cell,lds]
 have eg:((gv:Nat):Int)+1=((gv+1:Nat):Int):=by omega
 rw [eg]
 refine⟨inR_u64 (by omega) (by omega),?_⟩
 refine st_blk hD (by simp) fun w1 bD1 f1=>?_
 simp only [List.setIfInBounds_toArray,List.set_cons_zero,List.set_cons_succ] at bD1
 have hgne:∀c,(o c=4∨o c=5)→¬c=g:=fun c hc e=>by have:=h.gcol;rw [←e] at this;omega
 have h1:TgD w1 o g f bs nms lbs mb (gv+1) wr:=⟨bD1,h.gcol,h.r.fm f1 hgne,h.len,h.len2,h.pos,h.nn,fun c hc=>Nat.lt_of_lt_of_le (hlt c hc) f1.size⟩
 have hdr1:Below w1.heap.size w1 w1.drew:=(Below.refl _ _).drew
 obtain⟨x1,l,t1,t2,tB⟩:=h1.tag hb
 rw [hx] at t1;cases t1
 have hs1:=f1.size
 refine⟨fun w'=>Below w1.heap.size w1 w',hdr1,?_⟩
 refine⟨_,fun w' hw=>by rw [(bD1.keep hw).cell];rfl,?_⟩
 simp only [Option.map_some,NonNil_some,Addr.add_mk,Nat.reduceAdd,Nat.zero_add]
 refine⟨(nxB bs i).map fun b=>(⟨b,0,none⟩:Addr),fun w' hw=>by rw [(tB.keep hw).cell];rfl,?_⟩
 refine al fun nb w2 hb2 bn2 hge2=>?_
 have D2:Below w1.heap.size w1 w2:=btr hdr1 hdr1.size hb2
 have h2:=h1.keep D2
 have onb:o nb=0:=Classical.byContradiction fun e=>by have:=hlt nb e;have:w1.heap.size≤nb:=hge2;omega
 have hnb:∀c,o c≠0→c≠nb:=fun c hc e=>hc (by rw [e];exact onb)
 have tB2:=tB.keep D2
 have hup:=List.pairwise_iff_getElem.1 hI.up
 obtain⟨hil,hie⟩:=List.getElem?_eq_some_iff.1 t2
 have hlmx:=hI.mx l (List.mem_of_getElem? t2)
 have hpast:l < (lbs[i+1]?).getD 4611686018427387904∧(lbs[i+1]?).getD 4611686018427387904≤4611686018427387904:=by
  cases hn:lbs[i+1]? with
  | none=>exact⟨hlmx,Nat.le_refl _⟩
  | some m =>
   obtain⟨h3,h4⟩:=List.getElem?_eq_some_iff.1 hn
   have:=hup i (i+1) hil h3 (by omega)
   have h5:=hI.mx m (List.mem_of_getElem? hn)
   show l < m∧m≤_
   omega
 refine⟨fun w'=>∃(L:Nat) (wr':Int),TgD w' o g f bs nms lbs mb (gv+1) wr'∧Blk w' nb #[.int .u64 (gv+1:Nat),.int .u64 (L:Nat),pB (some b),pB (nxB bs i)] 199∧Fm (fun c=>c=g∨c=nb) w2 w'∧(L=0∨(l < L∧(∀m,lbs[i+1]?=some m→L < m)∧L < 4611686018427387904)),?_,?_⟩
 rotate_left
 ·have hdr2:Below w2.heap.size w2 w2.drew:=(Below.refl _ _).drew
  refine⟨fun w'=>Below w2.heap.size w2 w',hdr2,?_⟩
  refine⟨_,fun w' hw=>by rw [(tB2.keep hw).cell];rfl,?_⟩
  refine past_calls (h2.keep hdr2) hb ⟨_,rfl,hdr2,?_⟩
  generalize hpp:(lbs[i+1]?).getD 4611686018427387904=p at hpast ⊢
  have hnext:∀m,lbs[i+1]?=some m→p=m:=fun m hm=>by rw [←hpp,hm];rfl
  have esub:((p:Nat):Int)-((l:Nat):Int)=((p-l:Nat):Int):=by omega
  rw [esub]
  refine⟨inR_u64 (by omega) (by omega),?_⟩
  have bn2d:=bn2.keep hdr2
  have tB2d:=tB2.keep hdr2
  refine brd (fun hgap=>?_) (fun hgap=>⟨0,wr,h2.keep hdr2,bn2d,.below hdr2,.inl rfl⟩)
  simp only [NonNil_some,Addr.add_mk,Nat.reduceAdd,Nat.zero_add,tB2d.cell,lds]
  have ediv:((p-l:Nat):Int).tdiv 2=(((p-l) / 2:Nat):Int):=by rw [Int.tdiv_eq_ediv_of_nonneg (by omega)];rfl
  rw [ediv]
  have eadd:((l:Nat):Int)+(((p-l) / 2:Nat):Int)=((l+(p-l) / 2:Nat):Int):=by omega
  rw [eadd]
  refine⟨inR_u64 (by omega) (by omega),inR_u64 (by omega) (by omega),?_⟩
  refine writeN_calls (h2.keep hdr2) onb (b:=nb) (nm:=gv+1) (l:=0) (p:=pB (some b)) (q:=pB (nxB bs i)) bn2d (l+(p-l) / 2) fun w3 wr3 h3 b3 f3=>⟨rfl,?_⟩
  exact⟨_,wr3,h3,b3,(Fm.below hdr2).trans f3,.inr ⟨by omega,fun m hm=>by have:=hnext m hm;omega,by omega⟩⟩
 rintro w3 ⟨L,wr3,h3,b3,f3,hL⟩
 unfold F116_j11
 obtain⟨x3,l3,t3,t4,tB3⟩:=h3.tag hb
 rw [hx] at t3;cases t3
 rw [t2] at t4;cases t4
 have hgd1:nms.getD i 0=x:=by rw [List.getD_eq_getElem?_getD,hx];rfl
 have hgd2:lbs.getD i 0=l:=by rw [List.getD_eq_getElem?_getD,t2];rfl
 refine⟨fun w'=>Fm (fun c=>bs[i+1]?=some c) w3 w'∧∀c,bs[i+1]?=some c→Blk w' c #[.int .u64 (nms.getD (i+1) 0:Nat),.int .u64 (lbs.getD (i+1) 0:Nat),pB (some nb),pB (nxB bs (i+1))] 199,?_,?_⟩
 rotate_left
 ·simp only [pB,NonNil_some,Addr.add_mk,Nat.reduceAdd,Nat.zero_add,tB3.cell,lds]
  cases hn:bs[i+1]? with
  | none =>
   have e:nxB bs i=none:=hn
   rw [e]
   simp only [Option.map_none,Option.isNone_none,Bool.not_true,Br_f]
   exact⟨.refl _ _,fun c hc=>by cases hc⟩
  | some c =>
   have e:nxB bs i=some c:=hn
   rw [e]
   simp only [Option.map_some,Option.isNone_some,Bool.not_false,Br_t,NonNil_some,Addr.add_mk,Nat.reduceAdd,Nat.zero_add]
   have hc3:=h3.r.blk (i+1) c hn
   unfold tgC at hc3
   refine st_blk hc3 (by simp) fun w4 b4 f4=>?_
   simp only [List.setIfInBounds_toArray,List.set_cons_zero,List.set_cons_succ] at b4
   exact⟨f4.mono fun y _ e=>by rw [e],fun c' hc'=>by cases hc';exact b4⟩
 rintro w4 ⟨f4,hc4⟩
 unfold F116_j13
 have hne1:∀c,bs[i+1]?=some c→c≠b∧c≠g∧c≠nb∧c≠mb:=fun c hc=>by
  have hcm:=List.mem_of_getElem? hc
  refine⟨fun e=>?_,(h.gne hcm).1,hnb c (by rw [h.r.col c hcm];decide),(h.gne hcm).2⟩
  subst e
  have:=nd_get h.r.nd hc hb;omega
 have tB4:=f4.blk tB3 (fun e=>(hne1 b e).1 rfl)
 have b4:=f4.blk b3 (fun e=>(hne1 nb e).2.2.1 rfl)
 have bD4:=f4.blk h3.blk (fun e=>(hne1 g e).2.1 rfl)
 unfold dkC at bD4
 simp only [pB,NonNil_some,Addr.add_mk,Nat.reduceAdd,Nat.zero_add]
 have hbnb:b≠nb:=hnb b (by rw [h.r.col b hbm];decide)
 obtain⟨hbg,hbmb⟩:=h.gne hbm
 refine st_blk tB4 (by simp) fun w5 tB5 f5=>?_
 simp only [List.setIfInBounds_toArray,List.set_cons_zero,List.set_cons_succ] at tB5
 have b5:=f5.blk b4 (fun e=>hbnb e.symm)
 have bD5:=f5.blk bD4 (fun e=>hbg e.symm)
 have hdr5:Below w5.heap.size w5 w5.drew:=(Below.refl _ _).drew
 refine⟨fun w'=>Below w5.heap.size w5 w',hdr5,?_⟩
 refine⟨_,fun w' hw=>by rw [(bD5.keep hw).cell];rfl,?_⟩
 refine⟨_,fun w' hw=>by rw [(b5.keep hw).cell];rfl,?_⟩
 have mcol:=h.r.mcol
 have hmb4:¬bs[i+1]?=some mb:=fun e=>(hne1 mb e).2.2.2 rfl
 have mp5:Mp .u64 w5.drew mb (mpT bs nms):=((h3.r.mp.fm f4 hmb4).fm f5 (fun e=>hbmb e.symm)).fm (M:=fun _=>False) (.below hdr5) fun h=>h
 have hgx:gv+1∉nms:=fun e=>by have:=hI.le _ e;omega
 refine mp5.update mapType keyType (gv+1:Nat) _ fun w6 mp6 f6=>?_
 have F36:Fm (fun c=>c=b∨c=mb∨bs[i+1]?=some c) w3 w6:=((f4.mono fun c _ e=>.inr (.inr e)).trans (f5.mono fun c _ e=>.inl e)).trans ((Fm.below hdr5).trans (f6.mono fun c _ e=>.inr (.inl e)))
 have F56:Fm (·=mb) w5 w6:=(Fm.below hdr5).trans f6
 have b6:=F56.blk b5 (fun e=>by have e:nb=mb:=e;rw [e] at onb;omega)
 have hR6:=h3.r.ins (w1:=w6) (L:=L) (x:=gv+1) (nb:=nb) h.len h.len2 hb hnb (by rw [hgd1,hgd2];exact F56.blk tB5 hbmb) b6 (fun c hc=>F56.blk (f5.blk (hc4 c hc) (hne1 c hc).1) (hne1 c hc).2.2.2)
  (fun j c hc hji hji1=>F36.blk (h3.r.blk j c hc) (fun e=>by
   have hcm:=List.mem_of_getElem? hc
   rcases e with e | e | e
   ·subst e;exact hji (nd_get h.r.nd hc hb)
   ·exact (h.gne hcm).2 e
   ·exact hji1 (nd_get h.r.nd hc e))) (by rw [mpT_ins h.nn hgx h.len hi2];exact mp6)
 have hi3:i+1≤bs.length:=by rw [h.len];exact hi2
 have hi4:i+1≤lbs.length:=by rw [h.len2];exact hi2
 have F26:=F36.size
 have F23:=f3.size
 have hnb6:=b6.lt
 have h6:TgD w6 (fun c=>if c=nb then 4 else o c) g f (insAt bs (i+1) nb) (insAt nms (i+1) (gv+1)) (insAt lbs (i+1) L) mb (gv+1) wr3:=by
  refine⟨?_,?_,hR6,by rw [insAt_len hi3,insAt_len hi2,h.len],by rw [insAt_len hi4,insAt_len hi2,h.len2],by rw [insAt_len hi2];omega,nodup_insAt h.nn hgx,fun c hc=>?_⟩
  ·have:=F56.blk bD5 (fun e=>by have e:g=mb:=e;rw [←e,h.gcol] at mcol;omega)
   unfold dkC
   rw [insAt_at hi3,if_pos (by omega)]
   exact this
  ·show (if g=nb then 4 else o g)=1
   rw [if_neg (hnb g (by rw [h.gcol];decide))];exact h.gcol
  ·by_cases e:c=nb
   ·rw [e];exact hnb6
   ·have hc:(if c=nb then 4 else o c)≠0:=hc
    rw [if_neg e] at hc
    exact Nat.lt_of_lt_of_le (h3.lt c hc) F26
 have hcold:∀c,c < w.heap.size→c≠nb:=fun c hc e=>by have:w1.heap.size≤nb:=hge2;omega
 have F06:Fm (fun c=>o c=1∨o c=4∨o c=5) w w6:=by
  have a1:Fm (fun c=>o c=1∨o c=4∨o c=5) w w2:=(f1.mono fun c _ e=>by have e:c=g:=e;rw [e];exact .inl h.gcol).tr D2
  have a2:=a1.tr2 f3 fun c hc e=>by
   rcases e with e | e
   ·rw [e];exact .inl h.gcol
   ·exact absurd e (hcold c hc)
  refine a2.tr2 F36 fun c hc e=>?_
  rcases e with e | e | e
  ·rw [e];exact .inr (.inl (h.r.col b hbm))
  ·rw [e];exact .inr (.inr mcol)
  ·exact .inr (.inl (h.r.col c (List.mem_of_getElem? e)))
 have ev6:EvT w o w6 (fun c=>if c=nb then 4 else o c):=⟨F06,fun c hc=>by show (if c=nb then 4 else o c)=o c;rw [if_neg (hnb c hc)],fun c hc h9=>by show (if c=nb then 4 else o c)=0;rw [if_neg (hcold c hc)];exact h9,fun c hc=>by
  by_cases e:c=nb
  ·right;left;show (if c=nb then 4 else o c)=4;rw [if_pos e]
  ·left
   have hc:(if c=nb then 4 else o c)≠0:=hc
   rw [if_neg e] at hc;exact hc⟩
 refine⟨fun w'=>∃lbs' wr',TgD w' (fun c=>if c=nb then 4 else o c) g f (insAt bs (i+1) nb) (insAt nms (i+1) (gv+1)) lbs' mb (gv+1) wr'∧TgI (insAt nms (i+1) (gv+1)) lbs' (gv+1)∧EvT w o w' (fun c=>if c=nb then 4 else o c),?_,?_⟩
 ·rintro w7 ⟨lbs',wr',h7,i7,ev7⟩
  unfold F116_j17
  obtain⟨x7,l7,u1,u2,u3⟩:=h7.tag (i:=i+1) (b:=nb) (by rw [insAt_at hi3,if_neg (by omega),if_pos rfl])
  rw [insAt_at hi2,if_neg (by omega),if_pos rfl] at u1
  cases u1
  simp only [NonNil_some,Addr.add_mk,Nat.reduceAdd,Nat.zero_add,u3.cell,lds]
  exact hK w7 _ _ lbs' mb wr' h7 i7 (ev0.trans hlt0 ev7)
 ·simp only [NonNil_some,Addr.add_mk,Nat.reduceAdd,Nat.zero_add,b6.cell,lds]
  refine bre (fun hz=>?_) (fun hnz=>?_)
  ·have hl0:(insAt lbs (i+1) L)[0]?=some 0:=by rw [insAt_at hi4,if_pos (by omega)];exact hI.l0
   refine spread_calls h6 (by rw [insAt_len hi2];omega) hl0 fun w7 lbs' wr' h7 f7 z0 z1 z2=>⟨rfl,?_⟩
   refine⟨lbs',wr',h7,hI.renum (L:=L) hi2 hf h7.len2 z0 z1 z2,ev6.trans hlt ⟨f7.mono fun c hc e=>?_,fun _ _=>rfl,fun _ _ h=>h,fun _ h=>.inl h⟩⟩
   rcases e with e | e
   ·rw [e];exact .inl h6.gcol
   ·exact .inr (.inl (h6.r.col c e))
  ·rcases hL with hL | ⟨q1,q2,q3⟩
   ·exact absurd (by omega) hnz
   ·exact⟨_,wr3,h6,hI.ins hi2 t2 q1 q2 q3 hf,ev6⟩
theorem After_calls (h:TgD w o g f bs nms lbs mb gv wr) (hI:TgI nms lbs gv) (hf:nms.length≤8192) (hgv:gv < 9223372036854775808) {i x:Nat} (hx:nms[i]?=some x)
  (hK:∀w' o' bs' lbs' mb wr',TgD w' o' g f bs' (insAt nms (i+1) (gv+1)) lbs' mb (gv+1) wr'→TgI (insAt nms (i+1) (gv+1)) lbs' (gv+1)→EvT w o w' o'→R (.returned (.tuple #[.int .u64 (gv+1:Nat),.int .i64 0])) w') :
  Calls Tryz.prog 116 #[.pointer (some ⟨g,5,none⟩),.int .u64 (x:Nat)] w R :=
 After_gen h.lt hf hgv hx (fun R' k=>by
  obtain⟨b,hb⟩:∃b,bs[i]?=some b:=⟨_,List.getElem?_eq_getElem (by rw [h.len];exact (List.getElem?_eq_some_iff.1 hx).1)⟩
  exact find_some h hx hb (k w o bs lbs mb wr b h hI .refl hb)) hK
structure TgZ (w:World) (o:Nat→Nat) (g:Nat) (f:Fr):Prop where
 blk:Blk w g (dkC f none none 0 0) f.t
 gcol:o g=1
 lt:∀b,o b≠0→b < w.heap.size
theorem begin_zero (h:TgZ w o g f) (hK:∀w' o' b mb,TgD w' o' g f [b] [0] [0] mb 0 0→EvT w o w' o'→R (.returned (.tuple #[])) w'):Calls Tryz.prog 150 #[.pointer (some ⟨g,5,none⟩)] w R:=by
 refine ok150 (some ⟨g,5,none⟩) ?_
 unfold F150
 have hD:=h.blk
 unfold dkC pB at hD
 simp only [NonNil_some,Addr.add_mk,Nat.reduceAdd,Nat.zero_add,hD.cell,List.getElem?_toArray,List.getElem?_cons_zero,List.getElem?_cons_succ,Option.map_none,lds]
 simp only [Option.isNone_none,Br_t]
 refine al fun gb w1 hb1 b1 hge1=>?_
 have hgl:=hD.lt
 refine st_blk (hD.keep hb1) (by simp) fun w2 bD2 f2=>?_
 simp only [List.setIfInBounds_toArray,List.set_cons_zero,List.set_cons_succ] at bD2
 have hne1:gb≠g:=by omega
 have b2:=f2.blk b1 (fun e=>hne1 e)
 have hs1:=hb1.size
 have hs2:=f2.size
 have hb3:Below w2.heap.size w2 (w2.alloc (.map #[] 0)):=(Below.refl _ _).alloc (Nat.le_refl _) _
 have mp3:Mp .u64 (w2.alloc (.map #[] 0)) w2.heap.size fun _=>none:=Mp.made w2 .u64
 unfold AlM
 have bD3:=bD2.keep hb3
 have b3:=b2.keep hb3
 generalize (w2.alloc (.map #[] 0))=w3 at *
 have hbl:=b2.lt
 have hD2l:=bD2.lt
 generalize hmb:w2.heap.size=mb at *
 simp only [NonNil_some,Addr.add_mk,Nat.reduceAdd,Nat.zero_add,bD3.cell,lds]
 refine mp3.update mapType keyType (0:Nat) _ fun w4 mp4 f4=>?_
 have bD4:=f4.blk bD3 (fun e=>by have e:g=mb:=e;omega)
 have b4:=f4.blk b3 (fun e=>by have e:gb=mb:=e;omega)
 refine st_blk bD4 (by simp) fun w5 bD5 f5=>?_
 simp only [List.setIfInBounds_toArray,List.set_cons_zero,List.set_cons_succ] at bD5
 have hs3:=hb3.size
 have hs4:=f4.size
 have hs5:=f5.size
 have ogb:o gb=0:=Classical.byContradiction fun e=>by have:=h.lt gb e;omega
 have omb:o mb=0:=Classical.byContradiction fun e=>by have:=h.lt mb e;omega
 have b5:=f5.blk b4 (fun e=>hne1 e)
 have mp5:=mp4.fm f5 (fun e=>by have e:mb=g:=e;omega)
 have hgb:g≠gb:=fun e=>hne1 e.symm
 have hgm:g≠mb:=by omega
 have hmg:gb≠mb:=by omega
 have mplt:=mp5.lt
 refine hK w5 (fun c=>if c=gb then 4 else if c=mb then 5 else o c) gb mb ⟨bD5,?_,⟨fun i c hc=>?_,fun c hc=>?_,by simp,?_,?_⟩,rfl,rfl,by simp,by simp,fun c hc=>?_⟩ ⟨?_,fun c hc=>?_,fun c hcl hc=>?_,fun c hc=>?_⟩
 ·show (if g=gb then 4 else if g=mb then 5 else o g)=1
  rw [if_neg hgb,if_neg hgm];exact h.gcol
 ·cases i with
  | succ i=>cases hc
  | zero=>cases hc;exact b5
 ·rw [List.mem_singleton] at hc;subst hc
  show (if c=c then 4 else _)=4
  rw [if_pos rfl]
 ·have e:mpT [gb] [0]=upd (fun _=>none) ((0:Nat):Int) (some (Value.pointer (some ⟨gb,0,none⟩))):=by
   funext k
   unfold mpT upd
   by_cases hk:k=((0:Nat):Int)
   ·subst hk;rfl
   ·rw [if_neg hk,if_neg]
    rintro ⟨h1,h2⟩
    rw [List.mem_singleton] at h2
    exact hk (by omega)
  rw [e];exact mp5
 ·show (if mb=gb then 4 else if mb=mb then 5 else o mb)=5
  rw [if_neg (fun e=>hmg e.symm),if_pos rfl]
 ·have hc:(if c=gb then 4 else if c=mb then 5 else o c)≠0:=hc
  by_cases e1:c=gb
  ·rw [e1];exact b5.lt
  ·rw [if_neg e1] at hc
   by_cases e2:c=mb
   ·rw [e2];exact mplt
   ·rw [if_neg e2] at hc
    have:=h.lt c hc;omega
 ·have a1:Fm (fun c=>o c=1∨o c=4∨o c=5) w w2:=(Fm.below hb1).trans (f2.mono fun c _ e=>by have e:c=g:=e;rw [e];exact .inl h.gcol)
  have a2:Fm (fun c=>o c=1∨o c=4∨o c=5) w w3:=a1.tr (by rw [hmb];exact hb3)
  have a3:=a2.tr2 f4 fun c hc e=>by have e:c=mb:=e;omega
  exact a3.tr2 f5 fun c hc e=>by have e:c=g:=e;rw [e];exact .inl h.gcol
 ·show (if c=gb then 4 else if c=mb then 5 else o c)=o c
  rw [if_neg (fun e=>hc (by rw [e];exact ogb)),if_neg (fun e=>hc (by rw [e];exact omb))]
 ·show (if c=gb then 4 else if c=mb then 5 else o c)=0
  rw [if_neg (by omega),if_neg (by omega)];exact hc
 ·by_cases e1:c=gb
  ·right;left;show (if c=gb then 4 else if c=mb then 5 else o c)=4;rw [if_pos e1]
  ·by_cases e2:c=mb
   ·right;right;show (if c=gb then 4 else if c=mb then 5 else o c)=5;rw [if_neg e1,if_pos e2]
   ·left
    have hc:(if c=gb then 4 else if c=mb then 5 else o c)≠0:=hc
    rw [if_neg e1,if_neg e2] at hc;exact hc
theorem find_zero (h:TgZ w o g f) (hK:∀w' o' b mb,TgD w' o' g f [b] [0] [0] mb 0 0→EvT w o w' o'→R (.returned (.tuple #[pB (some b),.int .i64 0])) w'):Calls Tryz.prog 107 #[.pointer (some ⟨g,5,none⟩),.int .u64 (0:Nat)] w R:=by
 refine ok107 (some ⟨g,5,none⟩) (0:Nat) ?_
 unfold F107
 refine begin_zero h fun w1 o1 b mb h1 ev=>⟨rfl,?_⟩
 have hB:=h1.blk
 unfold dkC at hB
 simp only [NonNil_some,Addr.add_mk,Nat.reduceAdd,Nat.zero_add,hB.cell,lds]
 refine h1.r.mp.look mapType keyType (zeroTag w1) (0:Nat) true ?_
 rw [mpT_some (i:=0) (x:=0) (b:=b) h1.nn rfl rfl]
 exact⟨some ⟨b,0,none⟩,true,rfl,hK w1 o1 b mb h1 ev⟩
theorem one_I:TgI [0] [0] 0:=⟨rfl,rfl,rfl,by simp,by simp,by simp,by simp,by simp⟩
theorem After_zero (h:TgZ w o g f)
  (hK:∀w' o' bs' lbs' mb wr',TgD w' o' g f bs' (insAt [0] 1 1) lbs' mb 1 wr'→TgI (insAt [0] 1 1) lbs' 1→EvT w o w' o'→R (.returned (.tuple #[.int .u64 (1:Nat),.int .i64 0])) w') :
  Calls Tryz.prog 116 #[.pointer (some ⟨g,5,none⟩),.int .u64 (0:Nat)] w R :=
 After_gen (nms:=[0]) (gv:=0) (i:=0) (x:=0) (f:=f) h.lt (by simp) (by decide) rfl (fun R' k=>find_zero h fun w1 o1 b mb h1 ev=>k w1 o1 [b] [0] mb 0 b h1 one_I ev rfl) hK
end
set_option maxRecDepth 100000
section
variable {w w1 w2:World}{o o1 o2:Nat→Nat}{g:Nat}{f:Fr}{bs nms lbs:List Nat}{mb gv:Nat}{wr:Int}{M:Nat→Prop}{R:Ending→World→Prop}
end
set_option maxRecDepth 100000
def mpE (E:Nat→Option (Nat × Nat)) (k:Int):Option Value:=if 0≤k then (E k.toNat).map (fun p=>.agg #[.int .u64 (p.1:Nat),.int .u64 (p.2:Nat)]) else none
def tlL (mb hd:Option Nat) (gv:Nat) (wr:Int) (em:Option Nat):List Value:=[.map mb,pB hd,.int .u64 (gv:Nat),.int .u64 wr,.map em]
def EndR (w:World) (o:Nat→Nat) (em:Option Nat) (E:Nat→Option (Nat × Nat)):Prop:=match em with
 | none=>∀y,E y=none
 | some eb=>o eb=6∧Mp .u64 w eb (mpE E)
structure LM (w:World) (o:Nat→Nat) (g:Nat) (ty:TypeId) (S:PS) (bs nms lbs:List Nat) (mb gv:Nat) (wr:Int) (em:Option Nat) (E:Nat→Option (Nat × Nat)):Prop where
 pm:PM w o ⟨g,ty,tlL (some mb) bs[0]? gv wr em⟩ S
 r:TgR w o bs nms lbs mb
 i:TgI nms lbs gv
 len:bs.length=nms.length
 e:EndR w o em E
structure LZ (w:World) (o:Nat→Nat) (g:Nat) (ty:TypeId) (S:PS):Prop where
 pm:∃em,PM w o ⟨g,ty,tlL none none 0 0 em⟩ S∧EndR w o em fun _=>none
structure EvL (w:World) (o:Nat→Nat) (w1:World) (o1:Nat→Nat):Prop where
 fm:Fm (fun b=>o b=1∨o b=4∨o b=5∨o b=6) w w1
 same:∀b,o b≠0→o1 b=o b
 old:∀b,b < w.heap.size→o b=0→o1 b=0
 new:∀b,o1 b≠0→o b≠0∨o1 b=4∨o1 b=5∨o1 b=6
section
variable {w w1 w2:World}{o o1 o2:Nat→Nat}{g:Nat}{ty:TypeId}{S:PS}{bs nms lbs:List Nat}{mb gv:Nat}{wr:Int}{em:Option Nat}{E:Nat→Option (Nat × Nat)}{M:Nat→Prop}{R:Ending→World→Prop}{θ:Th}
theorem EvL.refl:EvL w o w o:=⟨.refl _ _,fun _ _=>rfl,fun _ _ h=>h,fun _ h=>.inl h⟩
theorem EvL.trans (h:EvL w o w1 o1) (k:EvL w1 o1 w2 o2):EvL w o w2 o2:=by
 refine⟨⟨k.fm.os.trans h.fm.os,k.fm.tape.trans h.fm.tape,k.fm.output.trans h.fm.output,Nat.le_trans h.fm.size k.fm.size,fun b hb hm=>?_⟩,fun b hb=>?_,fun b hb h1=>k.old b (Nat.lt_of_lt_of_le hb h.fm.size) (h.old b hb h1),fun b hb=>?_⟩
 ·rw [k.fm.block b (Nat.lt_of_lt_of_le hb h.fm.size) fun e=>?_]
  ·exact h.fm.block b hb hm
  ·by_cases h1:o b=0
   ·have:=h.old b hb h1;omega
   ·rw [h.same b h1] at e;exact hm e
 ·rw [k.same b (by rw [h.same b hb];exact hb)];exact h.same b hb
 ·rcases k.new b hb with e | e
  ·rcases h.new b e with e2 | e2
   ·exact .inl e2
   ·rw [k.same b e];exact .inr e2
  ·exact .inr e
theorem EvT.l (h:EvT w o w1 o1):EvL w o w1 o1:=⟨h.fm.mono fun b _ e=>by rcases e with e | e | e <;> simp [e],h.same,h.old,fun b hb=>by rcases h.new b hb with e | e | e <;> simp [e]⟩
theorem EvL.below (hb:Below w.heap.size w w1):EvL w o w1 o:=⟨.below hb,fun _ _=>rfl,fun _ _ h=>h,fun _ h=>.inl h⟩
theorem PM.tail (h:PM w o θ S) {tl:List Value} (hf:Fm M w w1) (hm:∀b,pc (o b)→o b≠1→¬M b) (hB:∀nv rv,Blk w θ.g (docC nv rv S.lv S.wn S.lo θ.tl) θ.t→Blk w1 θ.g (docC nv rv S.lv S.wn S.lo tl) θ.t) (ho:∀b,o b≠0→o1 b=o b) (hl:∀b,o1 b≠0→b < w1.heap.size) :
  PM w1 o1 { θ with tl:=tl } S:=by
 have hg:=h.col
 have hn:∀b c,o b=c→c≠1→pc c→¬M b:=fun b c hb hc hp hM=>by
  exact hm b (by rw [hb];exact hp) (by omega) hM
 have p2:pc 2:=.inr (.inl rfl)
 have p3:pc 3:=.inr (.inr (.inl rfl))
 obtain⟨nv,rv,hd⟩:=h.doc
 refine⟨by show o1 θ.g=1;rw [ho _ (by rw [hg];decide)];exact hg,hl,h.len,h.few,fun i b hb=>?_,⟨nv,rv,⟨hB nv rv hd.blk,own_fm hd.n1 hf fun x hx=>hn x 2 (hd.n2 x hx) (by decide) p2,fun x hx=>?_,own_fm hd.r1 hf fun x hx=>hn x 3 (hd.r2 x hx) (by decide) p3,fun x hx=>?_⟩⟩,fun i b s hb hs=>?_,h.rng,h.rts,h.cnt⟩
 ·have:=h.nc i b hb
  rw [ho b (by rw [this];omega)];exact this
 ·have:=hd.n2 x hx
  rw [ho x (by rw [this];decide)];exact this
 ·have:=hd.r2 x hx
  rw [ho x (by rw [this];decide)];exact this
 ·obtain⟨a,kv,hnd⟩:=h.nodes i b s hb hs
  obtain⟨q1,q2,q3⟩:=pc_nd i
  refine⟨a,kv,hnd.keep (h.nc i b hb) hf (fun x hx=>?_) (fun x hx=>?_)⟩
  ·rcases hx with e | e | e
   ·exact hn x _ e (by omega) q1
   ·exact hn x _ e (by omega) q2
   ·exact hn x _ e (by omega) q3
  ·exact ho x (by rcases hx with e | e <;> rw [e] <;> omega)
theorem LM.tg (h:LM w o g ty S bs nms lbs mb gv wr em E):∃f,TgD w o g f bs nms lbs mb gv wr∧f.m=.map em∧f.t=ty∧∃nv rv,f.a=slV nv∧f.b=slV rv∧f.c=.int .i64 (S.lv:Nat)∧f.d=.int .i64 (S.wn:Nat)∧f.e=.int .i64 (S.lo:Nat)∧Blk w g (docC nv rv S.lv S.wn S.lo (tlL (some mb) bs[0]? gv wr em)) ty:=by
 obtain⟨nv,rv,hd⟩:=h.pm.doc
 have hpos:=(List.getElem?_eq_some_iff.1 h.i.h0).1
 exact⟨⟨slV nv,slV rv,.int .i64 (S.lv:Nat),.int .i64 (S.wn:Nat),.int .i64 (S.lo:Nat),.map em,ty⟩,⟨hd.blk,h.pm.col,h.r,h.len,h.i.len,hpos,h.i.nd,h.pm.lt⟩,rfl,rfl,nv,rv,rfl,rfl,rfl,rfl,rfl,hd.blk⟩
theorem blk_inj {b:Nat}{c c':Array Value}{t t':TypeId} (h:Blk w b c t) (k:Blk w b c' t'):c=c'∧t=t':=by
 unfold Blk at h k
 rw [h] at k
 simp only [Option.some.injEq,Obj.cells.injEq] at k
 exact⟨k.1,k.2.1⟩
theorem EndR.fm (h:EndR w o em E) (hf:Fm M w w1) (hm:∀b,o b=6→¬M b) (ho:∀b,o b≠0→o1 b=o b):EndR w1 o1 em E:=by
 cases em with
 | none=>exact h
 | some eb =>
  obtain⟨h1,h2⟩:=h
  exact⟨by rw [ho eb (by rw [h1];decide)];exact h1,h2.fm hf (hm eb h1)⟩
theorem LM.setTg {f:Fr}{bs' nms' lbs':List Nat}{mb' gv':Nat}{wr':Int}{hd0 mb0:Option Nat}{gv0:Nat}{wr0:Int} (hp:PM w o ⟨g,ty,tlL mb0 hd0 gv0 wr0 em⟩ S) (he:EndR w o em E)
  (hf:∃nv rv,f.a=slV nv∧f.b=slV rv∧f.c=.int .i64 (S.lv:Nat)∧f.d=.int .i64 (S.wn:Nat)∧f.e=.int .i64 (S.lo:Nat)∧Blk w g (docC nv rv S.lv S.wn S.lo (tlL mb0 hd0 gv0 wr0 em)) ty) (hm:f.m=.map em) (ht:f.t=ty)
  (h1:TgD w1 o1 g f bs' nms' lbs' mb' gv' wr') (hI:TgI nms' lbs' gv') (ev:EvT w o w1 o1):LM w1 o1 g ty S bs' nms' lbs' mb' gv' wr' em E:=by
 have hgc:o g=1:=hp.col
 refine⟨hp.tail (tl:=tlL (some mb') bs'[0]? gv' wr' em) ev.fm (fun b hb h1 hM=>by unfold pc at hb;omega) (fun nv rv hB=>?_) ev.same h1.lt,h1.r,hI,h1.len,he.fm ev.fm (fun b hb=>by omega) ev.same⟩
 ·obtain⟨nv',rv',a1,a2,a3,a4,a5,a6⟩:=hf
  have hB:Blk w g (docC nv rv S.lv S.wn S.lo (tlL mb0 hd0 gv0 wr0 em)) ty:=hB
  obtain⟨q1,-⟩:=blk_inj hB a6
  have hb1:=h1.blk
  unfold dkC at hb1
  rw [a1,a2,a3,a4,a5,hm,ht] at hb1
  have e1:docC nv rv S.lv S.wn S.lo (tlL (some mb') bs'[0]? gv' wr' em)=docC nv' rv' S.lv S.wn S.lo (tlL (some mb') bs'[0]? gv' wr' em):=by
   unfold docC at q1 ⊢
   simp only [Array.mk.injEq,List.cons.injEq,and_true,true_and,List.toArray_inj] at q1 ⊢
   exact⟨q1.1,q1.2⟩
  show Blk w1 g (docC nv rv S.lv S.wn S.lo _) ty
  rw [e1];exact hb1
end
set_option maxRecDepth 100000
def LB (w:World) (o:Nat→Nat) (g:Nat) (ty:TypeId) (S:PS) (nms:List Nat) (gv:Nat) (E:Nat→Option (Nat × Nat)):Prop:=∃bs lbs mb wr em,LM w o g ty S bs nms lbs mb gv wr em E
def LX (w:World) (o:Nat→Nat) (g:Nat) (ty:TypeId) (S:PS) (nms:List Nat) (gv:Nat) (E:Nat→Option (Nat × Nat)):Prop :=
 (∃bs lbs mb wr em,LM w o g ty S bs nms lbs mb gv wr em E)∨(LZ w o g ty S∧nms=[0]∧gv=0∧∀y,E y=none)
section
variable {w w1 w2:World}{o o1 o2:Nat→Nat}{g:Nat}{ty:TypeId}{S:PS}{bs nms lbs:List Nat}{mb gv:Nat}{wr:Int}{em:Option Nat}{E:Nat→Option (Nat × Nat)}{M:Nat→Prop}{R:Ending→World→Prop}{θ:Th}
theorem LX.pm (h:LX w o g ty S nms gv E):∃tl,tl.length=5∧PM w o ⟨g,ty,tl⟩ S:=by
 rcases h with ⟨bs,lbs,mb,wr,em,h⟩ | ⟨h,_⟩
 ·exact⟨_,rfl,h.pm⟩
 ·obtain⟨em,hp,_⟩:=h.pm
  exact⟨_,rfl,hp⟩
theorem LX.lt (h:LX w o g ty S nms gv E):∀b,o b≠0→b < w.heap.size:=by obtain⟨tl,_,h⟩:=h.pm;exact h.lt
theorem LX.I (h:LX w o g ty S nms gv E):∃lbs,TgI nms lbs gv:=by
 rcases h with ⟨bs,lbs,mb,wr,em,h⟩ | ⟨h,rfl,rfl,_⟩
 ·exact⟨lbs,h.i⟩
 ·exact⟨_,one_I⟩
theorem LM.below (h:LM w o g ty S bs nms lbs mb gv wr em E) (hb:Below w.heap.size w w1):LM w1 o g ty S bs nms lbs mb gv wr em E :=
 ⟨h.pm.below hb,h.r.fm (M:=fun _=>False) (.below hb) (fun _ _ h=>h),h.i,h.len,h.e.fm (M:=fun _=>False) (.below hb) (fun _ _ h=>h) fun _ _=>rfl⟩
theorem LX.below (h:LX w o g ty S nms gv E) (hb:Below w.heap.size w w1):LX w1 o g ty S nms gv E:=by
 rcases h with ⟨bs,lbs,mb,wr,em,h⟩ | ⟨h,h2⟩
 ·exact .inl ⟨bs,lbs,mb,wr,em,h.below hb⟩
 ·obtain⟨em,hp,he⟩:=h.pm
  exact .inr ⟨⟨em,hp.below hb,he.fm (M:=fun _=>False) (.below hb) (fun _ _ h=>h) fun _ _=>rfl⟩,h2⟩
theorem LX.fm (h:LX w o g ty S nms gv E) (hf:Fm M w w1) (hm:∀b,b < w.heap.size→M b→o b=0):LX w1 o g ty S nms gv E:=by
 have hlt:=h.lt
 have hM:∀b,o b≠0→¬M b:=fun b hb hM=>hb (hm b (hlt b hb) hM)
 have hl:∀b,o b≠0→b < w1.heap.size:=fun b hb=>Nat.lt_of_lt_of_le (hlt b hb) hf.size
 have hp:∀b,pc (o b)→¬M b:=fun b hb=>hM b fun e=>by rw [e] at hb;unfold pc at hb;omega
 rcases h with ⟨bs,lbs,mb,wr,em,h⟩ | ⟨h,h2⟩
 ·exact .inl ⟨bs,lbs,mb,wr,em,h.pm.keep hf hp (fun _ _=>rfl) hl,h.r.fm hf (fun b hb=>hM b (by omega)),h.i,h.len,h.e.fm hf (fun b hb=>hM b (by omega)) fun _ _=>rfl⟩
 ·obtain⟨em,hq,he⟩:=h.pm
  exact .inr ⟨⟨em,hq.keep hf hp (fun _ _=>rfl) hl,he.fm hf (fun b hb=>hM b (by omega)) fun _ _=>rfl⟩,h2⟩
theorem After_x (h:LX w o g ty S nms gv E) (hf:nms.length≤8192) (hgv:gv < 9223372036854775808) {i x:Nat} (hx:nms[i]?=some x)
  (hK:∀w' o',LB w' o' g ty S (insAt nms (i+1) (gv+1)) (gv+1) E→EvL w o w' o'→R (.returned (.tuple #[.int .u64 (gv+1:Nat),.int .i64 0])) w') :
  Calls Tryz.prog 116 #[.pointer (some ⟨g,5,none⟩),.int .u64 (x:Nat)] w R:=by
 rcases h with ⟨bs,lbs,mb,wr,em,h⟩ | ⟨h,rfl,rfl,h2⟩
 ·obtain⟨f,t1,t2,t3,t4⟩:=h.tg
  refine After_calls t1 h.i hf hgv hx fun w' o' bs' lbs' mb' wr' q1 q2 ev=>hK w' o' ⟨bs',lbs',mb',wr',em,?_⟩ ev.l
  exact LM.setTg h.pm h.e t4 t2 t3 q1 q2 ev
 ·have hi0:i=0:=by have:=(List.getElem?_eq_some_iff.1 hx).1;simp at this;exact this
  subst hi0
  have hx0:x=0:=by simpa using hx.symm
  subst hx0
  obtain⟨em,hp,he⟩:=h.pm
  obtain rfl:E=fun _=>none:=funext h2
  obtain⟨nv,rv,hd⟩:=hp.doc
  refine After_zero (f:=⟨slV nv,slV rv,.int .i64 (S.lv:Nat),.int .i64 (S.wn:Nat),.int .i64 (S.lo:Nat),.map em,ty⟩) ⟨hd.blk,hp.col,hp.lt⟩ fun w' o' bs' lbs' mb' wr' q1 q2 ev=>hK w' o' ⟨bs',lbs',mb',wr',em,?_⟩ ev.l
  exact LM.setTg (mb0:=none) (hd0:=none) (gv0:=0) (wr0:=0) hp he ⟨nv,rv,rfl,rfl,rfl,rfl,rfl,hd.blk⟩ rfl rfl q1 q2 ev
theorem LX.emc (h:LX w o g ty S nms gv E):∃em,w.cell? ⟨g,9,none⟩=some (.map em)∧EndR w o em E:=by
 rcases h with ⟨bs,lbs,mb,wr,em,h⟩ | ⟨h,h2,h3,h4⟩
 ·obtain⟨nv,rv,hd⟩:=h.pm.doc
  exact⟨em,by rw [hd.blk.cell];rfl,h.e⟩
 ·obtain⟨em,hp,he⟩:=h.pm
  obtain rfl:E=fun _=>none:=funext h4
  obtain⟨nv,rv,hd⟩:=hp.doc
  exact⟨em,by rw [hd.blk.cell];rfl,he⟩
theorem mapTypeE:Tryz.prog.underlying 103=some (.map 65 146):=by kernel_rfl
theorem keyTypeE:Tryz.prog.underlying 65=some (.int .u64):=by kernel_rfl
theorem zeroEnd (w:World):(zeroValue 146).run Tryz.prog w=.ok (.agg #[.int .u64 0,.int .u64 0]) w:=by kernel_rfl
def eN (E:Nat→Option (Nat × Nat)) (y:Nat):Nat × Nat:=(E y).getD (0,0)
theorem look_nil {P:Program}{t kt et:TypeId} (ht:P.underlying t=some (.map kt et)) (hk:P.underlying kt=some (.int .u64)) {z:Value} (hz:(zeroValue et).run P w=.ok z w) (k:Int) {K:Value→World→Prop} (hK:K z w):Raw P (Instr.lookup t (.map none) (.int .u64 k) false) w K:=by
 have hc:(Instr.checkKey true 10000 kt (.int .u64 k)).run P w=.ok () w:=MapKept.run_checkKey (k:=.int .u64 k) hk (by simp [MapKept.IsKey]) _ 9999
 exact⟨_,w,by simp [Instr.lookup,run_underlying ht,hc,MapKept.run_findKey hk (show Instr.findNow (.int .u64) (.int .u64 k) [] 0=some none from rfl),hz,Result.andThen],hK⟩
theorem lookE {em:Option Nat} (h:EndR w o em E) (y:Nat) {K:Value→World→Prop} (hK:K (.agg #[.int .u64 ((eN E y).1:Nat),.int .u64 ((eN E y).2:Nat)]) w):Raw Tryz.prog (Instr.lookup 103 (.map em) (.int .u64 (y:Nat)) false) w K:=by
 cases em with
 | none =>
  have:eN E y=(0,0):=by unfold eN;rw [h y];rfl
  rw [this] at hK
  exact look_nil mapTypeE keyTypeE (zeroEnd w) y hK
 | some eb =>
  obtain⟨h1,h2⟩:=h
  refine h2.look mapTypeE keyTypeE (zeroEnd w) y false ?_
  have:(mpE E (y:Nat)).getD (.agg #[.int .u64 0,.int .u64 0])=.agg #[.int .u64 ((eN E y).1:Nat),.int .u64 ((eN E y).2:Nat)]:=by
   unfold mpE eN
   rw [if_pos (by omega),Int.toNat_natCast]
   cases E y with
   | none=>rfl
   | some p=>rfl
  simp only [this]
  exact hK
def updE (E:Nat→Option (Nat × Nat)) (y:Nat) (p:Option (Nat × Nat)):Nat→Option (Nat × Nat):=fun z=>if z=y then p else E z
theorem mpE_upd {E:Nat→Option (Nat × Nat)}{y:Nat}{p:Option (Nat × Nat)}:mpE (updE E y p)=upd (mpE E) (y:Nat) (p.map fun p=>.agg #[.int .u64 (p.1:Nat),.int .u64 (p.2:Nat)]):=by
 funext k
 unfold mpE upd updE
 by_cases h0:0≤k
 ·rw [if_pos h0]
  by_cases hk:k=(y:Int)
  ·rw [if_pos hk,if_pos (by omega)]
  ·rw [if_neg hk,if_neg (by omega)]
   dsimp only
   rw [if_pos h0]
 ·rw [if_neg h0,if_neg (by omega)]
  dsimp only
  rw [if_neg h0]
theorem LB.x (h:LB w o g ty S nms gv E):LX w o g ty S nms gv E:=.inl h
theorem LB.fm (h:LB w o g ty S nms gv E) (hf:Fm M w w1) (hm:∀b,b < w.heap.size→M b→o b=0):LB w1 o g ty S nms gv E:=by
 have hlt:=h.x.lt
 have hM:∀b,o b≠0→¬M b:=fun b hb hM=>hb (hm b (hlt b hb) hM)
 have hl:∀b,o b≠0→b < w1.heap.size:=fun b hb=>Nat.lt_of_lt_of_le (hlt b hb) hf.size
 have hp:∀b,pc (o b)→¬M b:=fun b hb=>hM b fun e=>by rw [e] at hb;unfold pc at hb;omega
 obtain⟨bs,lbs,mb,wr,em,h⟩:=h
 exact⟨bs,lbs,mb,wr,em,h.pm.keep hf hp (fun _ _=>rfl) hl,h.r.fm hf (fun b hb=>hM b (by omega)),h.i,h.len,h.e.fm hf (fun b hb=>hM b (by omega)) fun _ _=>rfl⟩
theorem LM.made (h:LM w o g ty S bs nms lbs mb gv wr none E) {K:World→Prop} (hK:∀w' o' eb,LM w' o' g ty S bs nms lbs mb gv wr (some eb) E→EvL w o w' o'→K w'):AlM w fun r w1=>St w1 ⟨g,9,none⟩ (.map (some r)) K:=by
 obtain⟨nv,rv,hd⟩:=h.pm.doc
 have hg:=hd.blk.lt
 unfold AlM
 have hb1:Below w.heap.size w (w.alloc (.map #[] 0)):=(Below.refl _ _).alloc (Nat.le_refl _) _
 have mp1:Mp .u64 (w.alloc (.map #[] 0)) w.heap.size fun _=>none:=Mp.made w .u64
 generalize (w.alloc (.map #[] 0))=w1 at *
 have hB:Blk w g (docC nv rv S.lv S.wn S.lo (tlL (some mb) bs[0]? gv wr none)) ty:=hd.blk
 refine st_blk (hB.keep hb1) (by simp [docC,tlL]) fun w2 b2 f2=>?_
 have hn:o w.heap.size=0:=Classical.byContradiction fun e=>by have:=h.pm.lt _ e;omega
 have hcol:=h.pm.col
 have hs1:=hb1.size
 have mp2:=mp1.fm f2 (fun e=>by have e:w.heap.size=g:=e;have hg:g < w.heap.size:=hg;omega)
 have F2:Fm (·=g) w w2:=(Fm.below hb1).trans f2
 have hss:∀b,o b≠0→(if b=w.heap.size then 6 else o b)=o b:=fun b hb=>by rw [if_neg (fun e=>hb (by rw [e];exact hn))]
 have hl:∀b,(if b=w.heap.size then 6 else o b)≠0→b < w2.heap.size:=fun b hb=>by
  by_cases e:b=w.heap.size
  ·rw [e];exact mp2.lt
  ·rw [if_neg e] at hb
   exact Nat.lt_of_lt_of_le (h.pm.lt b hb) F2.size
 have hp:=h.pm.tail (o1:=fun b=>if b=w.heap.size then 6 else o b) (tl:=tlL (some mb) bs[0]? gv wr (some w.heap.size)) F2 (fun b hb h1 e=>h1 (by have e:b=g:=e;rw [e];exact hcol)) (fun nv' rv' hB'=>by
  obtain⟨q1,-⟩:=blk_inj hB' hB
  have e1:docC nv' rv' S.lv S.wn S.lo (tlL (some mb) bs[0]? gv wr (some w.heap.size))=docC nv rv S.lv S.wn S.lo (tlL (some mb) bs[0]? gv wr (some w.heap.size)):=by
   unfold docC at q1 ⊢
   simp only [Array.mk.injEq,List.cons.injEq,and_true,true_and,List.toArray_inj] at q1 ⊢
   exact⟨q1.1,q1.2⟩
  rw [e1];exact b2) hss hl
 refine hK w2 (fun b=>if b=w.heap.size then 6 else o b) w.heap.size ⟨hp,?_,h.i,h.len,?_,?_⟩ ⟨F2.mono fun b _ e=>by have e:b=g:=e;rw [e];exact .inl hcol,hss,fun b hb h0=>by show (if b=w.heap.size then 6 else o b)=0;rw [if_neg (by omega)];exact h0,fun b hb=>?_⟩
 ·have hr:=h.r.fm F2 (fun b hb e=>by have e:b=g:=e;rw [e,hcol] at hb;omega)
  exact⟨hr.blk,fun b hb=>by show (if b=w.heap.size then 6 else o b)=4;rw [hss b (by rw [hr.col b hb];decide)];exact hr.col b hb,hr.nd,hr.mp,by show (if mb=w.heap.size then 6 else o mb)=5;rw [hss mb (by rw [hr.mcol];decide)];exact hr.mcol⟩
 ·show (if w.heap.size=w.heap.size then 6 else _)=6
  rw [if_pos rfl]
 ·have e:mpE E=fun _=>none:=by
   funext k
   unfold mpE
   rw [h.e k.toNat]
   split <;> rfl
  rw [e];exact mp2
 ·by_cases e:b=w.heap.size
  ·right;right;right;show (if b=w.heap.size then 6 else o b)=6;rw [if_pos e]
  ·left
   have hb:(if b=w.heap.size then 6 else o b)≠0:=hb
   rw [if_neg e] at hb;exact hb
theorem LM.setE {eb:Nat} (h:LM w o g ty S bs nms lbs mb gv wr (some eb) E) (hf:Fm (·=eb) w w1) {E':Nat→Option (Nat × Nat)} (hm:Mp .u64 w1 eb (mpE E')):LM w1 o g ty S bs nms lbs mb gv wr (some eb) E'∧EvL w o w1 o:=by
 obtain⟨e1,e2⟩:=h.e
 have hl:∀b,o b≠0→b < w1.heap.size:=fun b hb=>Nat.lt_of_lt_of_le (h.pm.lt b hb) hf.size
 refine⟨⟨h.pm.keep hf (fun b hb e=>?_) (fun _ _=>rfl) hl,h.r.fm hf (fun b hb e=>?_),h.i,h.len,e1,hm⟩,⟨hf.mono fun b _ e=>?_,fun _ _=>rfl,fun _ _ h=>h,fun _ h=>.inl h⟩⟩
 ·have e:b=eb:=e
  rw [e,e1] at hb;unfold pc at hb;omega
 ·have e:b=eb:=e
  rw [e,e1] at hb;omega
 ·have e:b=eb:=e
  rw [e];exact .inr (.inr (.inr e1))
end
set_option maxRecDepth 100000
def wrd (A:Nat→Option Sl) (E:Nat→Option (Nat × Nat)):Nat→Nat→List Nat
 | 0,_=>[]
 | r+1,n=>match A n with | some s=>(eN E n).1 :: s.kids.flatMap (wrd A E r)++[(eN E n).2] | none=>[]
theorem wrd_some {A:Nat→Option Sl}{E:Nat→Option (Nat × Nat)}{r n:Nat}{s:Sl} (h:A n=some s):wrd A E (r+1) n=(eN E n).1 :: s.kids.flatMap (wrd A E r)++[(eN E n).2]:=by rw [wrd,h]
theorem flat_congr {α:Type}{f h:Nat→List α}:∀{l:List Nat},(∀y∈l,f y=h y)→l.flatMap f=l.flatMap h
 | [],_=>rfl
 | y :: l,k=>by rw [List.flatMap_cons,List.flatMap_cons,k y (by simp),flat_congr fun z hz=>k z (by simp [hz])]
theorem wrd_congr {A:Nat→Option Sl}{E E':Nat→Option (Nat × Nat)}:∀(r n:Nat),(∀y∈allA A r n,E y=E' y)→wrd A E r n=wrd A E' r n
 | 0,n,_=>rfl
 | r+1,n,h=>by
  cases hs:A n with
  | none=>unfold wrd;rw [hs]
  | some s =>
   rw [allA_some hs] at h
   rw [wrd_some hs,wrd_some hs]
   have e1:eN E n=eN E' n:=by unfold eN;rw [h n (by simp)]
   rw [e1,flat_congr fun y hy=>wrd_congr r y fun z hz=>h z (List.mem_cons_of_mem _ (List.mem_flatMap.2 ⟨y,hy,hz⟩))]
theorem flat_len2 {f h:Nat→List Nat}:∀{l:List Nat},(∀y∈l,(f y).length=2*(h y).length)→(l.flatMap f).length=2*(l.flatMap h).length
 | [],_=>rfl
 | y :: l,k=>by
  rw [List.flatMap_cons,List.flatMap_cons,List.length_append,List.length_append,k y (by simp),flat_len2 fun z hz=>k z (by simp [hz])];omega
theorem wrd_len {A:Nat→Option Sl}{E:Nat→Option (Nat × Nat)}{roots loose:List Nat} (hA:WfA A roots loose):∀(r n c:Nat) {s:Sl},A n=some s→Ch A n c→65≤c+r→(wrd A E r n).length=2*(allA A r n).length:=by
 intro r
 induction r with
 | zero =>
  intro n c s hs hc hr
  obtain⟨c',h1,h2⟩:=hA.chain n s hs
  have:=hc.fn h2;omega
 | succ r ih =>
  intro n c s hs hc hr
  rw [wrd_some hs,allA_some hs,List.length_append,List.length_cons,List.length_cons,flat_len2 (h:=allA A r) fun y hy=>by
   obtain⟨t,t1,t2⟩:=((hA.kid n s hs).2 y hy).2
   exact ih y (c+1) t1 (.succ (hA.ne0 t1) t1 (by rw [t2];exact hc)) (by omega)]
  simp;omega
section
variable {w w1 w2:World}{o o1 o2:Nat→Nat}{g:Nat}{ty:TypeId}{S:PS}{bs nms lbs:List Nat}{mb gv:Nat}{wr:Int}{em:Option Nat}{E:Nat→Option (Nat × Nat)}{M:Nat→Prop}{R:Ending→World→Prop}{θ:Th}{loose:List Nat}
theorem insAt_mid {a b:List Nat}{x y:Nat}{ws:List Nat}{j:Nat} (hj:j=a.length+1+ws.length):insAt (a++(x :: ws)++b) j y=a++(x :: ws++[y])++b:=by
 unfold insAt
 have hl:(a++(x :: ws)).length=j:=by simp;omega
 rw [List.take_append_of_le_length (by omega),List.drop_append_of_le_length (by omega),←hl,List.take_length,List.drop_length]
 simp
theorem EvL.mine (h:EvL w o w1 o1) (hf:Fm M w1 w2) (hm:∀b,b < w1.heap.size→M b→w.heap.size≤b):EvL w o w2 o1 :=
 ⟨⟨hf.os.trans h.fm.os,hf.tape.trans h.fm.tape,hf.output.trans h.fm.output,Nat.le_trans h.fm.size hf.size,fun b hb hn=>by
  rw [hf.block b (Nat.lt_of_lt_of_le hb h.fm.size) (fun e=>by have:=hm b (Nat.lt_of_lt_of_le hb h.fm.size) e;omega),h.fm.block b hb hn]⟩,h.same,h.old,h.new⟩
theorem tag_calls (hA:WfA (slA S.D.sl) S.D.roots []):∀(r n c:Nat) {s:Sl}{w:World}{o:Nat→Nat}{nms:List Nat}{gv:Nat}{E:Nat→Option (Nat × Nat)}{i x:Nat}{R:Ending→World→Prop},slA S.D.sl n=some s→Ch (slA S.D.sl) n c→65≤c+r →
  LX w o g ty S nms gv E→nms[i]?=some x→nms.length+2*(allA (slA S.D.sl) r n).length≤8193→gv+2*(allA (slA S.D.sl) r n).length < 9223372036854775808 →
  (∀w' o' E',LB w' o' g ty S (nms.take (i+1)++wrd (slA S.D.sl) E' r n++nms.drop (i+1)) (gv+2*(allA (slA S.D.sl) r n).length) E'→EvL w o w' o'→(∀y,y∉allA (slA S.D.sl) r n→E' y=E y)→(∀y∈allA (slA S.D.sl) r n,E' y≠none)→R (.returned (.int .u64 ((eN E' n).2:Nat))) w') →
  Calls Tryz.prog 70 #[.pointer (some ⟨g,0,none⟩),.int .u64 (n:Nat),.int .u64 (x:Nat)] w R:=by
 intro r
 induction r with
 | zero =>
  intro n c s w o nms gv E i x R hs hc hr
  obtain⟨c',h1,h2⟩:=hA.chain n s hs
  have:=hc.fn h2;omega
 | succ r ih =>
  intro n c s w o nms gv E i x R hs hc hr h hx hroom hgv hK
  have hil:=(List.getElem?_eq_some_iff.1 hx).1
  have hnd:=all_nodup hA (r+1) n ⟨s,hs⟩ (fun z hz=>by simp at hz)
  rw [allA_some hs] at hroom hgv hK hnd
  rw [List.length_cons] at hroom hgv hK
  obtain⟨hnn,hnd⟩:=List.nodup_cons.1 hnd
  refine ok70 (some ⟨g,0,none⟩) n x ?_
  unfold F70
  refine al fun g7 w1 hb1 b7 hge7=>?_
  have o7:o g7=0:=Classical.byContradiction fun e=>by have:=h.lt g7 e;omega
  simp only [NonNil_some,Addr.add_mk,Nat.zero_add]
  refine After_x (h.below hb1) (by omega) (by omega) hx fun w2 o2 h2 ev2=>⟨_,_,rfl,?_⟩
  have b72:=ev2.fm.blk b7 (fun e=>by omega)
  have o72:o2 g7=0:=ev2.old g7 b7.lt o7
  refine st_blk b72 (by simp) fun w3 b73 f3=>?_
  simp only [List.setIfInBounds_toArray,List.set_cons_zero,List.set_cons_succ] at b73
  have h3:=h2.fm f3 fun b hb e=>by have e:b=g7:=e;rw [e];exact o72
  simp only [NonNil_some,Addr.add_mk,Nat.zero_add,b73.cell,lds]
  obtain⟨tl,-,hpm⟩:=h3.x.pm
  refine Kids_calls (θ:=⟨g,ty,tl⟩) hpm hA hpm.few hs fun v w4 hb4 ov=>⟨_,_,_,_,rfl,?_⟩
  have h4:=h3.fm (M:=fun _=>False) (.below hb4) fun _ _ h=>h.elim
  have b74:=b73.keep hb4
  have hkid:∀y∈s.kids,∃t,slA S.D.sl y=some t∧t.parent=n:=fun y hy=>((hA.kid n s hs).2 y hy).2
  have hv1:v.2.1=s.kids.length:=by
   obtain⟨A,cc,hvf,_⟩:=ov.form
   rw [slvF hvf]
  have evA:EvL w o w2 o2:=(EvL.below hb1).trans ev2
  have E4:EvL w o w4 o2:=(evA.mine f3 fun b _ e=>by have e:b=g7:=e;omega).trans (EvL.below hb4)
  have hvc:∀b,rowOf (slV v)=some b→o2 b=0:=fun b hb=>Classical.byContradiction fun e=>by
   have:=h3.x.lt b e
   have:=(ov.lt b hb).1
   omega
  have hkl:∀y∈s.kids,(∃t,slA S.D.sl y=some t)∧Ch (slA S.D.sl) y (c+1):=fun y hy=>by
   obtain⟨t,t1,t2⟩:=hkid y hy
   exact⟨⟨t,t1⟩,.succ (hA.ne0 t1) t1 (by rw [t2];exact hc)⟩
  have hk4:s.kids.length≤4096:=Nat.le_trans (live_few (fun y hy=>(hkl y hy).1) (hA.kid n s hs).1) hpm.few
  have hwl:∀(E':Nat→Option (Nat × Nat)) (l:List Nat),(∀y∈l,y∈s.kids)→(l.flatMap (wrd (slA S.D.sl) E' r)).length=2*(l.flatMap (allA (slA S.D.sl) r)).length:=fun E' l hl=>flat_len2 fun y hy=>by
   obtain⟨⟨t,t1⟩,t2⟩:=hkl y (hl y hy)
   exact wrd_len hA r y (c+1) t1 t2 (by omega)
  refine⟨fun last j w'=>∃(k:Nat) (o':Nat→Nat) (E':Nat→Option (Nat × Nat)) (la:Nat),last=(la:Nat)∧j=k∧k≤s.kids.length ∧
    LB w' o' g ty S (nms.take (i+1)++((gv+1) :: (s.kids.take k).flatMap (wrd (slA S.D.sl) E' r))++nms.drop (i+1)) (gv+1+2*((s.kids.take k).flatMap (allA (slA S.D.sl) r)).length) E' ∧
    EvL w o w' o'∧(∀y,y∉(s.kids.take k).flatMap (allA (slA S.D.sl) r)→E' y=E y)∧(∀y∈(s.kids.take k).flatMap (allA (slA S.D.sl) r),E' y≠none) ∧
    Blk w' g7 #[.int .u64 (gv+1:Nat),.int .u64 0] 146∧o' g7=0∧Own LHn w' w3.heap.size 65 (slV v) s.kids∧(∀b,rowOf (slV v)=some b→o' b=0) ∧
    (nms.take (i+1)++((gv+1) :: (s.kids.take k).flatMap (wrd (slA S.D.sl) E' r))++nms.drop (i+1))[i+1+((s.kids.take k).flatMap (wrd (slA S.D.sl) E' r)).length]?=some la,fun _ j _=>s.kids.length-j.toNat,
   ⟨0,o2,E,gv+1,rfl,rfl,Nat.zero_le _,?_,E4,fun _ _=>rfl,fun y hy=>by simp at hy,b74,o72,ov,hvc,?_⟩,?_⟩
  ·have e:insAt nms (i+1) (gv+1)=nms.take (i+1)++((gv+1) :: (s.kids.take 0).flatMap (wrd (slA S.D.sl) E r))++nms.drop (i+1):=by unfold insAt;simp
   rw [e] at h4
   simpa using h4
  ·rw [List.append_assoc,List.getElem?_append_right (by simp;omega)]
   simp only [List.take_zero,List.flatMap_nil,List.length_nil,Nat.add_zero,List.length_take]
   rw [show i+1-min (i+1) nms.length=0 by omega];rfl
  rintro last j w5 ⟨k,o5,E5,la,rfl,rfl,hk,h5,ev5,q1,q2,b75,o75,ov5,ovc,hla⟩
  unfold F70_l6
  have hm5:=hwl E5 (s.kids.take k) fun y hy=>List.mem_of_mem_take hy
  have htl:(nms.take (i+1)).length=i+1:=by rw [List.length_take];omega
  refine brd (fun hlt=>?_) (fun hge=>?_)
  ·have hk2:k < s.kids.length:=by omega
   obtain⟨A,cc,hvf,hrd⟩:=ov5.form
   have e1:v.1=A:=by rw [slvF hvf]
   rw [←e1] at hrd
   refine hrd.hn hv1 rfl hk2 fun bb oo cx=>?_
   simp only [cx,lds]
   have hkm:s.kids[k]∈s.kids:=List.getElem_mem hk2
   obtain⟨⟨t,t1⟩,t2⟩:=hkl s.kids[k] hkm
   have hst:∀f:Nat→List Nat,(s.kids.take (k+1)).flatMap f=(s.kids.take k).flatMap f++f s.kids[k]:=fun f=>by
    rw [List.take_succ_eq_append_getElem hk2,List.flatMap_append];simp
   have hle:((s.kids.take (k+1)).flatMap (allA (slA S.D.sl) r)).length≤(s.kids.flatMap (allA (slA S.D.sl) r)).length:=by
    have e:s.kids.flatMap (allA (slA S.D.sl) r)=(s.kids.take (k+1)).flatMap (allA (slA S.D.sl) r)++(s.kids.drop (k+1)).flatMap (allA (slA S.D.sl) r):=by rw [←List.flatMap_append,List.take_append_drop]
    rw [e,List.length_append];omega
   have hdis:∀y∈(s.kids.take k).flatMap (allA (slA S.D.sl) r),y∉allA (slA S.D.sl) r s.kids[k]:=fun y hy hy2=>by
    have e:s.kids.flatMap (allA (slA S.D.sl) r)=(s.kids.take (k+1)).flatMap (allA (slA S.D.sl) r)++(s.kids.drop (k+1)).flatMap (allA (slA S.D.sl) r):=by rw [←List.flatMap_append,List.take_append_drop]
    rw [e,hst] at hnd
    have:=(List.nodup_append.1 hnd).1
    exact (List.nodup_append.1 this).2.2 y hy y hy2 rfl
   rw [hst,List.length_append] at hle
   have hLlen:(nms.take (i+1)++((gv+1) :: (s.kids.take k).flatMap (wrd (slA S.D.sl) E5 r))++nms.drop (i+1)).length=nms.length+1+((s.kids.take k).flatMap (wrd (slA S.D.sl) E5 r)).length:=by simp;omega
   refine ih s.kids[k] (c+1) t1 t2 (by omega) h5.x hla (by rw [hLlen,hm5];omega) (by omega) fun w6 o6 E6 h6 ev6 z1 z2=>⟨_,rfl,inR_i64 (by omega) (by omega),⟨k+1,o6,E6,_,rfl,by simp,by omega,?_,ev5.trans ev6,?_,?_,ev6.fm.blk b75 (fun e=>by omega),ev6.old g7 b75.lt o75,own_fm ov5 ev6.fm fun b hb e=>by have:=ovc b hb;omega,fun b hb=>ev6.old b (ov5.lt b hb).2 (ovc b hb),?_⟩,(by first | omega | (dsimp only;omega))⟩
   ·have hcg:(s.kids.take k).flatMap (wrd (slA S.D.sl) E5 r)=(s.kids.take k).flatMap (wrd (slA S.D.sl) E6 r):=flat_congr fun y hy=>wrd_congr r y fun z hz=>(z1 z (hdis z (List.mem_flatMap.2 ⟨y,hy,hz⟩))).symm
    rw [hst,hst,←hcg]
    have e1:(nms.take (i+1)++((gv+1) :: (s.kids.take k).flatMap (wrd (slA S.D.sl) E5 r))).length=i+1+((s.kids.take k).flatMap (wrd (slA S.D.sl) E5 r)).length+1:=by rw [List.length_append,htl,List.length_cons];omega
    rw [List.take_left' e1,List.drop_left' e1] at h6
    have e2:nms.take (i+1)++((gv+1) :: (s.kids.take k).flatMap (wrd (slA S.D.sl) E5 r))++wrd (slA S.D.sl) E6 r s.kids[k]++nms.drop (i+1)=nms.take (i+1)++((gv+1) :: ((s.kids.take k).flatMap (wrd (slA S.D.sl) E5 r)++wrd (slA S.D.sl) E6 r s.kids[k]))++nms.drop (i+1):=by simp
    rw [e2] at h6
    have e3:gv+1+2*((s.kids.take k).flatMap (allA (slA S.D.sl) r)).length+2*(allA (slA S.D.sl) r s.kids[k]).length=gv+1+2*((s.kids.take k).flatMap (allA (slA S.D.sl) r)++allA (slA S.D.sl) r s.kids[k]).length:=by rw [List.length_append];omega
    rw [e3] at h6
    exact h6
   ·intro y hy
    rw [hst,List.mem_append,not_or] at hy
    rw [z1 y hy.2];exact q1 y hy.1
   ·intro y hy
    rw [hst,List.mem_append] at hy
    rcases hy with hy | hy
    ·rw [z1 y (hdis y hy)];exact q2 y hy
    ·exact z2 y hy
   ·obtain⟨c',d1,d2⟩:=hA.chain _ t t1
    have:=t2.fn d2
    obtain⟨r',rfl⟩:∃r',r=r'+1:=⟨r-1,by omega⟩
    rw [hst,wrd_some (E:=E6) t1]
    generalize (s.kids.take k).flatMap (wrd (slA S.D.sl) E6 (r'+1))=ws
    generalize t.kids.flatMap (wrd (slA S.D.sl) E6 r')=xs
    have e1:nms.take (i+1)++(gv+1) :: (ws++((eN E6 s.kids[k]).1 :: xs++[(eN E6 s.kids[k]).2]))++nms.drop (i+1)=(nms.take (i+1)++(gv+1) :: (ws++((eN E6 s.kids[k]).1 :: xs)))++((eN E6 s.kids[k]).2 :: nms.drop (i+1)):=by simp
    rw [e1,List.getElem?_append_right (by simp only [List.length_append,List.length_cons,List.length_nil,htl];omega)]
    simp only [List.length_append,List.length_cons,List.length_nil,htl]
    rw [show i+1+(ws.length+(xs.length+1+(0+1)))-(i+1+(ws.length+(xs.length+1)+1))=0 by omega]
    rfl
  ·have hk2:k=s.kids.length:=by omega
   subst hk2
   rw [List.take_length] at h5 q1 q2 hla hm5
   have hLlen:(nms.take (i+1)++((gv+1) :: s.kids.flatMap (wrd (slA S.D.sl) E5 r))++nms.drop (i+1)).length=nms.length+1+(s.kids.flatMap (wrd (slA S.D.sl) E5 r)).length:=by simp;omega
   simp only [NonNil_some,Addr.add_mk,Nat.zero_add]
   refine After_x h5.x (by rw [hLlen,hm5];omega) (by omega) hla fun w6 o6 h6 ev6=>⟨_,_,rfl,?_⟩
   rw [insAt_mid (by rw [htl];omega)] at h6
   have b76:=ev6.fm.blk b75 (fun e=>by omega)
   have o76:=ev6.old g7 b75.lt o75
   refine st_blk b76 (by simp) fun w7 b77 f7=>?_
   simp only [List.setIfInBounds_toArray,List.set_cons_zero,List.set_cons_succ] at b77
   have h7:=h6.fm f7 fun b hb e=>by have e:b=g7:=e;rw [e];exact o76
   have ev7:EvL w o w7 o6:=(ev5.trans ev6).mine f7 fun b _ e=>by have e:b=g7:=e;omega
   refine⟨fun w'=>∃o' bs lbs mb wr eb,LM w' o' g ty S bs (nms.take (i+1)++((gv+1) :: s.kids.flatMap (wrd (slA S.D.sl) E5 r)++[gv+1+2*(s.kids.flatMap (allA (slA S.D.sl) r)).length+1])++nms.drop (i+1)) lbs mb (gv+1+2*(s.kids.flatMap (allA (slA S.D.sl) r)).length+1) wr (some eb) E5∧EvL w o w' o'∧o' g7=0∧Blk w' g7 #[.int .u64 (gv+1:Nat),.int .u64 (gv+1+2*(s.kids.flatMap (allA (slA S.D.sl) r)).length+1:Nat)] 146,?_,?_⟩
   ·rintro w8 ⟨o8,bs8,lbs8,mb8,wr8,eb,h8,ev8,o78,b78⟩
    unfold F70_j13
    have hdr:Below w8.heap.size w8 w8.drew:=(Below.refl _ _).drew
    obtain⟨nv,rv,hd⟩:=h8.pm.doc
    have cm:w8.cell? ⟨g,9,none⟩=some (.map (some eb)):=by rw [hd.blk.cell];rfl
    refine⟨fun w'=>Below w8.heap.size w8 w',hdr,?_⟩
    simp only [NonNil_some,Addr.add_mk,Nat.zero_add]
    refine⟨_,fun w' hw=>(sub_below hw).cell cm,?_⟩
    refine⟨_,fun w' hw=>by rw [(b78.keep hw).cell];rfl,?_⟩
    refine⟨_,fun w' hw=>by rw [(b78.keep hw).cell];rfl,?_⟩
    have h8d:=h8.below hdr
    obtain⟨e1,e2⟩:=h8d.e
    refine e2.update mapTypeE keyTypeE (n:Nat) _ fun w9 mp9 f9=>?_
    have hmu:mpE (updE E5 n (some (gv+1,gv+1+2*(s.kids.flatMap (allA (slA S.D.sl) r)).length+1)))=upd (mpE E5) (n:Nat) (some (.agg #[.int .u64 (gv+1:Nat),.int .u64 (gv+1+2*(s.kids.flatMap (allA (slA S.D.sl) r)).length+1:Nat)])):=mpE_upd
    obtain⟨h9,ev9⟩:=h8d.setE f9 (by rw [hmu];exact mp9)
    have hne:g7≠eb:=fun e=>by rw [e,e1] at o78;omega
    have b79:=f9.blk (b78.keep hdr) hne
    simp only [b79.cell,lds]
    have hsame:∀y,y≠n→updE E5 n (some (gv+1,gv+1+2*(s.kids.flatMap (allA (slA S.D.sl) r)).length+1)) y=E5 y:=fun y hy=>by unfold updE;rw [if_neg hy]
    have hself:updE E5 n (some (gv+1,gv+1+2*(s.kids.flatMap (allA (slA S.D.sl) r)).length+1)) n=some (gv+1,gv+1+2*(s.kids.flatMap (allA (slA S.D.sl) r)).length+1):=by unfold updE;rw [if_pos rfl]
    have hcg:s.kids.flatMap (wrd (slA S.D.sl) E5 r)=s.kids.flatMap (wrd (slA S.D.sl) (updE E5 n (some (gv+1,gv+1+2*(s.kids.flatMap (allA (slA S.D.sl) r)).length+1))) r):=flat_congr fun y hy=>wrd_congr r y fun z hz=>(hsame z (fun e=>by subst e;exact hnn (List.mem_flatMap.2 ⟨y,hy,hz⟩))).symm
    have hen:eN (updE E5 n (some (gv+1,gv+1+2*(s.kids.flatMap (allA (slA S.D.sl) r)).length+1))) n=(gv+1,gv+1+2*(s.kids.flatMap (allA (slA S.D.sl) r)).length+1):=by unfold eN;rw [hself];rfl
    have:=hK w9 o8 (updE E5 n (some (gv+1,gv+1+2*(s.kids.flatMap (allA (slA S.D.sl) r)).length+1))) ?_ ((ev8.trans (EvL.below hdr)).trans ev9) (fun y hy=>?_) (fun y hy=>?_)
    ·rw [hen] at this;exact this
    ·rw [wrd_some hs,hen,←hcg,show gv+2*((s.kids.flatMap (allA (slA S.D.sl) r)).length+1)=gv+1+2*(s.kids.flatMap (allA (slA S.D.sl) r)).length+1 by omega]
     exact⟨bs8,lbs8,mb8,wr8,some eb,h9⟩
    ·rw [List.mem_cons,not_or] at hy
     rw [hsame y hy.1];exact q1 y hy.2
    ·rcases List.mem_cons.1 hy with rfl | hy
     ·rw [hself];simp
     ·by_cases e:y=n
      ·rw [e,hself];simp
      ·rw [hsame y e];exact q2 y hy
   ·obtain⟨bs7,lbs7,mb7,wr7,em7,h7⟩:=h7
    obtain⟨nv,rv,hd⟩:=h7.pm.doc
    have cm:w7.cell? ⟨g,9,none⟩=some (.map em7):=by rw [hd.blk.cell];rfl
    simp only [NonNil_some,Addr.add_mk,Nat.zero_add,cm,lds]
    cases em7 with
    | none =>
     simp only [Option.isNone_none,Br_t]
     refine h7.made fun w8 o8 eb h8 ev8=>⟨o8,bs7,lbs7,mb7,wr7,eb,h8,ev7.trans ev8,ev8.old g7 b77.lt o76,ev8.fm.blk b77 (fun e=>by omega)⟩
    | some eb =>
     simp only [Option.isNone_some,Br_f]
     exact⟨o6,bs7,lbs7,mb7,wr7,eb,h7,ev7,o76,b77⟩
end
set_option maxRecDepth 100000
def aheadF (D:Im) (E:Nat→Option (Nat × Nat)) (n:Nat):Nat:=match slA D.sl n with
 | some s=>if (lstI D s.parent).idxOf n=0 then (eN E s.parent).1 else (eN E ((lstI D s.parent).getD ((lstI D s.parent).idxOf n-1) 0)).2
 | none=>0
section
variable {w w1 w2:World}{o o1 o2:Nat→Nat}{g:Nat}{ty:TypeId}{S:PS}{bs nms lbs:List Nat}{mb gv:Nat}{wr:Int}{em:Option Nat}{E:Nat→Option (Nat × Nat)}{M:Nat→Prop}{R:Ending→World→Prop}{θ:Th}{loose:List Nat}
theorem ahead_calls (h:LX w o g ty S nms gv E) (hA:WfA (slA S.D.sl) S.D.roots []) {n:Nat}{s:Sl} (hn:slA S.D.sl n=some s) (hK:∀w',Below w.heap.size w w'→R (.returned (.int .u64 (aheadF S.D E n:Nat))) w') :
  Calls Tryz.prog 74 #[.pointer (some ⟨g,0,none⟩),.int .u64 (n:Nat)] w R:=by
 refine ok74 (some ⟨g,0,none⟩) n ?_
 unfold F74
 obtain⟨tl,-,hpm⟩:=h.pm
 have hfew:=hpm.few
 rw [NonNil_some]
 refine Parent_calls (θ:=⟨g,ty,tl⟩) hpm hA hn fun w1 B1=>⟨_,_,rfl,?_⟩
 rw [NonNil_some]
 refine Roots_calls (θ:=⟨g,ty,tl⟩) (hpm.below B1) hA fun v w2 hb2 ov=>⟨_,_,_,rfl,?_⟩
 have B2:=btr B1 B1.size hb2
 have hpar:=hA.par n s hn
 have hmem:n∈lstI S.D s.parent:=hA.mem n s hn (by simp)
 have hahead:aheadF S.D E n=if (lstI S.D s.parent).idxOf n=0 then (eN E s.parent).1 else (eN E ((lstI S.D s.parent).getD ((lstI S.D s.parent).idxOf n-1) 0)).2:=by unfold aheadF;rw [hn]
 have hlf:(lstI S.D s.parent).length≤4096:=Nat.le_trans (live_few (fun y hy=>by obtain⟨_,t,ht,_⟩:=(hA.lst s.parent).2 y hy;exact⟨t,ht⟩) (hA.lst s.parent).1) hfew
 refine⟨fun A N C w'=>Below w.heap.size w w'∧∃B,Own LHn w' B 65 (.slice A N C) (lstI S.D s.parent),?_,?_⟩
 rotate_left
 ·refine brn (fun h0=>?_) (fun h0=>⟨B2,w1.heap.size,?_⟩)
  ·obtain⟨t,ht,_⟩:=hpar.resolve_left (by omega)
   rw [NonNil_some]
   refine Kids_calls (θ:=⟨g,ty,tl⟩) (hpm.below B2) hA hfew ht fun v' w3 hb3 ov3=>⟨_,_,_,_,rfl,btr B2 B2.size hb3,w2.heap.size,?_⟩
   have:lstI S.D s.parent=t.kids:=by unfold lstI;exact lstA_some (by omega) ht
   rw [this];exact ov3
  ·have:lstI S.D s.parent=S.D.roots:=by rw [show s.parent=0 by omega];unfold lstI;exact lstA_zero
   rw [this];exact ov
 rintro A N C w3 ⟨B3,B,ov3⟩
 unfold F74_j5
 obtain⟨em,cm,he⟩:=(h.below B3).emc
 simp only [NonNil_some,Addr.add_mk,Nat.zero_add,cm,lds]
 refine lookE he s.parent ⟨_,_,rfl,?_⟩
 obtain⟨A',c',hvf,hrd⟩:=ov3.form
 cases hvf
 generalize lstI S.D s.parent=l at *
 have hlt:=List.idxOf_lt_length_iff.2 hmem
 refine⟨fun t w'=>w'=w3∧t=(aheadF S.D E n:Nat),?_,?_⟩
 ·rintro t _ ⟨rfl,rfl⟩
  unfold F74_j12
  exact hK _ B3
 refine⟨fun t j w'=>w'=w3∧∃k:Nat,j=k∧k≤l.idxOf n∧t=((if k=0 then (eN E s.parent).1 else (eN E (l.getD (k-1) 0)).2:Nat):Int),fun _ j _=>l.length-j.toNat,⟨rfl,0,rfl,Nat.zero_le _,by rw [if_pos rfl]⟩,?_⟩
 rintro t j _ ⟨rfl,k,rfl,hk,rfl⟩
 unfold F74_l7
 refine brd (fun h1=>?_) (fun h1=>absurd (by omega) h1)
 have hkl:k < l.length:=by omega
 refine hrd.hn rfl rfl hkl fun bb oo cx=>?_
 simp only [cx,lds]
 refine bre (fun h2=>?_) (fun h2=>?_)
 ·have h2:l[k]=n:=by omega
  have h3:l.idxOf n=k:=by
   have h4:¬k < l.idxOf n:=fun h5=>by
    have:=List.not_of_lt_findIdx (p:=fun y=>y == n) (xs:=l) h5
    rw [h2] at this;simp at this
   omega
  exact⟨by trivial,by rw [hahead,h3]⟩
 ·have h3:k≠l.idxOf n:=fun e=>h2 (by
   have:=List.getElem_idxOf hlt
   subst e;rw [this])
  simp only [NonNil_some,Addr.add_mk,Nat.zero_add,cm,lds]
  refine lookE he l[k] ⟨_,_,rfl,inR_i64 (by omega) (by omega),⟨by trivial,k+1,by omega,by omega,?_⟩,(by first | omega | (dsimp only;omega))⟩
  rw [if_neg (by omega),Nat.add_sub_cancel,List.getD_eq_getElem?_getD,List.getElem?_eq_getElem hkl];rfl
end
set_option maxRecDepth 100000
section
variable {w w1 w2:World}{o o1 o2:Nat→Nat}{g:Nat}{ty:TypeId}{S:PS}{bs nms lbs:List Nat}{mb gv:Nat}{wr:Int}{em:Option Nat}{E:Nat→Option (Nat × Nat)}{M:Nat→Prop}{R:Ending→World→Prop}{θ:Th}{loose:List Nat}
end
set_option maxRecDepth 100000
section
variable {A B:Nat→Option Sl}{E E':Nat→Option (Nat × Nat)}{roots loose:List Nat}
theorem wrd_congr2 (hA:WfA A roots loose):∀(r z:Nat) {s:Sl},A z=some s→(∀y∈allA A r z,B y=A y∧E' y=E y)→wrd B E' r z=wrd A E r z
 | 0,z,s,_,_=>rfl
 | r+1,z,s,hz,h=>by
  rw [allA_some hz] at h
  have h1:=h z (by simp)
  have hz':B z=some s:=by rw [h1.1];exact hz
  rw [wrd_some hz,wrd_some hz']
  have e1:eN E' z=eN E z:=by unfold eN;rw [h1.2]
  rw [e1,flat_congr fun y hy=>?_]
  obtain⟨t,ht,_⟩:=((hA.kid z s hz).2 y hy).2
  exact wrd_congr2 hA r y ht fun x hx=>h x (List.mem_cons_of_mem _ (List.mem_flatMap.2 ⟨y,hy,hx⟩))
theorem wrd_fuel (hA:WfA A roots loose):∀(r x c:Nat) {s:Sl},A x=some s→Ch A x c→65≤c+r→∀r',r≤r'→wrd A E r x=wrd A E r' x:=by
 intro r
 induction r with
 | zero =>
  intro x c s hx hc hr
  obtain⟨c',h1,h2⟩:=hA.chain x s hx
  have:=hc.fn h2;omega
 | succ r ih =>
  intro x c s hx hc hr r' hr'
  obtain ⟨r'', rfl⟩ : ∃ r'', r' = r'' + 1 := ⟨r' - 1, by omega⟩
  rw [wrd_some hx,wrd_some hx,flat_congr fun y hy=>?_]
  obtain⟨t,t1,t2⟩:=((hA.kid x s hx).2 y hy).2
  exact ih y (c + 1) t1 (.succ (hA.ne0 t1) t1 (by rw [t2]; exact hc)) (by omega) r'' (by omega)
theorem wrd_last {r y:Nat}{s:Sl} (hy:A y=some s):(wrd A E (r+1) y).getLast?=some (eN E y).2:=by
 rw [wrd_some hy,List.getLast?_append];rfl
theorem split_at {f f':Nat→List Nat}{l:List Nat}{n:Nat} (hn:n∈l) (hd:l.Nodup) (hf:∀y∈l,y≠n→f' y=f y) :
  l.flatMap f=(l.take (l.idxOf n)).flatMap f++f n++(l.drop (l.idxOf n+1)).flatMap f∧(l.erase n).flatMap f'=(l.take (l.idxOf n)).flatMap f++(l.drop (l.idxOf n+1)).flatMap f:=by
 have hlt:=List.idxOf_lt_length_iff.2 hn
 have hg:=List.getElem_idxOf hlt
 have e:l=l.take (l.idxOf n)++n :: l.drop (l.idxOf n+1):=by
  conv=>lhs;rw [←List.take_append_drop (l.idxOf n) l,List.drop_eq_getElem_cons hlt,hg]
 constructor
 ·conv=>lhs;rw [e]
  rw [List.flatMap_append,List.flatMap_cons,List.append_assoc]
 ·have e2:(l.erase n).flatMap f'=(l.erase n).flatMap f:=flat_congr fun y hy=>hf y (List.mem_of_mem_erase hy) fun e=>by
   subst e;exact hd.not_mem_erase hy
  rw [e2,←take_drop_erase hn,List.flatMap_append]
def Slot (A B:Nat→Option Sl) (E E':Nat→Option (Nat × Nat)) (wn:List Nat) (ah:Nat) (a b:List Nat):Prop:=∃X Y,a=X++wn++Y∧b=X++Y∧X.getLast?=some ah
theorem Slot.up {wn a b:List Nat}{ah:Nat} (h:Slot A B E E' wn ah a b) (P Q:List Nat):Slot A B E E' wn ah (P++a++Q) (P++b++Q):=by
 obtain⟨X,Y,rfl,rfl,h3⟩:=h
 refine⟨P++X,Y++Q,by simp,by simp,?_⟩
 rw [List.getLast?_append,h3];rfl
end
section
variable {D:Im}{E E':Nat→Option (Nat × Nat)}
theorem slot_list {A B:Nat→Option Sl}{wn:List Nat}{ah y:Nat}{f f':Nat→List Nat}{l:List Nat} (hy:y∈l) (hd:l.Nodup) (hs:Slot A B E E' wn ah (f y) (f' y)) (hf:∀z∈l,z≠y→f' z=f z):Slot A B E E' wn ah (l.flatMap f) (l.flatMap f'):=by
 have hlt:=List.idxOf_lt_length_iff.2 hy
 have hg:=List.getElem_idxOf hlt
 have e:l=l.take (l.idxOf y)++y :: l.drop (l.idxOf y+1):=by
  conv=>lhs;rw [←List.take_append_drop (l.idxOf y) l,List.drop_eq_getElem_cons hlt,hg]
 have hnd:=hd
 rw [e] at hnd
 obtain⟨n1,n2,n3⟩:=List.nodup_append.1 hnd
 obtain⟨n4,n5⟩:=List.nodup_cons.1 n2
 have e1:(l.take (l.idxOf y)).flatMap f'=(l.take (l.idxOf y)).flatMap f:=flat_congr fun z hz=>hf z (List.mem_of_mem_take hz) fun e=>n3 z hz y (by simp) e
 have e2:(l.drop (l.idxOf y+1)).flatMap f'=(l.drop (l.idxOf y+1)).flatMap f:=flat_congr fun z hz=>hf z (List.mem_of_mem_drop hz) fun e=>by subst e;exact n4 hz
 have a1:l.flatMap f=(l.take (l.idxOf y)).flatMap f++f y++(l.drop (l.idxOf y+1)).flatMap f:=by
  conv=>lhs;rw [e]
  rw [List.flatMap_append,List.flatMap_cons,List.append_assoc]
 have a2:l.flatMap f'=(l.take (l.idxOf y)).flatMap f++f' y++(l.drop (l.idxOf y+1)).flatMap f:=by
  conv=>lhs;rw [e]
  rw [List.flatMap_append,List.flatMap_cons,←List.append_assoc,e1,e2]
 rw [a1,a2]
 exact hs.up _ _
end
set_option maxRecDepth 100000
section
variable {A B:Nat→Option Sl}{E E':Nat→Option (Nat × Nat)}{roots:List Nat}
theorem Wi.tr {a b c:Nat} (h1:Wi A a b) (h2:Wi A b c):Wi A a c:=by
 induction h2 with
 | self=>exact h1
 | up hs _ ih=>exact .up hs ih
theorem wi_sib (h0:A 0=none) {z n y c:Nat} (hz:Ch A z c) (hn:Ch A n c) (h1:Wi A z y) (h2:Wi A n y):z=n:=by
 obtain⟨d1,e1⟩:=h1.de
 obtain⟨d2,e2⟩:=h2.de
 have c1:=e1.ch h0 hz
 have c2:=e2.ch h0 hn
 have:=c1.fn c2
 have:d1=d2:=by omega
 subst this
 exact e1.fn e2
theorem all_wi (hA:WfA A roots []) {r x y:Nat}{s:Sl} (hx:A x=some s) (hy:y∈allA A r x):Wi A x y:=by
 obtain⟨d,_,hd⟩:=(mem_allA hA r x y ⟨s,hx⟩ (fun z hz=>by simp at hz)).1 hy
 exact hd.wi
theorem last_flat {f:Nat→List Nat}{h:Nat→Nat}{b:Nat}{l:List Nat}:∀(k:Nat),k≤l.length→(∀y∈l,(f y).getLast?=some (h y))→(b :: (l.take k).flatMap f).getLast?=some (if k=0 then b else h (l.getD (k-1) 0))
 | 0,_,_=>by simp
 | k+1,hk,hf=>by
  have hk2:k < l.length:=by omega
  rw [List.take_succ_eq_append_getElem hk2,List.flatMap_append,←List.cons_append,List.getLast?_append]
  have:(([l[k]]:List Nat).flatMap f).getLast?=some (h l[k]):=by simp [hf l[k] (List.getElem_mem hk2)]
  rw [this,if_neg (by omega),Nat.add_sub_cancel,List.getD_eq_getElem?_getD,List.getElem?_eq_getElem hk2];rfl
theorem up_root (hA:WfA A roots []) {n p:Nat}{s:Sl} (hn:A n=some s) (hp:s.parent=p) (hB:∀y,y≠p→B y=A y) (hE:∀y,¬Wi A n y→E' y=E y) {wn:List Nat}{ah:Nat} :
  ∀(c y r:Nat) {t:Sl},A y=some t→Ch A y c→Wi A y p→r+c=66→Slot A B E E' wn ah (wrd A E' r y) (wrd B E r y)→Slot A B E E' wn ah (0 :: roots.flatMap (wrd A E' 65)) (0 :: roots.flatMap (wrd B E 65))
 | 0,y,r,t,hy,hc,_,_,_=>by cases hc;exact absurd rfl (hA.ne0 hy)
 | c+1,y,r,t,hy,hc,hw,hr,hs=>by
  have hyn:Wi A y n:=.up hn (by rw [hp];exact hw)
  have hch':Ch A t.parent c:=by
   cases hc with
   | succ h0 ha h3=>rw [hy] at ha;cases ha;exact h3
  have hmem:=hA.mem y t hy (by simp)
  have hcong:∀(l:List Nat),(∀z∈l,∃u,A z=some u∧Ch A z (c+1))→∀r',∀z∈l,z≠y→wrd B E r' z=wrd A E' r' z:=fun l hl r' z hz hzy=>by
   obtain⟨u,u1,u2⟩:=hl z hz
   refine wrd_congr2 hA r' z u1 fun x hx=>?_
   have hwx:=all_wi hA u1 hx
   refine⟨hB x fun e=>?_,(hE x fun e=>?_).symm⟩
   ·subst e;exact hzy (wi_sib hA.zero u2 hc hwx hw)
   ·exact hzy (wi_sib hA.zero u2 hc hwx (hyn.tr e))
  rcases hA.par y t hy with h0 | ⟨u,hu,_⟩
  ·rw [h0] at hch' hmem
   have hc0:c=0:=hch'.fn .zero
   subst hc0
   have hr65:r=65:=by omega
   subst hr65
   rw [lstA_zero] at hmem
   have:=slot_list hmem hA.root.1 hs (hcong roots (fun z hz=>by
    obtain⟨_,u,u1,u2⟩:=hA.root.2 z hz
    exact⟨u,u1,.succ (hA.ne0 u1) u1 (by rw [u2];exact .zero)⟩) 65)
   have:=this.up [0] []
   simpa using this
  ·have hq0:=hA.ne0 hu
   rw [lstA_some hq0 hu] at hmem
   have hqp:t.parent≠p:=fun e=>by
    rw [←e] at hw
    exact wi_par hA hy hw
   have hBq:B t.parent=some u:=by rw [hB _ hqp];exact hu
   have hEq:E' t.parent=E t.parent:=hE _ fun e=>by
    have:=hyn.tr e
    exact wi_par hA hy this
   refine up_root hA hn hp hB hE c t.parent (r+1) hu hch' (.tr (.up hy .self) hw) (by omega) ?_
   rw [wrd_some hu,wrd_some hBq]
   have e1:eN E' t.parent=eN E t.parent:=by unfold eN;rw [hEq]
   rw [e1]
   have:=slot_list hmem (hA.kid _ u hu).1 hs (hcong u.kids (fun z hz=>by
    obtain⟨_,x,x1,x2⟩:=(hA.kid _ u hu).2 z hz
    exact⟨x,x1,.succ (hA.ne0 x1) x1 (by rw [x2];exact hch')⟩) r)
   exact this.up [(eN E t.parent).1] [(eN E t.parent).2]
theorem attach (hA:WfA A roots []) {n:Nat}{s:Sl} (hn:A n=some s) (hE0:E 0=none) (hE:∀y,¬Wi A n y→E' y=E y) :
  Slot A (setA A s.parent ((lstA A roots s.parent).erase n)) E E' (wrd A E' 65 n) (if (lstA A roots s.parent).idxOf n=0 then (eN E s.parent).1 else (eN E ((lstA A roots s.parent).getD ((lstA A roots s.parent).idxOf n-1) 0)).2)
   (0 :: roots.flatMap (wrd A E' 65)) (0 :: (setR roots s.parent ((lstA A roots s.parent).erase n)).flatMap (wrd (setA A s.parent ((lstA A roots s.parent).erase n)) E 65)):=by
 have hmem:=hA.mem n s hn (by simp)
 obtain⟨hnd,hall⟩:=hA.lst s.parent
 obtain⟨cn,cn1,cn2⟩:=hA.chain n s hn
 obtain⟨cp,hcn,hcp⟩:∃cp,cn=cp+1∧Ch A s.parent cp:=by
  cases cn2 with
  | zero=>exact absurd rfl (hA.ne0 hn)
  | succ h0 ha h3=>rw [hn] at ha;cases ha;exact⟨_,rfl,h3⟩
 subst hcn
 have hch:∀z∈lstA A roots s.parent,∃u,A z=some u∧u.parent=s.parent∧Ch A z (cp+1):=fun z hz=>by
  obtain⟨_,u,u1,u2⟩:=hall z hz
  exact⟨u,u1,u2,.succ (hA.ne0 u1) u1 (by rw [u2];exact hcp)⟩
 generalize hL:lstA A roots s.parent=l at *
 have hB:∀y,y≠s.parent∨s.parent=0→setA A s.parent (l.erase n) y=A y:=fun y hy=>by
  unfold setA
  rw [if_neg (fun e=>by rcases hy with h | h;exact h e.1;exact e.2 h)]
 have hEl:∀z∈l,z≠n→E' z=E z:=fun z hz hzn=>hE z fun e=>by
  obtain⟨u,u1,u2,u3⟩:=hch z hz
  exact hzn (wi_sib hA.zero u3 cn2 .self e)
 have hcong:∀r,∀z∈l,z≠n→wrd (setA A s.parent (l.erase n)) E r z=wrd A E' r z:=fun r z hz hzn=>by
  obtain⟨u,u1,u2,u3⟩:=hch z hz
  refine wrd_congr2 hA r z u1 fun x hx=>?_
  have hwx:=all_wi hA u1 hx
  refine⟨hB x (.inl fun e=>?_),(hE x fun e=>hzn (wi_sib hA.zero u3 cn2 hwx e)).symm⟩
  subst e
  rw [←u2] at hwx
  exact wi_par hA u1 hwx
 have hlt:=List.idxOf_lt_length_iff.2 hmem
 have key:∀r b,(b :: (l.take (l.idxOf n)).flatMap (wrd A E' (r+1))).getLast?=some (if l.idxOf n=0 then b else (eN E (l.getD (l.idxOf n-1) 0)).2):=fun r b=>by
  rw [last_flat (h:=fun y=>(eN E' y).2) (l.idxOf n) (by omega) fun y hy=>by
   obtain⟨u,u1,_⟩:=hch y hy
   exact wrd_last u1]
  by_cases h0:l.idxOf n=0
  ·rw [if_pos h0,if_pos h0]
  ·rw [if_neg h0,if_neg h0]
   have hk:l.idxOf n-1 < l.length:=by omega
   have hg:l.getD (l.idxOf n-1) 0=l[l.idxOf n-1]:=by rw [List.getD_eq_getElem?_getD,List.getElem?_eq_getElem hk];rfl
   have hne:l[l.idxOf n-1]≠n:=fun e=>by
    have:=nd_get hnd (List.getElem?_eq_getElem hk) (show l[l.idxOf n]?=some l[l.idxOf n-1] by rw [List.getElem?_eq_getElem hlt,List.getElem_idxOf hlt,e])
    omega
   rw [hg]
   unfold eN
   rw [hEl _ (List.getElem_mem hk) hne]
 by_cases hp0:s.parent=0
 ·have hr:l=roots:=by rw [←hL,hp0,lstA_zero]
  subst hr
  obtain⟨a1,a2⟩:=split_at (f:=wrd A E' 65) (f':=wrd (setA A s.parent (l.erase n)) E 65) hmem hnd (hcong 65)
  refine⟨0 :: (l.take (l.idxOf n)).flatMap (wrd A E' 65),(l.drop (l.idxOf n+1)).flatMap (wrd A E' 65),?_,?_,?_⟩
  ·rw [a1];simp
  ·have e:setR l s.parent (l.erase n)=l.erase n:=by unfold setR;rw [if_pos hp0]
   rw [e,a2];simp
  ·have e:(eN E s.parent).1=0:=by unfold eN;rw [hp0,hE0];rfl
   rw [e];exact key 64 0
 ·obtain⟨u,hu,_⟩:=(hA.par n s hn).resolve_left hp0
  have hkids:l=u.kids:=by rw [←hL];exact lstA_some hp0 hu
  have hcp64:cp+1≤64:=cn1
  obtain⟨r,hr⟩:∃r,r+1+cp=65:=⟨64-cp,by omega⟩
  have hEp:E' s.parent=E s.parent:=hE _ (wi_par hA hn)
  have hBp:setA A s.parent (l.erase n) s.parent=some { u with kids:=l.erase n }:=by
   unfold setA
   rw [if_pos ⟨rfl,hp0⟩,hu];rfl
  have hroots:setR roots s.parent (l.erase n)=roots:=by unfold setR;rw [if_neg hp0]
  rw [hroots]
  refine up_root hA hn rfl (fun y hy=>hB y (.inl hy)) hE cp s.parent (r+1+1) hu hcp .self (by omega) ?_
  rw [wrd_some hu,wrd_some hBp]
  dsimp only
  obtain⟨a1,a2⟩:=split_at (f:=wrd A E' (r+1)) (f':=wrd (setA A s.parent (l.erase n)) E (r+1)) hmem hnd (hcong (r+1))
  have hwn:wrd A E' (r+1) n=wrd A E' 65 n:=wrd_fuel hA (r+1) n (cp+1) hn cn2 (by omega) 65 (by omega)
  rw [←hkids,a1,a2,hwn]
  have e1:eN E' s.parent=eN E s.parent:=by unfold eN;rw [hEp]
  rw [e1]
  refine⟨(eN E s.parent).1 :: (l.take (l.idxOf n)).flatMap (wrd A E' (r+1)),(l.drop (l.idxOf n+1)).flatMap (wrd A E' (r+1))++[(eN E s.parent).2],by simp,by simp,key r _⟩
end
set_option maxRecDepth 100000
section
variable {w w1 w2:World}{o o1 o2:Nat→Nat}{g:Nat}{ty:TypeId}{S:PS}{bs nms lbs:List Nat}{mb gv:Nat}{wr:Int}{em:Option Nat}{E:Nat→Option (Nat × Nat)}{M:Nat→Prop}{R:Ending→World→Prop}{θ:Th}
theorem LX.tree (h:LX w o g ty S nms gv E):∃tl,PM w o ⟨g,ty,tl⟩ S∧∀w' o' S',PM w' o' ⟨g,ty,tl⟩ S'→EvP w o w' o'→LX w' o' g ty S' nms gv E:=by
 rcases h with ⟨bs,lbs,mb,wr,em,h⟩ | ⟨h,h2⟩
 ·refine⟨_,h.pm,fun w' o' S' hp ev=>.inl ⟨bs,lbs,mb,wr,em,hp,?_,h.i,h.len,?_⟩⟩
  ·have hn:∀b,(o b=4∨o b=5)→¬pc (o b):=fun b hb hp=>by unfold pc at hp;omega
   have hr:=h.r.fm ev.fm hn
   exact⟨hr.blk,fun b hb=>by rw [ev.same b (by rw [hr.col b hb];decide)];exact hr.col b hb,hr.nd,hr.mp,by rw [ev.same mb (by rw [hr.mcol];decide)];exact hr.mcol⟩
  ·exact h.e.fm ev.fm (fun b hb hp=>by unfold pc at hp;omega) ev.same
 ·obtain⟨em,hp,he⟩:=h.pm
  exact⟨_,hp,fun w' o' S' hq ev=>.inr ⟨⟨em,hq,he.fm ev.fm (fun b hb hp=>by unfold pc at hp;omega) ev.same⟩,h2⟩⟩
end
section
variable {A:Nat→Option Sl}{roots:List Nat}{D:Im}{E E':Nat→Option (Nat × Nat)}
theorem rootsAll_nodup (hA:WfA A roots []):(roots.flatMap (allA A 65)).Nodup:=by
 have hr:∀z∈roots,∃u,A z=some u∧Ch A z 1:=fun z hz=>by
  obtain⟨_,u,u1,u2⟩:=hA.root.2 z hz
  exact⟨u,u1,.succ (hA.ne0 u1) u1 (by rw [u2];exact .zero)⟩
 refine flatMap_nodup _ _ hA.root.1 (fun z hz=>?_) fun a ha b hb hab y hy hy2=>?_
 ·obtain⟨u,u1,_⟩:=hr z hz
  exact all_nodup hA 65 z ⟨u,u1⟩ fun z hz=>by simp at hz
 ·obtain⟨u,u1,u2⟩:=hr a ha
  obtain⟨v,v1,v2⟩:=hr b hb
  exact hab (wi_sib hA.zero u2 v2 (all_wi hA u1 hy) (all_wi hA v1 hy2))
theorem mem_roots (hA:WfA A roots []):∀(c y:Nat) {s:Sl},A y=some s→Ch A y c→∃z∈roots,Wi A z y
 | 0,y,s,hy,hc=>by cases hc;exact absurd rfl (hA.ne0 hy)
 | c+1,y,s,hy,hc=>by
  have hmem:=hA.mem y s hy (by simp)
  rcases hA.par y s hy with h0 | ⟨u,hu,_⟩
  ·rw [h0,lstA_zero] at hmem
   exact⟨y,hmem,.self⟩
  ·have hch:Ch A s.parent c:=by
    cases hc with
    | succ _ ha h3=>rw [hy] at ha;cases ha;exact h3
   obtain⟨z,hz,hw⟩:=mem_roots hA c s.parent hu hch
   exact⟨z,hz,.up hy hw⟩
theorem mem_all_roots (hA:WfA A roots []) {y:Nat}:y∈roots.flatMap (allA A 65)↔∃s,A y=some s:=by
 constructor
 ·intro h
  obtain⟨z,hz,hy⟩:=List.mem_flatMap.1 h
  obtain⟨_,u,u1,u2⟩:=hA.root.2 z hz
  exact all_live hA ⟨u,u1⟩ (fun z hz=>by simp at hz) hy
 ·rintro ⟨s,hs⟩
  obtain⟨c,c1,c2⟩:=hA.chain y s hs
  obtain⟨z,hz,hw⟩:=mem_roots hA c y hs c2
  obtain⟨_,u,u1,u2⟩:=hA.root.2 z hz
  exact List.mem_flatMap.2 ⟨z,hz,(mem_all hA ⟨u,u1⟩ (fun z hz=>by simp at hz) (.succ (hA.ne0 u1) u1 (by rw [u2];exact .zero)) (by omega)).2 hw⟩
theorem rootsAll_few (hS:WfS D.sl) (hA:WfA (slA D.sl) D.roots []):(D.roots.flatMap (allA (slA D.sl) 65)).length≤4096 :=
 Nat.le_trans (live_few (fun y hy=>(mem_all_roots hA).1 hy) (rootsAll_nodup hA)) hS.few
end
set_option maxRecDepth 100000
section
variable {A A0:Nat→Option Sl}{roots roots0:List Nat}{D:Im}{E E':Nat→Option (Nat × Nat)}
structure Att (A0:Nat→Option Sl) (roots0:List Nat) (A:Nat→Option Sl) (roots:List Nat) (n:Nat) (s:Sl):Prop where
 w0:WfA A0 roots0 []
 w:WfA A roots []
 at_:A n=some s
 new:A0 n=none
 rt:setR roots s.parent ((lstA A roots s.parent).erase n)=roots0
 old:∀y t,A0 y=some t→setA A s.parent ((lstA A roots s.parent).erase n) y=some t
variable {n:Nat}{s:Sl}
theorem setA_live {A:Nat→Option Sl}{p y:Nat}{l:List Nat}{t:Sl} (h:setA A p l y=some t):∃u,A y=some u∧u.parent=t.parent:=by
 obtain⟨u,h1,h2⟩:=setA_some h
 refine⟨u,h1,?_⟩
 rw [h2];split <;> rfl
theorem Att.live (h:Att A0 roots0 A roots n s) {y:Nat}{t:Sl} (hy:A0 y=some t):∃u,A y=some u∧u.parent=t.parent:=setA_live (h.old y t hy)
theorem Att.apart (h:Att A0 roots0 A roots n s) {y:Nat} (hw:Wi A n y):A0 y=none:=by
 induction hw with
 | self=>exact h.new
 | @up x u hx hw ih =>
  cases ha:A0 x with
  | none=>rfl
  | some t =>
   obtain⟨u',u1,u2⟩:=h.live ha
   rw [hx] at u1;cases u1
   rcases h.w0.par x t ha with e | ⟨v,hv,_⟩
   ·exfalso
    rw [u2,e] at hw
    cases hw with
    | self=>exact h.w.ne0 h.at_ rfl
    | up h0 _=>rw [h.w.zero] at h0;cases h0
   ·rw [u2,hv] at ih;cases ih
theorem Att.split (h:Att A0 roots0 A roots n s):∀(c y:Nat) {t:Sl},Ch A y c→A y=some t→¬Wi A n y→∃u,A0 y=some u
 | 0,y,t,hc,hy,_=>by cases hc;exact absurd rfl (h.w.ne0 hy)
 | c+1,y,t,hc,hy,hw=>by
  have hmem:=h.w.mem y t hy (by simp)
  have hyn:y≠n:=fun e=>hw (by rw [e];exact .self)
  have hch:Ch A t.parent c:=by
   cases hc with
   | succ _ ha h3=>rw [hy] at ha;cases ha;exact h3
  rcases h.w.par y t hy with h0 | ⟨v,hv,_⟩
  ·rw [h0,lstA_zero] at hmem
   have:y∈roots0:=by
    rw [←h.rt]
    unfold setR
    split
    ·rename_i hp
     rw [hp,lstA_zero]
     exact (List.mem_erase_of_ne hyn).2 hmem
    ·exact hmem
   obtain⟨_,u,u1,_⟩:=h.w0.root.2 y this
   exact⟨u,u1⟩
  ·have hq0:=h.w.ne0 hv
   obtain⟨u,hu⟩:=h.split c t.parent hch hv fun e=>hw (.up hy e)
   have hB:=h.old _ u hu
   rw [lstA_some hq0 hv] at hmem
   have:y∈u.kids:=by
    unfold setA at hB
    by_cases e:t.parent=s.parent∧s.parent≠0
    ·rw [if_pos e,hv] at hB
     cases hB
     show y∈(lstA A roots s.parent).erase n
     rw [←e.1,lstA_some hq0 hv]
     exact (List.mem_erase_of_ne hyn).2 hmem
    ·rw [if_neg e,hv] at hB
     cases hB;exact hmem
   obtain⟨_,x,x1,_⟩:=(h.w0.kid _ u hu).2 y this
   exact⟨x,x1⟩
theorem Att.word (h:Att A0 roots0 A roots n s):(setR roots s.parent ((lstA A roots s.parent).erase n)).flatMap (wrd (setA A s.parent ((lstA A roots s.parent).erase n)) E 65)=roots0.flatMap (wrd A0 E 65):=by
 rw [h.rt]
 refine flat_congr fun z hz=>?_
 obtain⟨_,u,u1,_⟩:=h.w0.root.2 z hz
 refine wrd_congr2 h.w0 65 z u1 fun y hy=>⟨?_,rfl⟩
 obtain⟨t,ht⟩:=all_live h.w0 ⟨u,u1⟩ (fun z hz=>by simp at hz) hy
 rw [h.old y t ht,ht]
theorem Att.few (h:Att (slA D.sl) D.roots A roots n s) {D':Im} (hS:WfS D'.sl) (hA':A=slA D'.sl):(D.roots.flatMap (allA (slA D.sl) 65)).length+(allA A 65 n).length≤4096:=by
 rw [←List.length_append]
 refine Nat.le_trans (live_few (sl:=D'.sl) (fun y hy=>?_) (List.nodup_append.2 ⟨rootsAll_nodup h.w0,all_nodup h.w 65 n ⟨s,h.at_⟩ (fun z hz=>by simp at hz),fun y hy z hz e=>?_⟩)) hS.few
 ·rw [←hA']
  rcases List.mem_append.1 hy with hy | hy
  ·obtain⟨t,ht⟩:=(mem_all_roots h.w0).1 hy
   obtain⟨u,hu,_⟩:=h.live ht
   exact⟨u,hu⟩
  ·exact all_live h.w ⟨s,h.at_⟩ (fun z hz=>by simp at hz) hy
 ·subst e
  obtain⟨t,ht⟩:=(mem_all_roots h.w0).1 hy
  rw [h.apart (all_wi h.w h.at_ hz)] at ht;cases ht
theorem insAt_erase {l:List Nat}{k n:Nat} (hn:n∉l):(insAt l k n).erase n=l:=by
 unfold insAt
 rw [List.erase_append_right _ (fun e=>hn (List.mem_of_mem_take e)),List.erase_cons_head,List.take_append_drop]
theorem ins_att (hw:Wf D) {wh:Int}{a:Nat}{x:Tr} (h0:(insF D wh a x).2.2=0):∃s,Att (slA D.sl) D.roots (slA (insF D wh a x).1.sl) (insF D wh a x).1.roots (insF D wh a x).2.1 s:=by
 have hwf:=ins_wf hw wh a x
 unfold insF at h0 hwf ⊢
 by_cases h1:(placeF D wh a).2=1
 ·rw [if_pos h1] at h0;cases h0
 rw [if_neg h1] at h0 hwf ⊢
 by_cases h2:(lookF x 1 0).2≠0
 ·rw [if_pos h2] at h0;exact absurd h0 h2
 rw [if_neg h2] at h0 hwf ⊢
 by_cases h3:(placeF D wh a).2≠0
 ·rw [if_pos h3] at h0;exact absurd h0 h3
 rw [if_neg h3] at h0 hwf ⊢
 by_cases h4:64 < cntI D (placeF D wh a).1+dpT x
 ·rw [if_pos h4] at h0;cases h0
 rw [if_neg h4] at h0 hwf ⊢
 by_cases h5:4096 < tk D.sl+szT x
 ·rw [if_pos h5] at h0;cases h0
 rw [if_neg h5] at hwf ⊢
 obtain⟨p1,p2,p3,p4,p5,p6⟩:=place_ok hw (by simpa using h3)
 obtain⟨k1,k2,k3,k4⟩:=look_ok x 1 0 (by simpa using h2)
 obtain⟨c1,c2⟩:=hw.cnt (p1.imp id fun⟨t,h,_⟩=>⟨t,h⟩)
 have M:=make_wf x k1 hw.s hw.a p1 c2 (by omega) (by omega)
 obtain⟨st,st1,st2⟩:=M.top
 generalize placeF D wh a=pr at *
 obtain⟨p,pe⟩:=pr
 dsimp only at *
 have hne0:freshH D.sl≠0:=by unfold freshH hnd;omega
 have hpe:p=0∨∃t,slA (makeF x p D.sl) p=some t:=p1.imp id fun⟨t,ht,_⟩=>⟨t,M.ext _ _ ht⟩
 have hnp:freshH D.sl≠p:=fun e=>by
  rcases p1 with e1 | ⟨t,ht,_⟩
  ·exact hne0 (e.trans e1)
  ·rw [←e,M.new] at ht;cases ht
 have hlst:lstI { D with sl:=makeF x p D.sl } p=lstI D p:=by
  unfold lstI lstA
  by_cases h0:p=0
  ·rw [if_pos h0,if_pos h0]
  ·rw [if_neg h0,if_neg h0]
   obtain⟨t,ht,_⟩:=p1.resolve_left h0
   rw [ht]
   dsimp only
   rw [M.ext _ _ ht]
 have hnl:freshH D.sl∉lstI D p:=fun hm=>by
  obtain⟨_,t,ht,_⟩:=(hw.a.lst p).2 _ hm
  rw [M.new] at ht;cases ht
 obtain⟨X,hX⟩:∃X,X=insAt (lstI D p) (posF wh a (lstI D p)) (freshH D.sl):=⟨_,rfl⟩
 have hput:putI { D with sl:=makeF x p D.sl } (freshH D.sl) p wh a=setI { D with sl:=makeF x p D.sl } p X:=by unfold putI;rw [hlst,←hX]
 rw [hput] at hwf ⊢
 obtain⟨e1,e2⟩:=setI_A (D:={ D with sl:=makeF x p D.sl }) (l:=X) hpe
 have e1:slA (setI { D with sl:=makeF x p D.sl } p X).sl=setA (slA (makeF x p D.sl)) p X:=e1
 have e2:(setI { D with sl:=makeF x p D.sl } p X).roots=setR D.roots p X:=e2
 have hXe:X.erase (freshH D.sl)=lstI D p:=by rw [hX];exact insAt_erase hnl
 have hL:lstA (setA (slA (makeF x p D.sl)) p X) (setR D.roots p X) p=X:=by
  rw [lst_setA hpe M.wf.zero,if_pos rfl]
 refine⟨st,hw.a,hwf.a,?_,M.new,?_,fun y t hy=>?_⟩
 ·rw [e1,setA_of st1,if_neg (fun e=>hnp e.1)]
 ·rw [e1,e2,st2,hL,hXe]
  unfold setR
  by_cases h0:p=0
  ·rw [if_pos h0,h0];unfold lstI;exact lstA_zero
  ·rw [if_neg h0,if_neg h0]
 ·rw [e1,e2,st2,hL,hXe]
  have hy':=M.ext y t hy
  unfold setA
  by_cases hc:y=p∧p≠0
  ·rw [if_pos hc,if_pos hc,hy']
   have:lstI D p=t.kids:=by unfold lstI;rw [←hc.1] ;exact lstA_some (by rw [hc.1];exact hc.2) hy
   simp only [Option.map_some,this]
  ·rw [if_neg hc,if_neg hc];exact hy'
end
set_option maxRecDepth 100000
structure RSb (w:World) (s:Sl) (e:S8):Prop where
 gen:e.gen=s.gen
 live:e.live=s.live
 kind:e.kind=s.kind
 nm:e.nm=s.nm
 text:e.text=s.text
 parent:e.parent=s.parent
 ats:RR LAt w s.attrs e.ats
theorem RSb.sub {w w1:World}{s:Sl}{e:S8} (hs:Sub w w1) (h:RSb w s e):RSb w1 s e:=⟨h.gen,h.live,h.kind,h.nm,h.text,h.parent,h.ats.sub hs⟩
structure RM (ok:Nat→Bool) (w:World) (g:Nat) (D:Im) (vs vr:Sv):Prop where
 blk:Blk w g #[slV vs,slV vr] 107
 im:RIm (wOnly (fun b=>ok b && !(Nat.beq b g)) w) D vs vr
 few:D.sl.length≤4096
section
variable {ok ok1:Nat→Bool}{opn:List Nat}{w w1:World}{g:Nat}{D:Im}{vs vr:Sv}{es:List S8}{M:Nat→Prop}{R:Ending→World→Prop}
theorem RM.rdr (h:RM ok w g D vs vr):RDr w g D vs vr:=⟨by rw [h.blk.cell];rfl,by rw [h.blk.cell];rfl,h.im.sub sub_of_only⟩
theorem Z2.ofGet {α β:Type}{P:α→β→Prop}:∀{l:List α}{m:List β},m.length=l.length→(∀(i:Nat) (a:α) (b:β),l[i]?=some a→m[i]?=some b→P a b)→Z2 P l m
 | [],m,h,_=>List.eq_nil_of_length_eq_zero h
 | a :: l,[],h,_=>by simp at h
 | a :: l,b :: m,h,k=>⟨b,m,rfl,k 0 a b rfl rfl,Z2.ofGet (by simpa using h) fun i x y hx hy=>k (i+1) x y (by simpa using hx) (by simpa using hy)⟩
end
set_option maxRecDepth 100000
structure RW (opn:List Nat) (w:World) (g:Nat) (D:Im) (vs vr:Sv) (es:List S8):Prop where
 c0:w.cell? ⟨g,0,none⟩=some (.slice vs.1 vs.2.1 vs.2.2)
 c1:w.cell? ⟨g,1,none⟩=some (.slice vr.1 vr.2.1 vr.2.2)
 en:vs.2.1=es.length
 rd:Rd LS8 w vs.1 vs.2.2 es
 len:es.length=D.sl.length
 few:D.sl.length≤4096
 el:∀(i:Nat) (s:Sl) (e:S8),D.sl[i]?=some s→es[i]?=some e→RSb w s e∧(i∉opn→RR LHn w s.kids e.kids)
 roots:RR LHn w D.roots vr
 ok:∀s∈D.sl,SlOk s
 rok:∀h∈D.roots,h < 18446744073709551616
section
variable {ok ok1:Nat→Bool}{opn:List Nat}{w w1:World}{g:Nat}{D:Im}{vs vr:Sv}{es:List S8}{M:Nat→Prop}{R:Ending→World→Prop}
theorem RW.sub (hs:Sub w w1) (h:RW opn w g D vs vr es):RW opn w1 g D vs vr es :=
 ⟨hs.cell h.c0,hs.cell h.c1,h.en,hs.rd h.rd,h.len,h.few,fun i s e h1 h2=>by obtain⟨a,b⟩:=h.el i s e h1 h2;exact⟨a.sub hs,fun hi=>(b hi).sub hs⟩,h.roots.sub hs,h.ok,h.rok⟩
theorem RW.keep (h:RW opn w g D vs vr es) (hb:Below w.heap.size w w1):RW opn w1 g D vs vr es:=h.sub (sub_below hb)
theorem RM.re (h:RM ok w g D vs vr):∃es,RW [] w g D vs vr es:=by
 have h2:=h.rdr
 obtain⟨es,e1,e2,e3⟩:=h2.im.row
 have hl:=e3.len
 refine⟨es,h2.c0,h2.c1,e1,e2,hl,h.few,fun i s e hs he=>?_,h2.im.roots,h2.im.ok,h2.im.rok⟩
 obtain⟨hi,hs⟩:=List.getElem?_eq_some_iff.1 hs
 obtain⟨hi',he⟩:=List.getElem?_eq_some_iff.1 he
 have:=e3.get i hi hi'
 rw [hs,he] at this
 exact⟨⟨this.gen,this.live,this.kind,this.nm,this.text,this.parent,this.ats⟩,fun _=>this.kids⟩
theorem RW.rdr (h:RW [] w g D vs vr es):RDr w g D vs vr:=by
 have hfew:=h.few
 refine⟨h.c0,h.c1,⟨by omega,⟨es,h.en,h.rd,Z2.ofGet h.len fun i s e hs he=>?_⟩,h.roots,h.ok,h.rok⟩⟩
 obtain⟨a,b⟩:=h.el i s e hs he
 exact⟨a.gen,a.live,a.kind,a.nm,a.text,a.parent,a.ats,b (by simp)⟩
theorem RW.n (h:RW opn w g D vs vr es):vs.2.1=D.sl.length:=by rw [h.en,h.len]
theorem RW.e8 (h:RW opn w g D vs vr es) {k:Nat} (hk:k < D.sl.length):∃e,es[k]?=some e:=⟨_,List.getElem?_eq_getElem (by rw [h.len];exact hk)⟩
theorem RW.slot (h:RW opn w g D vs vr es) {i:Int}{k:Nat} (hi:i=k) (hk:k < D.sl.length) {K:Addr→Prop}
  (hK:∀b o e,es[k]?=some e→RSb w D.sl[k] e→(k∉opn→RR LHn w D.sl[k].kids e.kids)→w.cell? ⟨b,o,none⟩=some (.int .u32 (D.sl[k].gen:Nat))→w.cell? ⟨b,o+1,none⟩=some (.bool D.sl[k].live)→w.cell? ⟨b,o+2,none⟩=some (.int .i64 D.sl[k].kind) →
   w.cell? ⟨b,o+4,none⟩=some (.slice e.ats.1 e.ats.2.1 e.ats.2.2)→w.cell? ⟨b,o+6,none⟩=some (.int .u64 (D.sl[k].parent:Nat))→w.cell? ⟨b,o+7,none⟩=some (.slice e.kids.1 e.kids.2.1 e.kids.2.2)→K ⟨b,o,none⟩):IdxA vs.1 vs.2.1 i 8 K:=by
 obtain⟨e,he⟩:=h.e8 hk
 obtain⟨b1,b2⟩:=h.el k _ e (List.getElem?_eq_getElem hk) he
 obtain⟨hk',he'⟩:=List.getElem?_eq_some_iff.1 he
 refine h.rd.s8 h.en hi hk' fun b o c0 c1 c2 c3 c4 c5 c6 c7=>?_
 rw [he'] at c0 c1 c2 c3 c4 c5 c6 c7
 exact hK b o e he b1 b2 (by rw [c0,b1.gen]) (by rw [c1,b1.live]) (by rw [c2,b1.kind]) c4 (by rw [c6,b1.parent]) c7
theorem RW.slotH {S:World→Prop} (h:RW opn w g D vs vr es) (hS:∀w1,S w1→Below w.heap.size w w1) {i:Int}{k:Nat} (hi:i=k) (hk:k < D.sl.length) {K:Addr→Prop}
  (hK:∀b o e,es[k]?=some e→RSb w D.sl[k] e→(k∉opn→RR LHn w D.sl[k].kids e.kids)→Held S ⟨b,o,none⟩ (.int .u32 (D.sl[k].gen:Nat))→Held S ⟨b,o+2,none⟩ (.int .i64 D.sl[k].kind) →
   Held S ⟨b,o+6,none⟩ (.int .u64 (D.sl[k].parent:Nat))→Held S ⟨b,o+7,none⟩ (.slice e.kids.1 e.kids.2.1 e.kids.2.2)→K ⟨b,o,none⟩):IdxA vs.1 vs.2.1 i 8 K:=by
 subst hi
 obtain⟨e,he⟩:=h.e8 hk
 obtain⟨b1,b2⟩:=h.el k _ e (List.getElem?_eq_getElem hk) he
 obtain⟨hk',he'⟩:=List.getElem?_eq_some_iff.1 he
 have hen:=h.en
 refine h.rd.held hS h.en (by omega) (by omega) rfl fun b o hc=>?_
 simp only [Int.toNat_natCast] at hc
 rw [he'] at hc
 have c0:=hc 0 _ rfl
 have c2:=hc 2 _ rfl
 have c6:=hc 6 _ rfl
 have c7:=hc 7 _ rfl
 exact hK b o e he b1 b2 (by rw [←b1.gen];exact c0) (by rw [←b1.kind];exact c2) (by rw [←b1.parent];exact c6) c7
theorem handleW (h:RW opn w g D vs vr es) {i:Nat} (hi:i < D.sl.length) (hK:R (.returned (.int .u64 (hnd D.sl[i].gen i:Nat))) w):Calls Tryz.prog 130 #[.pointer (some ⟨g,0,none⟩),.int .i64 (i:Nat)] w R:=by
 have hlen:=h.few
 have hg:=(h.ok _ (List.getElem_mem hi)).gen
 refine ok130 (some ⟨g,0,none⟩) i ?_
 unfold F130
 simp only [NonNil_some,h.c0,lds]
 refine h.slot rfl hi fun b o e _ _ _ c0 _ _ _ _ _=>?_
 simp only [c0,lds]
 have e1:((D.sl[i].gen:Nat):Int)*(2 ^ (min ((32:Int)).toNat 64))=((D.sl[i].gen*4294967296:Nat):Int):=by simp
 have e2:((i:Nat):Int)+1=((i+1:Nat):Int):=by omega
 rw [e1,e2,bOr_hnd hg (by omega)]
 exact⟨inR_u64 (by omega) (by omega),inR_u64 (by omega) (by omega),inR_i64 (by omega) (by omega),inR_u64 (by omega) (by omega),hK⟩
theorem atW (h:RW opn w g D vs vr es) {x:Nat} (hx:x < 18446744073709551616) (hK:R (.returned (.int .i64 (atI (atF D.sl x)))) w):Calls Tryz.prog 82 #[.pointer (some ⟨g,0,none⟩),.int .u64 (x:Nat)] w R:=by
 have hlen:=h.few
 have hn:=h.n
 refine ok82 (some ⟨g,0,none⟩) x ?_
 unfold F82
 have hm:((x:Nat):Int).tmod 4294967296=((x % 4294967296:Nat):Int):=by rw [Int.tmod_eq_emod_of_nonneg (by omega)];rfl
 rw [hm]
 have hlt:x % 4294967296 < 4294967296:=Nat.mod_lt _ (by decide)
 unfold atF at hK
 refine⟨inR_i64 (by omega) (by omega),inR_i64 (by omega) (by omega),fun w'=>w=w'∧atF D.sl x=some (x % 4294967296-1)∧0 < x % 4294967296,?_,?_⟩
 ·rintro _ ⟨rfl,ha,h0⟩
  unfold F82_j4
  unfold atF at ha
  rw [ha] at hK
  rw [hm,show ((x % 4294967296:Nat):Int)-1=((x % 4294967296-1:Nat):Int) by omega]
  exact hK
 ·refine brd (fun h0=>?_) (fun h0=>?_)
  ·rw [if_pos (by omega)] at hK;exact hK
  rw [if_neg (by omega)] at hK
  simp only [NonNil_some,h.c0,lds]
  have e1:((x % 4294967296:Nat):Int)-1=((x % 4294967296-1:Nat):Int):=by omega
  have hpos:0 < x % 4294967296:=by omega
  refine brd (fun h1=>?_) (fun h1=>?_)
  ·rw [List.getElem?_eq_none (by omega)] at hK;exact hK
  have hk:x % 4294967296-1 < D.sl.length:=by omega
  rw [List.getElem?_eq_getElem hk] at hK
  simp only at hK
  refine h.slot e1 hk fun b o e _ _ _ c0 c1 c2 c4 c6 c7=>?_
  simp only [Addr.add_mk,c1,lds]
  rw [brnot]
  refine br (fun hl=>?_) (fun hl=>?_)
  ·rw [e1]
   refine handleW h hk ⟨_,rfl,?_⟩
   refine brn (fun hne=>?_) (fun he=>?_)
   ·rw [if_neg (by rintro ⟨-,h3⟩;exact hne (by rw [h3]))] at hK
    exact hK
   ·have h3:hnd D.sl[x % 4294967296-1].gen (x % 4294967296-1)=x:=by omega
    refine⟨rfl,?_,hpos⟩
    unfold atF
    rw [if_neg (by omega),List.getElem?_eq_getElem hk]
    simp only
    rw [if_pos ⟨hl,h3⟩]
  ·rw [if_neg (by rintro ⟨h3,-⟩;rw [hl] at h3;cases h3)] at hK
   exact hK
theorem atF_isSome {sl:List Sl}{x:Nat}:(atF sl x).isSome=(slA sl x).isSome:=by
 cases h:slA sl x with
 | none=>rw [atF_none.2 h];rfl
 | some s =>
  obtain⟨k,h1,_⟩:=atF_slA h
  rw [h1];rfl
theorem liveW (h:RW opn w g D vs vr es) {x:Nat} (hx:x < 18446744073709551616) (hK:R (.returned (.bool (slA D.sl x).isSome)) w):Calls Tryz.prog 80 #[.pointer (some ⟨g,0,none⟩),.int .u64 (x:Nat)] w R:=by
 rw [←atF_isSome] at hK
 refine ok80 (some ⟨g,0,none⟩) x ?_
 unfold F80
 refine atW h hx ⟨_,rfl,?_⟩
 cases ha:atF D.sl x with
 | none=>rw [ha] at hK;exact hK
 | some k=>rw [ha] at hK;rw [show decide (atI (some k)≥0)=true from decide_eq_true (by simp [atI])];exact hK
theorem slA_get {sl:List Sl}{x:Nat}{s:Sl} (hs:slA sl x=some s):∃k,atF sl x=some k∧∃hk:k < sl.length,sl[k]=s∧x % 4294967296=k+1∧x≠0:=by
 obtain⟨k,h1,h2⟩:=atF_slA hs
 obtain⟨hk,h2⟩:=List.getElem?_eq_some_iff.1 h2
 obtain⟨_,_,_,h3⟩:=atF_some h1
 refine⟨k,h1,hk,h2,by omega,fun e=>?_⟩
 subst e;rw [slA_zero] at hs;cases hs
theorem listW {w0:World} (h:RW opn w0 g D vs vr es) (hb0:Below w0.heap.size w0 w) {x:Nat} (hx:x < 18446744073709551616) (hl:x=0∨∃s,slA D.sl x=some s∧x % 4294967296-1∉opn)
  (hK:∀v w',Below w.heap.size w w'→RR LHn w0 (lstI D x) v→(x=0→v=vr)→(∀(e:S8),x≠0→es[x % 4294967296-1]?=some e→v=e.kids)→R (.returned (.slice v.1 v.2.1 v.2.2)) w'):Calls Tryz.prog 129 #[.pointer (some ⟨g,0,none⟩),.int .u64 (x:Nat)] w R:=by
 refine ok129 (some ⟨g,0,none⟩) x ?_
 unfold F129
 have hn:=h.keep hb0
 refine bre (fun h1=>?_) (fun h1=>?_)
 ·have h0:x=0:=by omega
  subst h0
  simp only [NonNil_some,Addr.add_mk,Nat.zero_add,hn.c1,lds]
  exact hK vr w (.refl _ _) (by unfold lstI;rw [lstA_zero];exact h.roots) (fun _=>rfl) fun e h0=>absurd rfl h0
 ·rcases hl with rfl | ⟨s,hs,ho⟩
  ·exact absurd rfl h1
  obtain⟨k,ha,hk,hsk,hm,hx0⟩:=slA_get hs
  have hd:Below w.heap.size w w.drew:=(Below.refl _ _).drew
  refine⟨fun w'=>Below w.heap.size w w',hd,?_⟩
  rw [NonNil_some]
  refine⟨_,_,_,fun w' hb=>(hn.keep hb).c0,?_⟩
  refine atW (hn.keep hd) hx ⟨_,rfl,hd,?_⟩
  rw [ha]
  refine hn.slotH (fun w1 h1=>h1) (show atI (some k)=k from rfl) hk fun b o e he _ _ _ _ _ c7=>⟨_,_,_,c7,?_⟩
  have hkk:x % 4294967296-1=k:=by omega
  rw [hkk] at ho
  obtain⟨b1,b2⟩:=h.el k _ e (List.getElem?_eq_getElem hk) he
  have b2:=b2 ho
  rw [hsk] at b2
  exact hK e.kids _ hd (by unfold lstI;rw [lstA_some hx0 hs];exact b2) (fun e=>absurd e hx0) fun e' _ he'=>by rw [hkk,he] at he';cases he';rfl
end
set_option maxRecDepth 100000
section
variable {α:Type}{L:Lay α}{w w1:World}{e:TypeId}{q:Nat}
theorem Own.elA {v:Sv}{xs:List α} (hO:Own L w q e (slV v) xs) {i:Int}{k:Nat} (hi:i=k) (hk:k < xs.length) {sz:Nat} (hsz:sz=L.n) {K:Addr→Prop} (hK:∀b,rowOf (slV v)=some b→K ⟨b,k*L.n,none⟩):IdxA v.1 v.2.1 i sz K:=by
 subst hi hsz
 obtain⟨g,c,rest,rfl,hrow,_⟩:=hO.row1 (by omega)
 dsimp only
 rw [IdxA_some (by omega) (by omega)]
 simp only [Addr.add_mk,Nat.zero_add,Int.toNat_natCast]
 exact hK g hrow
theorem Own.stc {v:Sv}{xs:List α}{k j:Nat}{x':α}{u:Value} (hO:Own L w q e (slV v) xs) (hk:k < xs.length) (hj:j < L.n) (hx:L.cells x'=(L.cells xs[k]).set j u) {b:Nat} (hb:rowOf (slV v)=some b) {K:World→Prop}
  (hK:∀w1,Own L w1 q e (slV v) (xs.set k x')→Fm (fun b=>rowOf (slV v)=some b) w w1→K w1):St w ⟨b,k*L.n+j,none⟩ u K:=by
 obtain⟨g,c,rest,rfl,hrow,hq,hB,hc1,hc2,hc3⟩:=hO.row1 (by omega)
 obtain rfl:g=b:=by rw [hrow] at hb;exact Option.some.inj hb
 have hall:=L.all_length xs
 have hkn:k*L.n+L.n≤xs.length*L.n:=by rw [←Nat.succ_mul];exact Nat.mul_le_mul_right _ hk
 have hcn:xs.length*L.n≤c*L.n:=Nat.mul_le_mul_right _ hc1
 refine st_blk hB (by rw [List.size_toArray,hc3];omega) fun w1 hB1 f1=>hK w1 ?_ (f1.mono fun b _ e=>by have e:b=g:=e;rw [hrow,e])
 have hset:(L.all xs++rest).set (k*L.n+j) u=L.all (xs.set k x')++rest:=by
  rw [L.all_set xs k _ hk]
  have h1:L.all xs=(L.all xs).take (k*L.n)++(L.cells xs[k]++(L.all xs).drop ((k+1)*L.n)):=by
   have h2:=L.all_set xs k xs[k] hk
   rw [List.set_getElem_self] at h2
   exact h2
  have hl:((L.all xs).take (k*L.n)).length=k*L.n:=by rw [List.length_take,hall];omega
  have hlc:(L.cells xs[k]).length=L.n:=L.len _
  show _=(L.all xs).take (k*L.n)++(L.cells x'++(L.all xs).drop ((k+1)*L.n))++rest
  generalize (L.all xs).drop ((k+1)*L.n)=dd at h1 ⊢
  generalize hpp:(L.all xs).take (k*L.n)=pp at h1 hl ⊢
  rw [h1,hx]
  simp only [List.append_assoc]
  rw [List.set_append_right _ _ (by omega),hl,show k*L.n+j-k*L.n=j by omega,List.set_append_left _ _ (by omega)]
 rw [List.setIfInBounds_toArray,hset] at hB1
 have hln:(xs.set k x').length=xs.length:=List.length_set
 have hO1:=Own.ofBlk (k:=q) (c:=c) hB1 hq (by rw [hln];exact hc1) (by omega) hc2 (by rw [←hset,List.length_set,hc3])
 rw [hln] at hO1
 exact hO1
end
section
variable {ok ok1:Nat→Bool}{opn opn1:List Nat}{w w1:World}{g:Nat}{D:Im}{vs vr:Sv}{es:List S8}{M:Nat→Prop}{R:Ending→World→Prop}
end
set_option maxRecDepth 100000
section
variable {ok ok1:Nat→Bool}{opn opn1:List Nat}{w w1:World}{g:Nat}{D:Im}{vs vr:Sv}{es:List S8}{M:Nat→Prop}{R:Ending→World→Prop}
theorem hnd_lt {sl:List Sl} (hok:∀s∈sl,SlOk s) (hf:sl.length≤4096) {x:Nat}{s:Sl} (hs:slA sl x=some s):x < 18446744073709551616:=by
 obtain⟨k,k1,hk,k2,k3,_⟩:=slA_get hs
 obtain⟨_,_,h3,_⟩:=atF_some k1
 have hg:=(hok _ (List.getElem_mem hk)).gen
 unfold hnd at h3
 omega
end
set_option maxRecDepth 100000
set_option maxRecDepth 100000
section
variable {α:Type}{L:Lay α}{w w1:World}{e:TypeId}{q:Nat}
theorem Own.stc2 {v:Sv}{xs:List α}{k j:Nat}{a a':α}{u:Value} (hO:Own L w q e (slV v) (xs.set k a)) (hk:k < xs.length) (hj:j < L.n) (hx:L.cells a'=(L.cells a).set j u) {b:Nat} (hb:rowOf (slV v)=some b) {K:World→Prop}
  (hK:∀w1,Own L w1 q e (slV v) (xs.set k a')→Fm (fun b=>rowOf (slV v)=some b) w w1→K w1):St w ⟨b,k*L.n+j,none⟩ u K:=by
 refine hO.stc (by simpa using hk) hj (x':=a') ?_ hb fun w1 o f=>hK w1 ?_ f
 ·rw [List.getElem_set_self];exact hx
 ·rw [List.set_set] at o;exact o
end
section
variable {ok ok1 ok2:Nat→Bool}{opn opn1:List Nat}{w w1 w2:World}{g:Nat}{D:Im}{vs vr:Sv}{es:List S8}{M:Nat→Prop}{R:Ending→World→Prop}
theorem rr_none {α:Type} (L:Lay α) (W:World):RR L W [] (none,0,0):=⟨by simp,rfl,Rd.nil L W⟩
end
set_option maxRecDepth 100000
section
variable {ok ok1 ok2:Nat→Bool}{opn opn1:List Nat}{w w1 w2:World}{g:Nat}{D:Im}{vs vr:Sv}{es:List S8}{M:Nat→Prop}{R:Ending→World→Prop}
end
section
variable {g:Nat}
end
set_option maxRecDepth 100000
theorem lst_liveD {D:Im}{loose:List Nat} (hA:WfA (slA D.sl) D.roots loose) (p:Nat):∀x∈lstI D p,∃t,slA D.sl x=some t:=fun x hx=>by
 obtain⟨_,t,ht,_⟩:=(hA.lst p).2 x hx
 exact⟨t,ht⟩
theorem lst_fewD {D:Im}{loose:List Nat} (hw:WfS D.sl) (hA:WfA (slA D.sl) D.roots loose) (p:Nat):(lstI D p).length≤4096 :=
 Nat.le_trans (live_few (lst_liveD hA p) (hA.lst p).1) hw.few
abbrev vw (ok:Nat→Bool) (g:Nat) (w:World):World:=wOnly (fun b=>ok b && !(Nat.beq b g)) w
section
variable {ok:Nat→Bool}{w w1:World}{g:Nat}{D:Im}{vs vr:Sv}{R:Ending→World→Prop}
end
end Go.Proofs.YtccplipiahdhiaaGreatDoor
