/- Search: SearchFinds, the card. -/
import Derived.Test.YtccplipiahdhiaaGreatDoorProg
import Derived.Lib.Bytealg
import Derived.Laws.Externs
import Derived.MapKept
import Derived.Laws.IdiomRangeMap
import Derived.Test.YtccplipiahdhiaaGreatDoorSf2
namespace Go.Proofs.YtccplipiahdhiaaGreatDoor
open Go.RowKit Go.Vc
set_option linter.unusedVariables false
set_option linter.unusedSimpArgs false
set_option maxRecDepth 100000
section
variable {w w1 w2:World}{o o1 o2:Nat→Nat}{θ:Th}{S:PS}{M:Nat→Prop}{bs:List Nat}
theorem PM.stN (h:PM w o θ S) {i b:Nat}{s s':Sl} (hb:S.bs[i]?=some b) (hs:S.D.sl[i]?=some s) {j:Nat}{v:Value} (hj:j < 9) (he:∀a kv,(nodeC i s a (ptrH S.bs s.parent) kv).setIfInBounds j v=nodeC i s' a (ptrH S.bs s'.parent) kv)
  (ha:s'.attrs=s.attrs) (hk:s'.kids=s.kids) (hg:s'.gen < 4294967296) (hp:s'.parent=0∨inN S.D.sl.length s'.parent) {K:World→Prop} (hK:∀w1,PM w1 o θ (S.setS i s')→EvC (fun c=>c=8+4*i∨c=9+4*i∨c=10+4*i) w o w1 o→K w1):St w ⟨b,j,none⟩ v K:=by
 obtain⟨a,kv,hn⟩:=h.nodes i b s hb hs
 have hcb:=h.nc i b hb
 refine st_blk hn.blk (by simpa [nodeC] using hj) fun w1 b1 f1=>?_
 rw [he] at b1
 have hrs:=h.rng s (List.mem_of_getElem? hs)
 have hN:NodeR w1 (cl o none (9+4*i)) S.bs i b s' a kv:=by
  rw [cl_none]
  refine⟨b1,?_,hn.at2,?_,hn.kd2⟩
  ·rw [ha]
   refine own_fm hn.at1 f1 fun x hx e=>?_
   have e:x=b:=e
   have:=hn.at2 x hx;rw [e,hcb] at this;omega
  ·rw [hk]
   refine own_fm hn.kd1 f1 fun x hx e=>?_
   have e:x=b:=e
   have:=hn.kd2 x hx;rw [e,hcb] at this;omega
 have:=h.setNode (r:=none) (c:=9+4*i) hb hs f1 (fun x hx=>.inl (.inl (by have e:x=b:=hx;rw [e];exact hcb))) (.inl rfl) (fun x hx=>by cases hx) hN ⟨hg,hp,by rw [hk];exact hrs.kids,by rw [hk];exact hrs.few,by rw [ha];exact hrs.atf⟩
 rw [cl_none] at this
 exact hK w1 this.1 this.2
theorem node_set1 {i:Nat}{s:Sl}{a kv:Sv}{par:Option Addr} (g:Nat):(nodeC i s a par kv).setIfInBounds 1 (.int .u32 (g:Nat))=nodeC i { s with gen:=g } a par kv:=by simp [nodeC]
theorem node_set2 {i:Nat}{s:Sl}{a kv:Sv}{par:Option Addr} (l:Bool):(nodeC i s a par kv).setIfInBounds 2 (.bool l)=nodeC i { s with live:=l } a par kv:=by simp [nodeC]
theorem node_set3 {i:Nat}{s:Sl}{a kv:Sv}{par:Option Addr} (k:Int):(nodeC i s a par kv).setIfInBounds 3 (.int .i64 k)=nodeC i { s with kind:=k } a par kv:=by simp [nodeC]
theorem node_set6 {i:Nat}{s:Sl}{a kv:Sv}{par:Option Addr} (n:ByteArray):(nodeC i s a par kv).setIfInBounds 6 (.string n)=nodeC i { s with text:=n } a par kv:=by simp [nodeC]
theorem node_set7 {i:Nat}{s:Sl}{a kv:Sv}{par q:Option Addr} (p:Nat):(nodeC i s a par kv).setIfInBounds 7 (.pointer q)=nodeC i { s with parent:=p } a q kv:=by simp [nodeC]
theorem PM.stGen (h:PM w o θ S) {i b:Nat}{s:Sl} (hb:S.bs[i]?=some b) (hs:S.D.sl[i]?=some s) {g:Nat} (hg:g < 4294967296) {K:World→Prop} (hK:∀w1,PM w1 o θ (S.setS i { s with gen:=g })→EvC (fun c=>c=8+4*i∨c=9+4*i∨c=10+4*i) w o w1 o→K w1):St w ⟨b,1,none⟩ (.int .u32 (g:Nat)) K :=
 h.stN (s':={ s with gen:=g }) hb hs (by omega) (fun _ _=>node_set1 g) rfl rfl hg (h.rng s (List.mem_of_getElem? hs)).par hK
theorem PM.stLiv (h:PM w o θ S) {i b:Nat}{s:Sl} (hb:S.bs[i]?=some b) (hs:S.D.sl[i]?=some s) (l:Bool) {K:World→Prop} (hK:∀w1,PM w1 o θ (S.setS i { s with live:=l })→EvC (fun c=>c=8+4*i∨c=9+4*i∨c=10+4*i) w o w1 o→K w1):St w ⟨b,2,none⟩ (.bool l) K :=
 h.stN (s':={ s with live:=l }) hb hs (by omega) (fun _ _=>node_set2 l) rfl rfl (h.rng s (List.mem_of_getElem? hs)).gen (h.rng s (List.mem_of_getElem? hs)).par hK
theorem PM.stKind (h:PM w o θ S) {i b:Nat}{s:Sl} (hb:S.bs[i]?=some b) (hs:S.D.sl[i]?=some s) (k:Int) {K:World→Prop} (hK:∀w1,PM w1 o θ (S.setS i { s with kind:=k })→EvC (fun c=>c=8+4*i∨c=9+4*i∨c=10+4*i) w o w1 o→K w1):St w ⟨b,3,none⟩ (.int .i64 k) K :=
 h.stN (s':={ s with kind:=k }) hb hs (by omega) (fun _ _=>node_set3 k) rfl rfl (h.rng s (List.mem_of_getElem? hs)).gen (h.rng s (List.mem_of_getElem? hs)).par hK
theorem PM.stText (h:PM w o θ S) {i b:Nat}{s:Sl} (hb:S.bs[i]?=some b) (hs:S.D.sl[i]?=some s) (n:ByteArray) {K:World→Prop} (hK:∀w1,PM w1 o θ (S.setS i { s with text:=n })→EvC (fun c=>c=8+4*i∨c=9+4*i∨c=10+4*i) w o w1 o→K w1):St w ⟨b,6,none⟩ (.string n) K :=
 h.stN (s':={ s with text:=n }) hb hs (by omega) (fun _ _=>node_set6 n) rfl rfl (h.rng s (List.mem_of_getElem? hs)).gen (h.rng s (List.mem_of_getElem? hs)).par hK
theorem PM.stPar (h:PM w o θ S) {i b:Nat}{s:Sl} (hb:S.bs[i]?=some b) (hs:S.D.sl[i]?=some s) {p:Nat} (hp:p=0∨inN S.D.sl.length p) {K:World→Prop} (hK:∀w1,PM w1 o θ (S.setS i { s with parent:=p })→EvC (fun c=>c=8+4*i∨c=9+4*i∨c=10+4*i) w o w1 o→K w1):St w ⟨b,7,none⟩ (.pointer (ptrH S.bs p)) K :=
 h.stN (s':={ s with parent:=p }) hb hs (by omega) (fun _ _=>node_set7 p) rfl rfl (h.rng s (List.mem_of_getElem? hs)).gen hp hK
theorem pb_app {b h:Nat} (hh:inN bs.length h):pb (bs++[b]) h=pb bs h:=by
 obtain⟨h1,h2⟩:=hh
 unfold pb
 rw [List.getD_eq_getElem?_getD,List.getD_eq_getElem?_getD,List.getElem?_append_left (by omega)]
theorem ptr_app {b h:Nat} (hh:h=0∨inN bs.length h):ptrH (bs++[b]) h=ptrH bs h:=by
 unfold ptrH
 split
 ·rfl
 ·rw [pb_app (hh.resolve_left (by assumption))]
theorem map_pb_app {b:Nat}{l:List Nat} (hl:∀h∈l,inN bs.length h):l.map (pb (bs++[b]))=l.map (pb bs):=List.map_congr_left fun h hh=>pb_app (hl h hh)
theorem PM.grow (h:PM w o θ S) {b:Nat} (hb0:w.heap.size≤b) (hB:Blk w1 b (nodeC S.D.sl.length (deadS 0) (none,0,0) none (none,0,0)) 202) {v v':Sv} (hc:∀x,rowOf (slV v)=some x→o x=2) (hf:Fm (fun x=>rowOf (slV v)=some x) w w1)
  (hO:Own LPt w1 0 152 (slV v') (S.bs++[b])) (hr:rowOf (slV v')=rowOf (slV v)∨rowOf (slV v')=none∨∃g,rowOf (slV v')=some g∧w.heap.size≤g∧g≠b) (hl:S.D.sl.length < 4096) {K:World→Prop}
  (hK:∀w2 o2,PM w2 o2 θ { S with D:={ S.D with sl:=S.D.sl++[deadS 0] },bs:=S.bs++[b] }→EvC (fun c=>c=1∨c=2) w o w2 o2→K w2):St w1 ⟨θ.g,0,none⟩ (slV v') K:=by
 have ob0:o b=0:=Classical.byContradiction fun h0=>by have:=h.lt b h0;omega
 have hrc:∀x,rowOf (slV v')=some x→(o x=2∨(o x=0∧w.heap.size≤x))∧x≠b:=fun x hx=>by
  rcases hr with e | e | ⟨g,e,hge,hgb⟩
  ·have:=hc x (by rw [←e];exact hx)
   exact⟨.inl this,fun e=>by rw [e,ob0] at this;omega⟩
  ·rw [e] at hx;cases hx
  ·rw [e] at hx;cases hx
   refine⟨.inr ⟨Classical.byContradiction fun h0=>?_,hge⟩,hgb⟩
   have:=h.lt _ h0;omega
 obtain⟨nv,rv,hd⟩:=h.doc
 have hg1:=h.col
 have hbl:=h.len
 have hb1:Blk w1 θ.g (docC nv rv S.lv S.wn S.lo θ.tl) θ.t:=hf.blk hd.blk fun e=>by have:=hc _ e;omega
 refine st_blk hb1 (Nat.lt_of_lt_of_le (by omega) doc_size) fun w2 b2 f2=>?_
 rw [doc_set0] at b2
 have hbg:b≠θ.g:=fun e=>by rw [e,hg1] at ob0;omega
 have F:Fm (fun x=>o x=1∨o x=2) w w2:=(hf.mono fun x _ e=>.inr (hc x e)).trans (f2.mono fun x _ e=>.inl (by have e:x=θ.g:=e;rw [e];exact hg1))
 have hlt2:∀x,rowOf (slV v')=some x→x < w2.heap.size:=fun x hx=>Nat.lt_of_lt_of_le (hO.lt x hx).2 f2.size
 have hbl2:b < w2.heap.size:=Nat.lt_of_lt_of_le hB.lt f2.size
 let o2:Nat→Nat:=fun x=>if x=b then 8+4*S.D.sl.length else cl o (rowOf (slV v')) 2 x
 have hold:∀x,o x≠0→o2 x=o x:=fun x hx=>by
  show (if x=b then _ else _)=_
  rw [if_neg (fun e=>hx (by rw [e];exact ob0)),cl_old hx]
 have hob:o2 b=8+4*S.D.sl.length:=by
  show (if b=b then _ else _)=_
  rw [if_pos rfl]
 have hrow2:∀x,rowOf (slV v')=some x→o2 x=2:=fun x hx=>by
  show (if x=b then _ else _)=_
  obtain⟨e1,e2⟩:=hrc x hx
  rw [if_neg e2]
  exact cl_row hx (e1.elim .inr fun e=>.inl e.1)
 have hnew:∀x,o x=0→o2 x≠0→w.heap.size≤x∧x < w2.heap.size∧(o2 x=2∨o2 x=8+4*S.D.sl.length):=fun x h0 h2=>by
  by_cases e:x=b
  ·subst e;exact⟨hb0,hbl2,.inr hob⟩
  ·have e3:o2 x=cl o (rowOf (slV v')) 2 x:=by
    show (if x=b then _ else _)=_
    rw [if_neg e]
   by_cases e4:rowOf (slV v')=some x
   ·refine⟨?_,hlt2 x e4,.inl (hrow2 x e4)⟩
    rcases (hrc x e4).1 with e5 | e5
    ·rw [h0] at e5;omega
    ·exact e5.2
   ·rw [e3] at h2
    unfold cl at h2
    rw [if_neg (fun e=>e4 e.1)] at h2
    exact absurd h0 h2
 have Fn:∀x,o x≠0→o x≠1→o x≠2→¬(o x=1∨o x=2):=fun x _ h1 h2 h3=>h3.elim h1 h2
 have hkid:∀s∈S.D.sl,∀x∈s.kids,inN S.bs.length x:=fun s hs x hx=>by rw [hbl];exact (h.rng s hs).kids x hx
 have inN1:∀x,inN S.D.sl.length x→inN (S.D.sl++[deadS 0]).length x:=fun x hx=>⟨hx.1,by have:=hx.2;simp;omega⟩
 refine hK w2 o2 ⟨by rw [hold _ (by omega)];exact hg1,fun x hx=>?_,by simp [hbl],by simp;omega,fun i b' hb'=>?_,⟨v',rv,?_⟩,fun i b' s hb' hs=>?_,fun s hs=>?_,⟨fun x hx=>inN1 x (h.rts.1 x hx),h.rts.2⟩,h.cnt⟩ ⟨F,hold,fun x hx h0=>?_,fun x hx=>?_⟩
 ·by_cases h0:o x=0
  ·exact (hnew x h0 hx).2.1
  ·exact Nat.lt_of_lt_of_le (h.lt x h0) F.size
 ·rcases Nat.lt_or_ge i S.bs.length with hi | hi
  ·have hb':S.bs[i]?=some b':=by rw [←hb'];exact (List.getElem?_append_left hi).symm
   have:=h.nc i b' hb'
   rw [hold _ (by omega)];exact this
  ·have hb':(S.bs++[b])[i]?=some b':=hb'
   rw [List.getElem?_append_right hi] at hb'
   have hi2:i-S.bs.length=0:=by
    have:=(List.getElem?_eq_some_iff.1 hb').1
    simp at this;omega
   rw [hi2] at hb'
   simp at hb'
   subst hb'
   rw [hob];omega
 ·refine⟨b2,own_fm hO f2 fun x hx e=>?_,hrow2,?_,fun x hx=>?_⟩
  ·have e:x=θ.g:=e
   rcases (hrc x hx).1 with e2 | ⟨e2,_⟩ <;> rw [e,hg1] at e2 <;> omega
  ·show Own LPt w2 0 _ (slV rv) (S.D.roots.map (pb (S.bs++[b])))
   rw [map_pb_app (fun x hx=>by rw [hbl];exact h.rts.1 x hx)]
   exact own_fm hd.r1 F fun x hx=>by have:=hd.r2 x hx;omega
  ·have:=hd.r2 x hx
   rw [hold _ (by omega)];exact this
 ·rcases Nat.lt_or_ge i S.bs.length with hi | hi
  ·have hb':S.bs[i]?=some b':=by rw [←hb'];exact (List.getElem?_append_left hi).symm
   have hs:S.D.sl[i]?=some s:=by rw [←hs];exact (List.getElem?_append_left (by omega)).symm
   obtain⟨a,kv,hn⟩:=h.nodes i b' s hb' hs
   have hn2:=hn.keep (o1:=o2) (h.nc i b' hb') F (fun x hx=>Fn x (by omega) (by omega) (by omega)) fun x hx=>hold x (by omega)
   have hsm:=List.mem_of_getElem? hs
   refine⟨a,kv,⟨?_,hn2.at1,hn2.at2,?_,hn2.kd2⟩⟩
   ·show Blk w2 b' (nodeC i s a (ptrH (S.bs++[b]) s.parent) kv) _
    rw [ptr_app (by rw [hbl];exact (h.rng s hsm).par)];exact hn2.blk
   ·show Own LPt w2 0 _ (slV kv) (s.kids.map (pb (S.bs++[b])))
    rw [map_pb_app (hkid s hsm)];exact hn2.kd1
  ·have hb':(S.bs++[b])[i]?=some b':=hb'
   have hs:(S.D.sl++[deadS 0])[i]?=some s:=hs
   rw [List.getElem?_append_right hi] at hb'
   rw [List.getElem?_append_right (by omega)] at hs
   have hi2:i-S.bs.length=0:=by
    have:=(List.getElem?_eq_some_iff.1 hb').1
    simp at this;omega
   rw [hi2] at hb'
   rw [show i-S.D.sl.length=0 by omega] at hs
   simp at hb' hs
   subst hb' hs
   have e:i=S.D.sl.length:=by omega
   subst e
   refine⟨(none,0,0),(none,0,0),⟨f2.blk hB hbg,Own.nil _ _ _ _,fun x hx=>(by cases hx),Own.nil _ _ _ _,fun x hx=>(by cases hx)⟩⟩
 ·rcases List.mem_append.1 hs with hs | hs
  ·have r:=h.rng s hs
   exact⟨r.gen,r.par.imp id (inN1 _),fun x hx=>inN1 x (r.kids x hx),r.few,r.atf⟩
  ·rw [List.mem_singleton] at hs
   subst hs
   exact⟨by simp [deadS],.inl rfl,by simp [deadS],by simp [deadS],by simp [deadS]⟩
 ·refine Classical.byContradiction fun h2=>?_
  have:=(hnew x h0 h2).1
  omega
 ·by_cases h0:o x=0
  ·refine .inr ?_
   rcases (hnew x h0 hx).2.2 with e | e <;> rw [e]
   ·exact .inr (.inl rfl)
   ·exact (pc_nd _).1
  ·exact .inl h0
end
set_option maxRecDepth 100000
section
variable {w w1 w2:World}{o o1 o2:Nat→Nat}{θ:Th}{S:PS}{M:Nat→Prop}{bs:List Nat}{R:Ending→World→Prop}
theorem PM.cGen (h:PM w o θ S) {i b:Nat}{s:Sl} (hb:S.bs[i]?=some b) (hs:S.D.sl[i]?=some s):w.cell? ⟨b,1,none⟩=some (.int .u32 (s.gen:Nat)):=by
 obtain⟨a,kv,hn⟩:=h.nodes i b s hb hs;rw [hn.blk.cell];rfl
theorem PM.cIdx (h:PM w o θ S) {i b:Nat}{s:Sl} (hb:S.bs[i]?=some b) (hs:S.D.sl[i]?=some s):w.cell? ⟨b,0,none⟩=some (.int .u32 (i+1:Nat)):=by
 obtain⟨a,kv,hn⟩:=h.nodes i b s hb hs;rw [hn.blk.cell];rfl
theorem PM.cLive (h:PM w o θ S) {i b:Nat}{s:Sl} (hb:S.bs[i]?=some b) (hs:S.D.sl[i]?=some s):w.cell? ⟨b,2,none⟩=some (.bool s.live):=by
 obtain⟨a,kv,hn⟩:=h.nodes i b s hb hs;rw [hn.blk.cell];rfl
theorem PM.cKind (h:PM w o θ S) {i b:Nat}{s:Sl} (hb:S.bs[i]?=some b) (hs:S.D.sl[i]?=some s):w.cell? ⟨b,3,none⟩=some (.int .i64 s.kind):=by
 obtain⟨a,kv,hn⟩:=h.nodes i b s hb hs;rw [hn.blk.cell];rfl
theorem PM.cPar (h:PM w o θ S) {i b:Nat}{s:Sl} (hb:S.bs[i]?=some b) (hs:S.D.sl[i]?=some s):w.cell? ⟨b,7,none⟩=some (.pointer (ptrH S.bs s.parent)):=by
 obtain⟨a,kv,hn⟩:=h.nodes i b s hb hs;rw [hn.blk.cell];rfl
theorem PM.cKids (h:PM w o θ S) {i b:Nat}{s:Sl} (hb:S.bs[i]?=some b) (hs:S.D.sl[i]?=some s):∃v:Sv,w.cell? ⟨b,8,none⟩=some (slV v)∧Own LPt w 0 152 (slV v) (s.kids.map (pb S.bs))∧∀x,rowOf (slV v)=some x→o x=9+4*i:=by
 obtain⟨a,kv,hn⟩:=h.nodes i b s hb hs
 exact⟨kv,by rw [hn.blk.cell];rfl,hn.kd1,hn.kd2⟩
theorem PM.of (h:PM w o θ S) {x:Nat}{s:Sl} (hx:slA S.D.sl x=some s):∃i,x % 4294967296=i+1∧S.bs[i]?=some (pb S.bs x)∧S.D.sl[i]?=some s∧inN S.D.sl.length x:=by
 obtain⟨i,h1,h2,h3,h4⟩:=slA_iff.1 hx
 have hl:=(List.getElem?_eq_some_iff.1 h2).1
 have hin:inN S.D.sl.length x:=⟨by omega,by omega⟩
 obtain⟨k1,_⟩:=pb_get h.len hin
 rw [h1,Nat.add_sub_cancel] at k1
 exact⟨i,h1,k1,h2,hin⟩
theorem PM.prd (h:PM w o θ S):PRd w θ.g S.D.sl S.bs:=by
 obtain⟨⟨v,v1,v2,_⟩,_⟩:=h.cells
 obtain⟨A,c,e,hr⟩:=v2.form
 have hfew:=h.few
 refine⟨h.len,by omega,⟨A,c,by rw [v1,e],hr⟩,fun i hi=>?_,fun i hi hi'=>h.cGen (List.getElem?_eq_getElem hi) (List.getElem?_eq_getElem hi'),fun i hi hi'=>h.cLive (List.getElem?_eq_getElem hi) (List.getElem?_eq_getElem hi'),fun s hs=>(h.rng s hs).gen⟩
 exact h.cIdx (List.getElem?_eq_getElem hi) (List.getElem?_eq_getElem (by rw [←h.len];exact hi))
def ptrL (S:PS) (x:Nat):Option Addr:=if (slA S.D.sl x).isSome then some ⟨pb S.bs x,0,none⟩ else none
theorem ptrN_L (hl:S.bs.length=S.D.sl.length) (x:Nat):ptrN S.bs (atF S.D.sl x)=ptrL S x:=by
 unfold ptrL slA
 cases ha:atF S.D.sl x with
 | none=>rfl
 | some k =>
  obtain⟨h1,s,h2,_⟩:=atF_iff.1 ha
  have hk:k < S.bs.length:=by rw [hl];exact (List.getElem?_eq_some_iff.1 h2).1
  rw [ptrN_some hk]
  have:pb S.bs x=S.bs[k]:=by
   unfold pb;rw [h1,Nat.add_sub_cancel,List.getD_eq_getElem?_getD,List.getElem?_eq_getElem hk];rfl
  simp only [Option.bind_some,h2,Option.isSome_some,if_true,this]
theorem atL_calls (h:PM w o θ S) {x:Nat} (hx:x < 18446744073709551616) (hK:∀w',Below w.heap.size w w'→R (.returned (.pointer (ptrL S x))) w'):Calls Tryz.prog 65 #[.pointer (some ⟨θ.g,0,none⟩),.int .u64 (x:Nat)] w R :=
 atP_calls h.prd hx fun w' hb=>by rw [ptrN_L h.len];exact hK w' hb
theorem hnd_calls (h:PM w o θ S) {x:Nat}{s:Sl} (hx:slA S.D.sl x=some s) (hK:∀w',Below w.heap.size w w'→R (.returned (.int .u64 (x:Nat))) w'):Calls Tryz.prog 111 #[.pointer (some ⟨pb S.bs x,0,none⟩)] w R:=by
 obtain⟨i,h1,h2,h3,h4⟩:=h.of hx
 obtain⟨j,j1,j2,j3,j4⟩:=slA_iff.1 hx
 obtain rfl:j=i:=by omega
 obtain⟨hi,e1⟩:=List.getElem?_eq_some_iff.1 h2
 obtain⟨hi',e2⟩:=List.getElem?_eq_some_iff.1 h3
 rw [←e1]
 refine hndP_calls h.prd hi hi' fun w' hb=>?_
 rw [e2,j4];exact hK w' hb
theorem list_calls {p:Nat} (hK:R (.returned (.pointer (some (lad θ.g S.bs p)))) w):Calls Tryz.prog 153 #[.pointer (some ⟨θ.g,0,none⟩),.pointer (ptrH S.bs p)] w R:=by
 refine ok153 (some ⟨θ.g,0,none⟩) (ptrH S.bs p) ?_
 unfold F153
 unfold ptrH lad at *
 by_cases h0:p=0
 ·rw [if_pos h0] at *
  exact hK
 ·rw [if_neg h0] at *
  simpa [Br,NonNil,Addr.add_mk] using hK
theorem level_calls (h:PM w o θ S) (h0:slA S.D.sl 0=none) {p c:Nat} (hc:Ch (slA S.D.sl) p c) (hc2:c≤64) (hK:R (.returned (.int .i64 ((c:Nat)-1))) w):Calls Tryz.prog 108 #[.pointer (ptrH S.bs p)] w R:=by
 refine ok108 (ptrH S.bs p) ?_
 unfold F108
 refine⟨fun n i w'=>∃(q d:Nat),n=ptrH S.bs q∧Ch (slA S.D.sl) q d∧d≤c∧i=(c:Nat)-1-(d:Nat)∧w=w',fun n i w'=>((c:Nat)-i).toNat,⟨p,c,rfl,hc,Nat.le_refl _,by omega,rfl⟩,?_⟩
 rintro n i _ ⟨q,d,rfl,hd,hdc,rfl,rfl⟩
 unfold F108_l2
 cases hd with
 | zero =>
  have e:(ptrH S.bs 0).isNone=true:=by simp [ptrH]
  rw [e]
  simp only [Bool.not_true,Br_f]
  simpa using hK
 | @succ q d s hq0 ha h3 =>
  have e:ptrH S.bs q=some ⟨pb S.bs q,0,none⟩:=by unfold ptrH;rw [if_neg hq0]
  rw [e]
  obtain⟨k,k1,k2,k3,_⟩:=h.of ha
  simp only [Option.isNone_some,Bool.not_false,Br_t,NonNil_some,Addr.add_mk,Nat.zero_add,h.cPar k2 k3,lds]
  exact⟨inR_i64 (by omega) (by omega),⟨s.parent,d,rfl,h3,by omega,by omega,trivial⟩,(by first | omega | (dsimp only;omega))⟩
theorem shaped_calls {wh:Int}{a:Nat} (hK:R (.returned (.bool (!decide (wh < 1∨4 < wh∨(a=0∧2 < wh))))) w):Calls Tryz.prog 119 #[.int .i64 wh,.int .u64 (a:Nat)] w R:=by
 refine ok119 wh a ?_
 unfold F119
 refine brd (fun h1=>brd (fun h2=>brn (fun h3=>?_) (fun h3=>?_)) (fun h2=>?_)) (fun h1=>?_)
 ·rw [show decide (wh < 1∨4 < wh∨(a=0∧2 < wh))=false from decide_eq_false (by omega)] at hK;exact hK
 ·have e:(!decide (wh < 1∨4 < wh∨(a=0∧2 < wh)))=decide (wh≤2):=by
   by_cases h:wh≤2
   ·rw [decide_eq_true h,decide_eq_false (by omega)];rfl
   ·rw [decide_eq_false h,decide_eq_true (by omega)];rfl
  rw [e] at hK;exact hK
 ·rw [show decide (wh < 1∨4 < wh∨(a=0∧2 < wh))=true from decide_eq_true (by omega)] at hK;exact hK
 ·rw [show decide (wh < 1∨4 < wh∨(a=0∧2 < wh))=true from decide_eq_true (by omega)] at hK;exact hK
theorem par_calls (h:PM w o θ S) {wh:Int}{a:Nat} (hsh:¬(wh < 1∨4 < wh∨(a=0∧2 < wh))) (ha:a=0∨∃s,slA S.D.sl a=some s)
  (hK:R (.returned (.tuple #[.pointer (ptrH S.bs (placeF S.D wh a).1),.int .i64 (placeF S.D wh a).2])) w):Calls Tryz.prog 121 #[.pointer (some ⟨θ.g,0,none⟩),.int .i64 wh,.pointer (ptrH S.bs a)] w R:=by
 refine ok121 (some ⟨θ.g,0,none⟩) wh (ptrH S.bs a) ?_
 unfold F121
 unfold placeF at hK
 rw [if_neg hsh] at hK
 by_cases h0:a=0
 ·rw [if_pos h0] at hK
  have e:ptrH S.bs a=none:=by unfold ptrH;rw [if_pos h0]
  have e0:ptrH S.bs 0=none:=rfl
  rw [e]
  rw [e0] at hK
  refine⟨fun w'=>w=w',fun w' e=>by subst e;unfold F121_j5;exact hK,?_⟩
  refine brd (fun h1=>by omega) (fun h1=>?_)
  exact rfl
 ·rw [if_neg h0] at hK
  obtain⟨s,hs⟩:=ha.resolve_left h0
  rw [hs] at hK
  obtain⟨k,k1,k2,k3,_⟩:=h.of hs
  have e:ptrH S.bs a=some ⟨pb S.bs a,0,none⟩:=by unfold ptrH;rw [if_neg h0]
  rw [e]
  dsimp only at hK
  refine⟨fun w'=>w=w'∧wh≤2∧s.kind≠2,?_,?_⟩
  ·rintro _ ⟨rfl,h1,h2⟩
   unfold F121_j5
   rw [if_pos h1,if_neg h2,e] at hK;exact hK
  ·refine brd (fun h1=>?_) (fun h1=>?_)
   ·rw [if_neg (by omega)] at hK
    simp only [NonNil_some,Addr.add_mk,Nat.zero_add,h.cPar k2 k3,lds]
    exact hK
   ·rw [if_pos (by omega)] at hK
    simp only [Option.isNone_some,Bool.not_false,Br_t,NonNil_some,Addr.add_mk,Nat.zero_add,h.cKind k2 k3,lds]
    refine bre (fun h2=>?_) (fun h2=>⟨trivial,by omega,h2⟩)
    rw [if_pos h2] at hK
    exact hK
theorem idx_calls {l:List Nat}{v:Sv}{b:Nat} (hv:v.2.1=l.length) (hr:Rd LPt w v.1 v.2.2 l) (hl:l.length≤1048576) (hok:∀x,x=b∨x∈l→∃c t,w.heap[x]?=some (.cells c t (0,0))) (hm:b∈l)
  (hK:R (.returned (.int .i64 (l.idxOf b:Nat))) w):Calls Tryz.prog 160 #[slV v,.pointer (some ⟨b,0,none⟩)] w R:=by
 refine ok160 v.1 v.2.1 v.2.2 (some ⟨b,0,none⟩) ?_
 unfold F160
 refine⟨fun i w'=>∃k:Nat,i=k∧k≤l.idxOf b∧w=w',fun i _=>l.length-i.toNat,⟨0,rfl,by omega,rfl⟩,?_⟩
 rintro i _ ⟨k,rfl,hk,rfl⟩
 unfold F160_l2
 have hlt:l.idxOf b < l.length:=List.idxOf_lt_length_iff.2 hm
 refine brd (fun h1=>?_) (fun h1=>by omega)
 have hk2:k < l.length:=by omega
 refine hr.pt hv rfl hk2 fun x y c0=>?_
 simp only [c0,lds]
 refine⟨fun p q e1 e2 hne=>?_,brd (fun e=>?_) (fun e=>?_)⟩
 ·cases e1;cases e2
  exact⟨hok _ (.inl rfl),hok _ (.inr (List.getElem_mem hk2))⟩
 ·have e:b=l[k]:=by simpa using e
  have:l.idxOf b=k:=by
   rcases Nat.lt_or_ge k (l.idxOf b) with h2 | h2
   ·have:=List.not_of_lt_findIdx (p:=(· == b)) (xs:=l) h2
    exact absurd e.symm (by simpa using this)
   ·omega
  rw [this] at hK;exact hK
 ·have e:l[k]≠b:=fun h2=>e (by rw [h2])
  have:k≠l.idxOf b:=fun h2=>e (by
   have:=List.getElem_idxOf hlt
   simp only [←h2] at this
   exact this)
  exact⟨inR_i64 (by omega) (by omega),⟨k+1,by simp,by omega,trivial⟩,(by first | omega | (dsimp only;omega))⟩
end
set_option maxRecDepth 100000
def wornN (sl:List Sl):Nat:=(sl.filter fun s=>!s.live && decide (4294967295≤s.gen)).length
theorem tk_sum (sl:List Sl):tk sl=liveN sl+wornN sl:=by
 induction sl with
 | nil=>rfl
 | cons s l ih =>
  unfold tk liveN wornN at *
  simp only [List.filter_cons]
  cases hl:s.live <;> cases hd:decide (4294967295≤s.gen) <;> simp_all <;> omega
theorem live_set {sl:List Sl}{k:Nat}{a b:Sl} (h:sl[k]?=some a):liveN (sl.set k b)+(if a.live then 1 else 0)=liveN sl+(if b.live then 1 else 0):=filter_set_len (fun s:Sl=>s.live) sl k a b h
theorem worn_set {sl:List Sl}{k:Nat}{a b:Sl} (h:sl[k]?=some a):wornN (sl.set k b)+(if (!a.live && decide (4294967295≤a.gen)) then 1 else 0)=wornN sl+(if (!b.live && decide (4294967295≤b.gen)) then 1 else 0):=filter_set_len (fun s:Sl=>!s.live && decide (4294967295≤s.gen)) sl k a b h
theorem live_room {sl:List Sl}:liveN (roomF sl)=liveN sl∧wornN (roomF sl)=wornN sl:=by
 unfold roomF liveN wornN
 split
 ·exact⟨rfl,rfl⟩
 ·rw [List.filter_append,List.filter_append];simp [deadS]
def bornS (g:Nat):Sl:=⟨g,true,0,noB,[],noB,0,[]⟩
structure PI (S:PS):Prop where
 lv:S.lv=liveN S.D.sl
 wn:S.wn=wornN S.D.sl
 lo:S.lo≤S.D.sl.length
 lo2:∀(i:Nat) (s:Sl),i < S.lo→S.D.sl[i]?=some s→s.live=true∨4294967295≤s.gen
def Cl (S:PS) (c:Nat):Prop:=pc c∧∀(i:Nat) (s:Sl),S.D.sl[i]?=some s→s.live=true→c≠8+4*i
theorem free_low {sl:List Sl}{n:Nat} (h:∀(i:Nat) (s:Sl),i < n→sl[i]?=some s→s.live=true∨4294967295≤s.gen) (hn:n≤sl.length):n≤freeI sl:=by
 refine Classical.byContradiction fun hlt=>?_
 have hf:freeI sl < sl.length:=by omega
 obtain⟨s,h1,h2,h3⟩:=freeI_lt hf
 rcases h _ s (by omega) h1 with h4 | h4
 ·rw [h2] at h4;cases h4
 ·omega
theorem below_free {sl:List Sl}{i:Nat}{s:Sl} (hi:i < freeI sl) (hs:sl[i]?=some s):s.live=true∨4294967295≤s.gen:=by
 have h1:=List.not_of_lt_findIdx (p:=fun s:Sl=>!s.live && decide (s.gen < 4294967295)) (xs:=sl) hi
 obtain⟨hl,e⟩:=List.getElem?_eq_some_iff.1 hs
 rw [e] at h1
 cases hv:s.live
 ·simp [hv] at h1;exact .inr h1
 ·exact .inl rfl
def lowIn (g:Nat) (w:World):Nat:=match w.cell? ⟨g,4,none⟩ with | some (.int _ n)=>n.toNat | _=>0
section
variable {w w1 w2:World}{o o1 o2:Nat→Nat}{θ:Th}{S:PS}{M:Nat→Prop}{bs:List Nat}{R:Ending→World→Prop}
theorem Cl_zero:¬Cl S 0:=fun h=>not_pc0 h.1
theorem Cl_doc {c:Nat} (h:c=1∨c=2∨c=3):Cl S c:=by
 refine⟨?_,fun i s _ _=>by omega⟩
 unfold pc;omega
theorem Cl_node {c i:Nat} (h:c=8+4*i∨c=9+4*i∨c=10+4*i) (hd:∀s,S.D.sl[i]?=some s→s.live=false):Cl S c:=by
 refine⟨?_,fun j s hs hl e=>?_⟩
 ·unfold pc;omega
 ·have:j=i:=by omega
  subst this
  rw [hd s hs] at hl;cases hl
theorem lowIn_pm (h:PM w o θ S):lowIn θ.g w=S.lo:=by unfold lowIn;rw [h.cells.2.2.2];simp
theorem fresh_calls (h:PM w o θ S) (hp:PI S) (hw:WfS S.D.sl) (ht:tk S.D.sl < 4096) (hK:∀w' o' S' b,PM w' o' θ S'→PI S'→S'.D={ S.D with sl:=(roomF S.D.sl).set (freeI S.D.sl) (bornS (genI S.D.sl)) }→(∃x,S'.bs=S.bs++x) →
   S'.bs[freeI S.D.sl]?=some b→EvC (Cl S) w o w' o'→R (.returned (.pointer (some ⟨b,0,none⟩))) w'):Calls Tryz.prog 159 #[.pointer (some ⟨θ.g,0,none⟩)] w R:=by
 refine ok159 (some ⟨θ.g,0,none⟩) ?_
 unfold F159
 have hlo:=free_low hp.lo2 hp.lo
 have hfl:=freeI_le (sl:=S.D.sl)
 have hfew:=h.few
 have hlt:=h.lt
 have tr:∀{w1 w2:World}{o1 o2:Nat→Nat},EvC (Cl S) w o w1 o1→EvC (Cl S) w1 o1 w2 o2→EvC (Cl S) w o w2 o2:=fun a b=>a.trans Cl_zero hlt (fun _ _ h=>h) b
 refine⟨fun w'=>PM w' o θ { S with lo:=freeI S.D.sl }∧EvC (Cl S) w o w' o,?_,?_⟩
 ·rintro w1 ⟨h1,e1⟩
  unfold F159_j3
  refine⟨fun w'=>∃o' S',PM w' o' θ S'∧S'.D={ S.D with sl:=roomF S.D.sl }∧S'.lv=S.lv∧S'.wn=S.wn∧S'.lo=freeI S.D.sl∧(∃x,S'.bs=S.bs++x)∧EvC (Cl S) w o w' o',?_,?_⟩
  ·rintro w2 ⟨o2,S2,h2,hD,hlv,hwn,hlo2,hbs,e2⟩
   unfold F159_j5
   refine dr fun w3 hb3 _=>?_
   have h3:=h2.below hb3
   obtain⟨⟨v,v1,v2,v3⟩,_,_,c4⟩:=h3.cells
   obtain⟨A,c,ev,hr⟩:=v2.form
   obtain⟨s,s1,s2,s3,s4⟩:=room_get hw
   have hsl:S2.D.sl=roomF S.D.sl:=by rw [hD]
   have hgl:=(List.getElem?_eq_some_iff.1 s1).1
   have hlen:=h3.len
   rw [hsl] at hlen
   have hgb:freeI S.D.sl < S2.bs.length:=by omega
   have k1:S2.bs[freeI S.D.sl]?=some S2.bs[freeI S.D.sl]:=List.getElem?_eq_getElem hgb
   generalize hb:S2.bs[freeI S.D.sl]=b at k1
   have k2:S2.D.sl[freeI S.D.sl]?=some s:=by rw [hsl];exact s1
   rw [hlo2] at c4
   rw [ev] at v1
   have hdead:∀t,S.D.sl[freeI S.D.sl]?=some t→t.live=false:=fun t ht=>by
    have:=room_old ht
    rw [s1] at this;cases this;exact s4
   simp only [NonNil_some,v1,c4,lds]
   refine hr.pt rfl rfl hgb fun x y c0=>?_
   rw [hb] at c0
   simp only [c0,NonNil_some,h3.cGen k1 k2,lds]
   have e5:((s.gen:Nat):Int)+1=((s.gen+1:Nat):Int):=by omega
   rw [e5]
   refine⟨⟨by simp [IntKind.min,IntKind.signed];omega,by simp [IntKind.max,IntKind.signed,IntKind.bits];omega⟩,?_⟩
   refine h3.stGen k1 k2 (g:=s.gen+1) (by omega) fun w4 h4 e4=>?_
   have k3:(S2.setS (freeI S.D.sl) { s with gen:=s.gen+1 }).D.sl[freeI S.D.sl]?=some { s with gen:=s.gen+1 }:=by simp [PS.setS,hsl,hgl]
   refine h4.stLiv (b:=b) k1 k3 true fun w5 h5 e5'=>?_
   obtain⟨_,d2,_,_⟩:=h5.cells
   have d2:w5.cell? ⟨θ.g,2,none⟩=some (.int .i64 (S.lv:Nat)):=by rw [←hlv];exact d2
   simp only [d2,lds]
   have hlvn:=hp.lv
   have htk:=tk_sum S.D.sl
   have e6:((S.lv:Nat):Int)+1=((S.lv+1:Nat):Int):=by omega
   rw [e6]
   refine⟨inR_i64 (by omega) (by omega),h5.stLive (S.lv+1) (by omega) fun w6 h6 e7=>?_⟩
   have hev:EvC (Cl S) w o w6 o2:=by
    refine tr (tr (tr (tr e2 (EvC.below hb3)) (e4.mono fun c hc=>Cl_node hc hdead)) (e5'.mono fun c hc=>Cl_node hc hdead)) (e7.mono fun c hc=>Cl_doc hc)
   obtain⟨S6,hS6⟩:∃S6:PS,S6={ (S2.setS (freeI S.D.sl) { s with gen:=s.gen+1 }).setS (freeI S.D.sl) { { s with gen:=s.gen+1 } with live:=true } with lv:=S.lv+1 }:=⟨_,rfl⟩
   have h6':PM w6 o2 θ S6:=by rw [hS6];exact h6
   have hfin:S6.D.sl=(roomF S.D.sl).set (freeI S.D.sl) (bornS (genI S.D.sl)):=by
    rw [hS6]
    show (S2.D.sl.set _ _).set _ _=_
    rw [List.set_set,hsl,genI_eq s1]
    congr 1
    rw [s2];rfl
   have f1:S6.lv=S.lv+1:=by rw [hS6]
   have f2:S6.wn=S2.wn:=by rw [hS6];rfl
   have f3:S6.lo=S2.lo:=by rw [hS6];rfl
   have f4:S6.bs=S2.bs:=by rw [hS6];rfl
   have f5:S6.D.roots=S2.D.roots:=by rw [hS6];rfl
   have hset:=live_set (b:=(bornS (genI S.D.sl))) s1
   have wset:=worn_set (b:=(bornS (genI S.D.sl))) s1
   rw [s4] at hset wset
   have hg2:¬4294967295≤s.gen:=by omega
   simp [live_room.1,live_room.2,hg2,show (bornS (genI S.D.sl)).live=true from rfl] at hset wset
   refine hK w6 o2 S6 b h6' ⟨?_,?_,?_,?_⟩ ?_ (by rw [f4];exact hbs) (by rw [f4];exact k1) hev
   ·rw [f1,hfin];omega
   ·rw [f2,hfin,hwn,hp.wn];omega
   ·rw [f3,hfin,hlo2,List.length_set];omega
   ·intro i t hi ht2
    rw [f3,hlo2] at hi
    rw [hfin,List.getElem?_set_ne (by omega)] at ht2
    have hi2:i < S.D.sl.length:=by omega
    have:=room_old (List.getElem?_eq_getElem hi2)
    rw [this] at ht2
    exact below_free hi (by rw [←ht2];exact List.getElem?_eq_getElem hi2)
   ·cases hS:S6.D with
    | mk l r =>
     rw [hS] at hfin f5
     dsimp only at hfin f5
     rw [hfin,f5,hD]
  ·refine dr fun w2 hb2 _=>?_
   have h2:=h1.below hb2
   obtain⟨⟨v,v1,v2,v3⟩,_,_,c4⟩:=h2.cells
   obtain⟨A,c,ev,hr⟩:=v2.form
   rw [ev] at v1
   have c4:w2.cell? ⟨θ.g,4,none⟩=some (.int .i64 (freeI S.D.sl:Nat)):=c4
   have hlen:S.bs.length=S.D.sl.length:=h2.len
   simp only [NonNil_some,v1,c4,lds]
   refine bre (fun heq=>?_) (fun hne=>?_)
   ·have heq:freeI S.D.sl=S.bs.length:=Int.ofNat.inj heq
    have hfull:¬freeI S.D.sl < S.D.sl.length:=by omega
    have hl4:S.D.sl.length < 4096:=by have:=tk_full hfull;omega
    refine⟨fun w'=>Below w2.heap.size w2 w',(Below.refl _ _).drew,?_⟩
    refine⟨_,_,_,fun w' hb=>by rw [(sub_below hb).cell v1],?_⟩
    refine⟨_,fun w' hb=>by rw [(sub_below hb).cell c4],?_⟩
    have e5:((freeI S.D.sl:Nat):Int)+1=((freeI S.D.sl+1:Nat):Int):=by omega
    rw [e5]
    refine⟨inR_i64 (by omega) (by omega),⟨by simp [IntKind.min,IntKind.signed];omega,by simp [IntKind.max,IntKind.signed,IntKind.bits];omega⟩,?_⟩
    refine al fun b w3 hb3 bn hge3=>?_
    have D3:Below w2.heap.size w2 w3:=btr ((Below.refl _ w2).drew) (by simp) hb3
    refine⟨D3,al fun g5 w4 hb4 b5 hge4=>?_⟩
    have D4:=btr D3 D3.size hb4
    refine⟨D4,?_⟩
    have hO4:Own LPt w4 0 152 (.slice A S.bs.length c) S.bs:=by rw [←ev];exact v2.keep D4
    have hbl:=bn.lt
    have hgeb:w2.heap.size≤b:=by simpa using hge3
    refine ap (L:=LPt) (xs:=S.bs) (ys:=[b]) (base:=0) (.pointer none) 8 rfl (by kernel_rfl) (by kernel_rfl) (by kernel_rfl) hO4 ?_ (Nat.zero_le _) (by simp;omega) (by simp [maxLen];omega) fun A' c' w5 o5 g5'=>⟨A',_,c',rfl,?_⟩
    ·refine⟨by simp,by simp [maxLen],fun h0=>(by cases h0),fun _=>⟨g5,0,rfl,fun j u hj=>?_⟩⟩
     rw [LPt.all_one] at hj
     rw [b5.cell];simpa [LPt] using hj
    ·have F5:Fm (fun x=>rowOf (slV (A,S.bs.length,c))=some x) w2 w5:=(Fm.below D4).trans (Fm.grown g5'.grown fun x hx=>hx)
     have hbn5:Blk w5 b (nodeC S.D.sl.length (deadS 0) (none,0,0) none (none,0,0)) 202:=by
      have bn4:=bn.keep hb4
      have:Blk w5 b _ 202:=(Fm.grown g5'.grown (M:=fun x=>rowOf (slV (A,S.bs.length,c))=some x) fun x hx=>hx).blk bn4 fun e=>by
       have:=v3 b (by rw [ev];exact e)
       have:=h2.lt b (by rw [this];decide)
       omega
      rw [heq,hlen] at this
      exact this
     refine h2.grow (v:=(A,S.bs.length,c)) (v':=(A',S.bs.length+1,c')) hgeb hbn5 (fun x hx=>v3 x (by rw [ev];exact hx)) F5 o5 ?_ hl4 fun w6 o6 h6 e6=>?_
     ·rcases g5'.row with e | e | ⟨g,e,hge⟩
      ·exact .inl e
      ·exact .inr (.inl e)
      ·refine .inr (.inr ⟨g,e,?_,?_⟩)
       ·have:=D4.size;omega
       ·have:=hb4.size;omega
     ·refine⟨o6,_,h6,?_,rfl,rfl,rfl,⟨[b],rfl⟩,tr (tr e1 (EvC.below hb2)) (e6.mono fun c hc=>Cl_doc (by omega))⟩
      show { S.D with sl:=S.D.sl++[deadS 0] }=_
      unfold roomF
      rw [if_neg hfull]
   ·have hne:freeI S.D.sl≠S.bs.length:=fun e=>hne (by rw [e])
    refine⟨o,_,h2,?_,rfl,rfl,rfl,⟨[],by simp⟩,tr e1 (EvC.below hb2)⟩
    show S.D=_
    unfold roomF
    rw [if_pos (by omega)]
 ·refine⟨fun w'=>∃n,n≤freeI S.D.sl∧PM w' o θ { S with lo:=n }∧EvC (Cl S) w o w' o,fun w'=>4097-lowIn θ.g w',⟨S.lo,hlo,h,EvC.refl⟩,?_⟩
  rintro w1 ⟨n,hn,h1,e1⟩
  have hlw:lowIn θ.g w1=n:=lowIn_pm h1
  unfold F159_l1
  refine⟨fun w'=>n < freeI S.D.sl∧PM w' o θ { S with lo:=n }∧EvC (Cl S) w o w' o,?_,?_⟩
  ·rintro w2 ⟨hn2,h2,e2⟩
   unfold F159_j2
   obtain⟨_,_,_,c4⟩:=h2.cells
   have c4:w2.cell? ⟨θ.g,4,none⟩=some (.int .i64 (n:Nat)):=c4
   simp only [NonNil_some,c4,lds]
   have e5:((n:Nat):Int)+1=((n+1:Nat):Int):=by omega
   rw [e5]
   refine⟨inR_i64 (by omega) (by omega),h2.stLow (n+1) (by omega) fun w3 h3 e3=>⟨⟨n+1,by omega,h3,tr e2 (e3.mono fun c hc=>Cl_doc hc)⟩,?_⟩⟩
   have:=lowIn_pm h3
   dsimp only at this
   rw [this,hlw];omega
  ·refine dr fun w2 hb2 _=>?_
   have h2:=h1.below hb2
   have e2:=tr e1 (EvC.below hb2)
   obtain⟨⟨v,v1,v2,v3⟩,_,_,c4⟩:=h2.cells
   obtain⟨A,c,ev,hr⟩:=v2.form
   rw [ev] at v1
   have c4:w2.cell? ⟨θ.g,4,none⟩=some (.int .i64 (n:Nat)):=c4
   have hlen:S.bs.length=S.D.sl.length:=h2.len
   simp only [NonNil_some,v1,c4,lds]
   have exit:(∀s,S.D.sl[n]?=some s→s.live=false∧s.gen < 4294967295)→n=freeI S.D.sl:=fun hs=>by
    refine Classical.byContradiction fun hne=>?_
    have hlt2:n < freeI S.D.sl:=by omega
    have hl:n < S.D.sl.length:=by omega
    have:=below_free hlt2 (List.getElem?_eq_getElem hl)
    obtain⟨a,b⟩:=hs _ (List.getElem?_eq_getElem hl)
    rcases this with h3 | h3
    ·rw [a] at h3;cases h3
    ·omega
   refine brd (fun hlt2=>?_) (fun hge=>?_)
   ·have hnl:n < S.bs.length:=by simpa using hlt2
    have k1:S.bs[n]?=some S.bs[n]:=List.getElem?_eq_getElem hnl
    have k2:S.D.sl[n]?=some (S.D.sl[n]'(by omega)):=List.getElem?_eq_getElem (by omega)
    generalize hb:S.bs[n]=b at k1
    generalize (S.D.sl[n]'(by omega))=s at k2
    refine hr.pt rfl rfl hnl fun x y c0=>?_
    rw [hb] at c0
    have gl:=h2.cLive k1 k2
    have gg:=h2.cGen k1 k2
    simp only [c0,gl,NonNil_some,lds]
    have notfree:(s.live=true∨4294967295≤s.gen)→n < freeI S.D.sl:=fun hs=>by
     refine Nat.lt_of_le_of_ne hn fun e=>?_
     have hf:freeI S.D.sl < S.D.sl.length:=by omega
     obtain⟨t,t1,t2,t3⟩:=freeI_lt hf
     rw [←e,k2] at t1;cases t1
     rcases hs with h3 | h3
     ·rw [t2] at h3;cases h3
     ·omega
    refine br (fun hl=>⟨notfree (.inl hl),h2,e2⟩) (fun hl=>?_)
    refine hr.pt rfl rfl hnl fun x y c0=>?_
    rw [hb] at c0
    simp only [c0,gg,NonNil_some,lds]
    refine bre (fun hg=>⟨notfree (.inr (by omega)),h2,e2⟩) (fun hg=>?_)
    have hsg:=(h.rng s (List.mem_of_getElem? k2)).gen
    have:=exit fun t ht=>by rw [k2] at ht;cases ht;exact⟨hl,by omega⟩
    rw [←this]
    exact⟨h2,e2⟩
   ·have:=exit fun t ht=>by
     have:=(List.getElem?_eq_some_iff.1 ht).1
     have hge:¬((n:Nat):Int) < ((S.bs.length:Nat):Int):=hge
     omega
    rw [←this]
    exact⟨h2,e2⟩
end
set_option maxRecDepth 100000
theorem cloneOwn_calls (l:List At) (v:Sv) {w:World}{R:Ending→World→Prop} (hl:RR LAt w l v) (h:∀v' w',Below w.heap.size w w'→Own LAt w' w.heap.size 205 (slV v') l→R (.returned (slV v')) w') :
  Calls Tryz.prog 109 #[slV v] w R:=by
 refine ok109 v.1 v.2.1 v.2.2 ?_
 unfold F109
 refine br (fun hz=>?_) (fun hz=>?_)
 ·have h1:v.1=none:=by simpa using hz
  have h2:=hl.2.2.2.2.1 h1
  have h3:=hl.2.2.1
  have:l=[]:=List.eq_nil_of_length_eq_zero (by omega)
  subst this
  exact h (none,0,0) w (Below.refl _ _) (Own.nil _ _ _ _)
 ·refine al fun g w1 hb1 b1 hge=>?_
  obtain⟨h1,h2,h3⟩:=hl.keep hb1
  have hm:l.length*32≤1048576*32:=Nat.mul_le_mul h1 (Nat.le_refl _)
  refine ap (L:=LAt) (xs:=[]) (ys:=l) (base:=w.heap.size) (.agg #[.string ⟨#[]⟩,.string ⟨#[]⟩]) 32 h2 rfl rfl rfl (Own.bare _ _ _ _ _) h3 hb1.size (by simp only [List.length_nil,Nat.zero_add];omega) (by simp [maxLen];omega) fun A' c' w2 o2 g2=>⟨_,_,_,rfl,?_⟩
  exact h (A',_,c') w2 (hb1.trans g2.below) (by rw [List.nil_append] at o2;exact o2)
theorem makesF_snoc {x:Tr}{h i:Nat}:∀(l:List Tr) (sl:List Sl),makesF (l++[x]) h i sl=(makeF x h (makesF l h i sl)).modify i fun s=>{ s with kids:=s.kids++[freshH (makesF l h i sl)] }
 | [],sl=>by
  rw [List.nil_append,makesF]
  simp only [makesF]
 | y :: l,sl=>by
  rw [List.cons_append,makesF]
  conv=>rhs;simp only [makesF]
  exact makesF_snoc l _
theorem okL_take:∀(l:List Tr) (k:Nat),okL l→okL (l.take k)
 | [],k,h=>by simp [okL]
 | x :: l,0,h=>by simp [okL]
 | x :: l,k+1,h=>by
  simp only [List.take_succ_cons,okL] at *
  exact⟨h.1,okL_take l k h.2⟩
theorem okL_get:∀(l:List Tr) (k:Nat) (hk:k < l.length),okL l→okT l[k]
 | [],k,hk,h=>by simp at hk
 | x :: l,0,hk,h=>by simp only [okL] at h;exact h.1
 | x :: l,k+1,hk,h=>by simp only [okL] at h;exact okL_get l k (by simpa using hk) h.2
theorem dpL_take:∀(l:List Tr) (k:Nat),dpL (l.take k)≤dpL l
 | [],k=>by simp [dpL]
 | x :: l,0=>by simp [dpL]
 | x :: l,k+1=>by
  have:=dpL_take l k
  simp only [List.take_succ_cons,dpL];omega
theorem dpL_get:∀(l:List Tr) (k:Nat) (hk:k < l.length),dpT l[k]≤dpL l
 | [],k,hk=>by simp at hk
 | x :: l,0,hk=>by simp only [List.getElem_cons_zero,dpL];omega
 | x :: l,k+1,hk=>by
  have:=dpL_get l k (by simpa using hk)
  simp only [List.getElem_cons_succ,dpL];omega
theorem szL_get:∀(l:List Tr) (k:Nat) (hk:k < l.length),szL (l.take k)+szT l[k]≤szL l
 | [],k,hk=>by simp at hk
 | x :: l,0,hk=>by simp only [List.take_zero,List.getElem_cons_zero,szL];omega
 | x :: l,k+1,hk=>by
  have:=szL_get l k (by simpa using hk)
  simp only [List.take_succ_cons,List.getElem_cons_succ,szL];omega
theorem szL_take:∀(l:List Tr) (k:Nat),szL (l.take k)≤szL l
 | [],k=>by simp
 | x :: l,0=>by simp [szL]
 | x :: l,k+1=>by
  have:=szL_take l k
  simp only [List.take_succ_cons,szL];omega
section
variable {w w1 w2:World}{o o1 o2:Nat→Nat}{θ:Th}{S:PS}{M:Nat→Prop}{bs:List Nat}{R:Ending→World→Prop}
theorem PI.set (h:PI S) {i:Nat}{s s':Sl} (hs:S.D.sl[i]?=some s) (hl:s'.live=s.live) (hg:s'.gen=s.gen):PI (S.setS i s'):=by
 have h1:=live_set (b:=s') hs
 have h2:=worn_set (b:=s') hs
 rw [hl] at h1
 rw [hl,hg] at h2
 refine⟨?_,?_,?_,fun j t hj ht=>?_⟩
 ·show S.lv=liveN (S.D.sl.set i s');rw [h.lv];omega
 ·show S.wn=wornN (S.D.sl.set i s');rw [h.wn];omega
 ·show S.lo≤(S.D.sl.set i s').length;rw [List.length_set];exact h.lo
 ·have ht:(S.D.sl.set i s')[j]?=some t:=ht
  by_cases e:i=j
  ·subst e
   rw [List.getElem?_set_self (List.getElem?_eq_some_iff.1 hs).1] at ht
   cases ht
   rw [hl,hg];exact h.lo2 i s hj hs
  ·rw [List.getElem?_set_ne e] at ht
   exact h.lo2 j t hj ht
theorem pb_ext {y:List Nat}{h:Nat} (hh:inN bs.length h):pb (bs++y) h=pb bs h:=by
 obtain⟨h1,h2⟩:=hh
 unfold pb
 rw [List.getD_eq_getElem?_getD,List.getD_eq_getElem?_getD,List.getElem?_append_left (by omega)]
theorem ptr_ext {y:List Nat}{h:Nat} (hh:h=0∨inN bs.length h):ptrH (bs++y) h=ptrH bs h:=by
 unfold ptrH
 split
 ·rfl
 ·rw [pb_ext (hh.resolve_left (by assumption))]
theorem live_inN {sl:List Sl}{p:Nat} (hp:p=0∨∃t,slA sl p=some t∧t.kind=1):p=0∨inN sl.length p:=by
 rcases hp with hp | ⟨t,ht,_⟩
 ·exact .inl hp
 ·obtain⟨k,h1,h2,_⟩:=slA_iff.1 ht
  have:=(List.getElem?_eq_some_iff.1 h2).1
  exact .inr ⟨by omega,by omega⟩
theorem live_few {sl:List Sl}{l:List Nat} (hl:∀h∈l,∃s,slA sl h=some s) (hn:l.Nodup):l.length≤sl.length:=by
 have h1:(l.map fun h=>h % 4294967296-1).Nodup:=by
  refine List.pairwise_map.2 (List.Pairwise.imp_of_mem (fun {a b} ha hb hab e=>?_) hn)
  obtain⟨s,hs⟩:=hl a ha
  obtain⟨t,ht⟩:=hl b hb
  obtain⟨i,i1,i2,i3,i4⟩:=slA_iff.1 hs
  obtain⟨j,j1,j2,j3,j4⟩:=slA_iff.1 ht
  obtain rfl:i=j:=by omega
  rw [i2] at j2;cases j2
  exact hab (i4.symm.trans j4)
 have h2:=nodup_sub h1 (b:=List.range sl.length) fun x hx=>by
  obtain⟨h,hh,rfl⟩:=List.mem_map.1 hx
  obtain⟨s,hs⟩:=hl h hh
  obtain⟨i,i1,i2,i3,i4⟩:=slA_iff.1 hs
  have:=(List.getElem?_eq_some_iff.1 i2).1
  exact List.mem_range.2 (by omega)
 simpa using h2
theorem setS_setS {i:Nat}{a b:Sl}:(S.setS i a).setS i b=S.setS i b:=by unfold PS.setS;dsimp only;rw [List.set_set]
theorem make_calls:∀(x:Tr) {w:World}{o:Nat→Nat}{S:PS}{p c:Nat}{loose:List Nat}{e:E5}{R:Ending→World→Prop},PM w o θ S→PI S→okT x→WfS S.D.sl→WfA (slA S.D.sl) S.D.roots loose→(p=0∨∃t,slA S.D.sl p=some t∧t.kind=1) →
  Ch (slA S.D.sl) p c→c+dpT x≤64→tk S.D.sl+szT x≤4096→RTr (wc o w) x e →
  (∀w' o' S',PM w' o' θ S'→PI S'→S'.D={ S.D with sl:=makeF x p S.D.sl }→(∃y,S'.bs=S.bs++y)→EvC (Cl S) w o w' o'→R (.returned (.pointer (ptrH S'.bs (freshH S.D.sl)))) w') →
  Calls Tryz.prog 122 #[.pointer (some ⟨θ.g,0,none⟩),.agg #[.int .i64 e.kind,.string e.nm,slV e.ats,.string e.text,slV e.kids],.pointer (ptrH S.bs p)] w R:=by
 refine Tr.ind fun kind nm attrs text kids ih=>?_
 intro w o S p c loose e R h hp hok hw hA hpp hc hd ht hT hK
 simp only [RTr] at hT
 obtain⟨t1,t2,t3,t4,t5,es,t6,t7,t8⟩:=hT
 have hel:=t8.len
 have hW:=make_wf (.mk kind nm attrs text kids) hok hw hA hpp hc hd ht
 unfold okT at hok
 obtain⟨ok1,ok2,ok3⟩:=hok
 unfold dpT at hd
 unfold szT at ht
 have htk:tk S.D.sl < 4096:=by split at ht <;> omega
 have hlt:=h.lt
 refine ok122 (some ⟨θ.g,0,none⟩) e.kind e.nm e.ats.1 e.ats.2.1 e.ats.2.2 e.text e.kids.1 e.kids.2.1 e.kids.2.2 (ptrH S.bs p) ?_
 unfold F122
 refine al fun g4 w1 hb1 b4 hge4=>?_
 have h1:=h.below hb1
 have o4:o g4=0:=Classical.byContradiction fun h0=>by have:=hlt g4 h0;omega
 refine fresh_calls h1 hp hw htk fun w2 o2 S2 b h2 p2 hD2 ⟨y2,hy2⟩ hb2 e2=>⟨_,rfl,?_⟩
 have tr:∀{w1 w2:World}{o1 o2:Nat→Nat},EvC (Cl S) w o w1 o1→EvC (Cl S) w1 o1 w2 o2→EvC (Cl S) w o w2 o2:=fun a b=>a.trans Cl_zero hlt (fun _ _ h=>h) b
 have E2:EvC (Cl S) w o w2 o2:=tr (EvC.below hb1) e2
 obtain⟨sd,d1,d2,d3,d4⟩:=room_get hw
 generalize hi:freeI S.D.sl=i at *
 generalize hg:genI S.D.sl=g at *
 have hgl:=(List.getElem?_eq_some_iff.1 d1).1
 have hsl2:S2.D.sl=(roomF S.D.sl).set i (bornS g):=by rw [hD2]
 have k2:S2.D.sl[i]?=some (bornS g):=by rw [hsl2];simp [hgl]
 have hdead:∀t,S.D.sl[i]?=some t→t.live=false:=fun t ht=>by
  have:=room_old ht
  rw [d1] at this;cases this;exact d4
 have g4k:∀{w':World}{o':Nat→Nat}{ce:Array Value}{ty:TypeId},EvC (Cl S) w1 o w' o'→Blk w1 g4 ce ty→Blk w' g4 ce ty:=fun ev hb=>ev.fm.blk hb (by rw [o4];exact Cl_zero)
 have B2:=g4k e2 b4
 simp only [Addr.add_mk,Nat.zero_add,NonNil_some,B2.cell,lds]
 refine h2.stKind hb2 k2 e.kind fun w3 h3 e3=>?_
 have h3:PM w3 o2 θ (S2.setS i ⟨g,true,e.kind,noB,[],noB,0,[]⟩):=h3
 have kS:∀s',(S2.setS i s').D.sl[i]?=some s':=fun s'=>by simp [PS.setS,hsl2,hgl]
 have hpn:p=0∨inN S.bs.length p:=by rw [h.len];exact live_inN hpp
 have hlen2:S.D.sl.length≤S2.D.sl.length:=by
  rw [hsl2,List.length_set]
  rcases room_len (sl:=S.D.sl) with h | h <;> omega
 have hlenS:∀s',(S2.setS i s').D.sl.length=S2.D.sl.length:=fun s'=>by simp [PS.setS]
 have hpn2:p=0∨inN (S2.setS i ⟨g,true,e.kind,noB,[],noB,0,[]⟩).D.sl.length p:=by
  rcases hpn with e | ⟨a,b⟩
  ·exact .inl e
  ·refine .inr ⟨a,?_⟩
   rw [h.len] at b
   rw [hlenS];omega
 have hpe:ptrH S.bs p=ptrH (S2.setS i ⟨g,true,e.kind,noB,[],noB,0,[]⟩).bs p:=by
  show _=ptrH S2.bs p
  rw [hy2];exact (ptr_ext hpn).symm
 rw [hpe]
 refine h3.stPar (b:=b) hb2 (kS _) hpn2 fun w4 h4 e4=>?_
 have h4:PM w4 o2 θ (S2.setS i ⟨g,true,e.kind,noB,[],noB,p,[]⟩):=by rw [setS_setS] at h4;exact h4
 have nd:∀{c:Nat},(c=8+4*i∨c=9+4*i∨c=10+4*i)→Cl S c:=fun hc=>Cl_node hc hdead
 have e24:EvC (Cl S) w1 o w4 o2:=(e2.trans Cl_zero h1.lt (fun _ _ h=>h) (e3.mono fun c hc=>nd hc)).trans Cl_zero h1.lt (fun _ _ h=>h) (e4.mono fun c hc=>nd hc)
 have E4:EvC (Cl S) w o w4 o2:=tr (EvC.below hb1) e24
 have B4:=g4k e24 b4
 have p4:PI (S2.setS i ⟨g,true,e.kind,noB,[],noB,p,[]⟩):=p2.set k2 rfl rfl
 have hh:freshH S.D.sl % 4294967296=i+1:=by
  have:=(room_wf hw htk).few
  unfold freshH;rw [hi];exact hnd_mod (by omega)
 have hne:freshH S.D.sl≠0:=by unfold freshH hnd;omega
 have hfin:∀{bs':List Nat},(∃y,bs'=S2.bs++y)→pb bs' (freshH S.D.sl)=b:=fun {bs'} ⟨y,hy⟩=>by
  unfold pb
  rw [hh,Nat.add_sub_cancel,hy,List.getD_eq_getElem?_getD,List.getElem?_append_left (List.getElem?_eq_some_iff.1 hb2).1,hb2];rfl
 have hfinp:∀{bs':List Nat},(∃y,bs'=S2.bs++y)→ptrH bs' (freshH S.D.sl)=some ⟨b,0,none⟩:=fun {bs'} hy=>by
  unfold ptrH
  rw [if_neg hne,hfin hy]
 have hDS:∀s',(S2.setS i s').D={ S.D with sl:=(roomF S.D.sl).set i s' }:=fun s'=>by
  show { S2.D with sl:=S2.D.sl.set i s' }=_
  rw [hD2]
  dsimp only
  rw [List.set_set]
 simp only [Addr.add_mk,Nat.zero_add,NonNil_some,B4.cell,lds]
 refine bre (fun hk=>?_) (fun hk=>?_)
 ·-- a text
  refine h4.stText (b:=b) hb2 (kS _) e.text fun w5 h5 e5=>?_
  have h5:PM w5 o2 θ (S2.setS i ⟨g,true,e.kind,noB,[],e.text,p,[]⟩):=by rw [setS_setS] at h5;exact h5
  have:=hK w5 o2 _ h5 (p2.set k2 rfl rfl) ?_ ⟨y2,hy2⟩ (tr E4 (e5.mono fun c hc=>nd hc))
  ·have e6:=hfinp (bs':=S2.bs) ⟨[],by simp⟩
   rw [←e6];exact this
  ·rw [hDS]
   unfold makeF
   rw [if_pos (by rw [←t1];exact hk),hi,hg,←t1,←t3]
 ·-- an element
  have hk1:kind≠2:=by rw [←t1];exact hk
  have hkk:kind=1:=ok2.resolve_right hk1
  rw [if_neg hk1] at hd ht
  have hd4:Below w4.heap.size w4 w4.drew:=(Below.refl _ _).drew
  refine⟨fun w'=>Below w4.heap.size w4 w',hd4,?_⟩
  refine⟨_,fun w' hb=>by rw [(B4.keep hb).cell];rfl,?_⟩
  refine⟨_,_,_,fun w' hb=>by rw [(B4.keep hb).cell];rfl,?_⟩
  have E4d:EvC (Cl S) w o w4.drew o2:=tr E4 (EvC.below hd4)
  have hats:RR LAt w4.drew attrs e.ats:=(t4.sub (EvP.sub (E4d.mono fun c h=>h.1))).sub sub_of_only
  refine cloneOwn_calls attrs e.ats hats fun a w5 hb5 ha=>⟨_,_,_,rfl,?_⟩
  have D5:Below w4.heap.size w4 w5:=btr hd4 (by simp) hb5
  refine⟨D5,?_⟩
  obtain⟨a0,kv0,hn⟩:=h4.nodes i b _ hb2 (kS _)
  have hb6:o2 b=8+4*i:=h4.nc i b hb2
  have hbl:=hn.blk.lt
  refine st_blk (hn.blk.keep D5) (by simp [nodeC]) fun w6 b6 f6=>st_blk b6 (by simp [nodeC]) fun w7 b7 f7=>?_
  have b7:Blk w7 b (nodeC i ⟨g,true,e.kind,e.nm,attrs,noB,p,[]⟩ a (ptrH S2.bs p) kv0) 202:=by
   simpa [nodeC,slV,PS.setS] using b7
  have F67:Fm (·=b) w5 w7:=Fm.trans f6 f7
  have harow:∀x,rowOf (slV a)=some x→w4.heap.size≤x:=fun x hx=>by have:=(ha.lt x hx).1;simpa using this
  have F47b:Fm (·=b) w4 w7:=(Fm.below D5).trans F67
  have F47:Fm (fun x=>o2 x=8+4*i∨o2 x=9+4*i∨o2 x=10+4*i) w4 w7:=F47b.mono fun x _ e=>.inl (by have e:x=b:=e;rw [e];exact hb6)
  have oz:∀x,w4.heap.size≤x→o2 x=0:=fun x hx=>Classical.byContradiction fun h0=>by have:=h4.lt x h0;omega
  have hN:NodeR w7 (cl o2 (rowOf (slV a)) (10+4*i)) S2.bs i b ⟨g,true,e.kind,e.nm,attrs,noB,p,[]⟩ a kv0:=by
   refine⟨b7,(own_fm ha F67 fun x hx e=>?_).rebase fun k _=>Nat.zero_le _,fun x hx=>cl_row hx (.inl (oz x (harow x hx))),own_fm hn.kd1 F47b fun x hx e=>?_,fun x hx=>?_⟩
   ·have e:x=b:=e
    have:=harow x hx;omega
   ·have e:x=b:=e
    have:=hn.kd2 x hx;rw [e,hb6] at this;omega
   ·have:=hn.kd2 x hx
    rw [cl_old (by omega)];exact this
  have rg4:=h4.rng _ (List.mem_of_getElem? (kS _))
  obtain⟨h7,e7⟩:=h4.setNode (r:=rowOf (slV a)) (c:=10+4*i) hb2 (kS _) F47 (fun x hx=>.inl hx) (.inr rfl) (fun x hx=>⟨fun _=>harow x hx,Nat.lt_of_lt_of_le (ha.lt x hx).2 F67.size⟩) hN ⟨rg4.gen,rg4.par,by simp,by simp,t4.1⟩
  generalize cl o2 (rowOf (slV a)) (10+4*i)=o7 at h7 e7
  rw [setS_setS] at h7
  have e17:EvC (Cl S) w1 o w7 o7:=e24.trans Cl_zero h1.lt (fun _ _ h=>h) (e7.mono fun c hc=>nd hc)
  have E7:EvC (Cl S) w o w7 o7:=tr (EvC.below hb1) e17
  have B7:=g4k e17 b4
  simp only [Addr.add_mk,Nat.zero_add,NonNil_some,B7.cell,lds]
  clear hN F47 F47b F67 b7 b6 f6 f7 hn ha hats D5 hd4 B4 e4 e3 h3 h4 hb5 E4d E4 e24
  have hok7:okSl ⟨g,true,1,nm,attrs,noB,p,[]⟩:=⟨by rw [hkk] at ok1;unfold ownF at ok1 ⊢;exact ok1,.inl ⟨rfl,rfl⟩⟩
  obtain⟨M7,hs7⟩:=one_wf (s:=⟨g,true,1,nm,attrs,noB,p,[]⟩) hok7 rfl rfl rfl hg.symm hw hA hpp hc (by omega) (by omega)
  rw [hi] at M7 hs7
  generalize hsl7:(roomF S.D.sl).set i ⟨g,true,1,nm,attrs,noB,p,[]⟩=sl7 at M7 hs7
  have hD7:(S2.setS i ⟨g,true,e.kind,e.nm,attrs,noB,p,[]⟩).D={ S.D with sl:=sl7 }:=by rw [hDS,←hsl7,t1,hkk,t2]
  have p7:PI (S2.setS i ⟨g,true,e.kind,e.nm,attrs,noB,p,[]⟩):=p2.set k2 rfl rfl
  have hbs7:(S2.setS i ⟨g,true,e.kind,e.nm,attrs,noB,p,[]⟩).bs=S2.bs:=rfl
  generalize S2.setS i ⟨g,true,e.kind,e.nm,attrs,noB,p,[]⟩=S7 at h7 hD7 p7 hbs7
  generalize hH:freshH S.D.sl=hh0 at *
  have hc7:Ch (slA sl7) hh0 (c+1):=.succ hne hs7 (hc.mono fun y t hy=>⟨t,M7.ext y t hy,rfl⟩)
  have mt7:=M7.tk
  have hmake:makeF (.mk kind nm attrs text kids) p S.D.sl=makesF kids hh0 i sl7:=by
   unfold makeF
   rw [if_neg hk1,hi,hg,hkk,hsl7,hH]
  rw [hmake] at hK
  have WK:∀k,k≤kids.length→WfS (makesF (kids.take k) hh0 i sl7)∧WfA (slA (makesF (kids.take k) hh0 i sl7)) S.D.roots (hh0 :: loose)∧(∃ks,slA (makesF (kids.take k) hh0 i sl7) hh0=some { (⟨g,true,1,nm,attrs,noB,p,[]⟩:Sl) with kids:=[]++ks })∧tk (makesF (kids.take k) hh0 i sl7)=tk sl7+szL (kids.take k)∧(∀y t,slA S.D.sl y=some t→slA (makesF (kids.take k) hh0 i sl7) y=some t):=fun k hk=>by
   have ht2:=szL_take kids k
   have hd2:=dpL_take kids k
   obtain⟨r1,r2,r3,r4,r5,r6⟩:=makes_wf (kids.take k) (fun x hx {sl loose p c}=>make_wf x (roots:=S.D.roots)) (sl:=sl7) (loose:=hh0 :: loose) (h:=hh0) (c:=c+1) (i:=i) (okL_take _ _ (ok3 hkk)) M7.wfs M7.wf hh hs7 rfl hc7 (by omega) (by omega)
   refine⟨r1,r2,r4,r5,fun y t hy=>r3 y t ?_ (M7.ext y t hy)⟩
   rintro rfl
   have:=M7.new
   rw [this] at hy;cases hy
  refine⟨fun j w'=>∃(k:Nat) (o':Nat→Nat) (S':PS),j=k∧k≤kids.length∧PM w' o' θ S'∧PI S'∧S'.D={ S.D with sl:=makesF (kids.take k) hh0 i sl7 }∧(∃y,S'.bs=S2.bs++y)∧EvC (Cl S) w1 o w' o',fun j _=>kids.length-j.toNat,
   ⟨0,o7,S7,rfl,by omega,h7,p7,by simpa [makesF] using hD7,⟨[],by simp [hbs7]⟩,e17⟩,?_⟩
  rintro j w8 ⟨k,o8,S8,rfl,hk8,h8,p8,hD8,⟨y8,hy8⟩,e8⟩
  unfold F122_l8
  have hsub8:Sub (wc o w) (wc o8 w8):=EvP.sub ((tr (EvC.below hb1) e8).mono fun c h=>h.1)
  have hr8:Rd LE5 w8 e.kids.1 e.kids.2.2 es:=sub_of_only.rd (hsub8.rd t7)
  refine brd (fun hlt8=>?_) (fun hge8=>?_)
  rotate_left
  ·have hk9:k=kids.length:=by omega
   subst hk9
   rw [List.take_length] at hD8
   have:=hK w8 o8 S8 h8 p8 hD8 ⟨y2++y8,by rw [hy8,hy2,List.append_assoc]⟩ (tr (EvC.below hb1) e8)
   rw [hfinp ⟨y8,hy8⟩] at this
   exact this
  ·have hk9:k < kids.length:=by omega
   have hk10:k < es.length:=by omega
   obtain⟨r1,r2,⟨ks,r4⟩,r5,r6⟩:=WK k hk8
   have hsnoc:=makesF_snoc (x:=kids[k]) (h:=hh0) (i:=i) (kids.take k) sl7
   generalize hslk:makesF (kids.take k) hh0 i sl7=slk at *
   have hsl8:S8.D.sl=slk:=by rw [hD8]
   have hro8:S8.D.roots=S.D.roots:=by rw [hD8]
   rw [List.nil_append] at r4
   have hs8:slA S8.D.sl hh0=some ⟨g,true,1,nm,attrs,noB,p,ks⟩:=by rw [hsl8];exact r4
   refine hr8.e5 t6 rfl (k:=k) hk10 fun bb oo c0 c1 c2 c3 c4=>?_
   simp only [Addr.add_mk,Nat.zero_add,c0,c1,c2,c3,c4,lds]
   refine al fun kb w9 hb9 bk9 hge9=>?_
   refine st_blk bk9 (by simp) fun u1 q1 f1=>st_blk q1 (by simp) fun u2 q2 f2=>st_blk q2 (by simp) fun u3 q3 f3=>st_blk q3 (by simp) fun u4 q4 f4=>st_blk q4 (by simp) fun w10 q5 f5=>?_
   simp only [List.setIfInBounds_toArray,List.set_cons_zero,List.set_cons_succ] at q5
   have FK:Fm (·=kb) w9 w10:=(((f1.trans f2).trans f3).trans f4).trans f5
   have D10:Below w8.heap.size w8 w10:=hb9.trans (FK.toBelow hb9.size fun b hb e=>by have e:b=kb:=e;omega)
   have D10d:Below w8.heap.size w8 w10.drew:=btr D10 D10.size ((Below.refl _ _).drew)
   have h10:=h8.below D10d
   obtain⟨i8,i8a,i8b,i8c,i8d⟩:=h10.of hs8
   obtain rfl:i=i8:=by omega
   have hpb8:pb S8.bs hh0=b:=hfin ⟨y8,hy8⟩
   rw [hpb8] at i8b
   obtain⟨v,cv,ov,rv,lv⟩:=h10.list (.inr i8d)
   have hlad:lad θ.g S8.bs hh0=⟨b,8,none⟩:=by unfold lad;rw [if_neg hne,hpb8]
   rw [hlad] at cv
   have okb:o8 kb=0:=Classical.byContradiction fun h0=>by have:=h8.lt kb h0;omega
   simp only [Addr.add_mk,Nat.zero_add,NonNil_some]
   refine⟨fun w'=>w'.cell? ⟨b,8,none⟩=some (slV v)∧Blk w' kb #[.int .i64 es[k].kind,.string es[k].nm,slV es[k].ats,.string es[k].text,slV es[k].kids] 84,⟨cv,q5⟩,?_⟩
   refine⟨_,_,_,fun w' hw'=>hw'.1,?_⟩
   refine⟨_,fun w' hw'=>by rw [hw'.2.cell];rfl,?_⟩
   refine⟨_,fun w' hw'=>by rw [hw'.2.cell];rfl,?_⟩
   refine⟨_,_,_,fun w' hw'=>by rw [hw'.2.cell];rfl,?_⟩
   refine⟨_,fun w' hw'=>by rw [hw'.2.cell];rfl,?_⟩
   refine⟨_,_,_,fun w' hw'=>by rw [hw'.2.cell];rfl,?_⟩
   have hdk:=dpL_get kids k hk9
   have hzk:=szL_get kids k hk9
   have hA8:WfA (slA S8.D.sl) S8.D.roots (hh0 :: loose):=by rw [hsl8,hro8];exact r2
   have hw8:WfS S8.D.sl:=by rw [hsl8];exact r1
   have hck:Ch (slA S8.D.sl) hh0 (c+1):=by
    rw [hsl8]
    exact .succ hne r4 (hc.mono fun y t hy=>⟨t,r6 y t hy,rfl⟩)
   have om1:c+1+dpT kids[k]≤64:=by omega
   have om2:tk S8.D.sl+szT kids[k]≤4096:=by rw [hsl8];omega
   have key:=fun R=>ih kids[k] (List.getElem_mem hk9) (w:=w10.drew) (o:=o8) (S:=S8) (p:=hh0) (c:=c+1) (loose:=hh0 :: loose) (e:=es[k]) (R:=R) h10 p8 (okL_get kids k hk9 (ok3 hkk)) hw8 hA8 (.inr ⟨_,hs8,rfl⟩) hck om1 om2
    (RTr.sub (EvP.sub (EvC.below D10d)) _ _ (RTr.sub hsub8 _ _ (t8.get k hk9 hk10)))
   rw [hfinp ⟨y8,hy8⟩] at key
   refine key _ fun w11 o11 S11 h11 p11 hD11 ⟨y11,hy11⟩ e11=>⟨_,rfl,?_⟩
   clear key
   have hlive8:∃s,S8.D.sl[i]?=some s∧s.live=true:=⟨_,i8c,slA_live hs8⟩
   have hbk:w11.heap[b]?=w10.drew.heap[b]?:=e11.fm.block b (Array.getElem?_eq_some_iff.1 (h10.nodes i b _ i8b i8c).choose_spec.choose_spec.blk).1 (by
    rw [h10.nc i b i8b]
    rintro ⟨_,hc⟩
    exact hc i _ i8c (slA_live hs8) rfl)
   have hcell:w11.cell? ⟨b,8,none⟩=some (slV v):=by
    rw [←cv];unfold World.cell?;rw [hbk]
   have hkb:Blk w11 kb #[.int .i64 es[k].kind,.string es[k].nm,slV es[k].ats,.string es[k].text,slV es[k].kids] 84:=e11.fm.blk (show Blk w10.drew kb _ _ from q5) (by rw [okb];exact Cl_zero)
   have Mk:=make_wf kids[k] (okL_get kids k hk9 (ok3 hkk)) hw8 hA8 (.inr ⟨_,hs8,rfl⟩) hck om1 om2
   have hne2:freshH S8.D.sl≠0:=by unfold freshH hnd;omega
   have hptr:ptrH S11.bs (freshH S8.D.sl)=some ⟨pb S11.bs (freshH S8.D.sl),0,none⟩:=by unfold ptrH;rw [if_neg hne2]
   rw [hptr]
   have hsl11:S11.D.sl=makeF kids[k] hh0 S8.D.sl:=by rw [hD11]
   have hro11:S11.D.roots=S.D.roots:=by rw [hD11,hD8]
   have hs11:slA S11.D.sl hh0=some ⟨g,true,1,nm,attrs,noB,p,ks⟩:=by rw [hsl11];exact Mk.ext _ _ hs8
   obtain⟨i11,i11a,i11b,i11c,i11d⟩:=h11.of hs11
   obtain rfl:i=i11:=by omega
   have hpb11:pb S11.bs hh0=b:=hfin ⟨y8++y11,by rw [hy11,hy8,List.append_assoc]⟩
   rw [hpb11] at i11b
   obtain⟨v11,cv11,ov11,rv11,lv11⟩:=h11.list (.inr i11d)
   have hlad11:lad θ.g S11.bs hh0=⟨b,8,none⟩:=by unfold lad;rw [if_neg hne,hpb11]
   rw [hlad11,hcell] at cv11
   have hvv:v11=v:=by
    obtain⟨a1,a2,a3⟩:=v
    obtain⟨c1,c2,c3⟩:=v11
    unfold slV at cv11
    simp only [Option.some.injEq,Value.slice.injEq] at cv11
    obtain⟨rfl,rfl,rfl⟩:=cv11
    rfl
   subst hvv
   have hlst:lstR S11.D hh0=ks:=by
    unfold lstR
    rw [if_neg hne,hh,Nat.add_sub_cancel,i11c]
   rw [hlst] at ov11
   refine⟨⟨hcell,hkb⟩,al fun g57 w12 hb12 b57 hge57=>⟨⟨by rw [(sub_below hb12).cell hcell],hkb.keep hb12⟩,?_⟩⟩
   obtain⟨A9,c9,hv9,hr9⟩:=ov11.form
   have hlen9:(ks.map (pb S11.bs)).length=ks.length:=List.length_map _
   have hks4:ks.length≤S8.D.sl.length:=live_few (fun x hx=>by
    obtain⟨_,t,ht,_⟩:=(hA8.kid hh0 _ hs8).2 x hx
    exact⟨t,ht⟩) (hA8.kid hh0 _ hs8).1
   have hfew8:=h8.few
   have hO12:Own LPt w12 0 152 (slV v11) (ks.map (pb S11.bs)):=ov11.keep hb12
   refine ap (L:=LPt) (xs:=ks.map (pb S11.bs)) (ys:=[pb S11.bs (freshH S8.D.sl)]) (base:=0) (v:=slV v11) (.pointer none) 8 rfl (by kernel_rfl) (by kernel_rfl) (by kernel_rfl) hO12 ?_ (Nat.zero_le _) (by rw [hlen9];simp;omega) (by rw [hlen9];simp [maxLen];omega) fun A' c' w13 o13 g13=>⟨A',_,c',rfl,?_⟩
   ·refine⟨by simp,by simp [maxLen],fun h0=>(by cases h0),fun _=>⟨g57,0,rfl,fun j u hj=>?_⟩⟩
    rw [LPt.all_one] at hj
    rw [b57.cell];simpa [LPt] using hj
   ·obtain⟨st,hst,hstp⟩:=Mk.top
    have hst11:slA S11.D.sl (freshH S8.D.sl)=some st:=by rw [hsl11];exact hst
    have F13:Fm (fun x=>rowOf (slV v11)=some x) w11 w13:=(Fm.below hb12).trans (Fm.grown g13.grown fun x hx=>hx)
    have hrow13:rowOf (slV (A',(ks.map (pb S11.bs)).length+[pb S11.bs (freshH S8.D.sl)].length,c'))=rowOf (slV v11)∨rowOf (slV (A',(ks.map (pb S11.bs)).length+[pb S11.bs (freshH S8.D.sl)].length,c'))=none∨∃g,rowOf (slV (A',(ks.map (pb S11.bs)).length+[pb S11.bs (freshH S8.D.sl)].length,c'))=some g∧w11.heap.size≤g:=by
     rcases g13.row with e | e | ⟨g,e,hge⟩
     ·exact .inl e
     ·exact .inr (.inl e)
     ·exact .inr (.inr ⟨g,e,by have:=hb12.size;omega⟩)
    have hkin:∀x∈ks++[freshH S8.D.sl],inN S11.D.sl.length x:=fun x hx=>by
     rcases List.mem_append.1 hx with hx | hx
     ·exact (h11.rng _ (List.mem_of_getElem? i11c)).kids x hx
     ·rw [List.mem_singleton] at hx
      subst hx
      obtain⟨_,_,_,_,hin⟩:=h11.of hst11
      exact hin
    have hst14:=fun K=>h11.setList (K:=K) (p:=hh0) (v':=(A',(ks.map (pb S11.bs)).length+[pb S11.bs (freshH S8.D.sl)].length,c')) (l:=ks++[freshH S8.D.sl]) (.inr i11d) rv11 F13 (by rw [List.map_append];exact o13) hrow13 ⟨hkin,by simp;omega⟩
    rw [hlad11] at hst14
    refine hst14 _ fun w14 o14 h14 e14=>⟨inR_i64 (by omega) (by omega),⟨k+1,o14,_,by simp,by omega,h14,?_,?_,⟨y8++y11,?_⟩,?_⟩,(by first | omega | (dsimp only;omega))⟩
    ·-- the counters
     have hi11:=i11c
     have e5:(setI S11.D hh0 (ks++[freshH S8.D.sl])).sl=S11.D.sl.set i ⟨g,true,1,nm,attrs,noB,p,ks++[freshH S8.D.sl]⟩:=by
      unfold setI
      rw [if_neg hne,hh,Nat.add_sub_cancel,modify_set _ _ _ _ hi11]
     have e6:(setI S11.D hh0 (ks++[freshH S8.D.sl])).roots=S11.D.roots:=by
      unfold setI
      rw [if_neg hne]
     have:=p11.set (s':=⟨g,true,1,nm,attrs,noB,p,ks++[freshH S8.D.sl]⟩) hi11 rfl rfl
     refine⟨?_,?_,?_,?_⟩
     ·show S11.lv=liveN (setI _ _ _).sl;rw [e5];exact this.lv
     ·show S11.wn=wornN (setI _ _ _).sl;rw [e5];exact this.wn
     ·show S11.lo≤(setI _ _ _).sl.length;rw [e5];exact this.lo
     ·intro j t hj ht
      have ht:(setI S11.D hh0 (ks++[freshH S8.D.sl])).sl[j]?=some t:=ht
      rw [e5] at ht
      exact this.lo2 j t hj ht
    ·show setI S11.D hh0 (ks++[freshH S8.D.sl])=_
     rw [List.take_succ_eq_append_getElem hk9,hsnoc]
     unfold setI
     rw [if_neg hne,hh,Nat.add_sub_cancel]
     have hi8:(makeF kids[k] hh0 slk)[i]?=some ⟨g,true,1,nm,attrs,noB,p,ks⟩:=by rw [←hsl8,←hsl11];exact i11c
     rw [hD11,hD8]
     dsimp only
     rw [modify_set _ _ _ _ hi8,modify_set _ _ _ _ hi8]
    ·show S11.bs=_
     rw [hy11,hy8,List.append_assoc]
    ·have hC:∀b,b < w1.heap.size→Cl S8 (o b)→Cl S (o b):=fun x _ hx=>⟨hx.1,fun j t hj hl=>by
      have hjl:j+1 < 4294967296:=by
       have:=(List.getElem?_eq_some_iff.1 hj).1
       have:=hw.few
       omega
      have h1:=r6 _ _ (slA_hnd hjl hj hl)
      rw [←hsl8] at h1
      obtain⟨j',j1,j2,j3,j4⟩:=slA_iff.1 h1
      rw [hnd_mod hjl] at j1
      obtain rfl:j'=j:=by omega
      exact hx.2 j' t j2 j3⟩
     have e18:=(e8.trans Cl_zero h1.lt (fun _ _ h=>h) (EvC.below (C:=Cl S) D10d)).trans Cl_zero h1.lt hC e11
     exact e18.trans Cl_zero h1.lt (fun x _ hx=>by
      refine nd ?_
      unfold lcC at hx
      rw [if_neg hne,hh,Nat.add_sub_cancel] at hx
      exact hx) e14
end
set_option maxRecDepth 100000
section
variable {w w1 w2:World}{o o1 o2:Nat→Nat}{θ:Th}{S:PS}{M:Nat→Prop}{bs:List Nat}{R:Ending→World→Prop}
theorem ptrL_H (h0:slA S.D.sl 0=none) {x:Nat} (hx:x=0∨∃s,slA S.D.sl x=some s):ptrL S x=ptrH S.bs x:=by
 unfold ptrL ptrH
 rcases hx with rfl | ⟨s,hs⟩
 ·rw [h0];simp
 ·have:x≠0:=fun e=>by subst e;rw [h0] at hs;cases hs
  rw [hs,if_neg this];simp
theorem lstI_R {p:Nat} (hp:p=0∨∃s,slA S.D.sl p=some s):lstR S.D p=lstI S.D p:=by
 unfold lstR lstI lstA
 by_cases h0:p=0
 ·rw [if_pos h0,if_pos h0]
 ·rw [if_neg h0,if_neg h0]
  obtain⟨s,hs⟩:=hp.resolve_left h0
  obtain⟨k,h1,h2,_⟩:=slA_iff.1 hs
  rw [h1,Nat.add_sub_cancel,h2,hs]
theorem pb_inj (h:PM w o θ S) {x y:Nat}{s t:Sl} (hx:slA S.D.sl x=some s) (hy:slA S.D.sl y=some t) (e:pb S.bs x=pb S.bs y):x=y:=by
 obtain⟨i,i1,i2,i3,_⟩:=h.of hx
 obtain⟨j,j1,j2,j3,_⟩:=h.of hy
 rw [e] at i2
 obtain rfl:=nodup_col h i2 j2
 obtain⟨i',a1,a2,a3,a4⟩:=slA_iff.1 hx
 obtain⟨j',b1,b2,b3,b4⟩:=slA_iff.1 hy
 obtain rfl:i'=i:=by omega
 obtain rfl:j'=i':=by omega
 rw [a2] at b2;cases b2
 exact a4.symm.trans b4
theorem idxOf_map {f:Nat→Nat}{a:Nat}:∀{l:List Nat},(∀x∈l,f x=f a→x=a)→(l.map f).idxOf (f a)=l.idxOf a
 | [],_=>rfl
 | x :: l,h=>by
  rw [List.map_cons,List.idxOf_cons,List.idxOf_cons]
  by_cases e:x=a
  ·subst e;simp
  ·have h1:f x≠f a:=fun e2=>e (h x (by simp) e2)
   have e1:(f x == f a)=false:=by simpa using h1
   have e2:(x == a)=false:=by simpa using e
   rw [e1,e2]
   simp only [cond_false]
   rw [idxOf_map fun y hy=>h y (by simp [hy])]
theorem take_drop_erase {a:Nat}:∀{l:List Nat},a∈l→l.take (l.idxOf a)++l.drop (l.idxOf a+1)=l.erase a
 | [],h=>by simp at h
 | x :: l,h=>by
  rw [List.idxOf_cons,List.erase_cons]
  by_cases e:x=a
  ·subst e;simp
  ·have e2:(x == a)=false:=by simpa using e
   rw [e2]
   simp only [cond_false,List.take_succ_cons,List.drop_succ_cons,List.cons_append,Bool.false_eq_true,if_false]
   rw [take_drop_erase ((List.mem_cons.1 h).resolve_left (Ne.symm e))]
theorem pb_cells (h:PM w o θ S) {x:Nat}{s:Sl} (hx:slA S.D.sl x=some s):∃c t,w.heap[pb S.bs x]?=some (.cells c t (0,0)):=by
 obtain⟨i,i1,i2,i3,_⟩:=h.of hx
 obtain⟨a,kv,hn⟩:=h.nodes _ _ _ i2 i3
 exact⟨_,_,hn.blk⟩
theorem idxH_calls (h:PM w o θ S) {l:List Nat}{v:Sv}{a:Nat}{s:Sl} (hv:v.2.1=l.length) (hr:Rd LPt w v.1 v.2.2 (l.map (pb S.bs))) (hl:l.length≤1048576) (ha:slA S.D.sl a=some s) (hll:∀x∈l,∃t,slA S.D.sl x=some t) (hm:a∈l)
  (hK:R (.returned (.int .i64 (l.idxOf a:Nat))) w):Calls Tryz.prog 160 #[slV v,.pointer (some ⟨pb S.bs a,0,none⟩)] w R:=by
 refine idx_calls (l:=l.map (pb S.bs)) (by rw [List.length_map];exact hv) hr (by rw [List.length_map];exact hl) (fun x hx=>?_) (List.mem_map.2 ⟨a,hm,rfl⟩) ?_
 ·rcases hx with rfl | hx
  ·exact pb_cells h ha
  ·obtain⟨y,hy,rfl⟩:=List.mem_map.1 hx
   obtain⟨t,ht⟩:=hll y hy
   exact pb_cells h ht
 ·rw [idxOf_map fun x hx e=>?_]
  ·exact hK
  ·obtain⟨t,ht⟩:=hll x hx
   exact pb_inj h ht ha e
theorem put_calls (h:PM w o θ S) {n p a:Nat}{wh:Int}{s:Sl} (hn:slA S.D.sl n=some s) (hp:p=0∨∃t,slA S.D.sl p=some t) (hll:∀x∈lstI S.D p,∃t,slA S.D.sl x=some t) (hfew:(lstI S.D p).length≤4096)
  (ha:2 < wh→a∈lstI S.D p) (hnp:n≠p)
  (hK:∀w' o',PM w' o' θ { S with D:=updI (putI S.D n p wh a) n fun s=>{ s with parent:=p } }→EvP w o w' o'→R (.returned (.tuple #[])) w') :
  Calls Tryz.prog 123 #[.pointer (some ⟨θ.g,0,none⟩),.pointer (some ⟨pb S.bs n,0,none⟩),.pointer (ptrH S.bs p),.int .i64 wh,.pointer (ptrH S.bs a)] w R:=by
 obtain⟨i,i1,i2,i3,i4⟩:=h.of hn
 have hpn:p=0∨inN S.D.sl.length p:=by
  rcases hp with e | ⟨t,ht⟩
  ·exact .inl e
  ·obtain⟨_,_,_,_,hin⟩:=h.of ht;exact .inr hin
 refine ok123 (some ⟨θ.g,0,none⟩) (some ⟨pb S.bs n,0,none⟩) (ptrH S.bs p) wh (ptrH S.bs a) ?_
 unfold F123
 refine list_calls ⟨_,rfl,?_⟩
 obtain⟨v,cv,ov,rv,lv⟩:=h.list hpn
 rw [lstI_R hp] at ov lv
 generalize hL:lstI S.D p=l at *
 obtain⟨A,c,hv,hr⟩:=ov.form
 have hv2:v=(A,l.length,c):=by
  obtain⟨a1,a2,a3⟩:=v
  unfold slV at hv
  simp only [Value.slice.injEq,List.length_map] at hv
  obtain⟨rfl,rfl,rfl⟩:=hv
  rfl
 have cv':w.cell? (lad θ.g S.bs p)=some (.slice A l.length c):=by rw [cv,hv2];rfl
 rw [hv2] at ov rv
 have hpos:posF wh a l≤l.length:=by
  unfold posF
  split
  ·omega
  ·split
   ·exact List.idxOf_le_length
   ·split
    ·have:=List.idxOf_lt_length_iff.2 (ha (by omega));omega
    ·omega
 refine⟨fun j w'=>w=w'∧j=(posF wh a l:Nat),?_,?_⟩
 ·rintro j _ ⟨rfl,rfl⟩
  unfold F123_j9
  simp only [NonNil_some,cv',LdSl_some]
  refine al fun gx w1 hb1 bx hgex=>?_
  have h1:=h.below hb1
  refine insP_calls (x:=pb S.bs n) (ov.keep hb1) (by rw [List.length_map];exact hpos) bx rfl (fun e=>by
   have:=rv gx e
   have:=h.lt gx (by unfold lcl at this;split at this <;> omega)
   omega) (by rw [List.length_map];omega) fun v' w2 o2 f2 r2=>⟨_,_,_,rfl,?_⟩
  rw [←List.map_take,←List.map_drop,←List.map_cons,←List.map_append] at o2
  refine h1.setList (v':=v') (l:=insAt l (posF wh a l) n) hpn rv f2 o2 r2 ⟨fun x hx=>?_,?_⟩ fun w3 o3 h3 e3=>?_
  ·rcases mem_insAt.1 hx with rfl | hx
   ·exact i4
   ·obtain⟨t,ht⟩:=hll x hx
    obtain⟨_,_,_,_,hin⟩:=h.of ht
    exact hin
  ·unfold insAt;simp;omega
  ·have e4:slA (setI S.D p (insAt l (posF wh a l) n)).sl n=some s:=by
    rw [(setI_A (l:=insAt l (posF wh a l) n) hp).1,setA_of hn,if_neg (fun e=>hnp e.1)]
   obtain⟨j,j1,j2,j3,j4⟩:=h3.of e4
   obtain rfl:i=j:=by omega
   simp only [NonNil_some,Addr.add_mk,Nat.zero_add]
   have hlen3:(setI S.D p (insAt l (posF wh a l) n)).sl.length=S.D.sl.length:=by
    unfold setI;split
    ·rfl
    ·simp
   have:=fun K=>h3.stPar (K:=K) j2 j3 (p:=p) (by dsimp only;rw [hlen3];exact hpn)
   refine this _ fun w4 h4 e4'=>?_
   refine hK w4 o3 ?_ (EvP.trans (EvP.trans (EvC.below hb1) (e3.mono fun c hc=>?_)) (e4'.mono fun c hc=>?_))
   ·have e5:({ S with D:=setI S.D p (insAt l (posF wh a l) n) }:PS).setS i { s with parent:=p }={ S with D:=updI (putI S.D n p wh a) n fun s=>{ s with parent:=p } }:=by
     unfold PS.setS updI putI
     rw [hL,i1,Nat.add_sub_cancel,modify_set _ _ _ _ j3]
    rw [←e5];exact h4
   ·unfold lcC at hc
    unfold pc
    split at hc <;> omega
   ·unfold pc;omega
 ·refine bre (fun h2=>?_) (fun h2=>bre (fun h3=>?_) (fun h3=>bre (fun h4=>?_) (fun h4=>?_)))
  ·simp only [NonNil_some,cv',LdSl_some]
   exact⟨trivial,by unfold posF;rw [if_pos h2]⟩
  ·simp only [NonNil_some,cv',LdSl_some]
   have ham:=ha (by omega)
   obtain⟨t,ht⟩:=hll a ham
   have a0:ptrH S.bs a=some ⟨pb S.bs a,0,none⟩:=by
    unfold ptrH;rw [if_neg]
    rintro rfl;rw [slA_zero] at ht;cases ht
   rw [a0]
   refine idxH_calls (v:=(A,l.length,c)) h rfl hr lv ht hll ham ⟨_,rfl,rfl,?_⟩
   unfold posF;rw [if_neg h2,if_pos h3]
  ·simp only [NonNil_some,cv',LdSl_some]
   have ham:=ha (by omega)
   obtain⟨t,ht⟩:=hll a ham
   have a0:ptrH S.bs a=some ⟨pb S.bs a,0,none⟩:=by
    unfold ptrH;rw [if_neg]
    rintro rfl;rw [slA_zero] at ht;cases ht
   rw [a0]
   have hlt:=List.idxOf_lt_length_iff.2 ham
   refine idxH_calls (v:=(A,l.length,c)) h rfl hr lv ht hll ham ⟨_,rfl,inR_i64 (by omega) (by omega),rfl,?_⟩
   unfold posF;rw [if_neg h2,if_neg h3,if_pos h4];omega
  ·exact⟨rfl,by unfold posF;rw [if_neg h2,if_neg h3,if_neg h4];rfl⟩
end
set_option maxRecDepth 100000
theorem Tabs.sub {w w1:World} (h:Tabs w) (hs:Sub w w1):Tabs w1:=⟨fun c hc=>hs.cell (h.1 c hc),fun i hi=>⟨hs.cell (h.2 i hi).1,hs.cell (h.2 i hi).2⟩⟩
theorem looks_app:∀(l m:List Tr) (deep n:Nat),looksF (l++m) deep n=if (looksF l deep n).2≠0 then looksF l deep n else looksF m deep (looksF l deep n).1
 | [],m,deep,n=>by simp [looksF]
 | x :: l,m,deep,n=>by
  rw [List.cons_append,looksF]
  conv=>rhs;rw [looksF]
  by_cases h:(lookF x deep n).2≠0
  ·simp only [if_pos h]
  ·simp only [if_neg h]
   exact looks_app l m deep _
theorem dpL_snoc (l:List Tr) (x:Tr):dpL (l++[x])=max (dpL l) (dpT x):=by
 induction l with
 | nil=>simp [dpL]
 | cons y l ih=>simp only [List.cons_append,dpL,ih];omega
theorem subB {w w':World}{gl:Nat} (hf:Fm (·=gl) w w'):Sub (but gl w) (but gl w') :=
 sub_only (fun b _ h=>h) fun b hb h=>hf.block b hb fun e=>by
  have e:b=gl:=e
  subst e
  rw [show Nat.beq b b=true from Nat.beq_refl b] at h;cases h
theorem look_calls:∀(x:Tr) {w:World}{gl deep n md:Nat}{e:E5}{R:Ending→World→Prop},Blk w gl #[.int .i64 (n:Nat),.int .i64 (md:Nat)] 222→RTr (but gl w) x e→Tabs (but gl w)→n≤4096→deep≤65→1≤deep→md≤65 →
  (∀w' n' md',Fm (·=gl) w w'→Blk w' gl #[.int .i64 (n':Nat),.int .i64 (md':Nat)] 222→n'=(lookF x deep n).1→((lookF x deep n).2=0→md'=max md (deep+dpT x-1))→R (.returned (.int .i64 (lookF x deep n).2)) w') →
  Calls Tryz.prog 120 #[.pointer (some ⟨gl,0,none⟩),.agg #[.int .i64 e.kind,.string e.nm,slV e.ats,.string e.text,slV e.kids],.int .i64 (deep:Nat)] w R:=by
 refine Tr.ind fun kind nm attrs text kids ih=>?_
 intro w gl deep n md e R hB hT hTb hn hd hd1 hmd hK
 have hT0:=hT
 simp only [RTr] at hT
 obtain⟨t1,t2,t3,t4,t5,es,t6,t7,t8⟩:=hT
 have hel:=t8.len
 refine ok120 (some ⟨gl,0,none⟩) e.kind e.nm e.ats.1 e.ats.2.1 e.ats.2.2 e.text e.kids.1 e.kids.2.1 e.kids.2.2 (deep:Nat) ?_
 unfold F120
 refine al fun g4 w1 hb1 b4 hge4=>?_
 have hgl:=hB.lt
 have hB1:=hB.keep hb1
 have hne4:g4≠gl:=by omega
 have hlook:lookF (.mk kind nm attrs text kids) deep n=if 64 < deep∨4096≤n then (n,2) else if ownF kind nm attrs text≠0 then (n,ownF kind nm attrs text) else if kind=2 then (n+1,0) else looksF kids (deep+1) (n+1):=by rw [lookF]
 refine⟨fun w'=>w1=w'∧¬(64 < deep∨4096≤n),?_,?_⟩
 ·rintro _ ⟨rfl,hlim⟩
  rw [if_neg hlim] at hlook
  unfold F120_j3
  simp only [Addr.add_mk,Nat.zero_add,NonNil_some,b4.cell,lds]
  have hs1:Sub (but gl w) (but gl w1):=subB (.below hb1)
  refine own1_calls e.kind e.nm attrs e.ats e.text e.kids ((hTb.sub hs1).sub sub_of_only) ((t4.sub hs1).sub sub_of_only) fun w2 hb2=>⟨_,rfl,?_⟩
  rw [t1,t2,t3]
  have hB2:=hB1.keep hb2
  have b42:=b4.keep hb2
  refine brn (fun hne=>?_) (fun heq=>?_)
  ·rw [if_pos hne] at hlook
   have:=hK w2 n md (.below (btr hb1 hb1.size hb2)) hB2 (by rw [hlook]) (fun h=>by rw [hlook] at h;exact absurd h hne)
   rw [hlook] at this;exact this
  rw [if_neg (by rw [heq];simp)] at hlook
  simp only [Addr.add_mk,Nat.zero_add,NonNil_some,hB2.cell,lds]
  have e5:((n:Nat):Int)+1=((n+1:Nat):Int):=by omega
  rw [e5]
  refine⟨inR_i64 (by omega) (by omega),st_blk hB2 (by simp) fun w3 hB3 f3=>?_⟩
  simp only [List.setIfInBounds_toArray,List.set_cons_zero,List.set_cons_succ] at hB3
  simp only [Addr.add_mk,Nat.zero_add,NonNil_some,hB3.cell,lds]
  refine st_blk hB3 (by simp) fun w4 hB4 f4=>?_
  simp only [List.setIfInBounds_toArray,List.set_cons_zero,List.set_cons_succ] at hB4
  have e6:(if ((deep:Nat):Int) > ((md:Nat):Int) then ((deep:Nat):Int) else ((md:Nat):Int))=((max md deep:Nat):Int):=by
   split <;> omega
  rw [e6] at hB4
  have F4:Fm (·=gl) w w4:=((Fm.below (btr hb1 hb1.size hb2)).trans f3).trans f4
  have b44:Blk w4 g4 _ 84:=(f3.trans f4).blk b42 (fun e=>hne4 e)
  simp only [Addr.add_mk,Nat.zero_add,NonNil_some,b44.cell,lds]
  have hpos:dpT (.mk kind nm attrs text kids)=if kind=2 then 1 else 1+dpL kids:=by rw [dpT]
  refine bre (fun hk=>?_) (fun hk=>?_)
  ·rw [if_pos (by rw [←t1];exact hk)] at hlook hpos
   have:=hK w4 (n+1) (max md deep) F4 hB4 (by rw [hlook]) (fun _=>by rw [hpos];omega)
   rw [hlook] at this;exact this
  ·rw [if_neg (by rw [←t1];exact hk)] at hlook hpos
   refine⟨fun j w'=>∃k n' md':Nat,j=k∧k≤kids.length∧Fm (·=gl) w w'∧Blk w' gl #[.int .i64 (n':Nat),.int .i64 (md':Nat)] 222∧(looksF (kids.take k) (deep+1) (n+1)).2=0∧n'=(looksF (kids.take k) (deep+1) (n+1)).1∧md'=max (max md deep) (deep+dpL (kids.take k))∧n'≤4096∧md'≤65,fun j _=>kids.length-j.toNat,
    ⟨0,n+1,max md deep,rfl,by omega,F4,hB4,by simp [looksF],by simp [looksF],by simp [dpL],by omega,by omega⟩,?_⟩
   rintro j w5 ⟨k,n5,md5,rfl,hk5,F5,hB5,q1,q2,q3,q4,q5⟩
   unfold F120_l11
   have hs5:Sub (but gl w) (but gl w5):=subB F5
   have hr5:Rd LE5 w5 e.kids.1 e.kids.2.2 es:=sub_of_only.rd (hs5.rd t7)
   refine brd (fun hlt=>?_) (fun hge=>?_)
   ·have hk6:k < kids.length:=by omega
    have hk7:k < es.length:=by omega
    refine hr5.e5 t6 rfl (k:=k) hk7 fun bb oo c0 c1 c2 c3 c4=>?_
    simp only [Addr.add_mk,Nat.zero_add,c0,c1,c2,c3,c4,lds]
    refine al fun kb w6 hb6 bk6 hge6=>?_
    refine st_blk bk6 (by simp) fun u1 s1 f1=>st_blk s1 (by simp) fun u2 s2 f2=>st_blk s2 (by simp) fun u3 s3 f3=>st_blk s3 (by simp) fun u4 s4 f4=>st_blk s4 (by simp) fun w7 s5 f5=>?_
    simp only [List.setIfInBounds_toArray,List.set_cons_zero,List.set_cons_succ] at s5
    have FK:Fm (·=kb) w6 w7:=(((f1.trans f2).trans f3).trans f4).trans f5
    have D7:Below w5.heap.size w5 w7:=hb6.trans (FK.toBelow hb6.size fun b hb e=>by have e:b=kb:=e;omega)
    simp only [Addr.add_mk,Nat.zero_add,NonNil_some,s5.cell,lds]
    have e8:((deep:Nat):Int)+1=((deep+1:Nat):Int):=by omega
    rw [e8]
    have hs7:Sub (but gl w) (but gl w7):=hs5.trans (subB (.below D7))
    refine⟨inR_i64 (by omega) (by omega),?_⟩
    refine ih kids[k] (List.getElem_mem hk6) (gl:=gl) (n:=n5) (md:=md5) (e:=es[k]) (hB5.keep D7) (RTr.sub hs7 _ _ (t8.get k hk6 hk7)) (hTb.sub hs7) q4 (by omega) (by omega) q5 fun w8 n8 md8 F8 hB8 z1 z2=>⟨_,rfl,?_⟩
    have F58:Fm (·=gl) w w8:=(F5.trans (.below D7)).trans F8
    have hst:=looks_app (kids.take k) [kids[k]] (deep+1) (n+1)
    rw [if_neg (by rw [q1];simp),←q2] at hst
    have hst2:looksF [kids[k]] (deep+1) n5=lookF kids[k] (deep+1) n5:=by
     rw [looksF]
     by_cases h:(lookF kids[k] (deep+1) n5).2≠0
     ·rw [if_pos h]
     ·rw [if_neg h,looksF]
      have h:(lookF kids[k] (deep+1) n5).2=0:=by simpa using h
      rw [←h]
    rw [hst2,←List.take_succ_eq_append_getElem hk6] at hst
    refine brn (fun hne=>?_) (fun heq=>?_)
    ·have hall:=looks_app (kids.take (k+1)) (kids.drop (k+1)) (deep+1) (n+1)
     rw [List.take_append_drop,hst,if_pos hne] at hall
     rw [hall] at hlook
     have:=hK w8 n8 md8 F58 hB8 (by rw [hlook];exact z1) (fun h=>by rw [hlook] at h;exact absurd h hne)
     rw [hlook] at this;exact this
    ·obtain⟨a1,a2,a3,a4⟩:=look_ok kids[k] (deep+1) n5 heq
     have z2:=z2 heq
     refine⟨inR_i64 (by omega) (by omega),⟨k+1,n8,md8,by simp,by omega,F58,hB8,by rw [hst];exact heq,by rw [hst];exact z1,?_,by omega,by omega⟩,(by first | omega | (dsimp only;omega))⟩
     rw [List.take_succ_eq_append_getElem hk6,dpL_snoc]
     omega
   ·have hk6:k=kids.length:=by omega
    subst hk6
    rw [List.take_length] at q1 q2 q3
    have:=hK w5 n5 md5 F5 hB5 (by rw [hlook];exact q2) (fun _=>by rw [hpos];omega)
    rw [hlook,q1] at this;exact this
 ·have hbad:(64 < deep∨4096≤n)→R (.returned (.int .i64 2)) w1:=fun h=>by
   rw [if_pos h] at hlook
   have:=hK w1 n md (.below hb1) hB1 (by rw [hlook]) (fun h=>by rw [hlook] at h;cases h)
   rw [hlook] at this;exact this
  refine brd (fun h=>hbad (.inl (by omega))) (fun h=>?_)
  simp only [Addr.add_mk,Nat.zero_add,NonNil_some,hB1.cell,lds]
  exact brd (fun h2=>hbad (.inr (by omega))) (fun h2=>⟨trivial,by omega⟩)
section
variable {w w1 w2:World}{o o1 o2:Nat→Nat}{θ:Th}{S:PS}{M:Nat→Prop}{bs:List Nat}{R:Ending→World→Prop}
end
set_option maxRecDepth 100000
section
variable {w w1 w2:World}{o o1 o2:Nat→Nat}{θ:Th}{S:PS}{M:Nat→Prop}{bs:List Nat}{R:Ending→World→Prop}
theorem lst_live {loose:List Nat} (hA:WfA (slA S.D.sl) S.D.roots loose) (p:Nat):∀x∈lstI S.D p,∃t,slA S.D.sl x=some t:=fun x hx=>by
 obtain⟨_,t,ht,_⟩:=(hA.lst p).2 x hx
 exact⟨t,ht⟩
theorem lst_few {loose:List Nat} (hw:WfS S.D.sl) (hA:WfA (slA S.D.sl) S.D.roots loose) (p:Nat):(lstI S.D p).length≤4096 :=
 Nat.le_trans (live_few (lst_live hA p) (hA.lst p).1) hw.few
theorem upd_same {D:Im}{n:Nat}{f:Sl→Sl}{s:Sl} (hn:slA D.sl n=some s) (hf:f s=s):updI D n f=D:=by
 obtain⟨k,h1,h2,_⟩:=slA_iff.1 hn
 unfold updI
 rw [h1,Nat.add_sub_cancel,modify_set _ _ _ _ h2,hf]
 have:D.sl.set k s=D.sl:=by
  refine List.ext_getElem? fun j=>?_
  by_cases e:k=j
  ·subst e;rw [List.getElem?_set_self (List.getElem?_eq_some_iff.1 h2).1,h2]
  ·rw [List.getElem?_set_ne e]
 rw [this]
theorem insert_calls (h:PM w o θ S) (hp:PI S) (hw:Wf S.D) (hT:Tabs (wc o w)) {x:Tr}{e:E5} (hx:RTr (wc o w) x e) {wh:Int}{a:Nat} (ha:a < 18446744073709551616)
  (hK:∀w' o' S',PM w' o' θ S'→PI S'→S'.D=(insF S.D wh a x).1→EvP w o w' o'→R (.returned (.tuple #[.int .u64 ((insF S.D wh a x).2.1:Nat),.int .i64 (insF S.D wh a x).2.2])) w') :
  Calls Tryz.prog 73 #[.pointer (some ⟨θ.g,0,none⟩),.int .i64 wh,.int .u64 (a:Nat),.agg #[.int .i64 e.kind,.string e.nm,slV e.ats,.string e.text,slV e.kids]] w R:=by
 have h00:=slA_zero S.D.sl
 have hfewS:=h.few
 refine ok73 (some ⟨θ.g,0,none⟩) wh (a:Nat) e.kind e.nm e.ats.1 e.ats.2.1 e.ats.2.2 e.text e.kids.1 e.kids.2.1 e.kids.2.2 ?_
 unfold F73
 refine al fun g7 w1 hb1 b7 hge7=>?_
 have h1:=h.below hb1
 refine shaped_calls ⟨_,rfl,?_⟩
 rw [Bool.not_not]
 have hpl:(placeF S.D wh a)=if wh < 1∨4 < wh∨(a=0∧2 < wh) then ((0,1):Nat × Int) else if a=0 then (0,0) else match slA S.D.sl a with
  | none=>(0,8)
  | some s=>if wh≤2 then (if s.kind=2 then (0,31) else (a,0)) else (s.parent,0):=by unfold placeF;rfl
 refine brd (fun hsh=>?_) (fun hsh=>?_)
 ·rw [if_pos hsh] at hpl
  have e1:insF S.D wh a x=(S.D,0,1):=by unfold insF;rw [hpl,if_pos rfl]
  have:=hK w1 o S h1 hp (by rw [e1]) (EvC.below hb1)
  rw [e1] at this;exact this
 rw [if_neg hsh] at hpl
 have hne1:(placeF S.D wh a).2≠1:=by
  rw [hpl]
  split
  ·simp
  ·split
   ·simp
   ·split
    ·split <;> simp
    ·simp
 refine al fun gl w2 hb2 bl hgel=>?_
 have h2:=h1.below hb2
 have b72:=b7.keep hb2
 have B12:=btr hb1 hb1.size hb2
 simp only [Addr.add_mk,Nat.zero_add,NonNil_some,b72.cell,lds]
 have hlsub:Sub w (but gl w2):=old_but B12 (by have:=hb1.size;omega)
 refine look_calls x (gl:=gl) (deep:=1) (n:=0) (md:=0) (e:=e) bl (RTr.sub (sub_of_only.trans hlsub) _ _ hx) (hT.sub (sub_of_only.trans hlsub)) (by omega) (by omega) (by omega) (by omega) fun w3 n3 md3 F3 hB3 q1 q2=>⟨_,rfl,?_⟩
 have og:o gl=0:=Classical.byContradiction fun h0=>by have:=h1.lt gl h0;have:=hb1.size;omega
 have o7:o g7=0:=Classical.byContradiction fun h0=>by have:=h.lt g7 h0;omega
 have h3:PM w3 o θ S:=h2.keep F3 (fun b hb hm=>by have hm:b=gl:=hm;rw [hm,og] at hb;exact not_pc0 hb) (fun _ _=>rfl) fun b hb=>Nat.lt_of_lt_of_le (h2.lt b hb) F3.size
 have E3:EvP w o w3 o:=⟨(Fm.below B12).trans' F3 (fun b hb hm=>by have hm:b=gl:=hm;have:=hb1.size;omega),fun _ _=>rfl,fun _ _ h=>h,fun _ h=>.inl h⟩
 refine brn (fun hne=>?_) (fun heq=>?_)
 ·have e1:insF S.D wh a x=(S.D,0,(lookF x 1 0).2):=by unfold insF;rw [if_neg hne1,if_pos hne]
  have:=hK w3 o S h3 hp (by rw [e1]) E3
  rw [e1] at this;exact this
 obtain⟨k1,k2,k3,k4⟩:=look_ok x 1 0 heq
 have q2:=q2 heq
 rw [k2] at q1
 have hdpos:=dpT_pos x
 have hmd:md3=dpT x:=by rw [q2];omega
 refine atL_calls h3 ha fun w4 hb4=>⟨_,rfl,?_⟩
 have h4:=h3.below hb4
 have E4:=EvP.trans E3 (EvC.below hb4)
 have bl4:=hB3.keep hb4
 have b74:Blk w4 g7 _ 84:=(F3.blk b72 (fun e=>by have e:g7=gl:=e;have:=b7.lt;omega)).keep hb4
 refine⟨fun w'=>w4=w'∧(a=0∨∃s,slA S.D.sl a=some s),?_,?_⟩
 ·rintro _ ⟨rfl,hae⟩
  unfold F73_j10
  rw [ptrL_H h00 hae]
  refine par_calls h4 hsh hae ⟨_,_,rfl,?_⟩
  have hins:insF S.D wh a x=if (placeF S.D wh a).2≠0 then (S.D,0,(placeF S.D wh a).2) else
    if 64 < cntI S.D (placeF S.D wh a).1+dpT x then (S.D,0,32) else if 4096 < tk S.D.sl+szT x then (S.D,0,33) else
    (putI { S.D with sl:=makeF x (placeF S.D wh a).1 S.D.sl } (freshH S.D.sl) (placeF S.D wh a).1 wh a,freshH S.D.sl,0):=by
   unfold insF;rw [if_neg hne1,if_neg (by rw [heq];simp)]
  refine brn (fun hne=>?_) (fun hpz=>?_)
  ·rw [if_pos hne] at hins
   have:=hK w4 o S h4 hp (by rw [hins]) E4
   rw [hins] at this;exact this
  rw [if_neg (by rw [hpz];simp)] at hins
  obtain⟨p1,p2,p3,p4,p5,p6⟩:=place_ok hw hpz
  generalize hP:(placeF S.D wh a).1=p at *
  obtain⟨c1,c2⟩:=hw.cnt (p1.imp id fun⟨t,h,_⟩=>⟨t,h⟩)
  have hd4:Below w4.heap.size w4 w4.drew:=(Below.refl _ _).drew
  refine⟨fun w'=>Below w4.heap.size w4 w',hd4,?_⟩
  simp only [Addr.add_mk,Nat.zero_add]
  refine⟨_,fun w' hb=>by rw [(bl4.keep hb).cell];rfl,?_⟩
  refine level_calls (h4.below hd4) h00 c2 c1 ⟨_,rfl,hd4,?_⟩
  refine⟨inR_i64 (by clear p1;omega) (by clear p1;omega),inR_i64 (by clear p1;omega) (by clear p1;omega),?_⟩
  refine brd (fun hgt=>?_) (fun hle=>?_)
  ·rw [if_pos (by clear p1;omega)] at hins
   have:=hK w4.drew o S (h4.below hd4) hp (by rw [hins]) (EvP.trans E4 (EvC.below hd4))
   rw [hins] at this;exact this
  rw [if_neg (by clear p1;omega)] at hins
  refine dr fun w5 hb5 _=>?_
  have D5:=btr hd4 (by simp) hb5
  have h5:=h4.below D5
  have bl5:=bl4.keep D5
  obtain⟨_,d2,d3,_⟩:=h5.cells
  have htk:=tk_sum S.D.sl
  have hlv:=hp.lv
  have hwn:=hp.wn
  have htl:=tk_le (sl:=S.D.sl)
  simp only [NonNil_some,d2,d3,bl5.cell,lds]
  refine⟨inR_i64 (by clear p1;omega) (by clear p1;omega),inR_i64 (by clear p1;omega) (by clear p1;omega),?_⟩
  refine brd (fun hgt=>?_) (fun hle2=>?_)
  ·rw [if_pos (by clear p1;omega)] at hins
   have:=hK w5 o S h5 hp (by rw [hins]) (EvP.trans E4 (EvC.below D5))
   rw [hins] at this;exact this
  rw [if_neg (by clear p1;omega)] at hins
  have b75:=b74.keep D5
  simp only [Addr.add_mk,Nat.zero_add,NonNil_some,b75.cell,lds]
  have E5:=EvP.trans E4 (EvC.below D5)
  refine make_calls x (p:=p) (c:=cntI S.D p) (loose:=[]) h5 hp k1 hw.s hw.a p1 c2 (by clear p1;omega) (by clear p1;omega) (RTr.sub E5.sub _ _ hx) fun w6 o6 S6 h6 p6' hD6 ⟨y6,hy6⟩ e6=>⟨_,rfl,?_⟩
  have Mk:=make_wf x k1 hw.s hw.a p1 c2 (by clear p1;omega) (by clear p1;omega)
  obtain⟨st,st1,st2⟩:=Mk.top
  have hne0:freshH S.D.sl≠0:=by unfold freshH hnd;omega
  have hsl6:S6.D.sl=makeF x p S.D.sl:=by rw [hD6]
  have hro6:S6.D.roots=S.D.roots:=by rw [hD6]
  have hn6:slA S6.D.sl (freshH S.D.sl)=some st:=by rw [hsl6];exact st1
  have hA6:WfA (slA S6.D.sl) S6.D.roots [freshH S.D.sl]:=by rw [hsl6,hro6];exact Mk.wf
  have hpe:p=0∨∃t,slA S6.D.sl p=some t:=by
   rcases p1 with e | ⟨t,ht,_⟩
   ·exact .inl e
   ·exact .inr ⟨t,by rw [hsl6];exact Mk.ext _ _ ht⟩
  have hptr:ptrH S6.bs (freshH S.D.sl)=some ⟨pb S6.bs (freshH S.D.sl),0,none⟩:=by unfold ptrH;rw [if_neg hne0]
  have hpp:ptrH S.bs p=ptrH S6.bs p:=by
   rw [hy6]
   refine (ptr_ext ?_).symm
   rw [h.len];exact live_inN p1
  have hpa:ptrH S.bs a=ptrH S6.bs a:=by
   rw [hy6]
   refine (ptr_ext ?_).symm
   rw [h.len]
   rcases hae with e | ⟨s,hs⟩
   ·exact .inl e
   ·obtain⟨_,_,_,_,hin⟩:=h.of hs;exact .inr hin
  have hnp:freshH S.D.sl≠p:=fun e=>by
   rcases p1 with e1 | ⟨t,ht,_⟩
   ·exact hne0 (e.trans e1)
   ·rw [←e,Mk.new] at ht;cases ht
  rw [hptr,hpp,hpa]
  have hlst6:lstI S6.D p=lstI S.D p:=by
   unfold lstI lstA
   rw [hro6]
   by_cases h0:p=0
   ·rw [if_pos h0,if_pos h0]
   ·rw [if_neg h0,if_neg h0]
    obtain⟨t,ht,_⟩:=p1.resolve_left h0
    rw [ht,hsl6,Mk.ext _ _ ht]
  refine put_calls h6 hn6 hpe (lst_live hA6 p) (lst_few (by rw [hsl6];exact Mk.wfs) hA6 p) (fun h2=>?_) hnp fun w7 o7 h7 e7=>⟨rfl,?_⟩
  ·rw [hlst6]
   obtain⟨s,s1,s2⟩:=p4 h2
   have:=hw.a.mem a s s1 (by simp)
   rw [s2] at this;exact this
  have hput:updI (putI S6.D (freshH S.D.sl) p wh a) (freshH S.D.sl) (fun s=>{ s with parent:=p })=putI S6.D (freshH S.D.sl) p wh a:=by
   have e4:slA (putI S6.D (freshH S.D.sl) p wh a).sl (freshH S.D.sl)=some st:=by
    unfold putI
    rw [(setI_A (l:=insAt (lstI S6.D p) (posF wh a (lstI S6.D p)) (freshH S.D.sl)) hpe).1,setA_of hn6,if_neg (fun e=>hnp e.1)]
   refine upd_same e4 ?_
   cases st
   simp only at st2
   simp only [st2]
  rw [hput] at h7
  have e4:slA (putI S6.D (freshH S.D.sl) p wh a).sl (freshH S.D.sl)=some st:=by
   unfold putI
   rw [(setI_A (l:=insAt (lstI S6.D p) (posF wh a (lstI S6.D p)) (freshH S.D.sl)) hpe).1,setA_of hn6,if_neg (fun e=>hnp e.1)]
  refine hnd_calls h7 e4 fun w8 hb8=>⟨_,rfl,?_⟩
  have p7:PI { S6 with D:=putI S6.D (freshH S.D.sl) p wh a }:=by
   unfold putI setI
   by_cases h0:p=0
   ·rw [if_pos h0];exact⟨p6'.lv,p6'.wn,p6'.lo,p6'.lo2⟩
   ·rw [if_neg h0]
    obtain⟨t,ht⟩:=hpe.resolve_left h0
    obtain⟨k,m1,m2,_⟩:=slA_iff.1 ht
    rw [m1,Nat.add_sub_cancel,modify_set _ _ _ _ m2]
    exact p6'.set (s':={ t with kids:=insAt (lstI S6.D p) (posF wh a (lstI S6.D p)) (freshH S.D.sl) }) m2 rfl rfl
  have:=hK w8 o7 { S6 with D:=putI S6.D (freshH S.D.sl) p wh a } (h7.below hb8) p7 (by rw [hins,hD6]) (EvP.trans (EvP.trans (EvP.trans E5 (e6.mono fun c h=>h.1)) e7) (EvC.below hb8))
  rw [hins] at this;exact this
 ·have hbad:slA S.D.sl a=none→a≠0→R (.returned (.tuple #[.int .u64 0,.int .i64 8])) w4:=fun hn h0=>by
   rw [if_neg h0,hn] at hpl
   have e1:insF S.D wh a x=(S.D,0,8):=by unfold insF;rw [if_neg hne1,if_neg (by rw [heq];simp),if_pos (by rw [hpl];simp),hpl]
   have:=hK w4 o S h4 hp (by rw [e1]) E4
   rw [e1] at this;exact this
  refine brn (fun h0=>?_) (fun h0=>⟨rfl,.inl (by omega)⟩)
  have h0:a≠0:=by omega
  cases hs:slA S.D.sl a with
  | none =>
   have e:ptrL S a=none:=by unfold ptrL;rw [hs];rfl
   rw [e]
   simp only [Option.isNone_none,Br_t]
   exact hbad hs h0
  | some s =>
   have e:(ptrL S a).isNone=false:=by unfold ptrL;rw [hs];rfl
   rw [e,Br_f]
   exact⟨rfl,.inr ⟨s,rfl⟩⟩
end
set_option maxRecDepth 100000
section
variable {w w1 w2:World}{o o1 o2:Nat→Nat}{θ:Th}{S:PS}{M:Nat→Prop}{bs:List Nat}{R:Ending→World→Prop}
end
end Go.Proofs.YtccplipiahdhiaaGreatDoor
set_option linter.unusedVariables false
set_option maxRecDepth 100000
namespace Go.Proofs.YtccplipiahdhiaaGreatDoor
open Go.Vc
def F136 (a:ByteArray) (b:ByteArray) (d:World) (R:Ending→World→Prop):Prop :=
 ByRow Tryz.prog 175 #[(.string a),(.string b)] d (fun v w1 =>
 ∃(c:Int),v=(.int .i64 c) ∧
 R (.returned (.int .i64 c)) w1)
theorem ok136 (a:ByteArray) (b:ByteArray) {w:World}{R:Ending→World→Prop} (h:F136 a b w R):Calls Tryz.prog 136 #[(.string a),(.string b)] w R :=
 vc_calls (pl:=⟨8,⟨[]⟩,[],[]⟩) Tryz.func136 (by kernel_rfl) (by kernel_rfl) (by kernel_rfl) (Eq.mp (by kernel_rfl) h)
def F93 (a:ByteArray) (b:ByteArray) (d:World) (R:Ending→World→Prop):Prop :=
 Calls Tryz.prog 136 #[(.string a),(.string b)] d (post R fun v w1 =>
 ∃(c:Int),v=(.int .i64 c) ∧
 R (.returned (.int .i64 c)) w1)
theorem ok93 (a:ByteArray) (b:ByteArray) {w:World}{R:Ending→World→Prop} (h:F93 a b w R):Calls Tryz.prog 93 #[(.string a),(.string b)] w R :=
 vc_calls (pl:=⟨8,⟨[]⟩,[],[]⟩) Tryz.func93 (by kernel_rfl) (by kernel_rfl) (by kernel_rfl) (Eq.mp (by kernel_rfl) h)
end Go.Proofs.YtccplipiahdhiaaGreatDoor
namespace Go.Proofs.YtccplipiahdhiaaGreatDoor
open Go.RowKit Go.Vc
set_option linter.unusedVariables false
set_option linter.unusedSimpArgs false
set_option maxRecDepth 100000
theorem bl_irr:∀a:List UInt8,Op.bytesLess a a=false
 | []=>rfl
 | x :: a=>by
  rw [Op.bytesLess,bl_irr a];simp
theorem bl_tri:∀a b:List UInt8,Op.bytesLess a b=true∨a=b∨Op.bytesLess b a=true
 | [],[]=>.inr (.inl rfl)
 | [],_ :: _=>.inl rfl
 | _ :: _,[]=>.inr (.inr rfl)
 | x :: a,y :: b=>by
  rw [Op.bytesLess,Op.bytesLess]
  rcases Nat.lt_trichotomy x.toNat y.toNat with h | h | h
  ·refine .inl ?_
   rw [decide_eq_true (UInt8.lt_iff_toNat_lt.2 h)];rfl
  ·have h:=UInt8.toNat_inj.1 h
   subst h
   rcases bl_tri a b with h | h | h
   ·refine .inl ?_;rw [h];simp
   ·refine .inr (.inl ?_);rw [h]
   ·refine .inr (.inr ?_);rw [h];simp
  ·refine .inr (.inr ?_)
   rw [decide_eq_true (UInt8.lt_iff_toNat_lt.2 h)];rfl
theorem bl_trans:∀{a b c:List UInt8},Op.bytesLess a b=true→Op.bytesLess b c=true→Op.bytesLess a c=true
 | _,[],_,h,_=>by cases ‹List UInt8› <;> simp [Op.bytesLess] at h
 | _,_ :: _,[],_,h=>by simp [Op.bytesLess] at h
 | [],_ :: _,_ :: _,_,_=>rfl
 | x :: a,y :: b,z :: c,h1,h2=>by
  rw [Op.bytesLess,Bool.or_eq_true,Bool.and_eq_true,decide_eq_true_eq,beq_iff_eq] at *
  rcases h1 with h1 | ⟨rfl,h1⟩
  ·rcases h2 with h2 | ⟨rfl,h2⟩
   ·exact .inl (UInt8.lt_trans h1 h2)
   ·exact .inl h1
  ·rcases h2 with h2 | ⟨rfl,h2⟩
   ·exact .inl h2
   ·exact .inr ⟨rfl,bl_trans h1 h2⟩
def blt (a b:ByteArray):Bool:=Op.bytesLess a.toList b.toList
theorem blt_irr (a:ByteArray):blt a a=false:=bl_irr _
theorem toList_inj {a b:ByteArray} (h:a.toList=b.toList):a=b:=by
 have:=bytes_eq a b
 rw [h] at this
 simpa using this.symm
theorem blt_tri (a b:ByteArray):blt a b=true∨a=b∨blt b a=true:=(bl_tri a.toList b.toList).imp id (Or.imp toList_inj id)
theorem blt_trans {a b c:ByteArray} (h1:blt a b=true) (h2:blt b c=true):blt a c=true:=bl_trans h1 h2
theorem cmp_lt:∀a b:List UInt8,(Lib.compareBytes a b < 0↔Op.bytesLess a b=true)∧(Lib.compareBytes a b=0↔a=b)
 | [],[]=>by simp [Lib.compareBytes,Op.bytesLess]
 | [],_ :: _=>by simp [Lib.compareBytes,Op.bytesLess]
 | _ :: _,[]=>by simp [Lib.compareBytes,Op.bytesLess]
 | x :: a,y :: b=>by
  rw [Lib.compareBytes,Op.bytesLess]
  obtain⟨i1,i2⟩:=cmp_lt a b
  by_cases h1:x < y
  ·rw [if_pos h1]
   have hne:x≠y:=fun e=>by subst e;exact UInt8.lt_irrefl _ h1
   simp [h1,hne]
  ·rw [if_neg h1]
   by_cases h2:y < x
   ·rw [if_pos h2]
    have hne:x≠y:=fun e=>by subst e;exact UInt8.lt_irrefl _ h2
    simp [h1,hne]
   ·rw [if_neg h2]
    have he:x=y:=UInt8.toNat_inj.1 (by
     rw [UInt8.lt_iff_toNat_lt] at h1 h2;omega)
    subst he
    simp [h1,i1,i2]
theorem cmpB (a b:ByteArray):(Lib.compareBytes a.data.toList b.data.toList < 0↔blt a b=true)∧(Lib.compareBytes a.data.toList b.data.toList=0↔a=b):=by
 have h:=cmp_lt a.toList b.toList
 rw [ByteArray.toList_eq,ByteArray.toList_eq] at h
 refine⟨by rw [h.1];unfold blt;rw [ByteArray.toList_eq,ByteArray.toList_eq],?_⟩
 rw [h.2]
 constructor
 ·intro e;exact toList_inj (by rw [ByteArray.toList_eq,ByteArray.toList_eq];exact e)
 ·rintro rfl;rfl
theorem compare_calls (a b:ByteArray) {w:World}{R:Ending→World→Prop} (hK:R (.returned (.int .i64 (Lib.compareBytes a.data.toList b.data.toList))) w):Calls Tryz.prog 93 #[.string a,.string b] w R:=by
 refine ok93 a b ?_
 unfold F93
 refine ok136 a b ?_
 unfold F136
 refine⟨_,w,?_,_,rfl,_,rfl,hK⟩
 rw [run_callFunc_extern Tryz.func175 (by kernel_rfl) (by kernel_rfl) (by kernel_rfl) (e:=Extern.BytealgCompare.compare) (by kernel_rfl),Lib.run_compareString]
 rfl
set_option maxRecDepth 100000
section
variable {w w1 w2:World}{o o1 o2:Nat→Nat}{θ:Th}{S:PS}{M:Nat→Prop}{bs:List Nat}{R:Ending→World→Prop}
end
set_option maxRecDepth 100000
section
variable {w w1 w2:World}{o o1 o2:Nat→Nat}{θ:Th}{S:PS}{M:Nat→Prop}{bs:List Nat}{R:Ending→World→Prop}
end
set_option maxRecDepth 100000
section
variable {w w1 w2 w0:World}{o o1 o2:Nat→Nat}{θ:Th}{S:PS}{M:Nat→Prop}{bs:List Nat}{R:Ending→World→Prop}{loose:List Nat}
theorem slvF {v:Sv}{A:Option Addr}{n c:Nat} (h:slV v=.slice A n c):v=(A,n,c):=by
 obtain⟨a1,a2,a3⟩:=v
 unfold slV at h
 simp only [Value.slice.injEq] at h
 obtain⟨rfl,rfl,rfl⟩:=h
 rfl
theorem handles_calls (h:PM w o θ S) {l:List Nat}{v:Sv} (hv:v.2.1=l.length) (hr:Rd LPt w v.1 v.2.2 (l.map (pb S.bs))) (hl:l.length≤1048576) (hll:∀x∈l,∃t,slA S.D.sl x=some t)
  (hK:∀v' w',Below w.heap.size w w'→Own LHn w' w.heap.size 65 (slV v') l→R (.returned (slV v')) w'):Calls Tryz.prog 115 #[.slice v.1 v.2.1 v.2.2] w R:=by
 refine ok115 v.1 v.2.1 v.2.2 ?_
 unfold F115
 rw [hv]
 refine⟨by omega,by omega,by omega,?_⟩
 refine al fun g8 w1 hb1 b1 hge1=>?_
 have o1:Own LHn w1 w.heap.size 65 (.slice (some ⟨g8,0,none⟩) 0 l.length) []:=Own.made b1 hge1 (by simp [zrow,LHn]) (by simp [maxLen];omega)
 refine⟨fun A n c j w'=>∃k:Nat,j=k∧k≤l.length∧Below w.heap.size w w'∧Own LHn w' w.heap.size 65 (.slice A n c) (l.take k),fun _ _ _ j _=>l.length-j.toNat,⟨0,rfl,by omega,hb1,by simpa using o1⟩,?_⟩
 rintro A n c j w2 ⟨k,rfl,hk,hb2,ho⟩
 unfold F115_l3
 refine brd (fun hlt=>?_) (fun hge=>?_)
 ·have hk2:k < l.length:=by omega
  refine (hr.keep hb2).pt (by rw [List.length_map]) rfl (k:=k) (by rw [List.length_map];exact hk2) fun bb oo cc=>?_
  rw [List.getElem_map] at cc
  simp only [cc,lds]
  obtain⟨t,ht⟩:=hll l[k] (List.getElem_mem hk2)
  refine hnd_calls (h.below hb2) ht fun w3 hb3=>⟨_,rfl,?_⟩
  have B3:=btr hb2 hb2.size hb3
  refine ap1 (L:=LHn) (x:=l[k]) (xs:=l.take k) (.int .u64 0) 8 rfl (by kernel_rfl) (by kernel_rfl) (by kernel_rfl) (ho.keep hb3) B3.size (by rw [List.length_take];omega) (by rw [List.length_take];simp [maxLen];omega) fun A' c' w4 o4 g4=>⟨A',_,c',rfl,inR_i64 (by omega) (by omega),⟨k+1,by simp,by omega,B3.trans g4.below,?_⟩,(by first | omega | (dsimp only;omega))⟩
  rw [List.take_succ_eq_append_getElem hk2];exact o4
 ·have hk2:k=l.length:=by omega
  subst hk2
  rw [List.take_length] at ho
  exact hK (A,n,c) w2 hb2 ho
theorem Kids_calls (h:PM w o θ S) (hA:WfA (slA S.D.sl) S.D.roots loose) (hf:S.D.sl.length≤4096) {x:Nat}{s:Sl} (hx:slA S.D.sl x=some s)
  (hK:∀v' w',Below w.heap.size w w'→Own LHn w' w.heap.size 65 (slV v') s.kids→R (.returned (.tuple #[slV v',.int .i64 0])) w'):Calls Tryz.prog 117 #[.pointer (some ⟨θ.g,0,none⟩),.int .u64 (x:Nat)] w R:=by
 refine ok117 (some ⟨θ.g,0,none⟩) x ?_
 unfold F117
 obtain⟨i,i1,i2,i3,i4⟩:=h.of hx
 have hgen:=(h.rng s (List.mem_of_getElem? i3)).gen
 have hxl:x < 18446744073709551616:=by
  obtain⟨k,k1,k2,k3,k4⟩:=slA_iff.1 hx
  have:=(List.getElem?_eq_some_iff.1 k2).1
  unfold hnd at k4;omega
 refine atL_calls h hxl fun w1 hb1=>⟨_,rfl,?_⟩
 have e:ptrL S x=some ⟨pb S.bs x,0,none⟩:=by unfold ptrL;rw [hx];rfl
 rw [e]
 simp only [Option.isNone_some,Br_f,NonNil_some,Addr.add_mk,Nat.zero_add]
 have h1:=h.below hb1
 obtain⟨v,cv,ov,rv⟩:=h1.cKids i2 i3
 obtain⟨A,c,hvf,hrd⟩:=ov.form
 have e1:=slvF hvf
 have cv':w1.cell? ⟨pb S.bs x,8,none⟩=some (.slice v.1 v.2.1 v.2.2):=cv
 simp only [cv',lds]
 refine handles_calls h1 (v:=v) (l:=s.kids) (by rw [e1];simp) (by rw [e1];exact hrd) (Nat.le_trans (live_few (fun y hy=>by obtain⟨_,t,ht,_⟩:=(hA.kid x s hx).2 y hy;exact⟨t,ht⟩) (hA.kid x s hx).1) (by omega)) (fun y hy=>by obtain⟨_,t,ht,_⟩:=(hA.kid x s hx).2 y hy;exact⟨t,ht⟩) fun v' w2 hb2 ho=>⟨_,_,_,rfl,?_⟩
 exact hK v' w2 (btr hb1 hb1.size hb2) (ho.rebase fun k hk=>Nat.le_trans hb1.size (ho.lt k hk).1)
theorem Roots_calls (h:PM w o θ S) (hA:WfA (slA S.D.sl) S.D.roots loose)
  (hK:∀v' w',Below w.heap.size w w'→Own LHn w' w.heap.size 65 (slV v') S.D.roots→R (.returned (slV v')) w'):Calls Tryz.prog 69 #[.pointer (some ⟨θ.g,0,none⟩)] w R:=by
 refine ok69 (some ⟨θ.g,0,none⟩) ?_
 unfold F69
 obtain⟨nv,rv,hd⟩:=h.doc
 obtain⟨A,c,hvf,hrd⟩:=hd.r1.form
 have e1:=slvF hvf
 have cv':w.cell? ⟨θ.g,1,none⟩=some (.slice rv.1 rv.2.1 rv.2.2):=by rw [hd.blk.cell];rfl
 simp only [NonNil_some,Addr.add_mk,Nat.zero_add,cv',lds]
 exact handles_calls h (v:=rv) (l:=S.D.roots) (by rw [e1];simp) (by rw [e1];exact hrd) h.rts.2 (fun y hy=>by obtain⟨_,t,ht,_⟩:=hA.root.2 y hy;exact⟨t,ht⟩) fun v' w2 hb2 ho=>⟨_,_,_,rfl,hK v' w2 hb2 ho⟩
theorem hx_lt (h:PM w o θ S) {x:Nat}{s:Sl} (hx:slA S.D.sl x=some s):x < 18446744073709551616:=by
 obtain⟨i,i1,i2,i3,i4⟩:=h.of hx
 have hgen:=(h.rng s (List.mem_of_getElem? i3)).gen
 have hf:=h.few
 obtain⟨k,k1,k2,k3,k4⟩:=slA_iff.1 hx
 have:=(List.getElem?_eq_some_iff.1 k2).1
 unfold hnd at k4;omega
theorem Parent_calls (h:PM w o θ S) (hA:WfA (slA S.D.sl) S.D.roots loose) {x:Nat}{s:Sl} (hx:slA S.D.sl x=some s)
  (hK:∀w',Below w.heap.size w w'→R (.returned (.tuple #[.int .u64 (s.parent:Nat),.int .i64 0])) w'):Calls Tryz.prog 124 #[.pointer (some ⟨θ.g,0,none⟩),.int .u64 (x:Nat)] w R:=by
 refine ok124 (some ⟨θ.g,0,none⟩) x ?_
 unfold F124
 obtain⟨i,i1,i2,i3,i4⟩:=h.of hx
 refine atL_calls h (hx_lt h hx) fun w1 hb1=>⟨_,rfl,?_⟩
 have e:ptrL S x=some ⟨pb S.bs x,0,none⟩:=by unfold ptrL;rw [hx];rfl
 rw [e]
 have h1:=h.below hb1
 simp only [Option.isNone_some,Br_f,NonNil_some,Addr.add_mk,Nat.zero_add,h1.cPar i2 i3,lds]
 rcases hA.par x s hx with hp | ⟨t,ht,_⟩
 ·have e2:ptrH S.bs s.parent=none:=by unfold ptrH;rw [if_pos hp]
  rw [e2]
  refine hndN_calls ⟨_,rfl,?_⟩
  have:=hK w1 hb1
  rw [hp] at this;exact this
 ·have p0:s.parent≠0:=fun e=>by rw [e,slA_zero] at ht;cases ht
  have e2:ptrH S.bs s.parent=some ⟨pb S.bs s.parent,0,none⟩:=by unfold ptrH;rw [if_neg p0]
  rw [e2]
  exact hnd_calls h1 ht fun w2 hb2=>⟨_,rfl,hK w2 (btr hb1 hb1.size hb2)⟩
theorem allP_calls (h:PM w0 o θ S) (hA:WfA (slA S.D.sl) S.D.roots loose):∀(r:Nat) {l:List Nat}{v:Sv}{cc:Nat}{w:World}{A:Option Addr}{n c:Nat}{xs:List Nat}{R:Ending→World→Prop},v.2.1=l.length→Rd LPt w0 v.1 v.2.2 (l.map (pb S.bs))→l.length≤1048576→(∀x∈l,∃t,slA S.D.sl x=some t∧Ch (slA S.D.sl) x cc)→65≤cc+r →
  Below w0.heap.size w0 w→Own LHn w w0.heap.size 65 (.slice A n c) xs→xs.length+(l.flatMap (allA (slA S.D.sl) r)).length≤4398046511104 →
  (∀A' n' c' w',Below w0.heap.size w0 w'→Own LHn w' w0.heap.size 65 (.slice A' n' c') (xs++l.flatMap (allA (slA S.D.sl) r))→R (.returned (.slice A' n' c')) w') →
  Calls Tryz.prog 96 #[.slice v.1 v.2.1 v.2.2,.slice A n c] w R:=by
 intro r
 induction r with
 | zero =>
  intro l v cc w A n c xs R hv hr hl hll hcr hb ho hlen hK
  have hl0:l=[]:=by
   cases l with
   | nil=>rfl
   | cons x l =>
    obtain⟨t,t1,t2⟩:=hll x (by simp)
    obtain⟨c',h1,h2⟩:=hA.chain x t t1
    have:=t2.fn h2;omega
  subst hl0
  refine ok96 v.1 v.2.1 v.2.2 A n c ?_
  unfold F96
  refine⟨fun A' n' c' j w'=>j=0∧A'=A∧n'=n∧c'=c∧w'=w,fun _ _ _ _ _=>0,⟨rfl,rfl,rfl,rfl,rfl⟩,?_⟩
  rintro _ _ _ _ _ ⟨rfl,rfl,rfl,rfl,rfl⟩
  unfold F96_l2
  refine brd (fun hlt=>absurd hlt (by rw [hv];simp)) (fun _=>hK _ _ _ _ hb (by simpa using ho))
 | succ r ih =>
  intro l v cc w A n c xs R hv hr hl hll hcr hb ho hlen hK
  refine ok96 v.1 v.2.1 v.2.2 A n c ?_
  unfold F96
  refine⟨fun A' n' c' j w'=>∃k:Nat,j=k∧k≤l.length∧Below w0.heap.size w0 w'∧Own LHn w' w0.heap.size 65 (.slice A' n' c') (xs++(l.take k).flatMap (allA (slA S.D.sl) (r+1))),fun _ _ _ j _=>l.length-j.toNat,⟨0,rfl,by omega,hb,by simpa using ho⟩,?_⟩
  rintro A1 n1 c1 j w1 ⟨k,rfl,hk,hb1,ho1⟩
  unfold F96_l2
  refine brd (fun hlt=>?_) (fun hge=>?_)
  ·have hk2:k < l.length:=by omega
   refine (hr.keep hb1).pt (by rw [List.length_map];exact hv) rfl (k:=k) (by rw [List.length_map];exact hk2) fun bb oo cx=>?_
   rw [List.getElem_map] at cx
   simp only [cx,lds]
   obtain⟨t,t1,t2⟩:=hll l[k] (List.getElem_mem hk2)
   obtain⟨i,i1,i2,i3,i4⟩:=h.of t1
   have hdr:Below w1.heap.size w1 w1.drew:=(Below.refl _ _).drew
   have B1d:=btr hb1 hb1.size hdr
   obtain⟨kv,ck,ok,rk⟩:=h.cKids i2 i3
   obtain⟨Ak,ckk,hkf,hkr⟩:=ok.form
   have ek:=slvF hkf
   have hkids:∀y∈t.kids,∃u,slA S.D.sl y=some u∧u.parent=l[k]:=fun y hy=>((hA.kid _ t t1).2 y hy).2
   have hst:(l.take (k+1)).flatMap (allA (slA S.D.sl) (r+1))=(l.take k).flatMap (allA (slA S.D.sl) (r+1))++(l[k] :: t.kids.flatMap (allA (slA S.D.sl) r)):=by
    rw [List.take_succ_eq_append_getElem hk2,List.flatMap_append,←allA_some t1];simp
   have hle:((l.take (k+1)).flatMap (allA (slA S.D.sl) (r+1))).length≤(l.flatMap (allA (slA S.D.sl) (r+1))).length:=by
    have e:l.flatMap (allA (slA S.D.sl) (r+1))=(l.take (k+1)).flatMap (allA (slA S.D.sl) (r+1))++(l.drop (k+1)).flatMap (allA (slA S.D.sl) (r+1)):=by rw [←List.flatMap_append,List.take_append_drop]
    rw [e,List.length_append];omega
   rw [hst,List.length_append,List.length_cons] at hle
   refine⟨fun w'=>Below w0.heap.size w0 w',B1d,?_⟩
   simp only [NonNil_some,Addr.add_mk,Nat.zero_add]
   refine⟨kv.1,kv.2.1,kv.2.2,fun w' hw=>(sub_below hw).cell ck,?_⟩
   refine hnd_calls (h.below B1d) t1 fun w2 hb2=>⟨_,rfl,?_⟩
   have B2:=btr B1d B1d.size hb2
   refine⟨B2,?_⟩
   refine ap1S (L:=LHn) (x:=l[k]) (S:=fun w'=>Below w0.heap.size w0 w') (.int .u64 0) 8 rfl (by kernel_rfl) (by kernel_rfl) (by kernel_rfl) ((ho1.keep hdr).keep hb2) B2.size (by simp only [List.length_append];omega) (by simp only [maxLen,List.length_append];omega) (fun w' hb'=>btr B2 B2.size hb') fun A3 c3 w3 o3 g3=>⟨A3,_,c3,rfl,?_⟩
   have B3:=B2.trans g3.below
   refine⟨B3,?_⟩
   refine ih (l:=t.kids) (v:=kv) (cc:=cc+1) (by rw [ek];simp) (by rw [ek];exact hkr) (Nat.le_trans (live_few (fun y hy=>by obtain⟨u,hu,_⟩:=hkids y hy;exact⟨u,hu⟩) (hA.kid _ t t1).1) (by have:=h.few;omega)) (fun y hy=>by
    obtain⟨u,u1,u2⟩:=hkids y hy
    exact⟨u,u1,.succ (hA.ne0 u1) u1 (by rw [u2];exact t2)⟩) (by omega) B3 o3 (by simp only [List.length_append,List.length_singleton];omega) fun A4 n4 c4 w4 hb4 o4=>⟨A4,n4,c4,rfl,inR_i64 (by omega) (by omega),⟨k+1,by simp,by omega,hb4,?_⟩,(by first | omega | (dsimp only;omega))⟩
   rw [hst,←List.append_assoc]
   rw [List.append_assoc _ [l[k]],List.singleton_append] at o4
   exact o4
  ·have hk2:k=l.length:=by omega
   subst hk2
   rw [List.take_length] at ho1
   exact hK _ _ _ _ hb1 ho1
end
set_option maxRecDepth 100000
structure CNode (w0 w:World) (o:Nat→Nat) (S:PS) (bs:List Nat) (dn:Bool) (j b:Nat) (s:Sl) (a kv:Sv):Prop where
 blk:Blk w b (nodeC j s a (ptrH (bif dn then bs else S.bs) s.parent) kv) 202
 at1:Own LAt w 0 205 (slV a) s.attrs
 at2:∀x,rowOf (slV a)=some x→o x=10+4*j
 kd1:dn=true→Own LPt w 0 152 (slV kv) (s.kids.map (pb bs))
 kd2:dn=true→∀x,rowOf (slV kv)=some x→o x=9+4*j
 kd3:dn=false→kv.2.1=s.kids.length∧Rd LPt w0 kv.1 kv.2.2 (s.kids.map (pb S.bs))
structure CDoc (w0 w:World) (o:Nat→Nat) (S:PS) (gb gc:Nat) (bs:List Nat) (nv:Sv) (k:Nat):Prop where
 bel:Below w0.heap.size w0 w
 box:Blk w gb #[.pointer (some ⟨gc,0,none⟩)] 77
 doc:Blk w gc (docC nv (none,0,0) S.lv S.wn S.lo []) 98
 nv1:Own LPt w 0 152 (slV nv) bs
 nv2:∀x,rowOf (slV nv)=some x→o x=2
 col:o gc=1
 bc:o gb=0
 lt:∀b,o b≠0→w0.heap.size≤b∧b < w.heap.size
 gbl:w0.heap.size≤gb
 len:bs.length≤S.D.sl.length
 nc:∀(j b:Nat),bs[j]?=some b→o b=8+4*j
 nd:∀(j b:Nat) (s:Sl),bs[j]?=some b→S.D.sl[j]?=some s→∃a kv,CNode w0 w o S bs (decide (j < k)) j b s a kv
theorem inR_u32 {z:Int} (h0:0≤z) (h1:z≤4294967295):InR .u32 z:=⟨by simpa [IntKind.min,IntKind.signed] using h0,by simpa [IntKind.max,IntKind.signed,IntKind.bits] using h1⟩
section
variable {w w0 w1:World}{o o0 o1:Nat→Nat}{θ:Th}{S:PS}{bs:List Nat}{nv:Sv}{gb gc k:Nat}{M:Nat→Prop}{R:Ending→World→Prop}
theorem CNode.keep {dn:Bool}{j b:Nat}{s:Sl}{a kv:Sv} (h:CNode w0 w o S bs dn j b s a kv) (hb:o b=8+4*j) (hf:Fm M w w1) (hm:∀x,(o x=8+4*j∨o x=9+4*j∨o x=10+4*j)→¬M x) (ho:∀x,o x≠0→o1 x=o x):CNode w0 w1 o1 S bs dn j b s a kv :=
 ⟨hf.blk h.blk (hm b (.inl hb)),own_fm h.at1 hf fun x hx=>hm x (.inr (.inr (h.at2 x hx))),fun x hx=>by have:=h.at2 x hx;rw [ho x (by omega)];exact this,
  fun hd=>own_fm (h.kd1 hd) hf fun x hx=>hm x (.inr (.inl (h.kd2 hd x hx))),fun hd x hx=>by have:=h.kd2 hd x hx;rw [ho x (by omega)];exact this,h.kd3⟩
theorem CDoc.keep (h:CDoc w0 w o S gb gc bs nv k) (hf:Fm M w w1) (hm:∀b,b < w.heap.size→M b→o b=0∧b≠gb∧w0.heap.size≤b):CDoc w0 w1 o S gb gc bs nv k:=by
 have hM:∀x,o x≠0→¬M x:=fun x hx hmx=>hx (hm x (h.lt x hx).2 hmx).1
 refine⟨h.bel.trans (hf.toBelow h.bel.size fun b hb hmb=>?_),hf.blk h.box fun e=>(hm gb h.box.lt e).2.1 rfl,hf.blk h.doc (hM gc (by rw [h.col];decide)),own_fm h.nv1 hf fun x hx=>hM x (by rw [h.nv2 x hx];decide),h.nv2,h.col,h.bc,
  fun b hb=>⟨(h.lt b hb).1,Nat.lt_of_lt_of_le (h.lt b hb).2 hf.size⟩,h.gbl,h.len,h.nc,fun j b s hb hs=>?_⟩
 ·have:=(hm b (Nat.lt_of_lt_of_le hb h.bel.size) hmb).2.2;omega
 ·obtain⟨a,kv,hn⟩:=h.nd j b s hb hs
  exact⟨a,kv,hn.keep (h.nc j b hb) hf (fun x hx=>hM x (by omega)) fun _ _=>rfl⟩
theorem CDoc.below (h:CDoc w0 w o S gb gc bs nv k) (hb:Below w.heap.size w w1):CDoc w0 w1 o S gb gc bs nv k :=
 h.keep (M:=fun _=>False) (.below hb) fun _ _ h=>h.elim
theorem rdO {α:Type}{L:Lay α}{B:Nat}{e:TypeId}{v:Sv}{xs:List α} (h:Own L w B e (slV v) xs):v.2.1=xs.length∧Rd L w v.1 v.2.2 xs:=by
 obtain⟨A,c,hv,hr⟩:=h.form
 rw [slvF hv];exact⟨rfl,hr⟩
theorem turn_calls (hP:PM w0 o0 θ S) (h:CDoc w0 w o S gb gc bs nv k) (hlen:bs.length=S.D.sl.length) {l:List Nat}{v:Sv} (hv:v.2.1=l.length) (hr:Rd LPt w0 v.1 v.2.2 (l.map (pb S.bs))) (hl:l.length≤1048576) (hin:∀x∈l,inN S.D.sl.length x)
  (hK:∀r w',Below w.heap.size w w'→Own LPt w' w.heap.size 152 (slV r) (l.map (pb bs))→R (.returned (slV r)) w'):Calls Tryz.prog 110 #[slV v,.pointer (some ⟨gb,0,none⟩)] w R:=by
 refine ok110 v.1 v.2.1 v.2.2 ⟨gb,0,none⟩ ?_
 unfold F110
 have hfew:=hP.few
 refine⟨fun A n c x w'=>∃m:Nat,x=m∧m≤l.length∧Below w.heap.size w w'∧Own LPt w' w.heap.size 152 (.slice A n c) ((l.take m).map (pb bs)),fun _ _ _ x _=>l.length-x.toNat,⟨0,rfl,by omega,.refl _ _,by simpa using Own.nil _ _ _ _⟩,?_⟩
 rintro A n c _ w1 ⟨m,rfl,hm,hb1,ho⟩
 unfold F110_l3
 have B1:=btr h.bel h.bel.size hb1
 have h1:=h.below hb1
 refine brd (fun hlt=>?_) (fun hge=>?_)
 ·have hm2:m < l.length:=by omega
  refine (hr.keep B1).pt (by rw [List.length_map,hv]) rfl (k:=m) (by rw [List.length_map];exact hm2) fun b o c0=>?_
  rw [List.getElem_map] at c0
  simp only [c0,lds]
  have hdr:Below w1.heap.size w1 w1.drew:=(Below.refl _ _).drew
  obtain⟨p1,s,p2⟩:=pb_get hP.len (hin _ (List.getElem_mem hm2))
  have pin:=hin _ (List.getElem_mem hm2)
  obtain⟨x,hx⟩:∃x,l[m]=x:=⟨_,rfl⟩
  rw [hx] at c0 p1 p2 pin ⊢
  unfold inN at pin
  obtain⟨n1,n2⟩:=rdO h1.nv1
  refine⟨fun w'=>Below w1.heap.size w1 w',hdr,?_⟩
  refine⟨_,fun w' hw=>by rw [(h1.box.keep hw).cell];rfl,?_⟩
  refine⟨_,_,_,fun w' hw=>by rw [(h1.doc.keep hw).cell];rfl,?_⟩
  refine⟨_,fun w' hw=>(hP.below (btr B1 B1.size hw)).cIdx p1 p2,?_⟩
  refine⟨inR_u32 (by omega) (by omega),?_⟩
  refine n2.held (fun _ h=>h) n1 (by omega) (by omega) rfl fun b2 o2 cc=>?_
  have cc:=cc 0 _ rfl
  have e1:(((x % 4294967296-1+1:Nat):Int)-1).toNat=x % 4294967296-1:=by omega
  have e2:bs[(((x % 4294967296-1+1:Nat):Int)-1).toNat]'(by omega)=pb bs x:=by
   unfold pb
   rw [List.getD_eq_getElem?_getD,List.getElem?_eq_getElem (by omega)]
   simp only [e1,Option.getD_some]
  simp only [e2,Nat.add_zero] at cc
  refine⟨_,cc,?_⟩
  refine ap1 (L:=LPt) (x:=pb bs x) (xs:=(l.take m).map (pb bs)) (.pointer none) 8 rfl (by kernel_rfl) (by kernel_rfl) (by kernel_rfl) (ho.keep hdr) (by simpa using hb1.size) (by rw [List.length_map,List.length_take];omega) (by rw [List.length_map,List.length_take];simp [maxLen];omega) fun A' c' w4 o4 g4=>⟨A',_,c',rfl,inR_i64 (by omega) (by omega),⟨m+1,by simp,by omega,(btr hb1 hb1.size hdr).trans g4.below,?_⟩,(by first | omega | (dsimp only;omega))⟩
  rw [List.take_succ_eq_append_getElem hm2,List.map_append,hx];exact o4
 ·have hm2:m=l.length:=by omega
  subst hm2
  rw [List.take_length] at ho
  exact hK (A,n,c) w1 hb1 ho
theorem CDoc.push (h:CDoc w0 w o S gb gc bs nv 0) {gm:Nat}{s:Sl} (hs:S.D.sl[bs.length]?=some s) {a kv nv':Sv} (hf:Fm (fun b=>rowOf (slV nv)=some b∨b=gc) w w1) (hgm:w.heap.size≤gm)
  (bm:Blk w1 gm (nodeC bs.length s a (ptrH S.bs s.parent) kv) 202) (ha:Own LAt w1 0 205 (slV a) s.attrs) (har:∀x,rowOf (slV a)=some x→w.heap.size≤x∧x≠gm)
  (hk:kv.2.1=s.kids.length∧Rd LPt w0 kv.1 kv.2.2 (s.kids.map (pb S.bs))) (hd:Blk w1 gc (docC nv' (none,0,0) S.lv S.wn S.lo []) 98) (hn:Own LPt w1 0 152 (slV nv') (bs++[gm]))
  (hnr:∀x,rowOf (slV nv')=some x→rowOf (slV nv)=some x∨(w.heap.size≤x∧x≠gm∧rowOf (slV a)≠some x)):∃o',CDoc w0 w1 o' S gb gc (bs++[gm]) nv' 0:=by
 have hnew:∀x,w.heap.size≤x→o x=0:=fun x hx=>Classical.byContradiction fun e=>by have:=(h.lt x e).2;omega
 have hcol:=h.col
 have hbc:=h.bc
 have hgb:=h.box.lt
 have hgc:=h.doc.lt
 have hws:=h.bel.size
 have hss:=hf.size
 let o2:Nat→Nat:=fun x=>if x=gm then 8+4*bs.length else if rowOf (slV a)=some x then 10+4*bs.length else if rowOf (slV nv')=some x then 2 else o x
 have hold:∀x,o x≠0→o2 x=o x:=fun x hx=>by
  have hxl:=(h.lt x hx).2
  show (if x=gm then _ else _)=_
  rw [if_neg (by omega),if_neg (fun e=>by have:=(har x e).1;omega)]
  split
  ·rename_i e
   rcases hnr x e with e2 | e2
   ·exact (h.nv2 x e2).symm
   ·omega
  ·rfl
 have hM:∀x,o x≠0→o x≠2→o x≠1→¬(rowOf (slV nv)=some x∨x=gc):=fun x h0 h2 h1 e=>by
  rcases e with e | e
  ·exact h2 (h.nv2 x e)
  ·subst e;exact h1 h.col
 refine⟨o2,h.bel.trans (hf.toBelow h.bel.size fun b hb e=>?_),hf.blk h.box fun e=>?_,hd,hn,fun x hx=>?_,?_,?_,fun b hb=>?_,h.gbl,?_,fun j b hb=>?_,fun j b t hb ht=>?_⟩
 ·rcases e with e | e
  ·have:=(h.lt b (by rw [h.nv2 b e];decide)).1;omega
  ·have:=(h.lt gc (by rw [h.col];decide)).1;omega
 ·rcases e with e | e
  ·rw [h.nv2 gb e] at hbc;cases hbc
  ·rw [e,hcol] at hbc;cases hbc
 ·show (if x=gm then _ else _)=_
  rcases hnr x hx with e | ⟨e1,e2,e3⟩
  ·have:=(h.lt x (by rw [h.nv2 x e];decide)).2
   rw [if_neg (by omega),if_neg (fun e=>by have:=(har x e).1;omega),if_pos hx]
  ·rw [if_neg e2,if_neg e3,if_pos hx]
 ·rw [hold gc (by rw [hcol];decide)];exact hcol
 ·show (if gb=gm then _ else _)=_
  rw [if_neg (by omega),if_neg (fun e=>by have:=(har gb e).1;omega),if_neg (fun e=>?_)]
  ·exact hbc
  ·rcases hnr gb e with e2 | e2
   ·rw [h.nv2 gb e2] at hbc;cases hbc
   ·omega
 ·by_cases h0:o b=0
  ·have hb2:(if b=gm then 8+4*bs.length else if rowOf (slV a)=some b then 10+4*bs.length else if rowOf (slV nv')=some b then 2 else o b)≠0:=hb
   by_cases e1:b=gm
   ·subst e1;exact⟨by omega,bm.lt⟩
   rw [if_neg e1] at hb2
   by_cases e2:rowOf (slV a)=some b
   ·exact⟨by have:=(har b e2).1;omega,(ha.lt b e2).2⟩
   rw [if_neg e2] at hb2
   by_cases e3:rowOf (slV nv')=some b
   ·rcases hnr b e3 with e4 | e4
    ·rw [h.nv2 b e4] at h0;cases h0
    ·exact⟨by omega,(hn.lt b e3).2⟩
   rw [if_neg e3] at hb2
   exact absurd h0 hb2
  ·have:=h.lt b h0;exact⟨this.1,by omega⟩
 ·have:=(List.getElem?_eq_some_iff.1 hs).1
  rw [List.length_append];simp only [List.length_singleton];omega
 ·rw [List.getElem?_append] at hb
  split at hb
  ·have:=h.nc j b hb
   rw [hold b (by omega)];exact this
  ·rename_i hj
   have hj2:j=bs.length:=by
    have:=(List.getElem?_eq_some_iff.1 hb).1
    simp only [List.length_singleton] at this;omega
   subst hj2
   rw [Nat.sub_self,List.getElem?_cons_zero] at hb
   cases hb
   show (if gm=gm then _ else _)=_
   rw [if_pos rfl]
 ·rw [List.getElem?_append] at hb
  split at hb
  ·obtain⟨a2,kv2,hN⟩:=h.nd j b t hb ht
   have hc:=h.nc j b hb
   have e0:decide (j < 0)=false:=decide_eq_false (by omega)
   rw [e0] at hN ⊢
   have hN2:=hN.keep (o1:=o2) hc hf (fun x hx=>hM x (by omega) (by omega) (by omega)) hold
   exact⟨a2,kv2,hN2.blk,hN2.at1,hN2.at2,(fun e=>by cases e),(fun e=>by cases e),hN2.kd3⟩
  ·rename_i hj
   have hj2:j=bs.length:=by
    have:=(List.getElem?_eq_some_iff.1 hb).1
    simp only [List.length_singleton] at this;omega
   subst hj2
   rw [Nat.sub_self,List.getElem?_cons_zero] at hb
   cases hb
   rw [hs] at ht;cases ht
   have e0:decide (bs.length < 0)=false:=decide_eq_false (by omega)
   rw [e0]
   refine⟨a,kv,bm,ha,fun x hx=>?_,(fun e=>by cases e),(fun e=>by cases e),fun _=>hk⟩
   show (if x=gm then _ else _)=_
   rw [if_neg (har x hx).2,if_pos hx]
theorem CDoc.step (h:CDoc w0 w o S gb gc bs nv k) {b:Nat}{s:Sl}{a kv:Sv} (hb:bs[k]?=some b) (hs:S.D.sl[k]?=some s) (hf:Fm (·=b) w w1) (bm:Blk w1 b (nodeC k s a (ptrH bs s.parent) kv) 202)
  (ha:Own LAt w 0 205 (slV a) s.attrs) (ha2:∀x,rowOf (slV a)=some x→o x=10+4*k) (hkv:Own LPt w1 0 152 (slV kv) (s.kids.map (pb bs))) (hr:∀x,rowOf (slV kv)=some x→o x=0∧w0.heap.size≤x∧x≠gb) :
  ∃o',CDoc w0 w1 o' S gb gc bs nv (k+1):=by
 have hcol:=h.col
 have hbc:=h.bc
 have hbb:=h.nc k b hb
 have hws:=h.bel.size
 have hbl:=h.lt b (by omega)
 have hold:∀x,o x≠0→cl o (rowOf (slV kv)) (9+4*k) x=o x:=fun x hx=>cl_old hx
 refine⟨cl o (rowOf (slV kv)) (9+4*k),h.bel.trans (hf.toBelow h.bel.size fun x hx e=>?_),hf.blk h.box fun e=>?_,hf.blk h.doc fun e=>?_,own_fm h.nv1 hf fun x hx e=>?_,fun x hx=>?_,?_,?_,fun x hx=>?_,h.gbl,h.len,fun j c hc=>?_,fun j c t hc ht=>?_⟩
 ·have e:x=b:=e
  omega
 ·have e:gb=b:=e
  rw [e,hbb] at hbc;omega
 ·have e:gc=b:=e
  rw [e,hbb] at hcol;omega
 ·have e:x=b:=e
  have:=h.nv2 x hx
  rw [e,hbb] at this;omega
 ·rw [hold x (by rw [h.nv2 x hx];decide)];exact h.nv2 x hx
 ·rw [hold gc (by rw [hcol];decide)];exact hcol
 ·unfold cl;rw [if_neg (fun e=>(hr gb e.1).2.2 rfl)];exact hbc
 ·by_cases e:o x=0
  ·unfold cl at hx
   by_cases e2:rowOf (slV kv)=some x∧o x=0
   ·exact⟨(hr x e2.1).2.1,(hkv.lt x e2.1).2⟩
   ·rw [if_neg e2] at hx;exact absurd e hx
  ·have:=h.lt x e;have:=hf.size;exact⟨(h.lt x e).1,by omega⟩
 ·have:=h.nc j c hc
  rw [hold c (by omega)];exact this
 ·by_cases ej:j=k
  ·subst ej
   rw [hb] at hc;cases hc
   rw [hs] at ht;cases ht
   rw [decide_eq_true (by omega)]
   refine⟨a,kv,bm,own_fm ha hf fun x hx e=>?_,fun x hx=>?_,fun _=>hkv,fun _ x hx=>?_,(fun e=>by cases e)⟩
   ·have e:x=b:=e
    have:=ha2 x hx
    rw [e,hbb] at this;omega
   ·rw [hold x (by rw [ha2 x hx];omega)];exact ha2 x hx
   ·exact cl_row hx (.inl (hr x hx).1)
  ·obtain⟨a2,kv2,hN⟩:=h.nd j c t hc ht
   have e1:decide (j < k+1)=decide (j < k):=decide_eq_decide.2 (by omega)
   rw [e1]
   have hcc:=h.nc j c hc
   exact⟨a2,kv2,hN.keep hcc hf (fun x hx e=>by
    have e:x=b:=e
    rw [e,hbb] at hx;omega) hold⟩
theorem CDoc.pm (hP:PM w0 o0 θ S) (h:CDoc w0 w o S gb gc bs nv S.D.sl.length) (hlen:bs.length=S.D.sl.length) {rv:Sv} (hf:Fm (·=gc) w w1) (hd:Blk w1 gc (docC nv rv S.lv S.wn S.lo []) 98)
  (hrv:Own LPt w1 0 152 (slV rv) (S.D.roots.map (pb bs))) (hr:∀x,rowOf (slV rv)=some x→o x=0∧w0.heap.size≤x) :
  ∃o',PM w1 o' ⟨gc,98,[]⟩ ⟨S.D,bs,S.lv,S.wn,S.lo⟩∧∀b,o' b≠0→w0.heap.size≤b:=by
 have hcol:=h.col
 have hold:∀x,o x≠0→cl o (rowOf (slV rv)) 3 x=o x:=fun x hx=>cl_old hx
 have hss:=hf.size
 refine⟨cl o (rowOf (slV rv)) 3,⟨?_,fun x hx=>?_,hlen,hP.few,fun j c hc=>?_,⟨nv,rv,hd,own_fm h.nv1 hf fun x hx e=>?_,fun x hx=>?_,hrv,fun x hx=>cl_row hx (.inl (hr x hx).1)⟩,fun j c t hc ht=>?_,hP.rng,hP.rts,hP.cnt⟩,fun x hx=>?_⟩
 ·show cl o _ 3 gc=1
  rw [hold gc (by rw [hcol];decide)];exact hcol
 ·by_cases e:o x=0
  ·unfold cl at hx
   by_cases e2:rowOf (slV rv)=some x∧o x=0
   ·exact (hrv.lt x e2.1).2
   ·rw [if_neg e2] at hx;exact absurd e hx
  ·have:=(h.lt x e).2;omega
 ·have:=h.nc j c hc
  rw [hold c (by omega)];exact this
 ·have e:x=gc:=e
  have:=h.nv2 x hx
  rw [e,hcol] at this;omega
 ·rw [hold x (by rw [h.nv2 x hx];decide)];exact h.nv2 x hx
 ·have hj:=(List.getElem?_eq_some_iff.1 ht).1
  obtain⟨a,kv,hN⟩:=h.nd j c t hc ht
  rw [decide_eq_true hj] at hN
  have hcc:=h.nc j c hc
  have hN2:=hN.keep (o1:=cl o (rowOf (slV rv)) 3) hcc hf (fun x hx e=>by
   have e:x=gc:=e
   rw [e,hcol] at hx;omega) hold
  exact⟨a,kv,hN2.blk,hN2.at1,hN2.at2,hN2.kd1 rfl,hN2.kd2 rfl⟩
 ·by_cases e:o x=0
  ·unfold cl at hx
   by_cases e2:rowOf (slV rv)=some x∧o x=0
   ·exact (hr x e2.1).2
   ·rw [if_neg e2] at hx;exact absurd e hx
  ·exact (h.lt x e).1
theorem rr_own {B:Nat}{e:TypeId}{α:Type}{L:Lay α}{v:Sv}{l:List α} (h:Own L w B e (slV v) l) (hl:l.length≤1048576):RR L w l v:=by
 obtain⟨h1,h2⟩:=rdO h
 exact⟨hl,h1,h2⟩
theorem clone1 (hP:PM w0 o0 θ S) (hC:CDoc w0 w o S gb gc [] (none,0,0) 0) {v:Sv} (hv:Own LPt w0 0 152 (slV v) S.bs)
  (hK:∀w' o' bs nv,bs.length=S.D.sl.length→CDoc w0 w' o' S gb gc bs nv 0→F64_l3 (some ⟨θ.g,0,none⟩) ⟨gb,0,none⟩ v.1 v.2.1 (fun _ _=>False) (S.bs.length:Nat) w' R) :
  ∃(I:Int→World→Prop) (m:Int→World→Nat),I (0:Int) w ∧
   ∀(x29:Int) (w1:World),I x29 w1→F64_l3 (some ⟨θ.g,0,none⟩) ⟨gb,0,none⟩ v.1 v.2.1 (fun x29' w2=>I x29' w2∧m x29' w2 < m x29 w1) x29 w1 R:=by
 obtain⟨n1,n2⟩:=rdO hv
 have hlen:=hP.len
 have hfew:=hP.few
 refine⟨fun x w'=>∃(m:Nat) (o':Nat→Nat) (bs:List Nat) (nv:Sv),x=m∧m≤S.bs.length∧bs.length=m∧CDoc w0 w' o' S gb gc bs nv 0,fun x _=>S.bs.length-x.toNat,⟨0,o,[],_,rfl,by omega,rfl,hC⟩,?_⟩
 rintro _ w1 ⟨m,o1,bs,nv,rfl,hm,hbm,h1⟩
 by_cases hml:m < S.bs.length
 ·unfold F64_l3
  refine brd (fun hlt=>?_) (fun hge=>absurd (by omega) hge)
  have B1:=h1.bel
  refine (n2.keep B1).pt n1 rfl (k:=m) hml fun b oo c0=>?_
  simp only [c0,lds]
  obtain⟨s,hs⟩:∃s,S.D.sl[m]?=some s:=⟨_,List.getElem?_eq_getElem (by omega)⟩
  have hgb:S.bs[m]?=some S.bs[m]:=List.getElem?_eq_getElem hml
  generalize S.bs[m]=b0 at *
  obtain⟨a,kv,hN⟩:=hP.nodes m b0 s hgb hs
  have hr:=hP.rng s (List.mem_of_getElem? hs)
  have bN:=hN.blk.keep B1
  have bN':=bN
  unfold nodeC at bN'
  simp only [NonNil_some,Addr.add_mk,Nat.zero_add,bN'.cell,lds]
  refine al fun gm w2 hb2 b2 hge2=>?_
  refine st_blk b2 (by simp) fun u1 q1 f1=>st_blk q1 (by simp) fun u2 q2 f2=>st_blk q2 (by simp) fun u3 q3 f3=>st_blk q3 (by simp) fun u4 q4 f4=>st_blk q4 (by simp) fun u5 q5 f5=>st_blk q5 (by simp) fun u6 q6 f6=>st_blk q6 (by simp) fun u7 q7 f7=>st_blk q7 (by simp) fun u8 q8 f8=>st_blk q8 (by simp) fun w3 b3 f9=>?_
  simp only [List.setIfInBounds_toArray,List.set_cons_zero,List.set_cons_succ] at b3
  have F3:Fm (·=gm) w2 w3:=((((((((f1.trans f2).trans f3).trans f4).trans f5).trans f6).trans f7).trans f8).trans f9)
  clear q1 q2 q3 q4 q5 q6 q7 q8 f1 f2 f3 f4 f5 f6 f7 f8 f9
  have D3:Below w1.heap.size w1 w3:=hb2.trans (F3.toBelow hb2.size fun b hb e=>by have e:b=gm:=e;omega)
  have bN3:=bN'.keep D3
  simp only [NonNil_some,Addr.add_mk,Nat.zero_add,bN3.cell,lds]
  have ra:=(rr_own hN.at1 hr.atf).keep (btr B1 B1.size D3)
  refine cloneOwn_calls s.attrs a ra fun a' w4 hb4 oa=>⟨_,_,_,rfl,?_⟩
  have D4:=btr D3 D3.size hb4
  refine st_blk (b3.keep hb4) (by simp) fun w5 b5 f5=>?_
  simp only [List.setIfInBounds_toArray,List.set_cons_zero,List.set_cons_succ] at b5
  have hs1:=D3.size
  have hs4:=hb4.size
  have D5:Below w1.heap.size w1 w5:=D4.trans (f5.toBelow D4.size fun b hb e=>by have e:b=gm:=e;omega)
  have h5:=h1.below D5
  have hs5:=f5.size
  have hgm:gm < w3.heap.size:=b3.lt
  have oa5:Own LAt w5 0 205 (slV a') s.attrs:=(own_fm oa f5 fun x hx e=>by have e:x=gm:=e;have:=(oa.lt x hx).1;omega).rebase fun _ _=>Nat.zero_le _
  have har:∀x,rowOf (slV a')=some x→w3.heap.size≤x∧x < w5.heap.size:=fun x hx=>⟨(oa.lt x hx).1,(oa5.lt x hx).2⟩
  have hdr:Below w5.heap.size w5 w5.drew:=(Below.refl _ _).drew
  have h5d:=h5.below hdr
  have hgcol:=h5.col
  have hbcol:=h5.bc
  obtain⟨l1,l2⟩:=rdO h5.nv1
  refine⟨fun w'=>Blk w' gb #[.pointer (some ⟨gc,0,none⟩)] 77∧Blk w' gc (docC nv (none,0,0) S.lv S.wn S.lo []) 98,⟨h5d.box,h5d.doc⟩,?_⟩
  refine⟨_,fun w' hw=>by rw [hw.1.cell];rfl,_,fun w' hw=>by rw [hw.1.cell];rfl,?_⟩
  refine⟨_,_,_,fun w' hw=>by rw [hw.2.cell];rfl,?_⟩
  refine ap1S (L:=LPt) (x:=gm) (xs:=bs) (base:=0) (.pointer none) 8 rfl (by kernel_rfl) (by kernel_rfl) (by kernel_rfl) h5d.nv1 (Nat.zero_le _) (by omega) (by simp [maxLen];omega) (fun w' hb=>⟨h5d.box.keep hb,h5d.doc.keep hb⟩) fun A' c' w6 o6 g6=>⟨A',_,c',rfl,?_⟩
  have FG:Fm (fun b=>rowOf (slV nv)=some b) w5.drew w6:=Fm.grown g6.grown fun b hb=>hb
  have bb6:=FG.blk h5d.box fun e=>by rw [h5.nv2 gb e] at hbcol;cases hbcol
  have bc6:=FG.blk h5d.doc fun e=>by rw [h5.nv2 gc e] at hgcol;cases hgcol
  refine⟨⟨bb6,bc6⟩,?_⟩
  simp only [NonNil_some]
  refine st_blk bc6 (by simp [docC]) fun w7 b7 f7=>⟨inR_i64 (by omega) (by omega),?_⟩
  rw [show Value.slice A' (bs.length+1) c'=slV (A',bs.length+1,c') from rfl,doc_set0] at b7
  have FF:Fm (fun b=>rowOf (slV nv)=some b∨b=gc) w5.drew w7:=(FG.mono fun b _ e=>.inl e).trans (f7.mono fun b _ e=>.inr e)
  have hgcl:=h5.doc.lt
  have FF1:Fm (fun b=>rowOf (slV nv)=some b∨b=gc) w1 w7:=(Fm.below (btr D5 D5.size hdr)).trans FF
  have hgcw:=(h1.lt gc (by rw [h1.col];decide)).2
  have hnvl:∀x,rowOf (slV nv)=some x→x < w1.heap.size:=fun x hx=>(h1.lt x (by rw [h1.nv2 x hx];decide)).2
  have hdl:w5.drew.heap.size=w5.heap.size:=rfl
  have bm7:Blk w7 gm (nodeC bs.length s a' (ptrH S.bs s.parent) kv) 202:=by
   refine FF.blk (show Blk w5.drew gm _ _ from ?_) fun e=>?_
   ·have:=b5.keep hdr
    rw [hbm];exact this
   ·rcases e with e | e
    ·have:=hnvl gm e;omega
    ·omega
  obtain⟨o',hC'⟩:=h1.push (s:=s) (a:=a') (kv:=kv) (nv':=(A',bs.length+1,c')) (gm:=gm) (w1:=w7) (by rw [hbm];exact hs) FF1 hge2 bm7
   (own_fm oa5 ((Fm.below hdr).trans FF) fun x hx e=>by
    rcases e with e | e
    ·have:=hnvl x e;have:=(har x hx).1;omega
    ·have:=(har x hx).1;omega)
   (fun x hx=>⟨by have:=(har x hx).1;omega,by have:=(har x hx).1;omega⟩) ⟨by have:=(rdO hN.kd1).1;rwa [List.length_map] at this,(rdO hN.kd1).2⟩ b7
   (own_fm o6 f7 fun x hx e=>by
    have e:x=gc:=e
    have hx:rowOf (Value.slice A' (bs.length+1) c')=some x:=hx
    rcases g6.row with e2 | e2 | ⟨g,e2,e3⟩
    ·have hx2:rowOf (slV nv)=some x:=by
      have:rowOf (slV (A',bs.length+1,c'))=rowOf (slV nv):=e2
      rw [←this];exact hx
     rw [e,] at hx2
     rw [h5.nv2 gc hx2] at hgcol;cases hgcol
    ·have:rowOf (slV (A',bs.length+1,c'))=none:=e2
     rw [e2] at hx;cases hx
    ·have:rowOf (Value.slice A' (bs.length+1) c')=some g:=e2
     rw [this] at hx;cases hx;omega)
   (fun x hx=>by
    have hx:rowOf (Value.slice A' (bs.length+1) c')=some x:=hx
    rcases g6.row with e2 | e2 | ⟨g,e2,e3⟩
    ·rw [e2] at hx;exact .inl hx
    ·rw [e2] at hx;cases hx
    ·rw [e2] at hx;cases hx
     exact .inr ⟨by omega,by omega,fun e=>by have:=(har x e).2;omega⟩)
  exact⟨⟨m+1,o',bs++[gm],_,by simp,by omega,by simp;omega,hC'⟩,(by first | omega | (dsimp only;omega))⟩
 ·have hm2:m=S.bs.length:=by omega
  subst hm2
  have:=hK w1 o1 bs nv (by omega) h1
  unfold F64_l3 at this ⊢
  refine brd (fun hlt=>absurd hlt (by omega)) (fun hge=>?_)
  rw [decide_eq_false (by omega),Br_f] at this
  exact this
theorem clone2 (hP:PM w0 o0 θ S) (hC:CDoc w0 w o S gb gc bs nv 0) (hlen:bs.length=S.D.sl.length) {v:Sv} (hv:Own LPt w0 0 152 (slV v) S.bs)
  (hK:∀o' w',Below w0.heap.size w0 w'→PM w' o' ⟨gc,98,[]⟩ ⟨S.D,bs,S.lv,S.wn,S.lo⟩→(∀b,o' b≠0→w0.heap.size≤b)→R (.returned (.pointer (some ⟨gc,0,none⟩))) w') :
  ∃(I:Int→World→Prop) (m:Int→World→Nat),I (0:Int) w ∧
   ∀(x58:Int) (w1:World),I x58 w1→F64_l11 (some ⟨θ.g,0,none⟩) ⟨gb,0,none⟩ v.1 v.2.1 (fun x58' w2=>I x58' w2∧m x58' w2 < m x58 w1) x58 w1 R:=by
 obtain⟨n1,n2⟩:=rdO hv
 have hl0:=hP.len
 have hfew:=hP.few
 refine⟨fun x w'=>∃(m:Nat) (o':Nat→Nat),x=m∧m≤S.bs.length∧CDoc w0 w' o' S gb gc bs nv m,fun x _=>S.bs.length-x.toNat,⟨0,o,rfl,by omega,hC⟩,?_⟩
 rintro _ w1 ⟨m,o1,rfl,hm,h1⟩
 have B1:=h1.bel
 have hdr:Below w1.heap.size w1 w1.drew:=(Below.refl _ _).drew
 have B1d:=btr B1 B1.size hdr
 have h1d:=h1.below hdr
 obtain⟨l1,l2⟩:=rdO h1.nv1
 have hcol:=h1.col
 have hbc:=h1.bc
 unfold F64_l11
 refine brd (fun hlt=>?_) (fun hge=>?_)
 ·have hml:m < S.bs.length:=by omega
  refine⟨fun w'=>∃o',CDoc w0 w' o' S gb gc bs nv (m+1),?_,?_⟩
  ·rintro w' ⟨o',h'⟩
   exact⟨inR_i64 (by omega) (by omega),⟨m+1,o',by simp,by omega,h'⟩,(by first | omega | (dsimp only;omega))⟩
  refine (n2.keep B1).pt n1 rfl (k:=m) hml fun b oo c0=>?_
  simp only [c0,lds]
  obtain⟨s,hs⟩:∃s,S.D.sl[m]?=some s:=⟨_,List.getElem?_eq_getElem (by omega)⟩
  have hgb:S.bs[m]?=some S.bs[m]:=List.getElem?_eq_getElem hml
  obtain⟨bn,hbn⟩:∃bn,bs[m]?=some bn:=⟨_,List.getElem?_eq_getElem (by omega)⟩
  obtain⟨hbl,hbn'⟩:=List.getElem?_eq_some_iff.1 hbn
  generalize S.bs[m]=b0 at *
  obtain⟨a0,kv0,hN⟩:=hP.nodes m b0 s hgb hs
  have hr:=hP.rng s (List.mem_of_getElem? hs)
  obtain⟨a,kv,hQ⟩:=h1.nd m bn s hbn hs
  rw [decide_eq_false (by omega)] at hQ
  have hbnc:=h1.nc m bn hbn
  refine⟨fun w'=>Below w1.heap.size w1 w',hdr,?_⟩
  refine⟨_,fun w' hw=>by rw [(h1.box.keep hw).cell];rfl,?_⟩
  refine⟨_,_,_,fun w' hw=>by rw [(h1.doc.keep hw).cell];rfl,?_⟩
  refine l2.held (fun _ h=>h) l1 (by omega) (by omega) rfl fun b2 o2 cc=>?_
  have cc:=cc 0 _ rfl
  simp only [Int.toNat_natCast,hbn',Nat.add_zero] at cc
  refine⟨_,cc,?_⟩
  simp only [NonNil_some,Addr.add_mk,Nat.zero_add]
  refine⟨_,_,_,fun w' hw=>by rw [((hN.blk.keep B1).keep hw).cell];rfl,?_⟩
  obtain⟨q1,q2⟩:=rdO hN.kd1
  rw [List.length_map] at q1
  refine⟨by kernel_rfl,turn_calls hP h1d hlen q1 q2 hr.few hr.kids fun r w2 hb2 or2=>⟨_,_,_,rfl,?_⟩⟩
  have D2:=btr hdr hdr.size hb2
  refine⟨D2,?_⟩
  have h2:=h1.below D2
  have hws:=D2.size
  have hrr:∀x,rowOf (slV r)=some x→w1.heap.size≤x∧x < w2.heap.size:=fun x hx=>⟨(or2.lt x hx).1,(or2.lt x hx).2⟩
  have hbnl:=h1.lt bn (by omega)
  have b2:=hQ.blk.keep D2
  refine st_blk b2 (by simp [nodeC]) fun w3 b3 f3=>?_
  have e8:(nodeC m s a (ptrH (bif false then bs else S.bs) s.parent) kv).setIfInBounds 8 (.slice r.1 r.2.1 r.2.2)=nodeC m s a (ptrH S.bs s.parent) r:=by simp [nodeC]
  rw [e8] at b3
  have hgbl:=h1.gbl
  have hws0:=B1.size
  have hwb:=h1.box.lt
  have fin:∀w':World,Fm (·=bn) w2 w'→Blk w' bn (nodeC m s a (ptrH bs s.parent) r) 202→∃o',CDoc w0 w' o' S gb gc bs nv (m+1):=fun w' f b =>
   h2.step hbn hs f b (hQ.at1.keep D2) hQ.at2 (own_fm (or2.rebase fun _ _=>Nat.zero_le _) f fun x hx e=>by have e:x=bn:=e;have:=(hrr x hx).1;omega)
    fun x hx=>⟨Classical.byContradiction fun e=>by have:=(h1.lt x e).2;have:=(hrr x hx).1;omega,by have:=(hrr x hx).1;omega,by have:=(hrr x hx).1;omega⟩
  have D3:Below w0.heap.size w0 w3:=(btr B1 B1.size D2).trans (f3.toBelow (btr B1 B1.size D2).size fun b hb e=>by have e:b=bn:=e;omega)
  have cp:w3.cell? ⟨b0,7,none⟩=some (.pointer (ptrH S.bs s.parent)):=by rw [(hN.blk.keep D3).cell];rfl
  simp only [cp,lds]
  by_cases hp0:s.parent=0
  ·have e1:ptrH S.bs s.parent=none:=by unfold ptrH;rw [if_pos hp0]
   rw [e1]
   simp only [Option.isNone_none,Bool.not_true,Br_f]
   refine fin w3 f3 ?_
   have e2:ptrH bs s.parent=none:=by unfold ptrH;rw [if_pos hp0]
   rw [e2,←e1];exact b3
  ·have hpin:=hr.par.resolve_left hp0
   have e1:ptrH S.bs s.parent=some ⟨pb S.bs s.parent,0,none⟩:=by unfold ptrH;rw [if_neg hp0]
   rw [e1]
   simp only [Option.isNone_some,Bool.not_false,Br_t]
   have hdr3:Below w3.heap.size w3 w3.drew:=(Below.refl _ _).drew
   have bx3:=f3.blk h2.box fun e=>by have e:gb=bn:=e;rw [e] at hbc;omega
   have bd3:=f3.blk h2.doc fun e=>by have e:gc=bn:=e;rw [e] at hcol;omega
   have ho3:=own_fm h2.nv1 f3 fun x hx e=>by
    have e:x=bn:=e
    have:=h2.nv2 x hx
    rw [e] at this;omega
   obtain⟨p1,s2,p2⟩:=pb_get hP.len hpin
   unfold inN at hpin
   obtain⟨j1,j2⟩:=rdO ho3
   refine⟨fun w'=>Below w3.heap.size w3 w',hdr3,?_⟩
   refine⟨_,fun w' hw=>by rw [(bx3.keep hw).cell];rfl,?_⟩
   simp only [NonNil_some,Addr.add_mk,Nat.zero_add]
   refine⟨_,_,_,fun w' hw=>by rw [(bd3.keep hw).cell];rfl,?_⟩
   refine j2.held (fun _ h=>h) j1 (by omega) (by omega) rfl fun b4 o4 cc4=>?_
   have cc4:=cc4 0 _ rfl
   simp only [Int.toNat_natCast,hbn',Nat.add_zero] at cc4
   refine⟨_,cc4,?_⟩
   refine⟨_,fun w' hw=>by rw [(bx3.keep hw).cell];rfl,?_⟩
   simp only [NonNil_some,Addr.add_mk,Nat.zero_add]
   refine⟨_,_,_,fun w' hw=>by rw [(bd3.keep hw).cell];rfl,?_⟩
   refine⟨_,fun w' hw=>by rw [((hN.blk.keep D3).keep hw).cell];show _=some (Value.pointer (ptrH S.bs s.parent));rfl,?_⟩
   rw [e1]
   simp only [NonNil_some,Addr.add_mk,Nat.zero_add]
   refine⟨_,fun w' hw=>(hP.below (btr D3 D3.size hw)).cIdx p1 p2,inR_u32 (by omega) (by omega),?_⟩
   refine j2.held (fun _ h=>h) j1 (by omega) (by omega) rfl fun b5 o5 cc5=>?_
   have cc5:=cc5 0 _ rfl
   have e3:(((s.parent % 4294967296-1+1:Nat):Int)-1).toNat=s.parent % 4294967296-1:=by omega
   have e4:bs[(((s.parent % 4294967296-1+1:Nat):Int)-1).toNat]'(by omega)=pb bs s.parent:=by
    unfold pb
    rw [List.getD_eq_getElem?_getD,List.getElem?_eq_getElem (by omega)]
    simp only [e3,Option.getD_some]
   simp only [e4,Nat.add_zero] at cc5
   refine⟨_,cc5,?_⟩
   refine st_blk (b3.keep hdr3) (by simp [nodeC]) fun w5 b5 f5=>?_
   have e7:(nodeC m s a (ptrH S.bs s.parent) r).setIfInBounds 7 (.pointer (some ⟨pb bs s.parent,0,none⟩))=nodeC m s a (ptrH bs s.parent) r:=by
    have:ptrH bs s.parent=some ⟨pb bs s.parent,0,none⟩:=by unfold ptrH;rw [if_neg hp0]
    rw [this];simp [nodeC]
   rw [e7] at b5
   exact fin w5 ((f3.trans (Fm.below hdr3)).trans f5) b5
 ·have hm2:m=S.D.sl.length:=by omega
  subst hm2
  obtain⟨nv0,rv0,hd⟩:=hP.doc
  refine⟨fun w'=>Below w1.heap.size w1 w',hdr,?_⟩
  refine⟨_,fun w' hw=>by rw [(h1.box.keep hw).cell];rfl,?_⟩
  simp only [NonNil_some,Addr.add_mk,Nat.zero_add]
  refine⟨_,_,_,fun w' hw=>by rw [((hd.blk.keep B1).keep hw).cell];rfl,?_⟩
  obtain⟨q1,q2⟩:=rdO hd.r1
  rw [List.length_map] at q1
  refine⟨by kernel_rfl,turn_calls hP h1d hlen q1 q2 hP.rts.2 hP.rts.1 fun r w2 hb2 or2=>⟨_,_,_,rfl,?_⟩⟩
  have D2:=btr hdr hdr.size hb2
  refine⟨D2,?_⟩
  have h2:=h1.below D2
  have hws:=D2.size
  refine st_blk h2.doc (by simp [docC]) fun w3 b3 f3=>?_
  rw [show Value.slice r.1 r.2.1 r.2.2=slV r from rfl,show (none,0,0)=((none,0,0):Sv) from rfl,doc_set1] at b3
  have bx3:=f3.blk h2.box fun e=>by have e:gb=gc:=e;rw [e,hcol] at hbc;cases hbc
  have cb:w3.cell? ⟨gb,0,none⟩=some (.pointer (some ⟨gc,0,none⟩)):=by rw [bx3.cell];rfl
  simp only [cb,lds]
  have hgcl:=(h1.lt gc (by rw [hcol];decide))
  have hrr:∀x,rowOf (slV r)=some x→w1.heap.size≤x∧x < w2.heap.size:=fun x hx=>⟨(or2.lt x hx).1,(or2.lt x hx).2⟩
  have hws0:=B1.size
  obtain⟨o',hPM,ho'⟩:=h2.pm hP hlen f3 b3 (own_fm (or2.rebase fun _ _=>Nat.zero_le _) f3 fun x hx e=>by have e:x=gc:=e;have:=(hrr x hx).1;omega)
   fun x hx=>⟨Classical.byContradiction fun e=>by have:=(h1.lt x e).2;have:=(hrr x hx).1;omega,by have:=(hrr x hx).1;omega⟩
  exact hK o' w3 ((btr B1 B1.size D2).trans (f3.toBelow (btr B1 B1.size D2).size fun b hb e=>by have e:b=gc:=e;omega)) hPM ho'
theorem Clone_calls (hP:PM w o0 θ S) (hK:∀gc bs o' w',Below w.heap.size w w'→PM w' o' ⟨gc,98,[]⟩ ⟨S.D,bs,S.lv,S.wn,S.lo⟩→(∀b,o' b≠0→w.heap.size≤b)→R (.returned (.pointer (some ⟨gc,0,none⟩))) w') :
  Calls Tryz.prog 64 #[.pointer (some ⟨θ.g,0,none⟩)] w R:=by
 refine ok64 (some ⟨θ.g,0,none⟩) ?_
 unfold F64
 obtain⟨nv0,rv0,hd⟩:=hP.doc
 have hdr:Below w.heap.size w w.drew:=(Below.refl _ _).drew
 have start:∀(w':World) (gb gc:Nat),Below w.heap.size w w'→w.heap.size≤gb→w.heap.size≤gc→gb≠gc→Blk w' gb #[.pointer (some ⟨gc,0,none⟩)] 77→Blk w' gc (docC (none,0,0) (none,0,0) S.lv S.wn S.lo []) 98 →
   CDoc w w' (fun b=>if b=gc then 1 else 0) S gb gc [] (none,0,0) 0:=fun w' gb gc hb h1 h2 h3 b1 b2 =>
  ⟨hb,b1,b2,Own.nil _ _ _ _,fun x hx=>(by cases hx),if_pos rfl,if_neg h3,fun b hb=>(by
   by_cases e:b=gc
   ·subst e;exact⟨h2,b2.lt⟩
   ·rw [if_neg e] at hb;exact absurd rfl hb),h1,by simp,fun j b hb=>(by simp at hb),fun j b s hb=>(by simp at hb)⟩
 refine⟨fun c w'=>∃gb gc,c=⟨gb,0,none⟩∧CDoc w w' (fun b=>if b=gc then 1 else 0) S gb gc [] (none,0,0) 0,?_,?_⟩
 ·rintro _ w1 ⟨gb,gc,rfl,h1⟩
  unfold F64_j2
  have c0:w1.cell? ⟨θ.g,0,none⟩=some (.slice nv0.1 nv0.2.1 nv0.2.2):=by rw [(hd.blk.keep h1.bel).cell];rfl
  simp only [NonNil_some,c0,lds]
  refine clone1 hP h1 hd.n1 fun w2 o2 bs nv hl h2=>?_
  unfold F64_l3
  obtain⟨n1,n2⟩:=rdO hd.n1
  refine brd (fun hlt=>absurd hlt (by omega)) fun _=>?_
  have c2:w2.cell? ⟨θ.g,0,none⟩=some (.slice nv0.1 nv0.2.1 nv0.2.2):=by rw [(hd.blk.keep h2.bel).cell];rfl
  simp only [NonNil_some,c2,lds]
  exact clone2 hP h2 hl hd.n1 fun o' w' hb hPM ho=>hK gc bs o' w' hb hPM ho
 ·refine⟨fun w'=>Below w.heap.size w w',hdr,?_⟩
  simp only [NonNil_some,Addr.add_mk,Nat.zero_add]
  refine⟨_,fun w' hw=>by rw [(hd.blk.keep hw).cell];rfl,_,fun w' hw=>by rw [(hd.blk.keep hw).cell];rfl,_,fun w' hw=>by rw [(hd.blk.keep hw).cell];rfl,?_,?_⟩
  ·refine al fun gc w1 hb1 b1 hge1=>al fun gb w2 hb2 b2 hge2=>?_
   refine st_blk b2 (by simp) fun w3 b3 f3=>?_
   simp only [List.setIfInBounds_toArray,List.set_cons_zero,List.set_cons_succ] at b3
   have D2:=btr (btr hdr hdr.size hb1) (btr hdr hdr.size hb1).size hb2
   have hl1:=b1.lt
   have hs1:=hb1.size
   have hds:w.drew.heap.size=w.heap.size:=rfl
   exact⟨gb,gc,rfl,start w3 gb gc (D2.trans (f3.toBelow D2.size fun b hb e=>by have e:b=gb:=e;omega)) (by omega) (by omega) (by omega) b3 (f3.blk (b1.keep hb2) fun e=>by have e:gc=gb:=e;omega)⟩
  ·refine al fun gb w1 hb1 b1 hge1=>⟨btr hdr hdr.size hb1,?_⟩
   refine al fun gc w2 hb2 b2 hge2=>?_
   refine st_blk (b1.keep hb2) (by simp) fun w3 b3 f3=>?_
   simp only [List.setIfInBounds_toArray,List.set_cons_zero,List.set_cons_succ] at b3
   have D2:=btr (btr hdr hdr.size hb1) (btr hdr hdr.size hb1).size hb2
   have hl1:=b1.lt
   have hs1:=hb1.size
   have hds:w.drew.heap.size=w.heap.size:=rfl
   exact⟨gb,gc,rfl,start w3 gb gc (D2.trans (f3.toBelow D2.size fun b hb e=>by have e:b=gb:=e;omega)) (by omega) (by omega) (by omega) b3 (f3.blk b2 fun e=>by have e:gc=gb:=e;omega)⟩
end
set_option maxRecDepth 100000
structure MpE (q:IntKind) (es:Array MapEntry) (clock:Nat) (f:Int→Option Value):Prop where
 key:∀x∈es.toList,∃k,x.key=.int q k∧f k=some x.val
 has:∀k v,f k=some v→∃x∈es.toList,x.key=.int q k
 one:(es.toList.map (·.key)).Nodup
 born:∀x∈es.toList,x.born < clock
 age:(es.toList.map (·.born)).Nodup
def Mp (q:IntKind) (w:World) (b:Nat) (f:Int→Option Value):Prop:=∃es clock,w.heap[b]?=some (.map es clock)∧MpE q es clock f
theorem nodup_map_inj {α β:Type}{f:α→β}:∀{l:List α},(l.map f).Nodup→∀x∈l,∀y∈l,f x=f y→x=y
 | [],_,x,hx,_,_,_=>by simp at hx
 | a :: l,h,x,hx,y,hy,e=>by
  rw [List.map_cons,List.nodup_cons] at h
  rcases List.mem_cons.1 hx with h1 | h1 <;> rcases List.mem_cons.1 hy with h2 | h2
  ·rw [h1,h2]
  ·subst h1;exact absurd (List.mem_map.2 ⟨y,h2,e.symm⟩) h.1
  ·subst h2;exact absurd (List.mem_map.2 ⟨x,h1,e⟩) h.1
  ·exact nodup_map_inj h.2 x h1 y h2 e
theorem findNow_int {q:IntKind}{k:Int}:∀(l:List MapEntry) (i:Nat),(∀x∈l,∃a,x.key=.int q a) →
  (Instr.findNow (.int q) (.int q k) l i=some none∧∀x∈l,x.key≠.int q k)∨∃j x,l[j]?=some x∧x.key=.int q k∧Instr.findNow (.int q) (.int q k) l i=some (some (i+j,x.val))
 | [],i,_=>.inl ⟨rfl,fun x h=>by simp at h⟩
 | x :: l,i,h=>by
  obtain⟨a,ha⟩:=h x (by simp)
  by_cases hk:k=a
  ·subst hk
   refine .inr ⟨0,x,rfl,ha,?_⟩
   simp [Instr.findNow,ha,Instr.sameNow]
  ·have e:Instr.findNow (.int q) (.int q k) (x :: l) i=Instr.findNow (.int q) (.int q k) l (i+1):=by
    have hb:(k == a)=false:=by simpa using hk
    simp [Instr.findNow,ha,Instr.sameNow,hb]
   rcases findNow_int l (i+1) fun y hy=>h y (by simp [hy]) with ⟨h1,h2⟩ | ⟨j,y,h1,h2,h3⟩
   ·refine .inl ⟨by rw [e,h1],fun y hy=>?_⟩
    rcases List.mem_cons.1 hy with rfl | hy
    ·rw [ha];intro h;injection h with _ h;exact hk h.symm
    ·exact h2 y hy
   ·exact .inr ⟨j+1,y,by simpa using h1,h2,by rw [e,h3];congr 2;simp;omega⟩
section
variable {P:Program}{q:IntKind}{w:World}{b:Nat}{f:Int→Option Value}{t kt et:TypeId}
theorem Mp.find (h:Mp q w b f) (k:Int):∃es clock,w.heap[b]?=some (.map es clock)∧MpE q es clock f ∧
  ((f k=none∧Instr.findNow (.int q) (.int q k) es.toList 0=some none)∨∃j x,es.toList[j]?=some x∧x.key=.int q k∧f k=some x.val∧Instr.findNow (.int q) (.int q k) es.toList 0=some (some (j,x.val))):=by
 obtain⟨es,clock,hb,he⟩:=h
 refine⟨es,clock,hb,he,?_⟩
 rcases findNow_int (k:=k) es.toList 0 fun x hx=>(he.key x hx).imp fun _ h=>h.1 with ⟨h1,h2⟩ | ⟨j,x,h1,h2,h3⟩
 ·refine .inl ⟨?_,h1⟩
  cases hf:f k with
  | none=>rfl
  | some v =>
   obtain⟨x,hx,hk⟩:=he.has k v hf
   exact absurd hk (h2 x hx)
 ·refine .inr ⟨j,x,h1,h2,?_,by simpa using h3⟩
  obtain⟨a,ha,hv⟩:=he.key x (List.mem_of_getElem? h1)
  rw [h2] at ha;injection ha with _ ha;subst ha;exact hv
theorem Mp.look (h:Mp q w b f) (ht:P.underlying t=some (.map kt et)) (hk:P.underlying kt=some (.int q)) {z:Value} (hz:(zeroValue et).run P w=.ok z w) (k:Int) (c:Bool) {K:Value→World→Prop}
  (hK:K (if c then .tuple #[(f k).getD z,.bool (f k).isSome] else (f k).getD z) w):Raw P (Instr.lookup t (.map (some b)) (.int q k) c) w K:=by
 obtain⟨es,clock,hb,he,h2⟩:=h.find k
 have hc:(Instr.checkKey es.isEmpty 10000 kt (.int q k)).run P w=.ok () w:=MapKept.run_checkKey (k:=.int q k) hk (by simp [MapKept.IsKey]) _ 9999
 rcases h2 with ⟨h1,h2⟩ | ⟨j,x,h3,h4,h1,h2⟩
 ·rw [h1] at hK
  refine⟨_,w,?_,hK⟩
  simp [Instr.lookup,run_underlying ht,MapKept.run_getObj_map hb,hc,MapKept.run_findKey hk h2,hz,Result.andThen]
 ·rw [h1] at hK
  refine⟨_,w,?_,hK⟩
  simp [Instr.lookup,run_underlying ht,MapKept.run_getObj_map hb,hc,MapKept.run_findKey hk h2,Result.andThen]
def upd (f:Int→Option Value) (k:Int) (v:Option Value):Int→Option Value:=fun j=>if j=k then v else f j
theorem Mp.lt (h:Mp q w b f):b < w.heap.size:=by
 obtain⟨es,clock,hb,_⟩:=h;exact (Array.getElem?_eq_some_iff.1 hb).1
theorem MpE.push {es:Array MapEntry}{clock:Nat} (he:MpE q es clock f) {k:Int} (hk:f k=none) (v:Value):MpE q (es.push ⟨.int q k,v,clock⟩) (clock+1) (upd f k (some v)):=by
 have hne:∀x∈es.toList,∀a,x.key=.int q a→a≠k:=fun x hx a ha e=>by
  obtain⟨a',h1,h2⟩:=he.key x hx
  rw [ha] at h1;injection h1 with _ h1;subst h1;subst e;rw [hk] at h2;cases h2
 refine⟨fun x hx=>?_,fun j u hu=>?_,?_,fun x hx=>?_,?_⟩
 ·rw [Array.toList_push] at hx
  rcases List.mem_append.1 hx with hx | hx
  ·obtain⟨a,h1,h2⟩:=he.key x hx
   exact⟨a,h1,by unfold upd;rw [if_neg (hne x hx a h1)];exact h2⟩
  ·rw [List.mem_singleton] at hx;subst hx
   exact⟨k,rfl,by unfold upd;rw [if_pos rfl]⟩
 ·unfold upd at hu
  by_cases e:j=k
  ·subst e;exact⟨⟨.int q j,v,clock⟩,by simp,rfl⟩
  ·rw [if_neg e] at hu
   obtain⟨x,hx,h1⟩:=he.has j u hu
   exact⟨x,by simp [Array.mem_toList_iff.1 hx],h1⟩
 ·rw [Array.toList_push,List.map_append,List.nodup_append]
  refine⟨he.one,by simp,fun x hx y hy e=>?_⟩
  rw [List.map_singleton,List.mem_singleton] at hy
  obtain⟨z,hz,rfl⟩:=List.mem_map.1 hx
  obtain⟨a,h1,-⟩:=he.key z hz
  rw [h1,hy] at e;injection e with _ e
  exact hne z hz a h1 e
 ·rw [Array.toList_push] at hx
  rcases List.mem_append.1 hx with hx | hx
  ·have:=he.born x hx;omega
  ·rw [List.mem_singleton] at hx;subst hx;exact Nat.lt_succ_self _
 ·rw [Array.toList_push,List.map_append,List.nodup_append]
  refine⟨he.age,by simp,fun x hx y hy e=>?_⟩
  rw [List.map_singleton,List.mem_singleton] at hy
  obtain⟨z,hz,rfl⟩:=List.mem_map.1 hx
  have:=he.born z hz
  simp only at hy e
  omega
theorem modify_list (es:Array MapEntry) (j:Nat) (g:MapEntry→MapEntry):(es.modify j g).toList=es.toList.modify j g:=Array.toList_modify
theorem map_modify_same {α β:Type} (p:α→β) (g:α→α):∀(l:List α) (j:Nat),(∀x,l[j]?=some x→p (g x)=p x)→(l.modify j g).map p=l.map p
 | [],j,_=>by cases j <;> rfl
 | x :: l,0,h=>by simp [List.modify,h x rfl]
 | x :: l,j+1,h=>by simpa using map_modify_same p g l j fun y hy=>h y (by simpa using hy)
theorem mem_modify {α:Type} (g:α→α):∀(l:List α) (j:Nat) (y:α),l[j]?=some y→∀x,x∈l.modify j g→x=g y∨∃i,i≠j∧l[i]?=some x
 | [],j,y,h,x,hx=>by simp at h
 | a :: l,0,y,h,x,hx=>by
  simp at h;subst h
  rw [List.modify_zero_cons] at hx
  rcases List.mem_cons.1 hx with rfl | hx
  ·exact .inl rfl
  ·obtain⟨i,hi⟩:=List.mem_iff_getElem?.1 hx
   exact .inr ⟨i+1,by omega,by simpa using hi⟩
 | a :: l,j+1,y,h,x,hx=>by
  rw [List.modify_succ_cons] at hx
  rcases List.mem_cons.1 hx with rfl | hx
  ·exact .inr ⟨0,by omega,rfl⟩
  ·rcases mem_modify g l j y (by simpa using h) x hx with h1 | ⟨i,h1,h2⟩
   ·exact .inl h1
   ·exact .inr ⟨i+1,by omega,by simpa using h2⟩
theorem MpE.put {es:Array MapEntry}{clock:Nat} (he:MpE q es clock f) {k:Int}{j:Nat}{y:MapEntry} (hj:es.toList[j]?=some y) (hy:y.key=.int q k) (v:Value) :
  MpE q (es.modify j fun e=>{ e with key:=.int q k,val:=v }) clock (upd f k (some v)):=by
 have hym:=List.mem_of_getElem? hj
 have hkeys:(es.modify j fun e=>{ e with key:=.int q k,val:=v }).toList.map (·.key)=es.toList.map (·.key):=by
  rw [modify_list];exact map_modify_same _ _ _ _ fun x hx=>by rw [hj] at hx;cases hx;exact hy.symm
 have hborn:(es.modify j fun e=>{ e with key:=.int q k,val:=v }).toList.map (·.born)=es.toList.map (·.born):=by
  rw [modify_list];exact map_modify_same _ _ _ _ fun x hx=>rfl
 refine⟨fun x hx=>?_,fun i u hu=>?_,by rw [hkeys];exact he.one,fun x hx=>?_,by rw [hborn];exact he.age⟩
 ·rw [modify_list] at hx
  rcases mem_modify _ _ _ y hj x hx with rfl | ⟨i,hi,hx2⟩
  ·exact⟨k,rfl,by unfold upd;rw [if_pos rfl]⟩
  ·obtain⟨a,h1,h2⟩:=he.key x (List.mem_of_getElem? hx2)
   refine⟨a,h1,?_⟩
   have hne:a≠k:=fun e=>by
    subst e
    obtain⟨l1,l2⟩:=List.getElem?_eq_some_iff.1 hx2
    obtain⟨m1,m2⟩:=List.getElem?_eq_some_iff.1 hj
    have hpw:=List.pairwise_iff_getElem.1 he.one
    rcases Nat.lt_or_gt_of_ne hi with h3 | h3
    ·have:=hpw i j (by simpa using l1) (by simpa using m1) h3
     simp only [List.getElem_map,l2,m2] at this
     exact this (by rw [h1,hy])
    ·have:=hpw j i (by simpa using m1) (by simpa using l1) h3
     simp only [List.getElem_map,l2,m2] at this
     exact this (by rw [h1,hy])
   unfold upd;rw [if_neg hne];exact h2
 ·have hex:∃x∈es.toList,x.key=.int q i:=by
   unfold upd at hu
   by_cases e:i=k
   ·subst e;exact⟨y,hym,hy⟩
   ·rw [if_neg e] at hu;exact he.has i u hu
  obtain⟨x,hx,h1⟩:=hex
  have:Value.int q i∈(es.modify j fun e=>{ e with key:=.int q k,val:=v }).toList.map (·.key):=by
   rw [hkeys];exact List.mem_map.2 ⟨x,hx,h1⟩
  obtain⟨x',hx',h2⟩:=List.mem_map.1 this
  exact⟨x',hx',h2⟩
 ·have:x.born∈es.toList.map (·.born):=by rw [←hborn];exact List.mem_map.2 ⟨x,hx,rfl⟩
  obtain⟨z,hz,h1⟩:=List.mem_map.1 this
  rw [←h1];exact he.born z hz
theorem set_fm (w:World) (b:Nat) (o:Obj):Fm (·=b) w { w with heap:=w.heap.setIfInBounds b o } :=
 ⟨rfl,rfl,rfl,by simp,fun i hi hne=>by
  show (w.heap.setIfInBounds b o)[i]?=_
  rw [Array.getElem?_setIfInBounds_ne (fun e=>hne e.symm)]⟩
theorem Mp.update (h:Mp q w b f) (ht:P.underlying t=some (.map kt et)) (hk:P.underlying kt=some (.int q)) (k:Int) (v:Value) {K:World→Prop}
  (hK:∀w',Mp q w' b (upd f k (some v))→Fm (·=b) w w'→K w'):Raw P (Instr.mapUpdate t (.map (some b)) (.int q k) v) w fun _ w'=>K w':=by
 obtain⟨es,clock,hb,he,h2⟩:=h.find k
 have hlt:=(Array.getElem?_eq_some_iff.1 hb).1
 have hc:(Instr.checkKey false 10000 kt (.int q k)).run P w=.ok () w:=MapKept.run_checkKey (k:=.int q k) hk (by simp [MapKept.IsKey]) _ 9999
 rcases h2 with ⟨h1,h2⟩ | ⟨j,x,h3,h4,h1,h2⟩
 ·refine⟨(),{ w with heap:=w.heap.setIfInBounds b (.map (es.push ⟨.int q k,v,clock⟩) (clock+1)) },?_,hK _ ⟨_,_,?_,he.push h1 v⟩ (set_fm _ _ _)⟩
  ·simp [Instr.mapUpdate,run_underlying ht,MapKept.run_getObj_map hb,hc,MapKept.run_findKey hk h2,MapKept.run_setObj_map _ hb,Result.andThen]
  ·simp [hlt]
 ·refine⟨(),{ w with heap:=w.heap.setIfInBounds b (.map (es.modify j fun e=>{ e with key:=.int q k,val:=v }) clock) },?_,hK _ ⟨_,_,?_,he.put h3 h4 v⟩ (set_fm _ _ _)⟩
  ·have hj:(es[j]?).map (·.key)=some (.int q k):=by
    rw [←Array.getElem?_toList,h3,Option.map_some,h4]
   have hst:(Instr.keyThatStays (.int q k) (.int q k)).run P w=.ok (.int q k) w:=MapKept.run_keyThatStays (d:=.int q) (by simp [MapKept.IsKey])
   simp only [Instr.mapUpdate,Sem.run_bind,run_underlying ht,MapKept.run_getObj_map hb,hc,MapKept.run_findKey hk h2,MapKept.run_setObj_map _ hb,Result.andThen,hj,hst,Option.getD_some]
  ·simp [hlt]
theorem Mp.made (w:World) (q:IntKind):Mp q (w.alloc (.map #[] 0)) w.heap.size fun _=>none :=
 ⟨#[],0,heap_alloc_new _ _,⟨fun x hx=>by simp at hx,fun k v h=>by simp at h,by simp,fun x hx=>by simp at hx,by simp⟩⟩
theorem Mp.fm {M:Nat→Prop}{w1:World} (h:Mp q w b f) (hf:Fm M w w1) (hm:¬M b):Mp q w1 b f:=by
 obtain⟨es,clock,hb,he⟩:=h
 exact⟨es,clock,by rw [hf.block b (Array.getElem?_eq_some_iff.1 hb).1 hm];exact hb,he⟩
end
set_option maxRecDepth 100000
section
variable {P:Program}{q:IntKind}{w:World}{b:Nat}{f:Int→Option Value}{t kt et:TypeId}
theorem Mp.len (h:Mp q w b f) (ht:P.underlying t=some (.map kt et)) {l:List Int} (hn:l.Nodup) (hl:∀k,k∈l↔∃v,f k=some v) {ty:TypeId}{K:Value→World→Prop} (hK:K (.int .i64 (l.length:Nat)) w) :
  Raw P (Builtin.len_ #[t] ty #[.map (some b)]) w K:=by
 obtain⟨es,clock,hb,he⟩:=h
 have hsz:es.size=l.length:=by
  letI:DecidableEq Value:=fun a b=>Classical.propDecidable (a=b)
  have h1:(es.toList.map (·.key)).length≤(l.map (fun k=>Value.int q k)).length:=by
   refine nodup_sub he.one fun x hx=>?_
   obtain⟨e,he',rfl⟩:=List.mem_map.1 hx
   obtain⟨k,k1,k2⟩:=he.key e he'
   rw [k1]
   exact List.mem_map.2 ⟨k,(hl k).2 ⟨_,k2⟩,rfl⟩
  have h2:(l.map (fun k=>Value.int q k)).length≤(es.toList.map (·.key)).length:=by
   refine nodup_sub ?_ fun x hx=>?_
   ·refine List.pairwise_map.2 (hn.imp fun {a c} hac e=>hac ?_)
    injection e
   ·obtain⟨k,hk,rfl⟩:=List.mem_map.1 hx
    obtain⟨v,hv⟩:=(hl k).1 hk
    obtain⟨x,h3,h4⟩:=he.has k v hv
    exact List.mem_map.2 ⟨x,h3,h4⟩
  simp at h1 h2;omega
 refine⟨_,w,?_,hK⟩
 simp [Builtin.len_,run_underlying ht,MapKept.run_getObj_map hb,hsz,goInt]
end
end Go.Proofs.YtccplipiahdhiaaGreatDoor
set_option linter.unusedVariables false
set_option maxRecDepth 100000
namespace Go.Proofs.YtccplipiahdhiaaGreatDoor
open Go.Vc
def F40_j4 (a:Int) (b:Int) (c:World) (R:Ending→World→Prop):Prop :=
 R (.returned (.tuple #[(.int .u64 a),(.int .i64 b)])) c
def F40 (d:Option Addr) (where_:Int) (at_:Int) (x_0:Int) (x_1:ByteArray) (x_2:Option Addr) (x_2N:Nat) (x_2C:Nat) (x_3:ByteArray) (x_4:Option Addr) (x_4N:Nat) (x_4C:Nat) (t:World) (R:Ending→World→Prop):Prop :=
 Al t #[(.int .i64 x_0),(.string x_1),(.slice x_2 x_2N x_2C),(.string x_3),(.slice x_4 x_4N x_4C)] 84 fun g7 w1 =>
 ∃S:World→Prop,S w1.drew∧NonNil d fun p14 =>
 ∃(g:Int),Held S g7 (.int .i64 g)∧∃(h:ByteArray),Held S (g7.add 1) (.string h)∧∃(k:Option Addr) (a:Nat) (b:Nat),Held S (g7.add 2) (.slice k a b)∧∃(m:ByteArray),Held S (g7.add 3) (.string m)∧∃(f:Option Addr) (e:Nat) (c:Nat),Held S (g7.add 4) (.slice f e c)∧Calls Tryz.prog 73 #[(.pointer (some p14)),(.int .i64 where_),(.int .u64 at_),(.agg #[(.int .i64 g),(.string h),(.slice k a b),(.string m),(.slice f e c)])] w1.drew (post R fun v q =>
 ∃(i:Int) (j:Int),v=(.tuple #[(.int .u64 i),(.int .i64 j)]) ∧
 ∃J4:World→Prop,(∀ (n:World),J4 n→F40_j4 i j n R) ∧
 (Br (j == (0:Int))
 (Calls Tryz.prog 74 #[(.pointer d),(.int .u64 i)] q (post R fun v2 n =>
 ∃(r:Int),v2=(.int .u64 r) ∧
 Calls Tryz.prog 70 #[(.pointer d),(.int .u64 i),(.int .u64 r)] n (post R fun v3 p =>
 ∃(s:Int),v3=(.int .u64 s) ∧
 J4 p)))
 (J4 q)))
theorem ok40 (d:Option Addr) (where_:Int) (at_:Int) (x_0:Int) (x_1:ByteArray) (x_2:Option Addr) (x_2N:Nat) (x_2C:Nat) (x_3:ByteArray) (x_4:Option Addr) (x_4N:Nat) (x_4C:Nat) {w:World}{R:Ending→World→Prop} (h:F40 d where_ at_ x_0 x_1 x_2 x_2N x_2C x_3 x_4 x_4N x_4C w R):Calls Tryz.prog 40 #[(.pointer d),(.int .i64 where_),(.int .u64 at_),(.agg #[(.int .i64 x_0),(.string x_1),(.slice x_2 x_2N x_2C),(.string x_3),(.slice x_4 x_4N x_4C)])] w R :=
 vc_calls (pl:=⟨32,⟨[]⟩,[(4,⟨[],[(22,30)]⟩)],[]⟩) Tryz.func40 (by kernel_rfl) (by kernel_rfl) (by kernel_rfl) (Eq.mp (by kernel_rfl) h)
def F34 (d:Option Addr) (a:World) (R:Ending→World→Prop):Prop :=
 NonNil d fun p4 =>
 Calls Tryz.prog 64 #[(.pointer (some p4))] a (post R fun v w1 =>
 ∃(b:Option Addr),v=(.pointer b) ∧
 R (.returned (.pointer b)) w1)
theorem ok34 (d:Option Addr) {w:World}{R:Ending→World→Prop} (h:F34 d w R):Calls Tryz.prog 34 #[(.pointer d)] w R :=
 vc_calls (pl:=⟨7,⟨[]⟩,[],[]⟩) Tryz.func34 (by kernel_rfl) (by kernel_rfl) (by kernel_rfl) (Eq.mp (by kernel_rfl) h)
def F74_j12 (t:Int) (a:World) (R:Ending→World→Prop):Prop :=
 R (.returned (.int .u64 t)) a
def F74_l7 (d:Option Addr) (n:Int) (l:Option Addr) (lN:Nat) (J12:Int→World→Prop) (L7:Int→Int→World→Prop) (t:Int) (f:Int) (h:World) (R:Ending→World→Prop):Prop :=
 Br (decide (f < ((lN:Nat):Int)))
 (IdxA l lN f 1 fun i =>
 LdI .u64 (h.cell? i) fun g =>
 Br (g == n)
 (J12 t h)
 (NonNil d fun p50 =>
 LdM (h.cell? (p50.add 9)) fun e =>
 Raw Tryz.prog (Instr.lookup 103 (.map e) (.int .u64 g) false) h fun v4 c =>
 ∃(a:Int) (b:Int),v4=(.agg #[(.int .u64 a),(.int .u64 b)]) ∧
 InR .i64 (f+(1:Int))∧L7 b (f+(1:Int)) c))
 (J12 t h)
def F74_j5 (d:Option Addr) (n:Int) (c:Int) (l:Option Addr) (lN:Nat) (lC:Nat) (g:World) (R:Ending→World→Prop):Prop :=
 NonNil d fun p34 =>
 LdM (g.cell? (p34.add 9)) fun h =>
 Raw Tryz.prog (Instr.lookup 103 (.map h) (.int .u64 c) false) g fun v3 f =>
 ∃(a:Int) (b:Int),v3=(.agg #[(.int .u64 a),(.int .u64 b)]) ∧
 ∃J12:Int→World→Prop,(∀(t:Int) (e:World),J12 t e→F74_j12 t e R) ∧
 (∃(I:Int→Int→World→Prop) (m:Int→Int→World→Nat),I a (0:Int) f ∧
 ∀(t:Int) (i:Int) (e:World),I t i e→F74_l7 d n l lN J12 (fun t' i' w2=>I t' i' w2∧m t' i' w2 < m t i e) t i e R)
def F74 (d:Option Addr) (n:Int) (p:World) (R:Ending→World→Prop):Prop :=
 NonNil d fun p13 =>
 Calls Tryz.prog 124 #[(.pointer (some p13)),(.int .u64 n)] p (post R fun v w1 =>
 ∃(e:Int) (f:Int),v=(.tuple #[(.int .u64 e),(.int .i64 f)]) ∧
 NonNil d fun p20 =>
 Calls Tryz.prog 69 #[(.pointer (some p20))] w1 (post R fun v2 h =>
 ∃(m:Option Addr) (k:Nat) (i:Nat),v2=(.slice m k i) ∧
 ∃J5:Option Addr→Nat→Nat→World→Prop,(∀(l:Option Addr) (lN:Nat) (lC:Nat) (j:World),J5 l lN lC j→F74_j5 d n e l lN lC j R) ∧
 (Br (e != (0:Int))
 (NonNil d fun p27 =>
 Calls Tryz.prog 117 #[(.pointer (some p27)),(.int .u64 e)] h (post R fun v3 j =>
 ∃(g:Option Addr) (b:Nat) (a:Nat) (c:Int),v3=(.tuple #[(.slice g b a),(.int .i64 c)]) ∧
 J5 g b a j))
 (J5 m k i h))))
theorem ok74 (d:Option Addr) (n:Int) {w:World}{R:Ending→World→Prop} (h:F74 d n w R):Calls Tryz.prog 74 #[(.pointer d),(.int .u64 n)] w R :=
 vc_calls (pl:=⟨58,⟨[]⟩,[(12,⟨[(8,(.s (.int .u64)))],[(8,57)]⟩),(5,⟨[(7,(.s .slice))],[(7,33)]⟩)],[(7,⟨[(8,(.s (.int .u64))),(42,(.s (.int .i64)))],[(8,11),(42,57)]⟩)]⟩) Tryz.func74 (by kernel_rfl) (by kernel_rfl) (by kernel_rfl) (Eq.mp (by kernel_rfl) h)
def F70_j13 (d:Option Addr) (n:Int) (g7:Addr) (f:World) (R:Ending→World→Prop):Prop :=
 ∃S:World→Prop,S f.drew∧NonNil d fun p62 =>
 ∃(g:Option Nat),Held S (p62.add 9) (.map g)∧∃(a:Int),Held S g7 (.int .u64 a)∧∃(b:Int),Held S (g7.add 1) (.int .u64 b)∧Raw Tryz.prog (Instr.mapUpdate 103 (.map g) (.int .u64 n) (.agg #[(.int .u64 a),(.int .u64 b)])) f.drew fun _ c =>
 LdI .u64 (c.cell? (g7.add 1)) fun e =>
 R (.returned (.int .u64 e)) c
def F70_l6 (d:Option Addr) (n:Int) (g7:Addr) (c:Option Addr) (a:Nat) (L6:Int→Int→World→Prop) (last:Int) (r:Int) (j:World) (R:Ending→World→Prop):Prop :=
 Br (decide (r < ((a:Nat):Int)))
 (IdxA c a r 1 fun p =>
 LdI .u64 (j.cell? p) fun k =>
 Calls Tryz.prog 70 #[(.pointer d),(.int .u64 k),(.int .u64 last)] j (post R fun v3 f =>
 ∃(q:Int),v3=(.int .u64 q) ∧
 InR .i64 (r+(1:Int))∧L6 q (r+(1:Int)) f))
 (NonNil d fun p45 =>
 Calls Tryz.prog 116 #[(.pointer (some (p45.add 5))),(.int .u64 last)] j (post R fun v3 f =>
 ∃(e:Int) (b:Int),v3=(.tuple #[(.int .u64 e),(.int .i64 b)]) ∧
 St f (g7.add 1) (.int .u64 e) fun h =>
 ∃J13:World→Prop,(∀ (g:World),J13 g→F70_j13 d n g7 g R) ∧
 (NonNil d fun p53 =>
 LdM (h.cell? (p53.add 9)) fun m =>
 Br (m).isNone
 (AlM h fun r58 g =>
 NonNil d fun p59 =>
 St g (p59.add 9) (.map (some r58)) fun i =>
 J13 i)
 (J13 h))))
def F70 (d:Option Addr) (n:Int) (behind:Int) (r:World) (R:Ending→World→Prop):Prop :=
 Al r #[(.int .u64 0),(.int .u64 0)] 146 fun g7 w1 =>
 NonNil d fun p15 =>
 Calls Tryz.prog 116 #[(.pointer (some (p15.add 5))),(.int .u64 behind)] w1 (post R fun v h =>
 ∃(c:Int) (g:Int),v=(.tuple #[(.int .u64 c),(.int .i64 g)]) ∧
 St h g7 (.int .u64 c) fun k =>
 LdI .u64 (k.cell? g7) fun q =>
 NonNil d fun p26 =>
 Calls Tryz.prog 117 #[(.pointer (some p26)),(.int .u64 n)] k (post R fun v2 i =>
 ∃(e:Option Addr) (a:Nat) (b:Nat) (f:Int),v2=(.tuple #[(.slice e a b),(.int .i64 f)]) ∧
 ∃(I:Int→Int→World→Prop) (m:Int→Int→World→Nat),I q (0:Int) i ∧
 ∀(last:Int) (p:Int) (j:World),I last p j→F70_l6 d n g7 e a (fun last' p' w2=>I last' p' w2∧m last' p' w2 < m last p j) last p j R))
theorem ok70 (d:Option Addr) (n:Int) (behind:Int) {w:World}{R:Ending→World→Prop} (h:F70 d n behind w R):Calls Tryz.prog 70 #[(.pointer d),(.int .u64 n),(.int .u64 behind)] w R :=
 vc_calls (pl:=⟨69,⟨[]⟩,[(13,⟨[],[(52,61)]⟩)],[(6,⟨[(8,(.s (.int .u64))),(34,(.s (.int .i64)))],[(8,13),(34,43)]⟩)]⟩) Tryz.func70 (by kernel_rfl) (by kernel_rfl) (by kernel_rfl) (Eq.mp (by kernel_rfl) h)
def F116_j17 (g41:Addr) (b:World) (R:Ending→World→Prop):Prop :=
 LdI .u64 (b.cell? g41) fun a =>
 R (.returned (.tuple #[(.int .u64 a),(.int .i64 0)])) b
def F116_j13 (l:Option Addr) (a:Option Addr) (g41:Addr) (e:World) (R:Ending→World→Prop):Prop :=
 NonNil a fun p75 =>
 St e (p75.add 3) (.pointer (some g41)) fun c =>
 ∃S2:World→Prop,S2 c.drew∧NonNil l fun p78 =>
 ∃(g:Option Nat),Held S2 p78 (.map g)∧∃(f:Int),Held S2 g41 (.int .u64 f)∧Raw Tryz.prog (Instr.mapUpdate 99 (.map g) (.int .u64 f) (.pointer (some g41))) c.drew fun _ b =>
 ∃J17:World→Prop,(∀ (d:World),J17 d→F116_j17 g41 d R) ∧
 (LdI .u64 (b.cell? (g41.add 1)) fun h =>
 Br (h == (0:Int))
 (Calls Tryz.prog 157 #[(.pointer l)] b (post R fun v3 d =>
 v3=(.tuple #[]) ∧
 J17 d))
 (J17 b))
def F116_j11 (l:Option Addr) (a:Option Addr) (g41:Addr) (c:World) (R:Ending→World→Prop):Prop :=
 ∃J13:World→Prop,(∀ (b:World),J13 b→F116_j13 l a g41 b R) ∧
 (NonNil a fun p62 =>
 LdP (c.cell? (p62.add 3)) fun e =>
 Br (!(e).isNone)
 (NonNil a fun p67 =>
 LdP (c.cell? (p67.add 3)) fun d =>
 NonNil d fun p71 =>
 St c (p71.add 2) (.pointer (some g41)) fun b =>
 J13 b)
 (J13 c))
def F116 (l:Option Addr) (t:Int) (r:World) (R:Ending→World→Prop):Prop :=
 Calls Tryz.prog 107 #[(.pointer l),(.int .u64 t)] r (post R fun v w1 =>
 ∃(b:Option Addr) (a:Int),v=(.tuple #[(.pointer b),(.int .i64 a)]) ∧
 Br (a != (0:Int))
 (R (.returned (.tuple #[(.int .u64 0),(.int .i64 a)])) w1)
 (Calls Tryz.prog 154 #[(.pointer l)] w1 (post R fun v2 c =>
 ∃(k:Int),v2=(.int .i64 k) ∧
 Br (decide (k≥(8192:Int)))
 (R (.returned (.tuple #[(.int .u64 0),(.int .i64 11)])) c)
 (NonNil l fun p25 =>
 LdI .u64 (c.cell? (p25.add 2)) fun m =>
 InR .u64 (m+(1:Int))∧NonNil l fun p29 =>
 St c (p29.add 2) (.int .u64 (m+(1:Int))) fun g =>
 ∃S:World→Prop,S g.drew∧NonNil l fun p32 =>
 ∃(p:Int),Held S (p32.add 2) (.int .u64 p)∧NonNil b fun p37 =>
 ∃(n:Option Addr),Held S (p37.add 3) (.pointer n)∧Al g.drew #[(.int .u64 p),(.int .u64 0),(.pointer b),(.pointer n)] 199 fun g41 d =>
 ∃J11:World→Prop,(∀ (h:World),J11 h→F116_j11 l b g41 h R) ∧
 (∃S2:World→Prop,S2 d.drew∧NonNil b fun p45 =>
 ∃(q:Int),Held S2 (p45.add 1) (.int .u64 q)∧Calls Tryz.prog 155 #[(.pointer b)] d.drew (post R fun v3 e =>
 ∃(j:Int),v3=(.int .u64 j) ∧
 S2 e∧InR .u64 (j-q)∧Br (decide ((j-q)≥(2:Int)))
 (NonNil b fun p54 =>
 LdI .u64 (e.cell? (p54.add 1)) fun i =>
 InR .u64 ((j-q).tdiv (2:Int))∧InR .u64 (i+((j-q).tdiv (2:Int)))∧Calls Tryz.prog 156 #[(.pointer l),(.pointer (some g41)),(.int .u64 (i+((j-q).tdiv (2:Int))))] e (post R fun v4 f =>
 v4=(.tuple #[]) ∧
 J11 f))
 (J11 e)))))))
theorem ok116 (l:Option Addr) (t:Int) {w:World}{R:Ending→World→Prop} (h:F116 l t w R):Calls Tryz.prog 116 #[(.pointer l),(.int .u64 t)] w R :=
 vc_calls (pl:=⟨97,⟨[]⟩,[(17,⟨[],[(86,93)]⟩),(13,⟨[],[(61,73)]⟩),(11,⟨[],[(9,61)]⟩)],[]⟩) Tryz.func116 (by kernel_rfl) (by kernel_rfl) (by kernel_rfl) (Eq.mp (by kernel_rfl) h)
def F154 (l:Option Addr) (b:World) (R:Ending→World→Prop):Prop :=
 Calls Tryz.prog 150 #[(.pointer l)] b (post R fun v w1 =>
 v=(.tuple #[]) ∧
 NonNil l fun p6 =>
 LdM (w1.cell? p6) fun c =>
 Raw Tryz.prog (Builtin.len_ #[99] 3 #[(.map c)]) w1 fun v2 a =>
 ∃(d:Int),v2=(.int .i64 d) ∧
 InR .i64 (d-(1:Int))∧R (.returned (.int .i64 (d-(1:Int)))) a)
theorem ok154 (l:Option Addr) {w:World}{R:Ending→World→Prop} (h:F154 l w R):Calls Tryz.prog 154 #[(.pointer l)] w R :=
 vc_calls (pl:=⟨11,⟨[]⟩,[],[]⟩) Tryz.func154 (by kernel_rfl) (by kernel_rfl) (by kernel_rfl) (Eq.mp (by kernel_rfl) h)
def F150 (l:Option Addr) (g:World) (R:Ending→World→Prop):Prop :=
 NonNil l fun p3 =>
 LdP (g.cell? (p3.add 1)) fun f =>
 Br (f).isNone
 (Al g #[(.int .u64 0),(.int .u64 0),(.pointer none),(.pointer none)] 199 fun g9 w1 =>
 NonNil l fun p10 =>
 St w1 (p10.add 1) (.pointer (some g9)) fun a =>
 AlM a fun r13 d =>
 NonNil l fun p15 =>
 LdP (d.cell? (p15.add 1)) fun e =>
 Raw Tryz.prog (Instr.mapUpdate 99 (.map (some r13)) (.int .u64 0) (.pointer e)) d fun _ c =>
 NonNil l fun p19 =>
 St c p19 (.map (some r13)) fun b =>
 R (.returned (.tuple #[])) b)
 (R (.returned (.tuple #[])) g)
theorem ok150 (l:Option Addr) {w:World}{R:Ending→World→Prop} (h:F150 l w R):Calls Tryz.prog 150 #[(.pointer l)] w R :=
 vc_calls (pl:=⟨21,⟨[]⟩,[],[]⟩) Tryz.func150 (by kernel_rfl) (by kernel_rfl) (by kernel_rfl) (Eq.mp (by kernel_rfl) h)
def F107 (l:Option Addr) (t:Int) (e:World) (R:Ending→World→Prop):Prop :=
 Calls Tryz.prog 150 #[(.pointer l)] e (post R fun v w1 =>
 v=(.tuple #[]) ∧
 NonNil l fun p12 =>
 LdM (w1.cell? p12) fun d =>
 Raw Tryz.prog (Instr.lookup 99 (.map d) (.int .u64 t) true) w1 fun v2 c =>
 ∃(a:Option Addr) (b:Bool),v2=(.tuple #[(.pointer a),(.bool b)]) ∧
 Br (!b)
 (R (.returned (.tuple #[(.pointer none),(.int .i64 10)])) c)
 (R (.returned (.tuple #[(.pointer a),(.int .i64 0)])) c))
theorem ok107 (l:Option Addr) (t:Int) {w:World}{R:Ending→World→Prop} (h:F107 l t w R):Calls Tryz.prog 107 #[(.pointer l),(.int .u64 t)] w R :=
 vc_calls (pl:=⟨22,⟨[]⟩,[],[]⟩) Tryz.func107 (by kernel_rfl) (by kernel_rfl) (by kernel_rfl) (Eq.mp (by kernel_rfl) h)
def F157_l3 (l:Option Addr) (d:Int) (L3:Int→Option Addr→World→Prop) (label:Int) (x:Option Addr) (b:World) (R:Ending→World→Prop):Prop :=
 Br (!(x).isNone)
 (InR .u64 (label+((4611686018427387904:Int).tdiv ((d+(1:Int)))))∧Calls Tryz.prog 156 #[(.pointer l),(.pointer x),(.int .u64 (label+((4611686018427387904:Int).tdiv ((d+(1:Int))))))] b (post R fun v2 a =>
 v2=(.tuple #[]) ∧
 NonNil x fun p23 =>
 LdP (a.cell? (p23.add 3)) fun c =>
 L3 (label+((4611686018427387904:Int).tdiv ((d+(1:Int))))) c a))
 (R (.returned (.tuple #[])) b)
def F157 (l:Option Addr) (e:World) (R:Ending→World→Prop):Prop :=
 NonNil l fun p6 =>
 LdM (e.cell? p6) fun d =>
 Raw Tryz.prog (Builtin.len_ #[99] 3 #[(.map d)]) e fun v w1 =>
 ∃(f:Int),v=(.int .i64 f) ∧
 InR .i64 (f+(1:Int))∧InR .u64 ((f+(1:Int)))∧((f+(1:Int)))≠0∧InR .u64 ((4611686018427387904:Int).tdiv ((f+(1:Int))))∧NonNil l fun p14 =>
 LdP (w1.cell? (p14.add 1)) fun c =>
 NonNil c fun p17 =>
 LdP (w1.cell? (p17.add 3)) fun b =>
 ∃(I:Int→Option Addr→World→Prop) (m:Int→Option Addr→World→Nat),I (0:Int) b w1 ∧
 ∀(label:Int) (x:Option Addr) (a:World),I label x a→F157_l3 l f (fun label' x' w2=>I label' x' w2∧m label' x' w2 < m label x a) label x a R
theorem ok157 (l:Option Addr) {w:World}{R:Ending→World→Prop} (h:F157 l w R):Calls Tryz.prog 157 #[(.pointer l)] w R :=
 vc_calls (pl:=⟨33,⟨[]⟩,[],[(3,⟨[(3,(.s (.int .u64))),(4,(.s .ptr))],[(3,33)]⟩)]⟩) Tryz.func157 (by kernel_rfl) (by kernel_rfl) (by kernel_rfl) (Eq.mp (by kernel_rfl) h)
def F156 (l:Option Addr) (x:Option Addr) (label:Int) (c:World) (R:Ending→World→Prop):Prop :=
 NonNil x fun p7 =>
 LdI .u64 (c.cell? (p7.add 1)) fun d =>
 Br (d != label)
 (NonNil x fun p14 =>
 St c (p14.add 1) (.int .u64 label) fun w1 =>
 NonNil l fun p17 =>
 LdI .u64 (w1.cell? (p17.add 3)) fun b =>
 NonNil l fun p21 =>
 St w1 (p21.add 3) (.int .u64 (IntKind.wrap .u64 (b+(1:Int)))) fun a =>
 R (.returned (.tuple #[])) a)
 (R (.returned (.tuple #[])) c)
theorem ok156 (l:Option Addr) (x:Option Addr) (label:Int) {w:World}{R:Ending→World→Prop} (h:F156 l x label w R):Calls Tryz.prog 156 #[(.pointer l),(.pointer x),(.int .u64 label)] w R :=
 vc_calls (pl:=⟨23,⟨[(2,4)]⟩,[],[]⟩) Tryz.func156 (by kernel_rfl) (by kernel_rfl) (by kernel_rfl) (Eq.mp (by kernel_rfl) h)
def F37_l7 (g23:Addr) (h:Option Addr) (b:Nat) (L7:Int→Int→World→Prop) (last:Int) (d:Int) (e:World) (R:Ending→World→Prop):Prop :=
 Br (decide (d < ((b:Nat):Int)))
 (IdxA h b d 1 fun c =>
 LdI .u64 (e.cell? c) fun f =>
 Calls Tryz.prog 70 #[(.pointer (some g23)),(.int .u64 f),(.int .u64 last)] e (post R fun v3 a =>
 ∃(g:Int),v3=(.int .u64 g) ∧
 InR .i64 (d+(1:Int))∧L7 g (d+(1:Int)) a))
 (R (.returned (.tuple #[(.pointer (some g23)),(.int .i64 0)])) e)
def F37 (x_0:Option Addr) (x_0N:Nat) (x_0C:Nat) (x_1:Option Addr) (x_1N:Nat) (x_1C:Nat) (w_:World) (R:Ending→World→Prop):Prop :=
 Al w_ #[(.slice x_0 x_0N x_0C),(.slice x_1 x_1N x_1C)] 25 fun g1 w1 =>
 LdSl (w1.cell? g1) fun s e g =>
 LdSl (w1.cell? (g1.add 1)) fun t a d =>
 Calls Tryz.prog 68 #[(.agg #[(.slice s e g),(.slice t a d)])] w1 (post R fun v aa =>
 ∃(r:Option Addr) (i:Int),v=(.tuple #[(.pointer r),(.int .i64 i)]) ∧
 Br (i != (0:Int))
 (R (.returned (.tuple #[(.pointer none),(.int .i64 i)])) aa)
 (NonNil r fun p19 =>
 LdSl (aa.cell? p19) fun j f h =>
 LdSl (aa.cell? (p19.add 1)) fun n b c =>
 LdI .i64 (aa.cell? (p19.add 2)) fun q =>
 LdI .i64 (aa.cell? (p19.add 3)) fun p =>
 LdI .i64 (aa.cell? (p19.add 4)) fun k =>
 AlM aa fun r21 y =>
 Al y #[(.slice j f h),(.slice n b c),(.int .i64 q),(.int .i64 p),(.int .i64 k),(.map none),(.pointer none),(.int .u64 0),(.int .u64 0),(.map (some r21))] 105 fun g23 da =>
 Calls Tryz.prog 69 #[(.pointer (some g23))] da (post R fun v2 u =>
 ∃(fa:Option Addr) (z:Nat) (ca:Nat),v2=(.slice fa z ca) ∧
 ∃(I:Int→Int→World→Prop) (m:Int→Int→World→Nat),I (0:Int) (0:Int) u ∧
 ∀(last:Int) (ea:Int) (ba:World),I last ea ba→F37_l7 g23 fa z (fun last' ea' w2=>I last' ea' w2∧m last' ea' w2 < m last ea ba) last ea ba R)))
theorem ok37 (x_0:Option Addr) (x_0N:Nat) (x_0C:Nat) (x_1:Option Addr) (x_1N:Nat) (x_1C:Nat) {w:World}{R:Ending→World→Prop} (h:F37 x_0 x_0N x_0C x_1 x_1N x_1C w R):Calls Tryz.prog 37 #[(.agg #[(.slice x_0 x_0N x_0C),(.slice x_1 x_1N x_1C)])] w R :=
 vc_calls (pl:=⟨39,⟨[]⟩,[],[(7,⟨[(7,(.s (.int .u64))),(29,(.s (.int .i64)))],[(7,10),(29,38)]⟩)]⟩) Tryz.func37 (by kernel_rfl) (by kernel_rfl) (by kernel_rfl) (Eq.mp (by kernel_rfl) h)
def F155 (x:Option Addr) (c:World) (R:Ending→World→Prop):Prop :=
 NonNil x fun p4 =>
 LdP (c.cell? (p4.add 3)) fun d =>
 Br (d).isNone
 (R (.returned (.int .u64 4611686018427387904)) c)
 (NonNil x fun p9 =>
 LdP (c.cell? (p9.add 3)) fun a =>
 NonNil a fun p12 =>
 LdI .u64 (c.cell? (p12.add 1)) fun b =>
 R (.returned (.int .u64 b)) c)
theorem ok155 (x:Option Addr) {w:World}{R:Ending→World→Prop} (h:F155 x w R):Calls Tryz.prog 155 #[(.pointer x)] w R :=
 vc_calls (pl:=⟨15,⟨[]⟩,[],[]⟩) Tryz.func155 (by kernel_rfl) (by kernel_rfl) (by kernel_rfl) (Eq.mp (by kernel_rfl) h)
end Go.Proofs.YtccplipiahdhiaaGreatDoor
namespace Go.Proofs.YtccplipiahdhiaaGreatDoor
open Go.RowKit Go.Vc
set_option linter.unusedVariables false
set_option linter.unusedSimpArgs false
set_option maxRecDepth 100000
theorem insAt_get {α:Type}{l:List α}{m:Nat}{h:α} (hm:m≤l.length) (j:Nat):(l.take m++h :: l.drop m)[j]?=if j < m then l[j]? else if j=m then some h else l[j-1]?:=by
 have hl:(l.take m).length=m:=by rw [List.length_take];omega
 by_cases h1:j < m
 ·rw [if_pos h1,List.getElem?_append_left (by omega),List.getElem?_take,if_pos h1]
 ·rw [if_neg h1,List.getElem?_append_right (by omega),hl]
  by_cases h2:j=m
  ·rw [if_pos h2,h2,Nat.sub_self];rfl
  ·rw [if_neg h2,show j-m=(j-m-1)+1 by omega,List.getElem?_cons_succ,List.getElem?_drop]
   congr 1;omega
theorem idx_iff {l:List Nat} (hn:l.Nodup) {k j:Nat}:l[j]?=some k↔k∈l∧l.idxOf k=j:=by
 constructor
 ·intro h
  obtain⟨hj,he⟩:=List.getElem?_eq_some_iff.1 h
  have hm:k∈l:=List.mem_of_getElem? h
  refine⟨hm,?_⟩
  have hlt:=List.idxOf_lt_length_iff.2 hm
  have h2:=List.getElem_idxOf hlt
  have hp:=List.pairwise_iff_getElem.1 hn
  rcases Nat.lt_trichotomy (l.idxOf k) j with h3 | h3 | h3
  ·exact absurd (h2.trans he.symm) (hp _ _ hlt hj h3)
  ·exact h3
  ·exact absurd (he.trans h2.symm) (hp _ _ hj hlt h3)
 ·rintro ⟨hm,rfl⟩
  have hlt:=List.idxOf_lt_length_iff.2 hm
  rw [List.getElem?_eq_getElem hlt,List.getElem_idxOf hlt]
def pB (b:Option Nat):Value:=.pointer (b.map fun b=>⟨b,0,none⟩)
def pvB (bs:List Nat) (i:Nat):Option Nat:=if i=0 then none else bs[i-1]?
def nxB (bs:List Nat) (i:Nat):Option Nat:=bs[i+1]?
def tgC (bs nms lbs:List Nat) (i:Nat):Array Value:=#[.int .u64 (nms.getD i 0:Nat),.int .u64 (lbs.getD i 0:Nat),pB (pvB bs i),pB (nxB bs i)]
def mpT (bs nms:List Nat) (k:Int):Option Value:=if 0≤k∧k.toNat∈nms then some (pB (some (bs.getD (nms.idxOf k.toNat) 0))) else none
structure TgR (w:World) (o:Nat→Nat) (bs nms lbs:List Nat) (mb:Nat):Prop where
 blk:∀(i b:Nat),bs[i]?=some b→Blk w b (tgC bs nms lbs i) 199
 col:∀b∈bs,o b=4
 nd:bs.Nodup
 mp:Mp .u64 w mb (mpT bs nms)
 mcol:o mb=5
structure TgI (nms lbs:List Nat) (gv:Nat):Prop where
 len:lbs.length=nms.length
 h0:nms[0]?=some 0
 l0:lbs[0]?=some 0
 nd:nms.Nodup
 le:∀x∈nms,x≤gv
 up:lbs.Pairwise (· < ·)
 mx:∀x∈lbs,x < 4611686018427387904
 few:nms.length≤8193
structure Fr where
 a:Value
 b:Value
 c:Value
 d:Value
 e:Value
 m:Value
 t:TypeId
def dkC (f:Fr) (mb:Option Nat) (hd:Option Nat) (gv:Nat) (wr:Int):Array Value:=#[f.a,f.b,f.c,f.d,f.e,.map mb,pB hd,.int .u64 (gv:Nat),.int .u64 wr,f.m]
structure TgD (w:World) (o:Nat→Nat) (g:Nat) (f:Fr) (bs nms lbs:List Nat) (mb gv:Nat) (wr:Int):Prop where
 blk:Blk w g (dkC f (some mb) bs[0]? gv wr) f.t
 gcol:o g=1
 r:TgR w o bs nms lbs mb
 len:bs.length=nms.length
 len2:lbs.length=nms.length
 pos:0 < nms.length
 nn:nms.Nodup
 lt:∀b,o b≠0→b < w.heap.size
structure EvT (w:World) (o:Nat→Nat) (w1:World) (o1:Nat→Nat):Prop where
 fm:Fm (fun b=>o b=1∨o b=4∨o b=5) w w1
 same:∀b,o b≠0→o1 b=o b
 old:∀b,b < w.heap.size→o b=0→o1 b=0
 new:∀b,o1 b≠0→o b≠0∨o1 b=4∨o1 b=5
section
variable {w w1 w2:World}{o o1 o2:Nat→Nat}{g:Nat}{f:Fr}{bs nms lbs:List Nat}{mb gv:Nat}{wr:Int}{M:Nat→Prop}{R:Ending→World→Prop}
theorem EvT.refl:EvT w o w o:=⟨.refl _ _,fun _ _=>rfl,fun _ _ h=>h,fun _ h=>.inl h⟩
theorem EvT.trans (h:EvT w o w1 o1) (hlt:∀b,o b≠0→b < w.heap.size) (k:EvT w1 o1 w2 o2):EvT w o w2 o2:=by
 refine⟨⟨k.fm.os.trans h.fm.os,k.fm.tape.trans h.fm.tape,k.fm.output.trans h.fm.output,Nat.le_trans h.fm.size k.fm.size,fun b hb hm=>?_⟩,fun b hb=>?_,fun b hb h1=>k.old b (Nat.lt_of_lt_of_le hb h.fm.size) (h.old b hb h1),fun b hb=>?_⟩
 ·rw [k.fm.block b (Nat.lt_of_lt_of_le hb h.fm.size) fun e=>?_]
  ·exact h.fm.block b hb hm
  ·by_cases h1:o b=0
   ·have:=h.old b hb h1;omega
   ·rw [h.same b h1] at e;exact hm e
 ·rw [k.same b (by rw [h.same b hb];exact hb)];exact h.same b hb
 ·rcases k.new b hb with e | e
  ·rcases h.new b e with e2 | e2
   ·exact .inl e2
   ·rw [k.same b e];exact .inr e2
  ·exact .inr e
theorem TgR.fm (h:TgR w o bs nms lbs mb) (hf:Fm M w w1) (hm:∀b,(o b=4∨o b=5)→¬M b):TgR w1 o bs nms lbs mb :=
 ⟨fun i b hb=>hf.blk (h.blk i b hb) (hm b (.inl (h.col b (List.mem_of_getElem? hb)))),h.col,h.nd,h.mp.fm hf (hm mb (.inr h.mcol)),h.mcol⟩
theorem TgD.keep (h:TgD w o g f bs nms lbs mb gv wr) (hb:Below w.heap.size w w1):TgD w1 o g f bs nms lbs mb gv wr :=
 ⟨h.blk.keep hb,h.gcol,h.r.fm (M:=fun _=>False) (.below hb) (fun _ _ h=>h),h.len,h.len2,h.pos,h.nn,fun b h1=>Nat.lt_of_lt_of_le (h.lt b h1) hb.size⟩
theorem TgD.bpos (h:TgD w o g f bs nms lbs mb gv wr):∃b,bs[0]?=some b:=by
 exact⟨_,List.getElem?_eq_getElem (by rw [h.len];exact h.pos)⟩
theorem mpT_some {i x b:Nat} (hn:nms.Nodup) (hx:nms[i]?=some x) (hb:bs[i]?=some b):mpT bs nms (x:Nat)=some (pB (some b)):=by
 obtain⟨h1,h2⟩:=(idx_iff hn).1 hx
 unfold mpT
 rw [if_pos ⟨by omega,by rw [Int.toNat_natCast];exact h1⟩,Int.toNat_natCast,h2,List.getD_eq_getElem?_getD,hb];rfl
theorem mapType:Tryz.prog.underlying 99=some (.map 144 100):=by kernel_rfl
theorem keyType:Tryz.prog.underlying 144=some (.int .u64):=by kernel_rfl
theorem zeroTag (w:World):(zeroValue 100).run Tryz.prog w=.ok (.pointer none) w:=by kernel_rfl
theorem begin_calls (h:TgD w o g f bs nms lbs mb gv wr) (hK:R (.returned (.tuple #[])) w):Calls Tryz.prog 150 #[.pointer (some ⟨g,5,none⟩)] w R:=by
 refine ok150 (some ⟨g,5,none⟩) ?_
 unfold F150
 obtain⟨b,hb⟩:=h.bpos
 have hB:=h.blk
 unfold dkC at hB
 rw [hb] at hB
 simp only [NonNil_some,Addr.add_mk,Nat.reduceAdd,hB.cell,List.getElem?_toArray,List.getElem?_cons_zero,List.getElem?_cons_succ,pB,Option.map_some,lds]
 simp only [Option.isNone_some,Br_f]
 exact hK
theorem find_some (h:TgD w o g f bs nms lbs mb gv wr) {i x b:Nat} (hx:nms[i]?=some x) (hb:bs[i]?=some b) (hK:R (.returned (.tuple #[pB (some b),.int .i64 0])) w):Calls Tryz.prog 107 #[.pointer (some ⟨g,5,none⟩),.int .u64 (x:Nat)] w R:=by
 refine ok107 (some ⟨g,5,none⟩) x ?_
 unfold F107
 refine begin_calls h ⟨rfl,?_⟩
 have hB:=h.blk
 unfold dkC at hB
 simp only [NonNil_some,Addr.add_mk,Nat.reduceAdd,Nat.zero_add,hB.cell,lds]
 refine h.r.mp.look mapType keyType (zeroTag w) x true ?_
 rw [mpT_some h.nn hx hb]
 exact⟨some ⟨b,0,none⟩,true,rfl,hK⟩
theorem lenM (h:TgD w o g f bs nms lbs mb gv wr) {t:TypeId}{K:Value→World→Prop} (hK:K (.int .i64 (nms.length:Nat)) w):Raw Tryz.prog (Builtin.len_ #[99] t #[.map (some mb)]) w K:=by
 refine h.r.mp.len mapType (l:=nms.map fun (x:Nat)=>((x:Nat):Int)) ?_ (fun k=>?_) (by rw [List.length_map];exact hK)
 ·exact List.pairwise_map.2 (h.nn.imp fun {a c} hac e=>hac (by omega))
 ·constructor
  ·intro hk
   obtain⟨x,hx,rfl⟩:=List.mem_map.1 hk
   obtain⟨i,hi⟩:=List.mem_iff_getElem?.1 hx
   obtain⟨b,hb⟩:∃b,bs[i]?=some b:=⟨_,List.getElem?_eq_getElem (by rw [h.len];exact (List.getElem?_eq_some_iff.1 hi).1)⟩
   exact⟨_,mpT_some h.nn hi hb⟩
  ·rintro ⟨v,hv⟩
   unfold mpT at hv
   by_cases hc:0≤k∧k.toNat∈nms
   ·exact List.mem_map.2 ⟨k.toNat,hc.2,by omega⟩
   ·rw [if_neg hc] at hv;cases hv
theorem Len_calls (h:TgD w o g f bs nms lbs mb gv wr) (hf:nms.length≤8193) (hK:R (.returned (.int .i64 ((nms.length:Nat)-1:Int))) w):Calls Tryz.prog 154 #[.pointer (some ⟨g,5,none⟩)] w R:=by
 refine ok154 (some ⟨g,5,none⟩) ?_
 unfold F154
 refine begin_calls h ⟨rfl,?_⟩
 have hB:=h.blk
 unfold dkC at hB
 simp only [NonNil_some,Addr.add_mk,Nat.reduceAdd,Nat.zero_add,hB.cell,lds]
 exact lenM h ⟨_,rfl,inR_i64 (by omega) (by omega),hK⟩
theorem TgD.tag (h:TgD w o g f bs nms lbs mb gv wr) {i b:Nat} (hb:bs[i]?=some b):∃x l,nms[i]?=some x∧lbs[i]?=some l∧Blk w b #[.int .u64 (x:Nat),.int .u64 (l:Nat),pB (pvB bs i),pB (nxB bs i)] 199:=by
 have h1:=(List.getElem?_eq_some_iff.1 hb).1
 have h2:nms[i]?=some (nms[i]'(by rw [←h.len];exact h1)):=List.getElem?_eq_getElem _
 have h3:lbs[i]?=some (lbs[i]'(by rw [h.len2,←h.len];exact h1)):=List.getElem?_eq_getElem _
 refine⟨_,_,h2,h3,?_⟩
 have:=h.r.blk i b hb
 unfold tgC at this
 rw [List.getD_eq_getElem?_getD,List.getD_eq_getElem?_getD,h2,h3] at this
 exact this
theorem past_calls (h:TgD w o g f bs nms lbs mb gv wr) {i b:Nat} (hb:bs[i]?=some b) (hK:R (.returned (.int .u64 ((lbs[i+1]?).getD 4611686018427387904:Nat))) w):Calls Tryz.prog 155 #[pB (some b)] w R:=by
 refine ok155 (some ⟨b,0,none⟩) ?_
 unfold F155
 obtain⟨x',l',h1,h2,hB⟩:=h.tag hb
 unfold nxB pB at hB
 simp only [NonNil_some,Addr.add_mk,Nat.reduceAdd,Nat.zero_add,hB.cell,lds]
 cases hn:bs[i+1]? with
 | none =>
  have:lbs[i+1]?=none:=by
   rw [List.getElem?_eq_none_iff] at hn ⊢
   rw [h.len2,←h.len];exact hn
  rw [this] at hK
  simp only [Option.map_none,Option.isNone_none,Br_t]
  exact hK
 | some b2 =>
  obtain⟨x2,l2,h3,h4,hB2⟩:=h.tag hn
  rw [h4] at hK
  simp only [Option.map_some,Option.isNone_some,Br_f,NonNil_some,Addr.add_mk,Nat.reduceAdd,Nat.zero_add,hB2.cell,lds]
  exact hK
theorem TgD.gne (h:TgD w o g f bs nms lbs mb gv wr) {b:Nat} (hb:b∈bs):b≠g∧b≠mb:=⟨fun e=>by have:=h.r.col b hb;rw [e,h.gcol] at this;omega,fun e=>by have:=h.r.col b hb;rw [e,h.r.mcol] at this;omega⟩
theorem nd_get {l:List Nat} (hn:l.Nodup) {i j b:Nat} (hi:l[i]?=some b) (hj:l[j]?=some b):i=j:=by
 have h1:=((idx_iff hn).1 hi).2
 have h2:=((idx_iff hn).1 hj).2
 omega
theorem write_calls (h:TgD w o g f bs nms lbs mb gv wr) {i b:Nat} (hb:bs[i]?=some b) (v:Nat) (hK:∀w' wr',TgD w' o g f bs nms (lbs.set i v) mb gv wr'→Fm (fun x=>x=g∨x=b) w w'→R (.returned (.tuple #[])) w') :
  Calls Tryz.prog 156 #[.pointer (some ⟨g,5,none⟩),pB (some b),.int .u64 (v:Nat)] w R:=by
 refine ok156 (some ⟨g,5,none⟩) (some ⟨b,0,none⟩) v ?_
 unfold F156
 obtain⟨x',l',h1,h2,hB⟩:=h.tag hb
 have hbm:=List.mem_of_getElem? hb
 obtain⟨hne,-⟩:=h.gne hbm
 have hil:=(List.getElem?_eq_some_iff.1 h2).1
 simp only [NonNil_some,Addr.add_mk,Nat.reduceAdd,Nat.zero_add,hB.cell,lds]
 refine brn (fun hv=>?_) (fun hv=>?_)
 ·refine st_blk hB (by simp) fun w1 b1 f1=>?_
  simp only [List.setIfInBounds_toArray,List.set_cons_zero,List.set_cons_succ] at b1
  have hD:=f1.blk h.blk (fun e=>hne e.symm)
  unfold dkC at hD
  simp only [NonNil_some,Addr.add_mk,Nat.reduceAdd,Nat.zero_add,hD.cell,lds]
  refine st_blk hD (by simp) fun w2 b2 f2=>?_
  simp only [List.setIfInBounds_toArray,List.set_cons_zero,List.set_cons_succ] at b2
  have FF:Fm (fun x=>x=g∨x=b) w w2:=(f1.mono fun x _ e=>.inr e).trans (f2.mono fun x _ e=>.inl e)
  refine hK w2 _ ⟨b2,h.gcol,⟨fun j c hc=>?_,h.r.col,h.r.nd,h.r.mp.fm FF fun e=>?_,h.r.mcol⟩,h.len,by rw [List.length_set];exact h.len2,h.pos,h.nn,fun c hc=>Nat.lt_of_lt_of_le (h.lt c hc) FF.size⟩ FF
  ·unfold tgC
   by_cases e:j=i
   ·subst e
    rw [hb] at hc;cases hc
    have:=f2.blk b1 (fun e=>hne e)
    rw [List.getD_eq_getElem?_getD,List.getD_eq_getElem?_getD,h1,List.getElem?_set_self hil]
    exact this
   ·rw [List.getD_eq_getElem?_getD (l:=lbs.set i v),List.getElem?_set_ne (Ne.symm e),←List.getD_eq_getElem?_getD]
    have hcm:=List.mem_of_getElem? hc
    exact FF.blk (h.r.blk j c hc) (fun e2=>by
     rcases e2 with e2 | e2
     ·exact (h.gne hcm).1 e2
     ·subst e2;exact e (nd_get h.r.nd hc hb))
  ·rcases e with e | e
   ·have:=h.gcol;rw [←e,h.r.mcol] at this;omega
   ·exact (h.gne hbm).2 e.symm
 ·have e:lbs.set i v=lbs:=by
   have:l'=v:=by omega
   subst this
   obtain⟨h3,h4⟩:=List.getElem?_eq_some_iff.1 h2
   rw [←h4,List.set_getElem_self]
  exact hK w wr (by rw [e];exact h) (.refl _ _)
end
set_option maxRecDepth 100000
theorem insAt_at {l:List Nat}{m h:Nat} (hm:m≤l.length) (j:Nat):(insAt l m h)[j]?=if j < m then l[j]? else if j=m then some h else l[j-1]?:=insAt_get hm j
theorem insAt_len {l:List Nat}{m h:Nat} (hm:m≤l.length):(insAt l m h).length=l.length+1:=by unfold insAt;simp;omega
section
variable {w w1 w2:World}{o o1 o2:Nat→Nat}{g:Nat}{f:Fr}{bs nms lbs:List Nat}{mb gv:Nat}{wr:Int}{M:Nat→Prop}{R:Ending→World→Prop}
theorem spread_calls (h:TgD w o g f bs nms lbs mb gv wr) (hf:nms.length≤8193) (h0:lbs[0]?=some 0)
  (hK:∀w' lbs' wr',TgD w' o g f bs nms lbs' mb gv wr'→Fm (fun x=>x=g∨x∈bs) w w'→lbs'[0]?=some 0→lbs'.Pairwise (· < ·)→(∀x∈lbs',x < 4611686018427387904)→R (.returned (.tuple #[])) w'):Calls Tryz.prog 157 #[.pointer (some ⟨g,5,none⟩)] w R:=by
 refine ok157 (some ⟨g,5,none⟩) ?_
 unfold F157
 obtain⟨b0,hb0⟩:=h.bpos
 have hB:=h.blk
 unfold dkC at hB
 rw [hb0] at hB
 have hpos:=h.pos
 simp only [NonNil_some,Addr.add_mk,Nat.reduceAdd,Nat.zero_add,hB.cell,lds]
 obtain⟨st,hst⟩:∃st:Nat,st=4611686018427387904 / (nms.length+1):=⟨_,rfl⟩
 have hdiv:(4611686018427387904:Int).tdiv (((nms.length:Nat):Int)+1)=((st:Nat):Int):=by
  rw [hst,show ((nms.length:Nat):Int)+1=((nms.length+1:Nat):Int) by omega,Int.tdiv_eq_ediv_of_nonneg (by omega)];rfl
 have hst1:st*(nms.length+1)≤4611686018427387904:=by rw [hst];exact Nat.div_mul_le_self _ _
 have hst2:1≤st:=by rw [hst];exact (Nat.le_div_iff_mul_le (by omega)).2 (by omega)
 have hst3:st≤4611686018427387904:=by rw [hst];exact Nat.div_le_self _ _
 refine lenM h ⟨_,rfl,inR_i64 (by omega) (by omega),inR_u64 (by omega) (by omega),by omega,?_⟩
 rw [hdiv]
 refine⟨inR_u64 (by omega) (by omega),?_⟩
 simp only [pB,Option.map_some,NonNil_some,Addr.add_mk,Nat.reduceAdd,Nat.zero_add,hB.cell,lds]
 obtain⟨x0,l0,t1,t2,tB⟩:=h.tag hb0
 unfold nxB pB at tB
 simp only [NonNil_some,Addr.add_mk,Nat.reduceAdd,Nat.zero_add,tB.cell,lds]
 have hmul:∀j,j≤nms.length→st*j≤4611686018427387904:=fun j hj=>Nat.le_trans (Nat.mul_le_mul_left st (show j≤nms.length+1 by omega)) hst1
 refine⟨fun lab x w'=>∃(j:Nat) (ls:List Nat) (wr':Int),1≤j∧j≤nms.length∧lab=((st*(j-1):Nat):Int)∧x=bs[j]?.map (fun b=>(⟨b,0,none⟩:Addr))∧TgD w' o g f bs nms ls mb gv wr'∧Fm (fun x=>x=g∨x∈bs) w w'∧∀i,i < j→ls[i]?=some (st*i),fun lab x w'=>nms.length-(lab / (st:Int)).toNat,
  ⟨1,lbs,wr,Nat.le_refl _,by omega,by simp,rfl,h,.refl _ _,fun i hi=>by rw [show i=0 by omega];exact h0⟩,?_⟩
 rintro lab x w2 ⟨j,ls,wr2,hj1,hj2,rfl,rfl,h2,f2,hl⟩
 unfold F157_l3
 cases hbj:bs[j]? with
 | none =>
  have hjn:j=nms.length:=by
   rw [List.getElem?_eq_none_iff,h.len] at hbj;omega
  simp only [Option.map_none,Option.isNone_none,Bool.not_true,Br_f]
  have hlen:=h2.len2
  have hget:∀i,∀hi:i < ls.length,ls[i]=st*i:=fun i hi=>by
   have:=hl i (by omega)
   rw [List.getElem?_eq_getElem hi] at this;exact Option.some.inj this
  refine hK w2 ls wr2 h2 f2 (by rw [hl 0 (by omega)];rfl) (List.pairwise_iff_getElem.2 fun a c ha hc hac=>?_) fun y hy=>?_
  ·rw [hget a ha,hget c hc]
   exact Nat.mul_lt_mul_of_pos_left hac (by omega)
  ·obtain⟨a,ha,rfl⟩:=List.mem_iff_getElem.1 hy
   rw [hget a ha]
   have h3:st*(a+1)≤4611686018427387904:=hmul (a+1) (by omega)
   rw [Nat.mul_succ] at h3
   omega
 | some b =>
  simp only [Option.map_some,Option.isNone_some,Bool.not_false,Br_t]
  have hjl:=(List.getElem?_eq_some_iff.1 hbj).1
  rw [h.len] at hjl
  have e1:((st*(j-1):Nat):Int)+((st:Nat):Int)=((st*j:Nat):Int):=by
   have:st*j=st*(j-1)+st:=by rw [←Nat.mul_succ];congr 1;omega
   rw [this];omega
  rw [hdiv,e1]
  have hmj:=hmul j hj2
  refine⟨inR_u64 (by omega) (by omega),?_⟩
  refine write_calls h2 hbj (st*j) fun w3 wr3 h3 f3=>⟨rfl,?_⟩
  obtain⟨x3,l3,t3,t4,tB3⟩:=h3.tag hbj
  unfold nxB pB at tB3
  simp only [NonNil_some,Addr.add_mk,Nat.reduceAdd,Nat.zero_add,tB3.cell,lds]
  have hjls:j < ls.length:=by rw [h2.len2];exact hjl
  refine⟨⟨j+1,ls.set j (st*j),wr3,by omega,by omega,by simp,rfl,h3,f2.trans (f3.mono fun x _ e=>?_),fun i hi=>?_⟩,?_⟩
  ·rcases e with e | e
   ·exact .inl e
   ·subst e;exact .inr (List.mem_of_getElem? hbj)
  ·by_cases e:i=j
   ·subst e;rw [List.getElem?_set_self hjls]
   ·rw [List.getElem?_set_ne (Ne.symm e)];exact hl i (by omega)
  ·show nms.length-(((st*j:Nat):Int) / (st:Int)).toNat < nms.length-(((st*(j-1):Nat):Int) / (st:Int)).toNat
   have d1:∀a:Nat,(((st*a:Nat):Int) / (st:Int)).toNat=a:=fun a=>by
    rw [show (((st*a:Nat):Int) / (st:Int))=((st*a / st:Nat):Int) from rfl,Int.toNat_natCast,Nat.mul_div_cancel_left a (by omega)]
   rw [d1,d1];omega
theorem writeN_calls (h:TgD w o g f bs nms lbs mb gv wr) {b:Nat}{nm l:Nat}{p q:Value} (hb:o b=0) (hB:Blk w b #[.int .u64 (nm:Nat),.int .u64 (l:Nat),p,q] 199) (v:Nat)
  (hK:∀w' wr',TgD w' o g f bs nms lbs mb gv wr'→Blk w' b #[.int .u64 (nm:Nat),.int .u64 (v:Nat),p,q] 199→Fm (fun x=>x=g∨x=b) w w'→R (.returned (.tuple #[])) w') :
  Calls Tryz.prog 156 #[.pointer (some ⟨g,5,none⟩),.pointer (some ⟨b,0,none⟩),.int .u64 (v:Nat)] w R:=by
 refine ok156 (some ⟨g,5,none⟩) (some ⟨b,0,none⟩) v ?_
 unfold F156
 have hne:b≠g:=fun e=>by have:=h.gcol;rw [←e] at this;omega
 simp only [NonNil_some,Addr.add_mk,Nat.reduceAdd,Nat.zero_add,hB.cell,lds]
 refine brn (fun hv=>?_) (fun hv=>?_)
 ·refine st_blk hB (by simp) fun w1 b1 f1=>?_
  simp only [List.setIfInBounds_toArray,List.set_cons_zero,List.set_cons_succ] at b1
  have hD:=f1.blk h.blk (fun e=>hne e.symm)
  unfold dkC at hD
  simp only [NonNil_some,Addr.add_mk,Nat.reduceAdd,Nat.zero_add,hD.cell,lds]
  refine st_blk hD (by simp) fun w2 b2 f2=>?_
  simp only [List.setIfInBounds_toArray,List.set_cons_zero,List.set_cons_succ] at b2
  have FF:Fm (fun x=>x=g∨x=b) w w2:=(f1.mono fun x _ e=>.inr e).trans (f2.mono fun x _ e=>.inl e)
  refine hK w2 _ ⟨b2,h.gcol,h.r.fm FF fun c hc e=>?_,h.len,h.len2,h.pos,h.nn,fun c hc=>Nat.lt_of_lt_of_le (h.lt c hc) FF.size⟩ (f2.blk b1 (fun e=>hne e)) FF
  rcases e with e | e
  ·have:=h.gcol;rw [←e] at this;omega
  ·rw [e] at hc;omega
 ·have:l=v:=by omega
  subst this
  exact hK w wr h hB (.refl _ _)
end
set_option maxRecDepth 100000
theorem mpT_ins {bs nms:List Nat}{i nb x:Nat} (hn:nms.Nodup) (hx:x∉nms) (hl:bs.length=nms.length) (hi:i+1≤nms.length):mpT (insAt bs (i+1) nb) (insAt nms (i+1) x)=upd (mpT bs nms) x (some (pB (some nb))):=by
 have hn':(insAt nms (i+1) x).Nodup:=nodup_insAt hn hx
 funext k
 unfold upd
 by_cases hk:k=(x:Int)
 ·rw [if_pos hk,hk]
  exact mpT_some (i:=i+1) hn' (by rw [insAt_at hi,if_neg (by omega),if_pos rfl]) (by rw [insAt_at (by omega),if_neg (by omega),if_pos rfl])
 ·rw [if_neg hk]
  by_cases hm:0≤k∧k.toNat∈nms
  ·obtain⟨hk0,hkm⟩:=hm
   obtain⟨a,rfl⟩:∃a:Nat,k=a:=⟨k.toNat,by omega⟩
   rw [Int.toNat_natCast] at hkm
   obtain⟨j,hj⟩:=List.mem_iff_getElem?.1 hkm
   have hjl:=(List.getElem?_eq_some_iff.1 hj).1
   obtain⟨b,hb⟩:∃b,bs[j]?=some b:=⟨_,List.getElem?_eq_getElem (by omega)⟩
   rw [mpT_some hn hj hb]
   by_cases hji:j < i+1
   ·exact mpT_some hn' (by rw [insAt_at hi,if_pos hji];exact hj) (by rw [insAt_at (by omega),if_pos hji];exact hb)
   ·refine mpT_some (i:=j+1) hn' ?_ ?_
    ·rw [insAt_at hi,if_neg (by omega),if_neg (by omega)];exact hj
    ·rw [insAt_at (by omega),if_neg (by omega),if_neg (by omega)];exact hb
  ·unfold mpT
   rw [if_neg hm,if_neg]
   rintro ⟨h0,h1⟩
   rcases mem_insAt.1 h1 with h1 | h1
   ·exact hk (by omega)
   ·exact hm ⟨h0,h1⟩
theorem TgI.ins {nms lbs:List Nat}{gv i l L:Nat} (h:TgI nms lbs gv) (hi:i+1≤nms.length) (hl:lbs[i]?=some l) (h1:l < L) (h2:∀m,lbs[i+1]?=some m→L < m) (h3:L < 4611686018427387904) (hf:nms.length≤8192):TgI (insAt nms (i+1) (gv+1)) (insAt lbs (i+1) L) (gv+1):=by
 have hlen:=h.len
 have hx:gv+1∉nms:=fun hx=>by have:=h.le _ hx;omega
 refine⟨by rw [insAt_len hi,insAt_len (by omega),hlen],by rw [insAt_at hi,if_pos (by omega)];exact h.h0,by rw [insAt_at (by omega),if_pos (by omega)];exact h.l0,nodup_insAt h.nd hx,fun x hx=>?_,?_,fun x hx=>?_,by rw [insAt_len hi];omega⟩
 ·rcases mem_insAt.1 hx with rfl | hx
  ·omega
  ·have:=h.le x hx;omega
 ·unfold insAt
  have hp:=h.up
  rw [←List.take_append_drop (i+1) lbs,List.pairwise_append] at hp
  obtain⟨q1,q2,q3⟩:=hp
  have hg:=List.pairwise_iff_getElem.1 h.up
  obtain⟨hil,hie⟩:=List.getElem?_eq_some_iff.1 hl
  have htake:∀x∈lbs.take (i+1),x < L:=fun x hx=>by
   obtain⟨a,ha,rfl⟩:=List.mem_iff_getElem.1 hx
   rw [List.length_take] at ha
   rw [List.getElem_take]
   rcases Nat.lt_or_ge a i with h4 | h4
   ·have:=hg a i (by omega) hil h4;omega
   ·have:a=i:=by omega
    subst this;omega
  have hdrop:∀x∈lbs.drop (i+1),L < x:=fun x hx=>by
   obtain⟨a,ha,rfl⟩:=List.mem_iff_getElem.1 hx
   rw [List.length_drop] at ha
   rw [List.getElem_drop]
   have h5:=h2 _ (List.getElem?_eq_getElem (show i+1 < lbs.length by omega))
   by_cases h4:a=0
   ·subst h4;exact h5
   ·have:=hg (i+1) (i+1+a) (by omega) (by omega) (by omega);omega
  rw [List.pairwise_append,List.pairwise_cons]
  refine⟨q1,⟨hdrop,q2⟩,fun x hx y hy=>?_⟩
  rcases List.mem_cons.1 hy with rfl | hy
  ·exact htake x hx
  ·exact q3 x hx y hy
 ·rcases mem_insAt.1 hx with rfl | hx
  ·exact h3
  ·exact h.mx x hx
theorem TgI.renum {nms lbs lbs':List Nat}{gv i L:Nat} (h:TgI nms lbs gv) (hi:i+1≤nms.length) (hf:nms.length≤8192) (hl:lbs'.length=(insAt nms (i+1) (gv+1)).length) (h0:lbs'[0]?=some 0) (hp:lbs'.Pairwise (· < ·)) (hm:∀x∈lbs',x < 4611686018427387904):TgI (insAt nms (i+1) (gv+1)) lbs' (gv+1):=by
 have hx:gv+1∉nms:=fun hx=>by have:=h.le _ hx;omega
 refine⟨hl,by rw [insAt_at hi,if_pos (by omega)];exact h.h0,h0,nodup_insAt h.nd hx,fun x hx=>?_,hp,hm,by rw [insAt_len hi];omega⟩
 rcases mem_insAt.1 hx with rfl | hx
 ·omega
 ·have:=h.le x hx;omega
theorem TgR.ins {w w1:World}{o:Nat→Nat}{bs nms lbs:List Nat}{mb i b nb x L:Nat} (h:TgR w o bs nms lbs mb) (hlen:bs.length=nms.length) (hlen2:lbs.length=nms.length) (hb:bs[i]?=some b) (hnb:∀c,o c≠0→c≠nb)
  (h1:Blk w1 b #[.int .u64 (nms.getD i 0:Nat),.int .u64 (lbs.getD i 0:Nat),pB (pvB bs i),pB (some nb)] 199) (h2:Blk w1 nb #[.int .u64 (x:Nat),.int .u64 (L:Nat),pB (some b),pB (nxB bs i)] 199)
  (h3:∀c,bs[i+1]?=some c→Blk w1 c #[.int .u64 (nms.getD (i+1) 0:Nat),.int .u64 (lbs.getD (i+1) 0:Nat),pB (some nb),pB (nxB bs (i+1))] 199)
  (h4:∀j c,bs[j]?=some c→j≠i→j≠i+1→Blk w1 c (tgC bs nms lbs j) 199) (hm:Mp .u64 w1 mb (mpT (insAt bs (i+1) nb) (insAt nms (i+1) x))) :
  TgR w1 (fun c=>if c=nb then 4 else o c) (insAt bs (i+1) nb) (insAt nms (i+1) x) (insAt lbs (i+1) L) mb:=by
 have hil:=(List.getElem?_eq_some_iff.1 hb).1
 have hi:i+1≤bs.length:=hil
 have hi2:i+1≤nms.length:=by omega
 have hi3:i+1≤lbs.length:=by omega
 have gd:∀(l:List Nat) (y:Nat),i+1≤l.length→∀j,(insAt l (i+1) y).getD j 0=if j < i+1 then l.getD j 0 else if j=i+1 then y else l.getD (j-1) 0:=fun l y hl j=>by
  rw [List.getD_eq_getElem?_getD,insAt_at hl]
  split
  ·rw [List.getD_eq_getElem?_getD]
  ·split
   ·rfl
   ·rw [List.getD_eq_getElem?_getD]
 refine⟨fun j c hc=>?_,fun c hc=>?_,nodup_insAt h.nd fun hx=>hnb nb (by rw [h.col nb hx];decide) rfl,hm,?_⟩
 ·rw [insAt_at hi] at hc
  unfold tgC pvB nxB
  rw [gd nms x hi2,gd lbs L hi3,insAt_at hi,insAt_at hi]
  by_cases c1:j < i+1
  ·rw [if_pos c1] at hc
   rw [if_pos c1,if_pos c1]
   by_cases c2:j=i
   ·subst c2
    rw [hb] at hc;cases hc
    have e:(if j=0 then none else if j-1 < j+1 then bs[j-1]? else if j-1=j+1 then some nb else bs[j-1-1]?)=pvB bs j:=by
     unfold pvB
     split
     ·rfl
     ·rw [if_pos (by omega)]
    rw [e,if_neg (by omega),if_pos rfl];exact h1
   ·have e:(if j=0 then none else if j-1 < i+1 then bs[j-1]? else if j-1=i+1 then some nb else bs[j-1-1]?)=pvB bs j:=by
     unfold pvB
     split
     ·rfl
     ·rw [if_pos (by omega)]
    rw [e,if_pos (by omega)]
    exact h4 j c hc c2 (by omega)
  ·rw [if_neg c1] at hc
   rw [if_neg c1,if_neg c1]
   by_cases c2:j=i+1
   ·rw [if_pos c2] at hc;cases hc
    subst c2
    rw [if_pos rfl,if_pos rfl,if_neg (by omega),if_pos (by omega),show i+1-1=i by omega,hb,if_neg (by omega),if_neg (by omega)]
    exact h2
   ·rw [if_neg c2] at hc
    rw [if_neg c2,if_neg c2,if_neg (show ¬j=0 by omega),if_neg (show ¬j-1 < i+1 by omega),if_neg (show ¬j+1 < i+1 by omega),if_neg (show ¬j+1=i+1 by omega),show j+1-1=j by omega]
    by_cases c3:j=i+2
    ·subst c3
     rw [if_pos (by omega)]
     exact h3 c hc
    ·rw [if_neg (by omega)]
     have:=h4 (j-1) c hc (by omega) (by omega)
     unfold tgC pvB nxB at this
     rw [if_neg (by omega),show j-1+1=j by omega] at this
     exact this
 ·by_cases e:c=nb
  ·rw [if_pos e]
  ·rw [if_neg e]
   rcases mem_insAt.1 hc with rfl | hc
   ·exact absurd rfl e
   ·exact h.col c hc
 ·rw [if_neg (hnb mb (by rw [h.mcol];decide))];exact h.mcol
set_option maxRecDepth 100000
section
variable {w w1 w2:World}{o o1 o2:Nat→Nat}{g:Nat}{f:Fr}{bs nms lbs:List Nat}{mb gv:Nat}{wr:Int}{M:Nat→Prop}{R:Ending→World→Prop}
theorem Fm.tr2 {M M':Nat→Prop}{w w1 w2:World} (h:Fm M w w1) (k:Fm M' w1 w2) (hm:∀b,b < w.heap.size→M' b→M b):Fm M w w2 :=
 ⟨k.os.trans h.os,k.tape.trans h.tape,k.output.trans h.output,Nat.le_trans h.size k.size,fun b hb hn=>by
  rw [k.block b (by have:=h.size;omega) (fun e=>hn (hm b hb e)),h.block b hb hn]⟩
theorem After_gen {w0:World}{o0:Nat→Nat} (hlt0:∀b,o0 b≠0→b < w0.heap.size) (hf:nms.length≤8192) (hgv:gv < 9223372036854775808) {i x:Nat} (hx:nms[i]?=some x)
  (hF:∀R':Ending→World→Prop,(∀w o bs lbs mb wr b,TgD w o g f bs nms lbs mb gv wr→TgI nms lbs gv→EvT w0 o0 w o→bs[i]?=some b→R' (.returned (.tuple #[pB (some b),.int .i64 0])) w)→Calls Tryz.prog 107 #[.pointer (some ⟨g,5,none⟩),.int .u64 (x:Nat)] w0 R')
  (hK:∀w' o' bs' lbs' mb wr',TgD w' o' g f bs' (insAt nms (i+1) (gv+1)) lbs' mb (gv+1) wr'→TgI (insAt nms (i+1) (gv+1)) lbs' (gv+1)→EvT w0 o0 w' o'→R (.returned (.tuple #[.int .u64 (gv+1:Nat),.int .i64 0])) w') :
  Calls Tryz.prog 116 #[.pointer (some ⟨g,5,none⟩),.int .u64 (x:Nat)] w0 R:=by
 refine ok116 (some ⟨g,5,none⟩) x ?_
 unfold F116
 have hxl:=(List.getElem?_eq_some_iff.1 hx).1
 have hi2:i+1≤nms.length:=hxl
 refine hF _ fun w o bs lbs mb wr b h hI ev0 hb=>⟨_,_,rfl,brn (fun e=>absurd rfl e) fun _=>?_⟩
 have hbm:=List.mem_of_getElem? hb
 have hlt:=h.lt
 refine Len_calls h (by omega) ⟨_,rfl,brd (fun e=>absurd e (by omega)) fun _=>?_⟩
 obtain⟨b0,hb0⟩:=h.bpos
 have hD:=h.blk
 unfold dkC at hD
 simp only [NonNil_some,Addr.add_mk,Nat.reduceAdd,Nat.zero_add,hD.cell,lds]
 have eg:((gv:Nat):Int)+1=((gv+1:Nat):Int):=by omega
 rw [eg]
 refine⟨inR_u64 (by omega) (by omega),?_⟩
 refine st_blk hD (by simp) fun w1 bD1 f1=>?_
 simp only [List.setIfInBounds_toArray,List.set_cons_zero,List.set_cons_succ] at bD1
 have hgne:∀c,(o c=4∨o c=5)→¬c=g:=fun c hc e=>by have:=h.gcol;rw [←e] at this;omega
 have h1:TgD w1 o g f bs nms lbs mb (gv+1) wr:=⟨bD1,h.gcol,h.r.fm f1 hgne,h.len,h.len2,h.pos,h.nn,fun c hc=>Nat.lt_of_lt_of_le (hlt c hc) f1.size⟩
 have hdr1:Below w1.heap.size w1 w1.drew:=(Below.refl _ _).drew
 obtain⟨x1,l,t1,t2,tB⟩:=h1.tag hb
 rw [hx] at t1;cases t1
 have hs1:=f1.size
 refine⟨fun w'=>Below w1.heap.size w1 w',hdr1,?_⟩
 refine⟨_,fun w' hw=>by rw [(bD1.keep hw).cell];rfl,?_⟩
 simp only [Option.map_some,NonNil_some,Addr.add_mk,Nat.reduceAdd,Nat.zero_add]
 refine⟨(nxB bs i).map fun b=>(⟨b,0,none⟩:Addr),fun w' hw=>by rw [(tB.keep hw).cell];rfl,?_⟩
 refine al fun nb w2 hb2 bn2 hge2=>?_
 have D2:Below w1.heap.size w1 w2:=btr hdr1 hdr1.size hb2
 have h2:=h1.keep D2
 have onb:o nb=0:=Classical.byContradiction fun e=>by have:=hlt nb e;have:w1.heap.size≤nb:=hge2;omega
 have hnb:∀c,o c≠0→c≠nb:=fun c hc e=>hc (by rw [e];exact onb)
 have tB2:=tB.keep D2
 have hup:=List.pairwise_iff_getElem.1 hI.up
 obtain⟨hil,hie⟩:=List.getElem?_eq_some_iff.1 t2
 have hlmx:=hI.mx l (List.mem_of_getElem? t2)
 have hpast:l < (lbs[i+1]?).getD 4611686018427387904∧(lbs[i+1]?).getD 4611686018427387904≤4611686018427387904:=by
  cases hn:lbs[i+1]? with
  | none=>exact⟨hlmx,Nat.le_refl _⟩
  | some m =>
   obtain⟨h3,h4⟩:=List.getElem?_eq_some_iff.1 hn
   have:=hup i (i+1) hil h3 (by omega)
   have h5:=hI.mx m (List.mem_of_getElem? hn)
   show l < m∧m≤_
   omega
 refine⟨fun w'=>∃(L:Nat) (wr':Int),TgD w' o g f bs nms lbs mb (gv+1) wr'∧Blk w' nb #[.int .u64 (gv+1:Nat),.int .u64 (L:Nat),pB (some b),pB (nxB bs i)] 199∧Fm (fun c=>c=g∨c=nb) w2 w'∧(L=0∨(l < L∧(∀m,lbs[i+1]?=some m→L < m)∧L < 4611686018427387904)),?_,?_⟩
 rotate_left
 ·have hdr2:Below w2.heap.size w2 w2.drew:=(Below.refl _ _).drew
  refine⟨fun w'=>Below w2.heap.size w2 w',hdr2,?_⟩
  refine⟨_,fun w' hw=>by rw [(tB2.keep hw).cell];rfl,?_⟩
  refine past_calls (h2.keep hdr2) hb ⟨_,rfl,hdr2,?_⟩
  generalize hpp:(lbs[i+1]?).getD 4611686018427387904=p at hpast ⊢
  have hnext:∀m,lbs[i+1]?=some m→p=m:=fun m hm=>by rw [←hpp,hm];rfl
  have esub:((p:Nat):Int)-((l:Nat):Int)=((p-l:Nat):Int):=by omega
  rw [esub]
  refine⟨inR_u64 (by omega) (by omega),?_⟩
  have bn2d:=bn2.keep hdr2
  have tB2d:=tB2.keep hdr2
  refine brd (fun hgap=>?_) (fun hgap=>⟨0,wr,h2.keep hdr2,bn2d,.below hdr2,.inl rfl⟩)
  simp only [NonNil_some,Addr.add_mk,Nat.reduceAdd,Nat.zero_add,tB2d.cell,lds]
  have ediv:((p-l:Nat):Int).tdiv 2=(((p-l) / 2:Nat):Int):=by rw [Int.tdiv_eq_ediv_of_nonneg (by omega)];rfl
  rw [ediv]
  have eadd:((l:Nat):Int)+(((p-l) / 2:Nat):Int)=((l+(p-l) / 2:Nat):Int):=by omega
  rw [eadd]
  refine⟨inR_u64 (by omega) (by omega),inR_u64 (by omega) (by omega),?_⟩
  refine writeN_calls (h2.keep hdr2) onb (b:=nb) (nm:=gv+1) (l:=0) (p:=pB (some b)) (q:=pB (nxB bs i)) bn2d (l+(p-l) / 2) fun w3 wr3 h3 b3 f3=>⟨rfl,?_⟩
  exact⟨_,wr3,h3,b3,(Fm.below hdr2).trans f3,.inr ⟨by omega,fun m hm=>by have:=hnext m hm;omega,by omega⟩⟩
 rintro w3 ⟨L,wr3,h3,b3,f3,hL⟩
 unfold F116_j11
 obtain⟨x3,l3,t3,t4,tB3⟩:=h3.tag hb
 rw [hx] at t3;cases t3
 rw [t2] at t4;cases t4
 have hgd1:nms.getD i 0=x:=by rw [List.getD_eq_getElem?_getD,hx];rfl
 have hgd2:lbs.getD i 0=l:=by rw [List.getD_eq_getElem?_getD,t2];rfl
 refine⟨fun w'=>Fm (fun c=>bs[i+1]?=some c) w3 w'∧∀c,bs[i+1]?=some c→Blk w' c #[.int .u64 (nms.getD (i+1) 0:Nat),.int .u64 (lbs.getD (i+1) 0:Nat),pB (some nb),pB (nxB bs (i+1))] 199,?_,?_⟩
 rotate_left
 ·simp only [pB,NonNil_some,Addr.add_mk,Nat.reduceAdd,Nat.zero_add,tB3.cell,lds]
  cases hn:bs[i+1]? with
  | none =>
   have e:nxB bs i=none:=hn
   rw [e]
   simp only [Option.map_none,Option.isNone_none,Bool.not_true,Br_f]
   exact⟨.refl _ _,fun c hc=>by cases hc⟩
  | some c =>
   have e:nxB bs i=some c:=hn
   rw [e]
   simp only [Option.map_some,Option.isNone_some,Bool.not_false,Br_t,NonNil_some,Addr.add_mk,Nat.reduceAdd,Nat.zero_add]
   have hc3:=h3.r.blk (i+1) c hn
   unfold tgC at hc3
   refine st_blk hc3 (by simp) fun w4 b4 f4=>?_
   simp only [List.setIfInBounds_toArray,List.set_cons_zero,List.set_cons_succ] at b4
   exact⟨f4.mono fun y _ e=>by rw [e],fun c' hc'=>by cases hc';exact b4⟩
 rintro w4 ⟨f4,hc4⟩
 unfold F116_j13
 have hne1:∀c,bs[i+1]?=some c→c≠b∧c≠g∧c≠nb∧c≠mb:=fun c hc=>by
  have hcm:=List.mem_of_getElem? hc
  refine⟨fun e=>?_,(h.gne hcm).1,hnb c (by rw [h.r.col c hcm];decide),(h.gne hcm).2⟩
  subst e
  have:=nd_get h.r.nd hc hb;omega
 have tB4:=f4.blk tB3 (fun e=>(hne1 b e).1 rfl)
 have b4:=f4.blk b3 (fun e=>(hne1 nb e).2.2.1 rfl)
 have bD4:=f4.blk h3.blk (fun e=>(hne1 g e).2.1 rfl)
 unfold dkC at bD4
 simp only [pB,NonNil_some,Addr.add_mk,Nat.reduceAdd,Nat.zero_add]
 have hbnb:b≠nb:=hnb b (by rw [h.r.col b hbm];decide)
 obtain⟨hbg,hbmb⟩:=h.gne hbm
 refine st_blk tB4 (by simp) fun w5 tB5 f5=>?_
 simp only [List.setIfInBounds_toArray,List.set_cons_zero,List.set_cons_succ] at tB5
 have b5:=f5.blk b4 (fun e=>hbnb e.symm)
 have bD5:=f5.blk bD4 (fun e=>hbg e.symm)
 have hdr5:Below w5.heap.size w5 w5.drew:=(Below.refl _ _).drew
 refine⟨fun w'=>Below w5.heap.size w5 w',hdr5,?_⟩
 refine⟨_,fun w' hw=>by rw [(bD5.keep hw).cell];rfl,?_⟩
 refine⟨_,fun w' hw=>by rw [(b5.keep hw).cell];rfl,?_⟩
 have mcol:=h.r.mcol
 have hmb4:¬bs[i+1]?=some mb:=fun e=>(hne1 mb e).2.2.2 rfl
 have mp5:Mp .u64 w5.drew mb (mpT bs nms):=((h3.r.mp.fm f4 hmb4).fm f5 (fun e=>hbmb e.symm)).fm (M:=fun _=>False) (.below hdr5) fun h=>h
 have hgx:gv+1∉nms:=fun e=>by have:=hI.le _ e;omega
 refine mp5.update mapType keyType (gv+1:Nat) _ fun w6 mp6 f6=>?_
 have F36:Fm (fun c=>c=b∨c=mb∨bs[i+1]?=some c) w3 w6:=((f4.mono fun c _ e=>.inr (.inr e)).trans (f5.mono fun c _ e=>.inl e)).trans ((Fm.below hdr5).trans (f6.mono fun c _ e=>.inr (.inl e)))
 have F56:Fm (·=mb) w5 w6:=(Fm.below hdr5).trans f6
 have b6:=F56.blk b5 (fun e=>by have e:nb=mb:=e;rw [e] at onb;omega)
 have hR6:=h3.r.ins (w1:=w6) (L:=L) (x:=gv+1) (nb:=nb) h.len h.len2 hb hnb (by rw [hgd1,hgd2];exact F56.blk tB5 hbmb) b6 (fun c hc=>F56.blk (f5.blk (hc4 c hc) (hne1 c hc).1) (hne1 c hc).2.2.2)
  (fun j c hc hji hji1=>F36.blk (h3.r.blk j c hc) (fun e=>by
   have hcm:=List.mem_of_getElem? hc
   rcases e with e | e | e
   ·subst e;exact hji (nd_get h.r.nd hc hb)
   ·exact (h.gne hcm).2 e
   ·exact hji1 (nd_get h.r.nd hc e))) (by rw [mpT_ins h.nn hgx h.len hi2];exact mp6)
 have hi3:i+1≤bs.length:=by rw [h.len];exact hi2
 have hi4:i+1≤lbs.length:=by rw [h.len2];exact hi2
 have F26:=F36.size
 have F23:=f3.size
 have hnb6:=b6.lt
 have h6:TgD w6 (fun c=>if c=nb then 4 else o c) g f (insAt bs (i+1) nb) (insAt nms (i+1) (gv+1)) (insAt lbs (i+1) L) mb (gv+1) wr3:=by
  refine⟨?_,?_,hR6,by rw [insAt_len hi3,insAt_len hi2,h.len],by rw [insAt_len hi4,insAt_len hi2,h.len2],by rw [insAt_len hi2];omega,nodup_insAt h.nn hgx,fun c hc=>?_⟩
  ·have:=F56.blk bD5 (fun e=>by have e:g=mb:=e;rw [←e,h.gcol] at mcol;omega)
   unfold dkC
   rw [insAt_at hi3,if_pos (by omega)]
   exact this
  ·show (if g=nb then 4 else o g)=1
   rw [if_neg (hnb g (by rw [h.gcol];decide))];exact h.gcol
  ·by_cases e:c=nb
   ·rw [e];exact hnb6
   ·have hc:(if c=nb then 4 else o c)≠0:=hc
    rw [if_neg e] at hc
    exact Nat.lt_of_lt_of_le (h3.lt c hc) F26
 have hcold:∀c,c < w.heap.size→c≠nb:=fun c hc e=>by have:w1.heap.size≤nb:=hge2;omega
 have F06:Fm (fun c=>o c=1∨o c=4∨o c=5) w w6:=by
  have a1:Fm (fun c=>o c=1∨o c=4∨o c=5) w w2:=(f1.mono fun c _ e=>by have e:c=g:=e;rw [e];exact .inl h.gcol).tr D2
  have a2:=a1.tr2 f3 fun c hc e=>by
   rcases e with e | e
   ·rw [e];exact .inl h.gcol
   ·exact absurd e (hcold c hc)
  refine a2.tr2 F36 fun c hc e=>?_
  rcases e with e | e | e
  ·rw [e];exact .inr (.inl (h.r.col b hbm))
  ·rw [e];exact .inr (.inr mcol)
  ·exact .inr (.inl (h.r.col c (List.mem_of_getElem? e)))
 have ev6:EvT w o w6 (fun c=>if c=nb then 4 else o c):=⟨F06,fun c hc=>by show (if c=nb then 4 else o c)=o c;rw [if_neg (hnb c hc)],fun c hc h9=>by show (if c=nb then 4 else o c)=0;rw [if_neg (hcold c hc)];exact h9,fun c hc=>by
  by_cases e:c=nb
  ·right;left;show (if c=nb then 4 else o c)=4;rw [if_pos e]
  ·left
   have hc:(if c=nb then 4 else o c)≠0:=hc
   rw [if_neg e] at hc;exact hc⟩
 refine⟨fun w'=>∃lbs' wr',TgD w' (fun c=>if c=nb then 4 else o c) g f (insAt bs (i+1) nb) (insAt nms (i+1) (gv+1)) lbs' mb (gv+1) wr'∧TgI (insAt nms (i+1) (gv+1)) lbs' (gv+1)∧EvT w o w' (fun c=>if c=nb then 4 else o c),?_,?_⟩
 ·rintro w7 ⟨lbs',wr',h7,i7,ev7⟩
  unfold F116_j17
  obtain⟨x7,l7,u1,u2,u3⟩:=h7.tag (i:=i+1) (b:=nb) (by rw [insAt_at hi3,if_neg (by omega),if_pos rfl])
  rw [insAt_at hi2,if_neg (by omega),if_pos rfl] at u1
  cases u1
  simp only [NonNil_some,Addr.add_mk,Nat.reduceAdd,Nat.zero_add,u3.cell,lds]
  exact hK w7 _ _ lbs' mb wr' h7 i7 (ev0.trans hlt0 ev7)
 ·simp only [NonNil_some,Addr.add_mk,Nat.reduceAdd,Nat.zero_add,b6.cell,lds]
  refine bre (fun hz=>?_) (fun hnz=>?_)
  ·have hl0:(insAt lbs (i+1) L)[0]?=some 0:=by rw [insAt_at hi4,if_pos (by omega)];exact hI.l0
   refine spread_calls h6 (by rw [insAt_len hi2];omega) hl0 fun w7 lbs' wr' h7 f7 z0 z1 z2=>⟨rfl,?_⟩
   refine⟨lbs',wr',h7,hI.renum (L:=L) hi2 hf h7.len2 z0 z1 z2,ev6.trans hlt ⟨f7.mono fun c hc e=>?_,fun _ _=>rfl,fun _ _ h=>h,fun _ h=>.inl h⟩⟩
   rcases e with e | e
   ·rw [e];exact .inl h6.gcol
   ·exact .inr (.inl (h6.r.col c e))
  ·rcases hL with hL | ⟨q1,q2,q3⟩
   ·exact absurd (by omega) hnz
   ·exact⟨_,wr3,h6,hI.ins hi2 t2 q1 q2 q3 hf,ev6⟩
theorem After_calls (h:TgD w o g f bs nms lbs mb gv wr) (hI:TgI nms lbs gv) (hf:nms.length≤8192) (hgv:gv < 9223372036854775808) {i x:Nat} (hx:nms[i]?=some x)
  (hK:∀w' o' bs' lbs' mb wr',TgD w' o' g f bs' (insAt nms (i+1) (gv+1)) lbs' mb (gv+1) wr'→TgI (insAt nms (i+1) (gv+1)) lbs' (gv+1)→EvT w o w' o'→R (.returned (.tuple #[.int .u64 (gv+1:Nat),.int .i64 0])) w') :
  Calls Tryz.prog 116 #[.pointer (some ⟨g,5,none⟩),.int .u64 (x:Nat)] w R :=
 After_gen h.lt hf hgv hx (fun R' k=>by
  obtain⟨b,hb⟩:∃b,bs[i]?=some b:=⟨_,List.getElem?_eq_getElem (by rw [h.len];exact (List.getElem?_eq_some_iff.1 hx).1)⟩
  exact find_some h hx hb (k w o bs lbs mb wr b h hI .refl hb)) hK
structure TgZ (w:World) (o:Nat→Nat) (g:Nat) (f:Fr):Prop where
 blk:Blk w g (dkC f none none 0 0) f.t
 gcol:o g=1
 lt:∀b,o b≠0→b < w.heap.size
theorem begin_zero (h:TgZ w o g f) (hK:∀w' o' b mb,TgD w' o' g f [b] [0] [0] mb 0 0→EvT w o w' o'→R (.returned (.tuple #[])) w'):Calls Tryz.prog 150 #[.pointer (some ⟨g,5,none⟩)] w R:=by
 refine ok150 (some ⟨g,5,none⟩) ?_
 unfold F150
 have hD:=h.blk
 unfold dkC pB at hD
 simp only [NonNil_some,Addr.add_mk,Nat.reduceAdd,Nat.zero_add,hD.cell,List.getElem?_toArray,List.getElem?_cons_zero,List.getElem?_cons_succ,Option.map_none,lds]
 simp only [Option.isNone_none,Br_t]
 refine al fun gb w1 hb1 b1 hge1=>?_
 have hgl:=hD.lt
 refine st_blk (hD.keep hb1) (by simp) fun w2 bD2 f2=>?_
 simp only [List.setIfInBounds_toArray,List.set_cons_zero,List.set_cons_succ] at bD2
 have hne1:gb≠g:=by omega
 have b2:=f2.blk b1 (fun e=>hne1 e)
 have hs1:=hb1.size
 have hs2:=f2.size
 have hb3:Below w2.heap.size w2 (w2.alloc (.map #[] 0)):=(Below.refl _ _).alloc (Nat.le_refl _) _
 have mp3:Mp .u64 (w2.alloc (.map #[] 0)) w2.heap.size fun _=>none:=Mp.made w2 .u64
 unfold AlM
 have bD3:=bD2.keep hb3
 have b3:=b2.keep hb3
 generalize (w2.alloc (.map #[] 0))=w3 at *
 have hbl:=b2.lt
 have hD2l:=bD2.lt
 generalize hmb:w2.heap.size=mb at *
 simp only [NonNil_some,Addr.add_mk,Nat.reduceAdd,Nat.zero_add,bD3.cell,lds]
 refine mp3.update mapType keyType (0:Nat) _ fun w4 mp4 f4=>?_
 have bD4:=f4.blk bD3 (fun e=>by have e:g=mb:=e;omega)
 have b4:=f4.blk b3 (fun e=>by have e:gb=mb:=e;omega)
 refine st_blk bD4 (by simp) fun w5 bD5 f5=>?_
 simp only [List.setIfInBounds_toArray,List.set_cons_zero,List.set_cons_succ] at bD5
 have hs3:=hb3.size
 have hs4:=f4.size
 have hs5:=f5.size
 have ogb:o gb=0:=Classical.byContradiction fun e=>by have:=h.lt gb e;omega
 have omb:o mb=0:=Classical.byContradiction fun e=>by have:=h.lt mb e;omega
 have b5:=f5.blk b4 (fun e=>hne1 e)
 have mp5:=mp4.fm f5 (fun e=>by have e:mb=g:=e;omega)
 have hgb:g≠gb:=fun e=>hne1 e.symm
 have hgm:g≠mb:=by omega
 have hmg:gb≠mb:=by omega
 have mplt:=mp5.lt
 refine hK w5 (fun c=>if c=gb then 4 else if c=mb then 5 else o c) gb mb ⟨bD5,?_,⟨fun i c hc=>?_,fun c hc=>?_,by simp,?_,?_⟩,rfl,rfl,by simp,by simp,fun c hc=>?_⟩ ⟨?_,fun c hc=>?_,fun c hcl hc=>?_,fun c hc=>?_⟩
 ·show (if g=gb then 4 else if g=mb then 5 else o g)=1
  rw [if_neg hgb,if_neg hgm];exact h.gcol
 ·cases i with
  | succ i=>cases hc
  | zero=>cases hc;exact b5
 ·rw [List.mem_singleton] at hc;subst hc
  show (if c=c then 4 else _)=4
  rw [if_pos rfl]
 ·have e:mpT [gb] [0]=upd (fun _=>none) ((0:Nat):Int) (some (Value.pointer (some ⟨gb,0,none⟩))):=by
   funext k
   unfold mpT upd
   by_cases hk:k=((0:Nat):Int)
   ·subst hk;rfl
   ·rw [if_neg hk,if_neg]
    rintro ⟨h1,h2⟩
    rw [List.mem_singleton] at h2
    exact hk (by omega)
  rw [e];exact mp5
 ·show (if mb=gb then 4 else if mb=mb then 5 else o mb)=5
  rw [if_neg (fun e=>hmg e.symm),if_pos rfl]
 ·have hc:(if c=gb then 4 else if c=mb then 5 else o c)≠0:=hc
  by_cases e1:c=gb
  ·rw [e1];exact b5.lt
  ·rw [if_neg e1] at hc
   by_cases e2:c=mb
   ·rw [e2];exact mplt
   ·rw [if_neg e2] at hc
    have:=h.lt c hc;omega
 ·have a1:Fm (fun c=>o c=1∨o c=4∨o c=5) w w2:=(Fm.below hb1).trans (f2.mono fun c _ e=>by have e:c=g:=e;rw [e];exact .inl h.gcol)
  have a2:Fm (fun c=>o c=1∨o c=4∨o c=5) w w3:=a1.tr (by rw [hmb];exact hb3)
  have a3:=a2.tr2 f4 fun c hc e=>by have e:c=mb:=e;omega
  exact a3.tr2 f5 fun c hc e=>by have e:c=g:=e;rw [e];exact .inl h.gcol
 ·show (if c=gb then 4 else if c=mb then 5 else o c)=o c
  rw [if_neg (fun e=>hc (by rw [e];exact ogb)),if_neg (fun e=>hc (by rw [e];exact omb))]
 ·show (if c=gb then 4 else if c=mb then 5 else o c)=0
  rw [if_neg (by omega),if_neg (by omega)];exact hc
 ·by_cases e1:c=gb
  ·right;left;show (if c=gb then 4 else if c=mb then 5 else o c)=4;rw [if_pos e1]
  ·by_cases e2:c=mb
   ·right;right;show (if c=gb then 4 else if c=mb then 5 else o c)=5;rw [if_neg e1,if_pos e2]
   ·left
    have hc:(if c=gb then 4 else if c=mb then 5 else o c)≠0:=hc
    rw [if_neg e1,if_neg e2] at hc;exact hc
theorem find_zero (h:TgZ w o g f) (hK:∀w' o' b mb,TgD w' o' g f [b] [0] [0] mb 0 0→EvT w o w' o'→R (.returned (.tuple #[pB (some b),.int .i64 0])) w'):Calls Tryz.prog 107 #[.pointer (some ⟨g,5,none⟩),.int .u64 (0:Nat)] w R:=by
 refine ok107 (some ⟨g,5,none⟩) (0:Nat) ?_
 unfold F107
 refine begin_zero h fun w1 o1 b mb h1 ev=>⟨rfl,?_⟩
 have hB:=h1.blk
 unfold dkC at hB
 simp only [NonNil_some,Addr.add_mk,Nat.reduceAdd,Nat.zero_add,hB.cell,lds]
 refine h1.r.mp.look mapType keyType (zeroTag w1) (0:Nat) true ?_
 rw [mpT_some (i:=0) (x:=0) (b:=b) h1.nn rfl rfl]
 exact⟨some ⟨b,0,none⟩,true,rfl,hK w1 o1 b mb h1 ev⟩
theorem one_I:TgI [0] [0] 0:=⟨rfl,rfl,rfl,by simp,by simp,by simp,by simp,by simp⟩
theorem After_zero (h:TgZ w o g f)
  (hK:∀w' o' bs' lbs' mb wr',TgD w' o' g f bs' (insAt [0] 1 1) lbs' mb 1 wr'→TgI (insAt [0] 1 1) lbs' 1→EvT w o w' o'→R (.returned (.tuple #[.int .u64 (1:Nat),.int .i64 0])) w') :
  Calls Tryz.prog 116 #[.pointer (some ⟨g,5,none⟩),.int .u64 (0:Nat)] w R :=
 After_gen (nms:=[0]) (gv:=0) (i:=0) (x:=0) (f:=f) h.lt (by simp) (by decide) rfl (fun R' k=>find_zero h fun w1 o1 b mb h1 ev=>k w1 o1 [b] [0] mb 0 b h1 one_I ev rfl) hK
end
set_option maxRecDepth 100000
section
variable {w w1 w2:World}{o o1 o2:Nat→Nat}{g:Nat}{f:Fr}{bs nms lbs:List Nat}{mb gv:Nat}{wr:Int}{M:Nat→Prop}{R:Ending→World→Prop}
end
set_option maxRecDepth 100000
def mpE (E:Nat→Option (Nat × Nat)) (k:Int):Option Value:=if 0≤k then (E k.toNat).map (fun p=>.agg #[.int .u64 (p.1:Nat),.int .u64 (p.2:Nat)]) else none
def tlL (mb hd:Option Nat) (gv:Nat) (wr:Int) (em:Option Nat):List Value:=[.map mb,pB hd,.int .u64 (gv:Nat),.int .u64 wr,.map em]
def EndR (w:World) (o:Nat→Nat) (em:Option Nat) (E:Nat→Option (Nat × Nat)):Prop:=match em with
 | none=>∀y,E y=none
 | some eb=>o eb=6∧Mp .u64 w eb (mpE E)
structure LM (w:World) (o:Nat→Nat) (g:Nat) (ty:TypeId) (S:PS) (bs nms lbs:List Nat) (mb gv:Nat) (wr:Int) (em:Option Nat) (E:Nat→Option (Nat × Nat)):Prop where
 pm:PM w o ⟨g,ty,tlL (some mb) bs[0]? gv wr em⟩ S
 r:TgR w o bs nms lbs mb
 i:TgI nms lbs gv
 len:bs.length=nms.length
 e:EndR w o em E
structure LZ (w:World) (o:Nat→Nat) (g:Nat) (ty:TypeId) (S:PS):Prop where
 pm:∃em,PM w o ⟨g,ty,tlL none none 0 0 em⟩ S∧EndR w o em fun _=>none
structure EvL (w:World) (o:Nat→Nat) (w1:World) (o1:Nat→Nat):Prop where
 fm:Fm (fun b=>o b=1∨o b=4∨o b=5∨o b=6) w w1
 same:∀b,o b≠0→o1 b=o b
 old:∀b,b < w.heap.size→o b=0→o1 b=0
 new:∀b,o1 b≠0→o b≠0∨o1 b=4∨o1 b=5∨o1 b=6
section
variable {w w1 w2:World}{o o1 o2:Nat→Nat}{g:Nat}{ty:TypeId}{S:PS}{bs nms lbs:List Nat}{mb gv:Nat}{wr:Int}{em:Option Nat}{E:Nat→Option (Nat × Nat)}{M:Nat→Prop}{R:Ending→World→Prop}{θ:Th}
theorem EvL.refl:EvL w o w o:=⟨.refl _ _,fun _ _=>rfl,fun _ _ h=>h,fun _ h=>.inl h⟩
theorem EvL.trans (h:EvL w o w1 o1) (k:EvL w1 o1 w2 o2):EvL w o w2 o2:=by
 refine⟨⟨k.fm.os.trans h.fm.os,k.fm.tape.trans h.fm.tape,k.fm.output.trans h.fm.output,Nat.le_trans h.fm.size k.fm.size,fun b hb hm=>?_⟩,fun b hb=>?_,fun b hb h1=>k.old b (Nat.lt_of_lt_of_le hb h.fm.size) (h.old b hb h1),fun b hb=>?_⟩
 ·rw [k.fm.block b (Nat.lt_of_lt_of_le hb h.fm.size) fun e=>?_]
  ·exact h.fm.block b hb hm
  ·by_cases h1:o b=0
   ·have:=h.old b hb h1;omega
   ·rw [h.same b h1] at e;exact hm e
 ·rw [k.same b (by rw [h.same b hb];exact hb)];exact h.same b hb
 ·rcases k.new b hb with e | e
  ·rcases h.new b e with e2 | e2
   ·exact .inl e2
   ·rw [k.same b e];exact .inr e2
  ·exact .inr e
theorem EvT.l (h:EvT w o w1 o1):EvL w o w1 o1:=⟨h.fm.mono fun b _ e=>by rcases e with e | e | e <;> simp [e],h.same,h.old,fun b hb=>by rcases h.new b hb with e | e | e <;> simp [e]⟩
theorem EvL.below (hb:Below w.heap.size w w1):EvL w o w1 o:=⟨.below hb,fun _ _=>rfl,fun _ _ h=>h,fun _ h=>.inl h⟩
theorem PM.tail (h:PM w o θ S) {tl:List Value} (hf:Fm M w w1) (hm:∀b,pc (o b)→o b≠1→¬M b) (hB:∀nv rv,Blk w θ.g (docC nv rv S.lv S.wn S.lo θ.tl) θ.t→Blk w1 θ.g (docC nv rv S.lv S.wn S.lo tl) θ.t) (ho:∀b,o b≠0→o1 b=o b) (hl:∀b,o1 b≠0→b < w1.heap.size) :
  PM w1 o1 { θ with tl:=tl } S:=by
 have hg:=h.col
 have hn:∀b c,o b=c→c≠1→pc c→¬M b:=fun b c hb hc hp hM=>by
  exact hm b (by rw [hb];exact hp) (by omega) hM
 have p2:pc 2:=.inr (.inl rfl)
 have p3:pc 3:=.inr (.inr (.inl rfl))
 obtain⟨nv,rv,hd⟩:=h.doc
 refine⟨by show o1 θ.g=1;rw [ho _ (by rw [hg];decide)];exact hg,hl,h.len,h.few,fun i b hb=>?_,⟨nv,rv,⟨hB nv rv hd.blk,own_fm hd.n1 hf fun x hx=>hn x 2 (hd.n2 x hx) (by decide) p2,fun x hx=>?_,own_fm hd.r1 hf fun x hx=>hn x 3 (hd.r2 x hx) (by decide) p3,fun x hx=>?_⟩⟩,fun i b s hb hs=>?_,h.rng,h.rts,h.cnt⟩
 ·have:=h.nc i b hb
  rw [ho b (by rw [this];omega)];exact this
 ·have:=hd.n2 x hx
  rw [ho x (by rw [this];decide)];exact this
 ·have:=hd.r2 x hx
  rw [ho x (by rw [this];decide)];exact this
 ·obtain⟨a,kv,hnd⟩:=h.nodes i b s hb hs
  obtain⟨q1,q2,q3⟩:=pc_nd i
  refine⟨a,kv,hnd.keep (h.nc i b hb) hf (fun x hx=>?_) (fun x hx=>?_)⟩
  ·rcases hx with e | e | e
   ·exact hn x _ e (by omega) q1
   ·exact hn x _ e (by omega) q2
   ·exact hn x _ e (by omega) q3
  ·exact ho x (by rcases hx with e | e <;> rw [e] <;> omega)
theorem LM.tg (h:LM w o g ty S bs nms lbs mb gv wr em E):∃f,TgD w o g f bs nms lbs mb gv wr∧f.m=.map em∧f.t=ty∧∃nv rv,f.a=slV nv∧f.b=slV rv∧f.c=.int .i64 (S.lv:Nat)∧f.d=.int .i64 (S.wn:Nat)∧f.e=.int .i64 (S.lo:Nat)∧Blk w g (docC nv rv S.lv S.wn S.lo (tlL (some mb) bs[0]? gv wr em)) ty:=by
 obtain⟨nv,rv,hd⟩:=h.pm.doc
 have hpos:=(List.getElem?_eq_some_iff.1 h.i.h0).1
 exact⟨⟨slV nv,slV rv,.int .i64 (S.lv:Nat),.int .i64 (S.wn:Nat),.int .i64 (S.lo:Nat),.map em,ty⟩,⟨hd.blk,h.pm.col,h.r,h.len,h.i.len,hpos,h.i.nd,h.pm.lt⟩,rfl,rfl,nv,rv,rfl,rfl,rfl,rfl,rfl,hd.blk⟩
theorem blk_inj {b:Nat}{c c':Array Value}{t t':TypeId} (h:Blk w b c t) (k:Blk w b c' t'):c=c'∧t=t':=by
 unfold Blk at h k
 rw [h] at k
 simp only [Option.some.injEq,Obj.cells.injEq] at k
 exact⟨k.1,k.2.1⟩
theorem EndR.fm (h:EndR w o em E) (hf:Fm M w w1) (hm:∀b,o b=6→¬M b) (ho:∀b,o b≠0→o1 b=o b):EndR w1 o1 em E:=by
 cases em with
 | none=>exact h
 | some eb =>
  obtain⟨h1,h2⟩:=h
  exact⟨by rw [ho eb (by rw [h1];decide)];exact h1,h2.fm hf (hm eb h1)⟩
theorem LM.setTg {f:Fr}{bs' nms' lbs':List Nat}{mb' gv':Nat}{wr':Int}{hd0 mb0:Option Nat}{gv0:Nat}{wr0:Int} (hp:PM w o ⟨g,ty,tlL mb0 hd0 gv0 wr0 em⟩ S) (he:EndR w o em E)
  (hf:∃nv rv,f.a=slV nv∧f.b=slV rv∧f.c=.int .i64 (S.lv:Nat)∧f.d=.int .i64 (S.wn:Nat)∧f.e=.int .i64 (S.lo:Nat)∧Blk w g (docC nv rv S.lv S.wn S.lo (tlL mb0 hd0 gv0 wr0 em)) ty) (hm:f.m=.map em) (ht:f.t=ty)
  (h1:TgD w1 o1 g f bs' nms' lbs' mb' gv' wr') (hI:TgI nms' lbs' gv') (ev:EvT w o w1 o1):LM w1 o1 g ty S bs' nms' lbs' mb' gv' wr' em E:=by
 have hgc:o g=1:=hp.col
 refine⟨hp.tail (tl:=tlL (some mb') bs'[0]? gv' wr' em) ev.fm (fun b hb h1 hM=>by unfold pc at hb;omega) (fun nv rv hB=>?_) ev.same h1.lt,h1.r,hI,h1.len,he.fm ev.fm (fun b hb=>by omega) ev.same⟩
 ·obtain⟨nv',rv',a1,a2,a3,a4,a5,a6⟩:=hf
  have hB:Blk w g (docC nv rv S.lv S.wn S.lo (tlL mb0 hd0 gv0 wr0 em)) ty:=hB
  obtain⟨q1,-⟩:=blk_inj hB a6
  have hb1:=h1.blk
  unfold dkC at hb1
  rw [a1,a2,a3,a4,a5,hm,ht] at hb1
  have e1:docC nv rv S.lv S.wn S.lo (tlL (some mb') bs'[0]? gv' wr' em)=docC nv' rv' S.lv S.wn S.lo (tlL (some mb') bs'[0]? gv' wr' em):=by
   unfold docC at q1 ⊢
   simp only [Array.mk.injEq,List.cons.injEq,and_true,true_and,List.toArray_inj] at q1 ⊢
   exact⟨q1.1,q1.2⟩
  show Blk w1 g (docC nv rv S.lv S.wn S.lo _) ty
  rw [e1];exact hb1
end
set_option maxRecDepth 100000
def LB (w:World) (o:Nat→Nat) (g:Nat) (ty:TypeId) (S:PS) (nms:List Nat) (gv:Nat) (E:Nat→Option (Nat × Nat)):Prop:=∃bs lbs mb wr em,LM w o g ty S bs nms lbs mb gv wr em E
def LX (w:World) (o:Nat→Nat) (g:Nat) (ty:TypeId) (S:PS) (nms:List Nat) (gv:Nat) (E:Nat→Option (Nat × Nat)):Prop :=
 (∃bs lbs mb wr em,LM w o g ty S bs nms lbs mb gv wr em E)∨(LZ w o g ty S∧nms=[0]∧gv=0∧∀y,E y=none)
section
variable {w w1 w2:World}{o o1 o2:Nat→Nat}{g:Nat}{ty:TypeId}{S:PS}{bs nms lbs:List Nat}{mb gv:Nat}{wr:Int}{em:Option Nat}{E:Nat→Option (Nat × Nat)}{M:Nat→Prop}{R:Ending→World→Prop}{θ:Th}
theorem LX.pm (h:LX w o g ty S nms gv E):∃tl,tl.length=5∧PM w o ⟨g,ty,tl⟩ S:=by
 rcases h with ⟨bs,lbs,mb,wr,em,h⟩ | ⟨h,_⟩
 ·exact⟨_,rfl,h.pm⟩
 ·obtain⟨em,hp,_⟩:=h.pm
  exact⟨_,rfl,hp⟩
theorem LX.lt (h:LX w o g ty S nms gv E):∀b,o b≠0→b < w.heap.size:=by obtain⟨tl,_,h⟩:=h.pm;exact h.lt
theorem LX.I (h:LX w o g ty S nms gv E):∃lbs,TgI nms lbs gv:=by
 rcases h with ⟨bs,lbs,mb,wr,em,h⟩ | ⟨h,rfl,rfl,_⟩
 ·exact⟨lbs,h.i⟩
 ·exact⟨_,one_I⟩
theorem LM.below (h:LM w o g ty S bs nms lbs mb gv wr em E) (hb:Below w.heap.size w w1):LM w1 o g ty S bs nms lbs mb gv wr em E :=
 ⟨h.pm.below hb,h.r.fm (M:=fun _=>False) (.below hb) (fun _ _ h=>h),h.i,h.len,h.e.fm (M:=fun _=>False) (.below hb) (fun _ _ h=>h) fun _ _=>rfl⟩
theorem LX.below (h:LX w o g ty S nms gv E) (hb:Below w.heap.size w w1):LX w1 o g ty S nms gv E:=by
 rcases h with ⟨bs,lbs,mb,wr,em,h⟩ | ⟨h,h2⟩
 ·exact .inl ⟨bs,lbs,mb,wr,em,h.below hb⟩
 ·obtain⟨em,hp,he⟩:=h.pm
  exact .inr ⟨⟨em,hp.below hb,he.fm (M:=fun _=>False) (.below hb) (fun _ _ h=>h) fun _ _=>rfl⟩,h2⟩
theorem LX.fm (h:LX w o g ty S nms gv E) (hf:Fm M w w1) (hm:∀b,b < w.heap.size→M b→o b=0):LX w1 o g ty S nms gv E:=by
 have hlt:=h.lt
 have hM:∀b,o b≠0→¬M b:=fun b hb hM=>hb (hm b (hlt b hb) hM)
 have hl:∀b,o b≠0→b < w1.heap.size:=fun b hb=>Nat.lt_of_lt_of_le (hlt b hb) hf.size
 have hp:∀b,pc (o b)→¬M b:=fun b hb=>hM b fun e=>by rw [e] at hb;unfold pc at hb;omega
 rcases h with ⟨bs,lbs,mb,wr,em,h⟩ | ⟨h,h2⟩
 ·exact .inl ⟨bs,lbs,mb,wr,em,h.pm.keep hf hp (fun _ _=>rfl) hl,h.r.fm hf (fun b hb=>hM b (by omega)),h.i,h.len,h.e.fm hf (fun b hb=>hM b (by omega)) fun _ _=>rfl⟩
 ·obtain⟨em,hq,he⟩:=h.pm
  exact .inr ⟨⟨em,hq.keep hf hp (fun _ _=>rfl) hl,he.fm hf (fun b hb=>hM b (by omega)) fun _ _=>rfl⟩,h2⟩
theorem After_x (h:LX w o g ty S nms gv E) (hf:nms.length≤8192) (hgv:gv < 9223372036854775808) {i x:Nat} (hx:nms[i]?=some x)
  (hK:∀w' o',LB w' o' g ty S (insAt nms (i+1) (gv+1)) (gv+1) E→EvL w o w' o'→R (.returned (.tuple #[.int .u64 (gv+1:Nat),.int .i64 0])) w') :
  Calls Tryz.prog 116 #[.pointer (some ⟨g,5,none⟩),.int .u64 (x:Nat)] w R:=by
 rcases h with ⟨bs,lbs,mb,wr,em,h⟩ | ⟨h,rfl,rfl,h2⟩
 ·obtain⟨f,t1,t2,t3,t4⟩:=h.tg
  refine After_calls t1 h.i hf hgv hx fun w' o' bs' lbs' mb' wr' q1 q2 ev=>hK w' o' ⟨bs',lbs',mb',wr',em,?_⟩ ev.l
  exact LM.setTg h.pm h.e t4 t2 t3 q1 q2 ev
 ·have hi0:i=0:=by have:=(List.getElem?_eq_some_iff.1 hx).1;simp at this;exact this
  subst hi0
  have hx0:x=0:=by simpa using hx.symm
  subst hx0
  obtain⟨em,hp,he⟩:=h.pm
  obtain rfl:E=fun _=>none:=funext h2
  obtain⟨nv,rv,hd⟩:=hp.doc
  refine After_zero (f:=⟨slV nv,slV rv,.int .i64 (S.lv:Nat),.int .i64 (S.wn:Nat),.int .i64 (S.lo:Nat),.map em,ty⟩) ⟨hd.blk,hp.col,hp.lt⟩ fun w' o' bs' lbs' mb' wr' q1 q2 ev=>hK w' o' ⟨bs',lbs',mb',wr',em,?_⟩ ev.l
  exact LM.setTg (mb0:=none) (hd0:=none) (gv0:=0) (wr0:=0) hp he ⟨nv,rv,rfl,rfl,rfl,rfl,rfl,hd.blk⟩ rfl rfl q1 q2 ev
theorem LX.emc (h:LX w o g ty S nms gv E):∃em,w.cell? ⟨g,9,none⟩=some (.map em)∧EndR w o em E:=by
 rcases h with ⟨bs,lbs,mb,wr,em,h⟩ | ⟨h,h2,h3,h4⟩
 ·obtain⟨nv,rv,hd⟩:=h.pm.doc
  exact⟨em,by rw [hd.blk.cell];rfl,h.e⟩
 ·obtain⟨em,hp,he⟩:=h.pm
  obtain rfl:E=fun _=>none:=funext h4
  obtain⟨nv,rv,hd⟩:=hp.doc
  exact⟨em,by rw [hd.blk.cell];rfl,he⟩
theorem mapTypeE:Tryz.prog.underlying 103=some (.map 65 146):=by kernel_rfl
theorem keyTypeE:Tryz.prog.underlying 65=some (.int .u64):=by kernel_rfl
theorem zeroEnd (w:World):(zeroValue 146).run Tryz.prog w=.ok (.agg #[.int .u64 0,.int .u64 0]) w:=by kernel_rfl
def eN (E:Nat→Option (Nat × Nat)) (y:Nat):Nat × Nat:=(E y).getD (0,0)
theorem look_nil {P:Program}{t kt et:TypeId} (ht:P.underlying t=some (.map kt et)) (hk:P.underlying kt=some (.int .u64)) {z:Value} (hz:(zeroValue et).run P w=.ok z w) (k:Int) {K:Value→World→Prop} (hK:K z w):Raw P (Instr.lookup t (.map none) (.int .u64 k) false) w K:=by
 have hc:(Instr.checkKey true 10000 kt (.int .u64 k)).run P w=.ok () w:=MapKept.run_checkKey (k:=.int .u64 k) hk (by simp [MapKept.IsKey]) _ 9999
 exact⟨_,w,by simp [Instr.lookup,run_underlying ht,hc,MapKept.run_findKey hk (show Instr.findNow (.int .u64) (.int .u64 k) [] 0=some none from rfl),hz,Result.andThen],hK⟩
theorem lookE {em:Option Nat} (h:EndR w o em E) (y:Nat) {K:Value→World→Prop} (hK:K (.agg #[.int .u64 ((eN E y).1:Nat),.int .u64 ((eN E y).2:Nat)]) w):Raw Tryz.prog (Instr.lookup 103 (.map em) (.int .u64 (y:Nat)) false) w K:=by
 cases em with
 | none =>
  have:eN E y=(0,0):=by unfold eN;rw [h y];rfl
  rw [this] at hK
  exact look_nil mapTypeE keyTypeE (zeroEnd w) y hK
 | some eb =>
  obtain⟨h1,h2⟩:=h
  refine h2.look mapTypeE keyTypeE (zeroEnd w) y false ?_
  have:(mpE E (y:Nat)).getD (.agg #[.int .u64 0,.int .u64 0])=.agg #[.int .u64 ((eN E y).1:Nat),.int .u64 ((eN E y).2:Nat)]:=by
   unfold mpE eN
   rw [if_pos (by omega),Int.toNat_natCast]
   cases E y with
   | none=>rfl
   | some p=>rfl
  simp only [this]
  exact hK
def updE (E:Nat→Option (Nat × Nat)) (y:Nat) (p:Option (Nat × Nat)):Nat→Option (Nat × Nat):=fun z=>if z=y then p else E z
theorem mpE_upd {E:Nat→Option (Nat × Nat)}{y:Nat}{p:Option (Nat × Nat)}:mpE (updE E y p)=upd (mpE E) (y:Nat) (p.map fun p=>.agg #[.int .u64 (p.1:Nat),.int .u64 (p.2:Nat)]):=by
 funext k
 unfold mpE upd updE
 by_cases h0:0≤k
 ·rw [if_pos h0]
  by_cases hk:k=(y:Int)
  ·rw [if_pos hk,if_pos (by omega)]
  ·rw [if_neg hk,if_neg (by omega)]
   dsimp only
   rw [if_pos h0]
 ·rw [if_neg h0,if_neg (by omega)]
  dsimp only
  rw [if_neg h0]
theorem LB.x (h:LB w o g ty S nms gv E):LX w o g ty S nms gv E:=.inl h
theorem LB.fm (h:LB w o g ty S nms gv E) (hf:Fm M w w1) (hm:∀b,b < w.heap.size→M b→o b=0):LB w1 o g ty S nms gv E:=by
 have hlt:=h.x.lt
 have hM:∀b,o b≠0→¬M b:=fun b hb hM=>hb (hm b (hlt b hb) hM)
 have hl:∀b,o b≠0→b < w1.heap.size:=fun b hb=>Nat.lt_of_lt_of_le (hlt b hb) hf.size
 have hp:∀b,pc (o b)→¬M b:=fun b hb=>hM b fun e=>by rw [e] at hb;unfold pc at hb;omega
 obtain⟨bs,lbs,mb,wr,em,h⟩:=h
 exact⟨bs,lbs,mb,wr,em,h.pm.keep hf hp (fun _ _=>rfl) hl,h.r.fm hf (fun b hb=>hM b (by omega)),h.i,h.len,h.e.fm hf (fun b hb=>hM b (by omega)) fun _ _=>rfl⟩
theorem LM.made (h:LM w o g ty S bs nms lbs mb gv wr none E) {K:World→Prop} (hK:∀w' o' eb,LM w' o' g ty S bs nms lbs mb gv wr (some eb) E→EvL w o w' o'→K w'):AlM w fun r w1=>St w1 ⟨g,9,none⟩ (.map (some r)) K:=by
 obtain⟨nv,rv,hd⟩:=h.pm.doc
 have hg:=hd.blk.lt
 unfold AlM
 have hb1:Below w.heap.size w (w.alloc (.map #[] 0)):=(Below.refl _ _).alloc (Nat.le_refl _) _
 have mp1:Mp .u64 (w.alloc (.map #[] 0)) w.heap.size fun _=>none:=Mp.made w .u64
 generalize (w.alloc (.map #[] 0))=w1 at *
 have hB:Blk w g (docC nv rv S.lv S.wn S.lo (tlL (some mb) bs[0]? gv wr none)) ty:=hd.blk
 refine st_blk (hB.keep hb1) (by simp [docC,tlL]) fun w2 b2 f2=>?_
 have hn:o w.heap.size=0:=Classical.byContradiction fun e=>by have:=h.pm.lt _ e;omega
 have hcol:=h.pm.col
 have hs1:=hb1.size
 have mp2:=mp1.fm f2 (fun e=>by have e:w.heap.size=g:=e;have hg:g < w.heap.size:=hg;omega)
 have F2:Fm (·=g) w w2:=(Fm.below hb1).trans f2
 have hss:∀b,o b≠0→(if b=w.heap.size then 6 else o b)=o b:=fun b hb=>by rw [if_neg (fun e=>hb (by rw [e];exact hn))]
 have hl:∀b,(if b=w.heap.size then 6 else o b)≠0→b < w2.heap.size:=fun b hb=>by
  by_cases e:b=w.heap.size
  ·rw [e];exact mp2.lt
  ·rw [if_neg e] at hb
   exact Nat.lt_of_lt_of_le (h.pm.lt b hb) F2.size
 have hp:=h.pm.tail (o1:=fun b=>if b=w.heap.size then 6 else o b) (tl:=tlL (some mb) bs[0]? gv wr (some w.heap.size)) F2 (fun b hb h1 e=>h1 (by have e:b=g:=e;rw [e];exact hcol)) (fun nv' rv' hB'=>by
  obtain⟨q1,-⟩:=blk_inj hB' hB
  have e1:docC nv' rv' S.lv S.wn S.lo (tlL (some mb) bs[0]? gv wr (some w.heap.size))=docC nv rv S.lv S.wn S.lo (tlL (some mb) bs[0]? gv wr (some w.heap.size)):=by
   unfold docC at q1 ⊢
   simp only [Array.mk.injEq,List.cons.injEq,and_true,true_and,List.toArray_inj] at q1 ⊢
   exact⟨q1.1,q1.2⟩
  rw [e1];exact b2) hss hl
 refine hK w2 (fun b=>if b=w.heap.size then 6 else o b) w.heap.size ⟨hp,?_,h.i,h.len,?_,?_⟩ ⟨F2.mono fun b _ e=>by have e:b=g:=e;rw [e];exact .inl hcol,hss,fun b hb h0=>by show (if b=w.heap.size then 6 else o b)=0;rw [if_neg (by omega)];exact h0,fun b hb=>?_⟩
 ·have hr:=h.r.fm F2 (fun b hb e=>by have e:b=g:=e;rw [e,hcol] at hb;omega)
  exact⟨hr.blk,fun b hb=>by show (if b=w.heap.size then 6 else o b)=4;rw [hss b (by rw [hr.col b hb];decide)];exact hr.col b hb,hr.nd,hr.mp,by show (if mb=w.heap.size then 6 else o mb)=5;rw [hss mb (by rw [hr.mcol];decide)];exact hr.mcol⟩
 ·show (if w.heap.size=w.heap.size then 6 else _)=6
  rw [if_pos rfl]
 ·have e:mpE E=fun _=>none:=by
   funext k
   unfold mpE
   rw [h.e k.toNat]
   split <;> rfl
  rw [e];exact mp2
 ·by_cases e:b=w.heap.size
  ·right;right;right;show (if b=w.heap.size then 6 else o b)=6;rw [if_pos e]
  ·left
   have hb:(if b=w.heap.size then 6 else o b)≠0:=hb
   rw [if_neg e] at hb;exact hb
theorem LM.setE {eb:Nat} (h:LM w o g ty S bs nms lbs mb gv wr (some eb) E) (hf:Fm (·=eb) w w1) {E':Nat→Option (Nat × Nat)} (hm:Mp .u64 w1 eb (mpE E')):LM w1 o g ty S bs nms lbs mb gv wr (some eb) E'∧EvL w o w1 o:=by
 obtain⟨e1,e2⟩:=h.e
 have hl:∀b,o b≠0→b < w1.heap.size:=fun b hb=>Nat.lt_of_lt_of_le (h.pm.lt b hb) hf.size
 refine⟨⟨h.pm.keep hf (fun b hb e=>?_) (fun _ _=>rfl) hl,h.r.fm hf (fun b hb e=>?_),h.i,h.len,e1,hm⟩,⟨hf.mono fun b _ e=>?_,fun _ _=>rfl,fun _ _ h=>h,fun _ h=>.inl h⟩⟩
 ·have e:b=eb:=e
  rw [e,e1] at hb;unfold pc at hb;omega
 ·have e:b=eb:=e
  rw [e,e1] at hb;omega
 ·have e:b=eb:=e
  rw [e];exact .inr (.inr (.inr e1))
end
end Go.Proofs.YtccplipiahdhiaaGreatDoor
