/- SearchTerms: each word is found as often as it says; those that begin so are those of all that do. -/
import Derived.Test.YtccplipiahdhiaaGreatDoorProg
import Derived.Deep.Slices
import Derived.SizedLaws
import Derived.DataReads
import Derived.WideShapes
import Derived.Test.YtccplipiahdhiaaGreatDoorRows
import Derived.Lib.SmallJoins
import Derived.Test.YtccplipiahdhiaaGreatDoorCards
import Derived.Test.YtccplipiahdhiaaGreatDoorTie
import Derived.WalkKit
import Derived.RowKit3
import Derived.ProofKit
import Derived.OpenShut
import Derived.ShutString
import Derived.ChangeOld
import Derived.Below
import Derived.Carry
import Derived.LaidMore
import Derived.PinnedBridge
import Derived.Lib.LaidIn
import Derived.Lib.LaidU8T
import Derived.SevenTiedAt
import Derived.Stop.Joined
import Derived.Deep.DeepHandedRow
import Derived.JoinedCond
import Derived.Deep.CondSized
import Derived.Test.YtccplipiahdhiaaGreatDoorSe6
namespace Go.Proofs.YtccplipiahdhiaaGreatDoor
open Go.RowKit Go.Vc
set_option linter.unusedVariables false
set_option linter.unusedSimpArgs false
set_option maxRecDepth 100000
section
variable {w w0 w1:World}{o:Nat→Nat}{gx gd mt mh:Nat}{D:Im}{S:PS}{nv vw:Sv}{tv:Nat→Sv}{hv:ByteArray→Sv}{R:Ending→World→Prop}{ws:List ByteArray}
theorem looked_calls (hx:IxR w gx gd mt mh D o S nv tv hv) (hT:Tabs w) (hw:RdV LS w ws vw)
  (h1:canS ws=true→∀gl w' a s b,LkS w w' gl gx vw a s b (D.roots.flatMap (findF (slA D.sl) ws q1 65)) (D.roots.flatMap (findF (slA D.sl) ws (qS (slA D.sl) ws) 65)) (D.roots.flatMap (findF (slA D.sl) ws (qB (slA D.sl) ws) 65))→R (.returned (.tuple #[.pointer (some ⟨gl,0,none⟩),.int .i64 0])) w')
  (h0:canS ws=false→∀w',Below w.heap.size w w'→R (.returned (.tuple #[.pointer none,.int .i64 1])) w'):Calls Tryz.prog 45 #[.pointer (some ⟨gx,0,none⟩),.slice vw.1 vw.2.1 vw.2.2] w R:=by
 refine ok45 (some ⟨gx,0,none⟩) vw.1 vw.2.1 vw.2.2 ?_
 unfold F45
 refine all_calls ws vw hT hw fun w1 hb1=>⟨_,rfl,?_⟩
 rw [brnot]
 refine br (fun ho=>?_) (fun ho=>h0 ho w1 hb1)
 have h1:=h1 ho
 refine al fun gl w2 hb2 b2 hge=>?_
 have B2:=btr hb1 hb1.size hb2
 have x2:=hx.keep B2
 have hs1:=hb1.size
 have hs2:=hb2.size
 have hgl:=b2.lt
 have hwf:=hx.wf
 have hsd:=hx.sd
 subst hsd
 have hfew:(allD' S.D).length≤4096:=rootsAll_few hwf.s hwf.a
 have L2:LkS w w2 gl gx vw (none,0,0) (none,0,0) (none,0,0) [] [] []:=⟨B2,by omega,b2,Own.nil _ _ _ _,Own.nil _ _ _ _,Own.nil _ _ _ _,Apart.nil_r,Apart.nil_r,Apart.nil_r⟩
 have cg:w2.cell? ⟨gx,0,none⟩=some (.pointer (some ⟨gd,0,none⟩)):=by rw [x2.blk.cell];rfl
 simp only [NonNil_some,Addr.add_mk,Nat.zero_add,cg,lds]
 refine Roots_calls (θ:=⟨gd,98,[]⟩) x2.pm hwf.a ?_
 intro vr w3 hb3 or3
 refine⟨_,_,_,rfl,?_⟩
 have L3:=L2.below hb3
 have hs3:=hb3.size
 obtain⟨r1,r2⟩:=rdO or3
 have hrl:S.D.roots.length≤4096:=Nat.le_trans (live_few (fun y hy=>by obtain⟨u,u1,_⟩:=rootc hwf.a hy;exact⟨u,u1⟩) hwf.a.root.1) x2.pm.few
 refine⟨fun i w'=>∃(k:Nat) (a s b:Sv),i=k∧k≤S.D.roots.length∧LkS w w' gl gx vw a s b ((S.D.roots.take k).flatMap (findF (slA S.D.sl) ws q1 65)) ((S.D.roots.take k).flatMap (findF (slA S.D.sl) ws (qS (slA S.D.sl) ws) 65)) ((S.D.roots.take k).flatMap (findF (slA S.D.sl) ws (qB (slA S.D.sl) ws) 65)) ∧
   LkF gl w3 (none,0,0) (none,0,0) (none,0,0) w' a s b,fun i _=>S.D.roots.length-i.toNat,
  ⟨0,_,_,_,rfl,by omega,by simpa using L3,.refl⟩,?_⟩
 rintro _ w4 ⟨k,a,s,b,rfl,hk,L4,F4⟩
 unfold F45_l5
 refine brd (fun hlt=>?_) (fun hge=>?_)
 ·have hk2:k < S.D.roots.length:=by omega
  have or4:=own_fm or3 F4.fm fun x hx2 q=>by
   have:=(or3.lt x hx2).1
   rcases q with e | e | e | e
   ·omega
   ·cases e
   ·cases e
   ·cases e
  refine (rdO or4).2.hn r1 rfl hk2 fun bb oo cc=>?_
  simp only [cc,lds]
  obtain⟨u,hu,hc⟩:=rootc hwf.a (List.getElem_mem hk2)
  have hfl:=@flat_take_le (allA (slA S.D.sl) 65) S.D.roots (k+1)
  rw [flat_take hk2,List.length_append] at hfl
  have hfl2:((S.D.roots.take k).flatMap (allA (slA S.D.sl) 65)).length+(allA (slA S.D.sl) 65 S.D.roots[k]).length≤4096:=Nat.le_trans hfl hfew
  have hq:∀q,((S.D.roots.take k).flatMap (findF (slA S.D.sl) ws q 65)).length+(allA (slA S.D.sl) 65 S.D.roots[k]).length≤4096:=fun q=>by
   have:=flat_le2 (l:=S.D.roots.take k) fun y _=>find_len (A:=slA S.D.sl) (ws:=ws) (q:=q) 65 y
   omega
  refine below_calls hx hw 65 _ 1 hu hc rfl L4 ⟨hq _,hq _,hq _⟩ fun w5 r20 m21 a' s' b' L5 F5 _ _ _ _=>⟨_,_,_,rfl,?_⟩
  refine⟨inR_i64 (by omega) (by omega),⟨k+1,a',s',b',by simp,by omega,?_,F4.trans F5⟩,(by first | omega | (dsimp only;omega))⟩
  rw [flat_take hk2,flat_take hk2,flat_take hk2]
  exact L5
 ·have hk2:k=S.D.roots.length:=by omega
  subst hk2
  rw [List.take_length] at L4
  exact h1 gl w4 a s b L4
theorem inOrder_calls (hx:IxR w gx gd mt mh D o S nv tv hv) {l:List Nat}{v:Sv} (hl:RdV LHn w l v) (hK:∀v' w',Below w.heap.size w w'→Own LHn w' w.heap.size 65 (slV v') ((allD' D).filter fun n=>decide (n∈l))→R (.returned (slV v')) w') :
  Calls Tryz.prog 46 #[.pointer (some ⟨gx,0,none⟩),.slice v.1 v.2.1 v.2.2] w R:=by
 refine ok46 (some ⟨gx,0,none⟩) v.1 v.2.1 v.2.2 ?_
 unfold F46
 refine al fun g2 w1 hb1 b1 hge1=>?_
 have x1:=hx.keep hb1
 have l1:=hl.keep hb1
 have hfew:(allD' D).length≤4096:=rootsAll_few hx.wf.s hx.wf.a
 have cn:w1.cell? ⟨gx,1,none⟩=some (.slice nv.1 nv.2.1 nv.2.2):=by rw [x1.blk.cell];rfl
 simp only [NonNil_some,Addr.add_mk,Nat.zero_add,cn,lds]
 refine cloneHn x1.nod (by omega) fun v2 w2 hb2 o2=>⟨_,_,_,rfl,?_⟩
 have hs1:=hb1.size
 refine delFn (B:=w1.heap.size) (fun y=>!(l.any fun z=>decide (z=y))) o2 (by omega) (fun y hy w3 K R' f3 hK2=>⟨by kernel_rfl,?_⟩) fun v3 w3 o3 f3=>⟨_,_,_,rfl,?_⟩
 ·have B3:Below w1.heap.size w1 w3:=hb2.trans (f3.toBelow hb2.size fun x hx2 e=>by have:=(o2.lt x e).1;omega)
  refine ok78 y ⟨g2,0,none⟩ ?_
  unfold F78
  have b3:=b1.keep B3
  simp only [b3.cell,List.getElem?_toArray,List.getElem?_cons_zero,lds]
  exact containsHn l v y (l1.keep B3) ⟨_,rfl,hK2 w3 (.refl _ _)⟩
 ·have B3:Below w1.heap.size w1 w3:=hb2.trans (f3.toBelow hb2.size fun x hx2 e=>by have:=(o2.lt x e).1;omega)
  have e:((allD' D).filter fun y=>!!(l.any fun z=>decide (z=y)))=(allD' D).filter fun n=>decide (n∈l):=by
   congr 1;funext y
   rw [Bool.not_not,Bool.eq_iff_iff,List.any_eq_true,decide_eq_true_eq]
   exact⟨fun⟨z,h1,h2⟩=>by rw [decide_eq_true_eq] at h2;subst h2;exact h1,fun h1=>⟨y,h1,decide_eq_true rfl⟩⟩
  rw [e] at o3
  exact hK v3 w3 (btr hb1 hs1 B3) (o3.rebase fun x hx2=>by have:=(o3.lt x hx2).1;omega)
theorem All_calls (hx:IxR w gx gd mt mh D o S nv tv hv) (hT:Tabs w) (hw:RdV LS w ws vw) (h1:canS ws=true→∀v w',Below w.heap.size w w'→Own LHn w' w.heap.size 65 (slV v) (AllS D ws)→R (.returned (.tuple #[slV v,.int .i64 0])) w')
  (h0:canS ws=false→∀w',Below w.heap.size w w'→R (.returned (.tuple #[.slice none 0 0,.int .i64 1])) w'):Calls Tryz.prog 11 #[.pointer (some ⟨gx,0,none⟩),.slice vw.1 vw.2.1 vw.2.2] w R:=by
 refine ok11 (some ⟨gx,0,none⟩) vw.1 vw.2.1 vw.2.2 ?_
 unfold F11
 have hfew:(allD' D).length≤4096:=rootsAll_few hx.wf.s hx.wf.a
 refine looked_calls hx hT hw (fun ho gl w1 a s b L1=>⟨_,_,rfl,?_⟩) fun ho w1 hb1=>⟨_,_,rfl,?_⟩
 ·refine brn (fun hn=>absurd rfl hn) fun _=>?_
  have x1:=hx.keep L1.bel
  have c1:w1.cell? ⟨gl,2,none⟩=some (slV a):=by rw [L1.blk.cell];rfl
  unfold slV at c1
  simp only [NonNil_some,Addr.add_mk,Nat.zero_add,c1,lds]
  have hlen:=@flat_le2 (findF (slA D.sl) ws (q1) 65) (allA (slA D.sl) 65) D.roots fun y _=>find_len 65 y
  refine inOrder_calls (v:=a) x1 (rdV_own L1.oa (by unfold allD' at hfew;omega)) fun v w2 hb2 o2=>⟨_,_,_,rfl,?_⟩
  have hs:=L1.bel.size
  exact h1 ho v w2 (btr L1.bel hs hb2) (o2.rebase fun x hx2=>by have:=(o2.lt x hx2).1;omega)
 ·refine brn (fun hn=>?_) fun hn=>absurd hn (by decide)
  exact h0 ho w1 hb1
theorem Smallest_calls (hx:IxR w gx gd mt mh D o S nv tv hv) (hT:Tabs w) (hw:RdV LS w ws vw) (h1:canS ws=true→∀v w',Below w.heap.size w w'→Own LHn w' w.heap.size 65 (slV v) (SmallS D ws)→R (.returned (.tuple #[slV v,.int .i64 0])) w')
  (h0:canS ws=false→∀w',Below w.heap.size w w'→R (.returned (.tuple #[.slice none 0 0,.int .i64 1])) w'):Calls Tryz.prog 12 #[.pointer (some ⟨gx,0,none⟩),.slice vw.1 vw.2.1 vw.2.2] w R:=by
 refine ok12 (some ⟨gx,0,none⟩) vw.1 vw.2.1 vw.2.2 ?_
 unfold F12
 have hfew:(allD' D).length≤4096:=rootsAll_few hx.wf.s hx.wf.a
 refine looked_calls hx hT hw (fun ho gl w1 a s b L1=>⟨_,_,rfl,?_⟩) fun ho w1 hb1=>⟨_,_,rfl,?_⟩
 ·refine brn (fun hn=>absurd rfl hn) fun _=>?_
  have x1:=hx.keep L1.bel
  have c1:w1.cell? ⟨gl,3,none⟩=some (slV s):=by rw [L1.blk.cell];rfl
  unfold slV at c1
  simp only [NonNil_some,Addr.add_mk,Nat.zero_add,c1,lds]
  have hlen:=@flat_le2 (findF (slA D.sl) ws (qS (slA D.sl) ws) 65) (allA (slA D.sl) 65) D.roots fun y _=>find_len 65 y
  refine inOrder_calls (v:=s) x1 (rdV_own L1.os (by unfold allD' at hfew;omega)) fun v w2 hb2 o2=>⟨_,_,_,rfl,?_⟩
  have hs:=L1.bel.size
  exact h1 ho v w2 (btr L1.bel hs hb2) (o2.rebase fun x hx2=>by have:=(o2.lt x hx2).1;omega)
 ·refine brn (fun hn=>?_) fun hn=>absurd hn (by decide)
  exact h0 ho w1 hb1
end
set_option maxRecDepth 100000
def WAns (s:ByteArray) (w:World) (v:Value) (w':World):Prop :=
 (∃A n c A2 n2 c2,v=.tuple #[.slice A n c,.slice A2 n2 c2,.int .i64 (textS s).2]∧WS w (.slice A n c) (.slice A2 n2 c2) (if (textS s).2=0 then wordsF s 0 else []) w')
theorem WS.start {w0 w1 w:World}{v u:Value}{l:List (ByteArray × Nat)} (hb:Below w0.heap.size w0 w1) (h:WS w1 v u l w):WS w0 v u l w :=
 ⟨hb.trans (h.below.mono hb.size),h.ws.rebase fun k hk=>Nat.le_trans hb.size (h.ws.lt k hk).1,h.at_.rebase fun k hk=>Nat.le_trans hb.size (h.at_.lt k hk).1,h.ap⟩
theorem wordsA_k (s:ByteArray) {w:World} (hT:Tabs w) {R:Ending→World→Prop} (h:∀v w',WAns s w v w'→R (.returned v) w'):Calls Tryz.prog 36 #[.string s] w R:=by
 refine ok36 s ?_
 unfold F36
 refine textA_k s hT fun w1 hb=>⟨_,_,rfl,?_⟩
 refine brn (fun hne=>?_) (fun he=>?_)
 ·refine h _ _ ⟨_,_,_,_,_,_,rfl,?_⟩
  rw [if_neg (by omega)]
  exact⟨hb,Own.nil _ _ _ _,Own.nil _ _ _ _,Apart.nil_r⟩
 ·have he':(textS s).2=0:=by omega
  refine words_calls s (textS_ok he') fun A n c A2 n2 c2 w2 hw=>⟨_,_,_,_,_,_,rfl,h _ _ ⟨_,_,_,_,_,_,by rw [he'];rfl,?_⟩⟩
  rw [if_pos he']
  exact hw.start hb
set_option maxRecDepth 100000
section
variable {w w1 w2:World}{o o1 o2:Nat→Nat}{g k:Nat}{ty:TypeId}{M:Nat→Prop}{R:Ending→World→Prop}{D:Im}{E:Nat→Option (Nat × Nat)}{S:PS}{θ:Th}
theorem AllT0_calls (h:PM w o θ S) (hS:WfS S.D.sl) (hA:WfA (slA S.D.sl) S.D.roots [])
  (hK:∀v' w',Below w.heap.size w w'→R (.returned (.tuple #[slV v',.int .i64 0])) w'):Calls Tryz.prog 56 #[.pointer (some ⟨θ.g,0,none⟩),.int .u64 0] w R:=by
 refine ok56 (some ⟨θ.g,0,none⟩) 0 ?_
 unfold F56
 refine bre (fun _=>?_) (fun e=>absurd rfl e)
 obtain⟨nv,rv,hd⟩:=h.doc
 obtain⟨A,c,hvf,hrd⟩:=hd.r1.form
 have e1:=slvF hvf
 have cv':w.cell? ⟨θ.g,1,none⟩=some (.slice rv.1 rv.2.1 rv.2.2):=by rw [hd.blk.cell];rfl
 simp only [NonNil_some,Addr.add_mk,Nat.zero_add,cv',lds]
 have hf:=rootsAll_few hS hA
 refine allP_calls h hA 65 (l:=S.D.roots) (v:=rv) (cc:=1) (xs:=[]) (by rw [e1];simp) (by rw [e1];exact hrd) h.rts.2 (fun y hy=>by
  obtain⟨_,t,ht,tp⟩:=hA.root.2 y hy
  exact⟨t,ht,.succ (hA.ne0 ht) ht (by rw [tp];exact .zero)⟩) (by omega) (Below.refl _ _) (.inl ⟨rfl,rfl⟩) (by simp only [List.length_nil];omega) fun A' n' c' w' hb' ho'=>⟨A',n',c',rfl,hK (A',n',c') w' hb'⟩
theorem del_word (hw:Wf D) {n:Nat}{s:Sl} (hn:slA D.sl n=some s):(delF D n).1.roots.flatMap (wrd (slA (delF D n).1.sl) (dropE E (allA (slA D.sl) 65 n)) 65)=(setR D.roots s.parent ((lstA (slA D.sl) D.roots s.parent).erase n)).flatMap (wrd (setA (slA D.sl) s.parent ((lstA (slA D.sl) D.roots s.parent).erase n)) E 65)∧(∀y,(∃t,slA (delF D n).1.sl y=some t)↔y∉allA (slA D.sl) 65 n∧∃t,slA D.sl y=some t):=by
 have hwf:=del_wf hw n
 obtain⟨o1,o2,o3,o4⟩:=out_wf hw hn
 have hl0:∀z,z∈([]:List Nat)→z=n∨¬Wi (slA D.sl) n z:=fun z hz=>by simp at hz
 have hpa:∀x t,slA D.sl x=some t→∃u,slA (outI D n).sl x=some u∧u.parent=t.parent:=by rw [o3];exact setA_pa
 obtain⟨r1,r2⟩:=killF_A (allA (slA D.sl) 65 n) (outI D n).sl o1 (all_nodup hw.a 65 n ⟨s,hn⟩ hl0) fun x hx=>by
  obtain⟨t,ht⟩:=all_live hw.a ⟨s,hn⟩ hl0 hx
  obtain⟨u,hu,_⟩:=hpa x t ht
  exact⟨u,hu⟩
 have hD:(delF D n).1={ outI D n with sl:=killF (outI D n).sl (allA (slA D.sl) 65 n) }:=by unfold delF;rw [hn]
 rw [hD] at hwf ⊢
 dsimp only at hwf ⊢
 have o4':(outI D n).roots=setR D.roots s.parent ((lstA (slA D.sl) D.roots s.parent).erase n):=o4
 have o3':slA (outI D n).sl=setA (slA D.sl) s.parent ((lstA (slA D.sl) D.roots s.parent).erase n):=o3
 constructor
 ·rw [←o4',←o3']
  refine flat_congr fun z hz=>?_
  obtain⟨_,u,u1,_⟩:=hwf.a.root.2 z hz
  refine (wrd_congr2 hwf.a 65 z u1 fun y hy=>?_).symm
  obtain⟨t,ht⟩:=all_live hwf.a ⟨u,u1⟩ (fun z hz=>by simp at hz) hy
  have ht':slA (killF (outI D n).sl (allA (slA D.sl) 65 n)) y=some t:=ht
  have hyL:y∉allA (slA D.sl) 65 n:=fun e=>by rw [r2,if_pos e] at ht';cases ht'
  refine⟨?_,?_⟩
  ·show slA (outI D n).sl y=slA (killF (outI D n).sl (allA (slA D.sl) 65 n)) y
   rw [r2,if_neg hyL]
  ·unfold dropE;rw [if_neg hyL]
 ·intro y
  rw [r2]
  by_cases hyL:y∈allA (slA D.sl) 65 n
  ·rw [if_pos hyL]
   exact⟨fun⟨t,ht⟩=>(by cases ht),fun h=>absurd hyL h.1⟩
  ·rw [if_neg hyL,o3']
   constructor
   ·rintro ⟨t,ht⟩
    obtain⟨u,hu,_⟩:=setA_live ht
    exact⟨hyL,u,hu⟩
   ·rintro ⟨_,t,ht⟩
    obtain⟨u,hu,_⟩:=setA_of' (p:=s.parent) (l:=(lstA (slA D.sl) D.roots s.parent).erase n) ht
    exact⟨u,hu⟩
theorem deleteL_calls (h:LD k g ty w o D) (hk:k < 1099511627776) (hw:Wf D) {n:Nat} (hn:n < 18446744073709551616)
  (hK:∀w' o',LD (k+1) g ty w' o' (delF D n).1→EvA w o w' o'→R (.returned (.int .i64 (delF D n).2)) w') :
  Calls Tryz.prog 218 #[.pointer (some ⟨g,0,none⟩),.int .u64 (n:Nat)] w R:=by
 refine ok218 (some ⟨g,0,none⟩) n ?_
 unfold F218
 obtain⟨S,nms,gv,E,rfl,hL⟩:=h
 obtain⟨tl,hp,hback⟩:=hL.x.tree
 have hgv:=hL.gv_
 have hbad:slA S.D.sl n=none→∀w',Below w.heap.size w w'→R (.returned (.int .i64 8)) w':=fun hs w' hb=>by
  have e:delF S.D n=(S.D,8):=by unfold delF;rw [hs]
  rw [e] at hK
  exact hK w' o ⟨S,nms,gv,E,rfl,hL.x.below hb,hL.pi,hL.word,hL.def1,hL.def2,by omega⟩ (EvA.below hb)
 rw [NonNil_some]
 by_cases h0:n=0
 ·subst h0
  refine AllT0_calls (θ:=⟨g,ty,tl⟩) hp hw.s hw.a fun v w1 hb1=>⟨_,_,_,_,rfl,fun _=>False,fun _ h=>h.elim,brn (fun e=>absurd rfl e) fun _=>bre (fun _=>hbad (slA_zero _) w1 hb1) fun e=>absurd rfl e⟩
 refine AllT_calls (θ:=⟨g,ty,tl⟩) hp hw.s hw.a hn h0 fun v w1 hb1 hv=>⟨_,_,_,_,rfl,?_⟩
 cases hs:slA S.D.sl n with
 | none =>
  refine⟨fun _=>False,fun _ h=>h.elim,?_⟩
  rw [if_neg (by simp)]
  exact brn (fun _=>hbad hs w1 hb1) (fun e=>absurd e (by decide))
 | some s =>
 have hv:=hv s hs
 refine⟨fun w'=>w1=w',?_,?_⟩
 rotate_left
 ·rw [if_pos (by simp)]
  exact brn (fun e=>absurd rfl e) fun _=>bre (fun e=>absurd (by omega) h0) fun _=>rfl
 rintro _ rfl
 unfold F218_j4
 have hx1:=hL.x.below hb1
 have hE0:E 0=none:=Classical.byContradiction fun e=>by
  obtain⟨t,ht⟩:=hL.def1 0 e
  rw [hw.a.zero] at ht;cases ht
 obtain⟨X,Y,a1,b1,l1⟩:=attach (E:=E) (E':=E) hw.a hs hE0 (fun _ _=>rfl)
 obtain⟨lbs0,hI⟩:=hL.x.I
 have hnm:nms=X++wrd (slA S.D.sl) E 65 n++Y:=by rw [hL.word];exact a1
 have hXne:X≠[]:=fun e=>by rw [e] at l1;cases l1
 have h0X:0∈X:=by
  cases X with
  | nil=>exact absurd rfl hXne
  | cons x X =>
   have:=hI.h0
   rw [hnm] at this
   have:x=0:=by simpa using this
   rw [this];exact List.mem_cons_self ..
 obtain⟨hT,hmem⟩:=tgd_of (E:=E) hw.a hs (X:=X) (Y:=Y) (by rw [←hnm];exact hI.nd) h0X hL.def2
 have hfew:(allA (slA S.D.sl) 65 n).length≤4096:=all_fewP hw.s hw.a ⟨s,hs⟩
 obtain⟨dw1,dw2⟩:=del_word (E:=E) hw hs
 rcases hx1 with ⟨bs,lbs,mb,wr,em,hM⟩ | ⟨-,-,-,hz⟩
 rotate_left
 ·exact absurd (hz n) (hL.def2 n s hs)
 cases em with
 | none=>exact absurd (hM.e n) (hL.def2 n s hs)
 | some eb =>
 have hlt:=hL.x.lt
 refine untag_calls (v:=v) hM hv (fun b hb=>Classical.byContradiction fun e=>by have:=hlt b e;have:=(hv.lt b hb).1;omega) (by omega) (by rw [hnm];exact hT) fun w2 bs2 lbs2 h2 ev2=>⟨rfl,?_⟩
 rw [NonNil_some]
 have hx2:LX w2 o g ty S (untagN E (allA (slA S.D.sl) 65 n) nms) gv (dropE E (allA (slA S.D.sl) 65 n)):=.inl ⟨bs2,lbs2,mb,wr,some eb,h2⟩
 obtain⟨tl2,hp2,hback2⟩:=hx2.tree
 refine delete_calls (θ:=⟨g,ty,tl2⟩) hp2 hL.pi hw hn fun w3 o3 S3 p3 i3 d3 ev3=>⟨_,rfl,?_⟩
 have hx3:=hback2 w3 o3 S3 p3 ev3
 refine hK w3 o3 ⟨S3,_,gv,_,d3,hx3,i3,?_,fun y hy=>?_,fun y t ht=>?_,by omega⟩ (((EvA.below hb1).tr ev2.a).tr (EvC.a ev3))
 ·rw [d3,dw1,b1,hnm]
  exact untag_word (by rw [←hnm];exact hI.nd) hmem
 ·rw [d3]
  unfold dropE at hy
  by_cases hyL:y∈allA (slA S.D.sl) 65 n
  ·rw [if_pos hyL] at hy;exact absurd rfl hy
  ·rw [if_neg hyL] at hy
   exact (dw2 y).2 ⟨hyL,hL.def1 y hy⟩
 ·rw [d3] at ht
  obtain⟨hyL,u,hu⟩:=(dw2 y).1 ⟨t,ht⟩
  unfold dropE
  rw [if_neg hyL]
  exact hL.def2 y u hu
end
set_option maxRecDepth 100000
section
variable {D:Im}{E:Nat→Option (Nat × Nat)}
theorem mov_att (hw:Wf D) {n a:Nat}{wh:Int} (h0:(movF D n wh a).2=0):∃s s',slA D.sl n=some s∧Att (slA (delF D n).1.sl) (delF D n).1.roots (slA (movF D n wh a).1.sl) (movF D n wh a).1.roots n s'∧(∀y,y∈allA (slA (movF D n wh a).1.sl) 65 n↔y∈allA (slA D.sl) 65 n):=by
 have hwf:=mov_wf hw n wh a
 have hdf:=del_wf hw n
 unfold movF at h0 hwf ⊢
 by_cases h1:(placeF D wh a).2=1
 ·rw [if_pos h1] at h0;cases h0
 rw [if_neg h1] at h0 hwf ⊢
 by_cases h2:slA D.sl n=none∨(placeF D wh a).2=8
 ·rw [if_pos h2] at h0;cases h0
 rw [if_neg h2] at h0 hwf ⊢
 by_cases h3:a≠0∧wiI D n a=true
 ·rw [if_pos h3] at h0;cases h0
 rw [if_neg h3] at h0 hwf ⊢
 by_cases h4:(placeF D wh a).2≠0
 ·rw [if_pos h4] at h0;exact absurd h0 h4
 rw [if_neg h4] at h0 hwf ⊢
 by_cases h5:64 < cntI D (placeF D wh a).1+dpA (slA D.sl) 65 n
 ·rw [if_pos h5] at h0;cases h0
 rw [if_neg h5] at hwf ⊢
 obtain⟨s,hs⟩:∃s,slA D.sl n=some s:=by
  cases hs:slA D.sl n with
  | none=>exact absurd (.inl hs) h2
  | some s=>exact⟨s,rfl⟩
 have h4':(placeF D wh a).2=0:=by simpa using h4
 obtain⟨m1,m2,m3,m4⟩:=mov_facts hw hs h3 h4'
 obtain⟨p1,p2,p3,p4,p5,p6⟩:=place_ok hw h4'
 obtain⟨o1,o2,o3,o4⟩:=out_wf hw hs
 generalize placeF D wh a=pr at *
 obtain⟨p,pe⟩:=pr
 dsimp only at *
 have n0:=hw.a.ne0 hs
 have hs1:slA (outI D n).sl n=some s:=by rw [o3,setA_of hs,if_neg (fun e=>m3 e.1)]
 have pe1:p=0∨∃t,slA (outI D n).sl p=some t:=by
  rcases p1 with e | ⟨t,ht,_⟩
  ·exact .inl e
  ·rw [o3]
   obtain⟨u,u1,_⟩:=setA_of' (p:=s.parent) (l:=(lstI D s.parent).erase n) ht
   exact .inr ⟨u,u1⟩
 obtain⟨X,hX⟩:∃X,X=insAt (lstI (outI D n) p) (posF wh a (lstI (outI D n) p)) n:=⟨_,rfl⟩
 have hput:putI (outI D n) n p wh a=setI (outI D n) p X:=by unfold putI;rw [←hX]
 rw [hput] at hwf ⊢
 obtain⟨e1,e2⟩:=setI_A (D:=outI D n) (l:=X) pe1
 have hs2:slA (setI (outI D n) p X).sl n=some s:=by rw [e1,setA_of hs1,if_neg (fun e=>m2 e.1)]
 have e3:∀y,slA (updI (setI (outI D n) p X) n fun s=>{ s with parent:=p }).sl y=if y=n then some { s with parent:=p } else slA (setI (outI D n) p X).sl y:=fun y=>by
  exact slA_modify (f:=fun s:Sl=>{ s with parent:=p }) hs2 rfl (show s.live=true from slA_live hs2) y
 have e4:(updI (setI (outI D n) p X) n fun s=>{ s with parent:=p }).roots=setR (outI D n).roots p X:=e2
 have hl0:∀z,z∈([]:List Nat)→z=n∨¬Wi (slA D.sl) n z:=fun z hz=>by simp at hz
 have hpa:∀x t,slA D.sl x=some t→∃u,slA (outI D n).sl x=some u∧u.parent=t.parent:=by rw [o3];exact setA_pa
 have hap:∀x t,slA (outI D n).sl x=some t→∃u,slA D.sl x=some u∧u.parent=t.parent:=by rw [o3];exact setA_ap
 obtain⟨r1,r2⟩:=killF_A (allA (slA D.sl) 65 n) (outI D n).sl o1 (all_nodup hw.a 65 n ⟨s,hs⟩ hl0) fun x hx=>by
  obtain⟨t,ht⟩:=all_live hw.a ⟨s,hs⟩ hl0 hx
  obtain⟨u,hu,_⟩:=hpa x t ht
  exact⟨u,hu⟩
 have hD:(delF D n).1={ outI D n with sl:=killF (outI D n).sl (allA (slA D.sl) 65 n) }:=by unfold delF;rw [hs]
 rw [hD] at hdf ⊢
 have hnL:n∈allA (slA D.sl) 65 n:=by rw [allA_some hs];exact List.mem_cons_self ..
 have hnl:n∉lstI (outI D n) p:=fun hm=>((o2.lst p).2 n hm).1 (by simp)
 have hXe:X.erase n=lstI (outI D n) p:=by rw [hX];exact insAt_erase hnl
 have hA':slA (updI (setI (outI D n) p X) n fun s=>{ s with parent:=p }).sl=fun y=>if y=n then some { s with parent:=p } else setA (slA (outI D n).sl) p X y:=by
  funext y;rw [e3,e1]
 have hwa:=hwf.a
 rw [hA',e4] at hwa
 rw [hA',e4]
 have hL:lstA (fun y=>if y=n then some { s with parent:=p } else setA (slA (outI D n).sl) p X y) (setR (outI D n).roots p X) p=X:=by
  by_cases hp0:p=0
  ·subst hp0;rw [lstA_zero];unfold setR;rw [if_pos rfl]
  ·obtain⟨t,ht⟩:=pe1.resolve_left hp0
   have:(if p=n then some { s with parent:=p } else setA (slA (outI D n).sl) p X p)=some { t with kids:=X }:=by
    rw [if_neg (fun e=>m2 e.symm)]
    unfold setA;rw [if_pos ⟨rfl,hp0⟩,ht];rfl
   rw [lstA_some hp0 this]
 refine⟨s,{ s with parent:=p },hs,⟨hdf.a,hwa,if_pos rfl,?_,?_,fun y t hy=>?_⟩,fun y=>?_⟩
 ·show slA (killF (outI D n).sl (allA (slA D.sl) 65 n)) n=none
  rw [r2,if_pos hnL]
 ·show setR (setR (outI D n).roots p X) p ((lstA _ (setR (outI D n).roots p X) p).erase n)=(outI D n).roots
  rw [hL,hXe]
  unfold setR
  by_cases hp0:p=0
  ·rw [if_pos hp0,hp0];unfold lstI;exact lstA_zero
  ·rw [if_neg hp0,if_neg hp0]
 ·have hy':slA (killF (outI D n).sl (allA (slA D.sl) 65 n)) y=some t:=hy
  rw [r2] at hy'
  have hyL:y∉allA (slA D.sl) 65 n:=fun e=>by rw [if_pos e] at hy';cases hy'
  rw [if_neg hyL] at hy'
  have hyn:y≠n:=fun e=>hyL (by rw [e];exact hnL)
  show setA _ p ((lstA _ (setR (outI D n).roots p X) p).erase n) y=some t
  rw [hL,hXe]
  unfold setA
  by_cases hc:y=p∧p≠0
  ·rw [if_pos hc]
   dsimp only
   rw [if_neg hyn,if_pos hc,hy']
   have:lstI (outI D n) p=t.kids:=by unfold lstI;rw [←hc.1];exact lstA_some (by rw [hc.1];exact hc.2) hy'
   simp only [Option.map_some,this]
  ·rw [if_neg hc]
   dsimp only
   rw [if_neg hyn,if_neg hc];exact hy'
 ·have hn':(fun y=>if y=n then some { s with parent:=p } else setA (slA (outI D n).sl) p X y) n=some { s with parent:=p }:=by dsimp only;rw [if_pos rfl]
  obtain⟨c,c1,c2⟩:=hw.a.chain n s hs
  obtain⟨c',c1',c2'⟩:=hwa.chain n _ hn'
  rw [mem_all hw.a ⟨s,hs⟩ hl0 c2 (by omega),mem_all hwa ⟨_,hn'⟩ (fun z hz=>by simp at hz) c2' (by omega)]
  constructor
  ·intro h
   induction h with
   | self=>exact .self
   | @up x u hx hw' ih =>
    by_cases e:x=n
    ·rw [e];exact .self
    ·have hx:(if x=n then some { s with parent:=p } else setA (slA (outI D n).sl) p X x)=some u:=hx
     rw [if_neg e] at hx
     obtain⟨v,hv,hvp⟩:=setA_live hx
     obtain⟨v',hv',hvp'⟩:=hap x v hv
     exact .up hv' (by rw [hvp',hvp];exact ih)
  ·intro h
   induction h with
   | self=>exact .self
   | @up x u hx hw' ih =>
    by_cases e:x=n
    ·rw [e];exact .self
    ·obtain⟨v,hv,hvp⟩:=hpa x u hx
     obtain⟨v',hv',hvp'⟩:=setA_of' (p:=p) (l:=X) hv
     refine .up (s:=v') ?_ (by rw [hvp'.1,hvp];exact ih)
     show (if x=n then _ else setA (slA (outI D n).sl) p X x)=some v'
     rw [if_neg e];exact hv'
end
set_option maxRecDepth 100000
section
variable {w w1 w2:World}{o o1 o2:Nat→Nat}{g k:Nat}{ty:TypeId}{M:Nat→Prop}{R:Ending→World→Prop}{D:Im}{E:Nat→Option (Nat × Nat)}{S:PS}{θ:Th}
theorem mov_err {n a:Nat}{wh:Int} (h:(movF D n wh a).2≠0):(movF D n wh a).1=D:=by
 unfold movF at h ⊢
 split
 ·rfl
 split
 ·rfl
 split
 ·rfl
 split
 ·rfl
 split
 ·rfl
 ·exfalso
  rename_i h1 h2 h3 h4 h5
  rw [if_neg h1,if_neg h2,if_neg h3,if_neg h4,if_neg h5] at h
  exact h rfl
theorem moveL_calls (h:LD k g ty w o D) (hk:k < 1099511627776) (hw:Wf D) {n a:Nat}{wh:Int} (hn:n < 18446744073709551616) (ha:a < 18446744073709551616)
  (hK:∀w' o',LD (k+1) g ty w' o' (movF D n wh a).1→EvA w o w' o'→R (.returned (.int .i64 (movF D n wh a).2)) w') :
  Calls Tryz.prog 220 #[.pointer (some ⟨g,0,none⟩),.int .u64 (n:Nat),.int .i64 wh,.int .u64 (a:Nat)] w R:=by
 refine ok220 (some ⟨g,0,none⟩) n wh a ?_
 unfold F220
 obtain⟨S,nms,gv,E,rfl,hL⟩:=h
 obtain⟨tl,hp,hback⟩:=hL.x.tree
 have hgv:=hL.gv_
 rw [NonNil_some]
 refine move_calls (θ:=⟨g,ty,tl⟩) hp hL.pi hw hn ha fun w2 o2 S2 p2 i2 d2 ev2=>⟨_,rfl,?_⟩
 have hx2:=hback w2 o2 S2 p2 ev2
 refine⟨fun w'=>∃o',LD (k+1) g ty w' o' (movF S.D n wh a).1∧EvA w o w' o',?_,?_⟩
 ·rintro w3 ⟨o3,h3,e3⟩
  unfold F220_j6
  exact hK w3 o3 h3 e3
 refine bre (fun h0=>?_) (fun h0=>?_)
 rotate_left
 ·have hD:S2.D=S.D:=by rw [d2];exact mov_err h0
  exact⟨o2,⟨S2,nms,gv,E,d2,hx2,i2,by rw [hD];exact hL.word,by rw [hD];exact hL.def1,by rw [hD];exact hL.def2,by omega⟩,EvC.a ev2⟩
 obtain⟨s,s',hs,hAt,hmm⟩:=mov_att hw (n:=n) (a:=a) (wh:=wh) h0
 have hw2:=mov_wf hw n wh a
 rw [←d2] at hAt hw2 hmm ⊢
 have n0:=hw.a.ne0 hs
 have hE0:E 0=none:=Classical.byContradiction fun e=>by
  obtain⟨t,ht⟩:=hL.def1 0 e
  rw [hw.a.zero] at ht;cases ht
 obtain⟨X,Y,a1,b1,l1⟩:=attach (E:=E) (E':=E) hw.a hs hE0 (fun _ _=>rfl)
 obtain⟨lbs0,hI⟩:=hL.x.I
 have hnm:nms=X++wrd (slA S.D.sl) E 65 n++Y:=by rw [hL.word];exact a1
 have hXne:X≠[]:=fun e=>by rw [e] at l1;cases l1
 have h0X:0∈X:=by
  cases X with
  | nil=>exact absurd rfl hXne
  | cons x X =>
   have:=hI.h0
   rw [hnm] at this
   have:x=0:=by simpa using this
   rw [this];exact List.mem_cons_self ..
 have hndn:(X++wrd (slA S.D.sl) E 65 n++Y).Nodup:=by rw [←hnm];exact hI.nd
 obtain⟨hT,hmem⟩:=tgd_of (E:=E) hw.a hs (X:=X) (Y:=Y) hndn h0X hL.def2
 obtain⟨dw1,dw2⟩:=del_word (E:=E) hw hs
 have hfew:=hAt.few (D:=(delF S.D n).1) (D':=S2.D) hw2.s rfl
 have hLn:=all_nodup hAt.w 65 n ⟨s',hAt.at_⟩ (fun z hz=>by simp at hz)
 have hlen2:=all_fewP hw2.s hAt.w (r:=65) ⟨s',hAt.at_⟩
 have hT2:Tgd E (X++wrd (slA S.D.sl) E 65 n++Y) (allA (slA S2.D.sl) 65 n):=⟨hLn,fun y hy=>hT.some_ y ((hmm y).1 hy),fun y hy=>hT.mem y ((hmm y).1 hy),fun y hy z hz=>hT.apart y ((hmm y).1 hy) z ((hmm z).1 hz)⟩
 have hmem2:∀x,x∈wrd (slA S.D.sl) E 65 n↔x∈(allA (slA S2.D.sl) 65 n).flatMap (prE E):=fun x=>by
  rw [hmem,List.mem_flatMap,List.mem_flatMap]
  exact⟨fun⟨y,hy,hx⟩=>⟨y,(hmm y).2 hy,hx⟩,fun⟨y,hy,hx⟩=>⟨y,(hmm y).1 hy,hx⟩⟩
 have hdE:dropE E (allA (slA S2.D.sl) 65 n)=dropE E (allA (slA S.D.sl) 65 n):=by
  funext y
  unfold dropE
  by_cases hy:y∈allA (slA S.D.sl) 65 n
  ·rw [if_pos hy,if_pos ((hmm y).2 hy)]
  ·rw [if_neg hy,if_neg (fun e=>hy ((hmm y).1 e))]
 obtain⟨tl2,hp2,-⟩:=hx2.tree
 rw [NonNil_some]
 refine AllT_calls (θ:=⟨g,ty,tl2⟩) hp2 hw2.s hAt.w hn n0 fun v w3 hb3 hv=>⟨_,_,_,_,rfl,?_⟩
 have hv:=hv s' hAt.at_
 have hx3:=hx2.below hb3
 have hlt:=hx2.lt
 rcases hx3 with ⟨bs,lbs,mb,wr,em,hM⟩ | ⟨-,-,-,hz⟩
 rotate_left
 ·exact absurd (hz n) (hL.def2 n s hs)
 cases em with
 | none=>exact absurd (hM.e n) (hL.def2 n s hs)
 | some eb =>
 refine untag_calls (v:=v) hM hv (fun b hb=>Classical.byContradiction fun e=>by have:=hlt b e;have:=(hv.lt b hb).1;omega) (by omega) (by rw [hnm];exact hT2) fun w4 bs4 lbs4 h4 ev4=>⟨rfl,?_⟩
 have hx4:LX w4 o2 g ty S2 (untagN E (allA (slA S2.D.sl) 65 n) nms) gv (dropE E (allA (slA S2.D.sl) 65 n)):=.inl ⟨bs4,lbs4,mb,wr,some eb,h4⟩
 refine ahead_calls hx4 hAt.w hAt.at_ fun w5 hb5=>⟨_,rfl,?_⟩
 have hx5:=hx4.below hb5
 have hword:untagN E (allA (slA S2.D.sl) 65 n) nms=0 :: (delF S.D n).1.roots.flatMap (wrd (slA (delF S.D n).1.sl) (dropE E (allA (slA S2.D.sl) 65 n)) 65):=by
  rw [hdE,dw1,b1,hnm]
  exact untag_word hndn hmem2
 refine retag hx5 hw2.s hAt hword (fun y hy=>?_) (fun y t ht=>?_) hfew (by omega) fun w6 o6 nms' E' vv h6 q1 q2 q3 ev6=>⟨_,rfl,o6,⟨S2,nms',_,E',rfl,h6,i2,q1,q2,q3,by omega⟩,((((EvC.a ev2).tr (EvA.below hb3)).tr ev4.a).tr (EvA.below hb5)).tr ev6⟩
 ·unfold dropE at hy
  by_cases hyL:y∈allA (slA S2.D.sl) 65 n
  ·rw [if_pos hyL] at hy;exact absurd rfl hy
  ·rw [if_neg hyL] at hy
   exact (dw2 y).2 ⟨fun e=>hyL ((hmm y).2 e),hL.def1 y hy⟩
 ·obtain⟨hyL,u,hu⟩:=(dw2 y).1 ⟨t,ht⟩
  unfold dropE
  rw [if_neg (fun e=>hyL ((hmm y).1 e))]
  exact hL.def2 y u hu
end
set_option maxRecDepth 100000
section
variable {w w1 w2:World}{o o1 o2:Nat→Nat}{g k:Nat}{ty:TypeId}{M:Nat→Prop}{R:Ending→World→Prop}{D:Im}{E:Nat→Option (Nat × Nat)}{S:PS}{θ:Th}{nms:List Nat}{gv:Nat}
theorem LIv.upd (hL:LIv k w o g ty S nms gv E) {S2:PS} (hx:LX w2 o2 g ty S2 nms gv E) (hi:PI S2) (hwf:Wf S.D) (hwf2:Wf S2.D) (hr:S2.D.roots=S.D.roots) (hk1:∀y s,slA S.D.sl y=some s→∃t,slA S2.D.sl y=some t∧t.kids=s.kids) (hk2:∀y t,slA S2.D.sl y=some t→∃s,slA S.D.sl y=some s):LIv (k+1) w2 o2 g ty S2 nms gv E:=by
 have hgv:=hL.gv_
 have key:∀r z,(∃s,slA S.D.sl z=some s)→wrd (slA S2.D.sl) E r z=wrd (slA S.D.sl) E r z:=by
  intro r
  induction r with
  | zero=>intro z _;rfl
  | succ r ih =>
   rintro z ⟨s,hs⟩
   obtain⟨t,ht,hk⟩:=hk1 z s hs
   rw [wrd_some hs,wrd_some ht,hk,flat_congr fun y hy=>ih y (by obtain⟨_,u,u1,_⟩:=(hwf.a.kid z s hs).2 y hy;exact⟨u,u1⟩)]
 refine⟨hx,hi,?_,fun y hy=>?_,fun y t ht=>?_,by omega⟩
 ·rw [hL.word,hr]
  rw [flat_congr fun z hz=>(key 65 z (by obtain⟨_,u,u1,_⟩:=hwf.a.root.2 z hz;exact⟨u,u1⟩)).symm]
 ·obtain⟨s,hs⟩:=hL.def1 y hy
  obtain⟨t,ht,_⟩:=hk1 y s hs
  exact⟨t,ht⟩
 ·obtain⟨s,hs⟩:=hk2 y t ht
  exact hL.def2 y s hs
theorem upd_kids {n:Nat}{s:Sl}{f:Sl→Sl} (hs:slA D.sl n=some s) (h1:(f s).kids=s.kids) (h4:(f s).gen=s.gen) (h5:(f s).live=s.live):(updI D n f).roots=D.roots∧(∀y u,slA D.sl y=some u→∃t,slA (updI D n f).sl y=some t∧t.kids=u.kids)∧∀y t,slA (updI D n f).sl y=some t→∃u,slA D.sl y=some u:=by
 have e3:∀y,slA (updI D n f).sl y=if y=n then some (f s) else slA D.sl y:=fun y=>slA_modify hs h4 (by rw [h5];exact slA_live hs) y
 refine⟨rfl,fun y u hu=>?_,fun y t ht=>?_⟩
 ·rw [e3]
  by_cases e:y=n
  ·rw [if_pos e];rw [e,hs] at hu;cases hu;exact⟨_,rfl,h1⟩
  ·rw [if_neg e];exact⟨u,hu,rfl⟩
 ·rw [e3] at ht
  by_cases e:y=n
  ·exact⟨s,by rw [e];exact hs⟩
  ·rw [if_neg e] at ht;exact⟨t,ht⟩
def Same (D D':Im):Prop:=D'.roots=D.roots∧(∀y u,slA D.sl y=some u→∃t,slA D'.sl y=some t∧t.kids=u.kids)∧∀y t,slA D'.sl y=some t→∃u,slA D.sl y=some u
theorem Same.refl (D:Im):Same D D:=⟨rfl,fun y u hu=>⟨u,hu,rfl⟩,fun y t ht=>⟨t,ht⟩⟩
theorem setName_same {n:Nat}{nm:ByteArray}:Same D (setNameF D n nm).1:=by
 unfold setNameF
 split
 ·exact Same.refl D
 split
 ·rename_i h1 _
  obtain⟨s,hs,hk⟩:=chg_some (by simpa using h1)
  exact upd_kids hs rfl rfl rfl
 ·exact Same.refl D
theorem setNameL_calls (h:LD k g ty w o D) (hw:Wf D) (hT:Tabs (wc o w)) {n:Nat} (hn:n < 18446744073709551616) {nm:ByteArray}
  (hK:∀w' o',LD (k+1) g ty w' o' (setNameF D n nm).1→EvA w o w' o'→R (.returned (.int .i64 (setNameF D n nm).2)) w') :
  Calls Tryz.prog 222 #[.pointer (some ⟨g,0,none⟩),.int .u64 (n:Nat),.string nm] w R:=by
 refine ok222 (some ⟨g,0,none⟩) n nm ?_
 unfold F222
 obtain⟨S,nms,gv,E,rfl,hL⟩:=h
 obtain⟨tl,hp,hback⟩:=hL.x.tree
 rw [NonNil_some]
 refine setName_calls (θ:=⟨g,ty,tl⟩) hp hL.pi hn fun w2 S2 p2 i2 d2 ev2=>⟨_,rfl,?_⟩
 have hx2:=hback w2 o S2 p2 ev2
 have hw2:=setName_wf hw n nm
 obtain⟨s1,s2,s3⟩:=setName_same (D:=S.D) (n:=n) (nm:=nm)
 rw [←d2] at hw2 s1 s2 s3
 exact hK w2 o ⟨S2,nms,gv,E,d2,hL.upd hx2 i2 hw hw2 s1 s2 s3⟩ (EvC.a ev2)
theorem setText_same {n:Nat}{t:ByteArray}:Same D (setTextF D n t).1:=by
 unfold setTextF
 split
 ·exact Same.refl D
 split
 ·rename_i h1 _
  obtain⟨s,hs,hk⟩:=chg_some (by simpa using h1)
  exact upd_kids hs rfl rfl rfl
 ·exact Same.refl D
theorem setTextL_calls (h:LD k g ty w o D) (hw:Wf D) (hT:Tabs (wc o w)) {n:Nat} (hn:n < 18446744073709551616) {t:ByteArray}
  (hK:∀w' o',LD (k+1) g ty w' o' (setTextF D n t).1→EvA w o w' o'→R (.returned (.int .i64 (setTextF D n t).2)) w') :
  Calls Tryz.prog 223 #[.pointer (some ⟨g,0,none⟩),.int .u64 (n:Nat),.string t] w R:=by
 refine ok223 (some ⟨g,0,none⟩) n t ?_
 unfold F223
 obtain⟨S,nms,gv,E,rfl,hL⟩:=h
 obtain⟨tl,hp,hback⟩:=hL.x.tree
 rw [NonNil_some]
 refine setText_calls (θ:=⟨g,ty,tl⟩) hp hL.pi hT hn fun w2 S2 p2 i2 d2 ev2=>⟨_,rfl,?_⟩
 have hx2:=hback w2 o S2 p2 ev2
 have hw2:=setText_wf hw n t
 obtain⟨s1,s2,s3⟩:=setText_same (D:=S.D) (n:=n) (t:=t)
 rw [←d2] at hw2 s1 s2 s3
 exact hK w2 o ⟨S2,nms,gv,E,d2,hL.upd hx2 i2 hw hw2 s1 s2 s3⟩ (EvC.a ev2)
theorem setAttr_same {n:Nat}{nm t:ByteArray}:Same D (setAttrF D n nm t).1:=by
 unfold setAttrF
 split
 ·exact Same.refl D
 split
 ·exact Same.refl D
 split
 ·exact Same.refl D
 split
 ·exact Same.refl D
 ·rename_i h1 _ _ _
  obtain⟨s,hs,hk⟩:=chg_some (by simpa using h1)
  exact upd_kids hs rfl rfl rfl
theorem setAttrL_calls (h:LD k g ty w o D) (hw:Wf D) (hT:Tabs (wc o w)) {n:Nat} (hn:n < 18446744073709551616) {nm t:ByteArray}
  (hK:∀w' o',LD (k+1) g ty w' o' (setAttrF D n nm t).1→EvA w o w' o'→R (.returned (.int .i64 (setAttrF D n nm t).2)) w') :
  Calls Tryz.prog 221 #[.pointer (some ⟨g,0,none⟩),.int .u64 (n:Nat),.string nm,.string t] w R:=by
 refine ok221 (some ⟨g,0,none⟩) n nm t ?_
 unfold F221
 obtain⟨S,nms,gv,E,rfl,hL⟩:=h
 obtain⟨tl,hp,hback⟩:=hL.x.tree
 rw [NonNil_some]
 refine setAttr_calls (θ:=⟨g,ty,tl⟩) hp hL.pi hw hT hn fun w2 o2 S2 p2 i2 d2 ev2=>⟨_,rfl,?_⟩
 have hx2:=hback w2 o2 S2 p2 ev2
 have hw2:=setAttr_wf hw n nm t
 obtain⟨s1,s2,s3⟩:=setAttr_same (D:=S.D) (n:=n) (nm:=nm) (t:=t)
 rw [←d2] at hw2 s1 s2 s3
 exact hK w2 o2 ⟨S2,nms,gv,E,d2,hL.upd hx2 i2 hw hw2 s1 s2 s3⟩ (EvC.a ev2)
theorem dropAttr_same {n:Nat}{nm:ByteArray}:Same D (dropAttrF D n nm).1:=by
 unfold dropAttrF
 split
 ·exact Same.refl D
 split
 ·rename_i h1 _
  obtain⟨s,hs,hk⟩:=chg_some (by simpa using h1)
  exact upd_kids hs rfl rfl rfl
 ·exact Same.refl D
theorem dropAttrL_calls (h:LD k g ty w o D) (hw:Wf D) {n:Nat} (hn:n < 18446744073709551616) {nm:ByteArray}
  (hK:∀w' o',LD (k+1) g ty w' o' (dropAttrF D n nm).1→EvA w o w' o'→R (.returned (.int .i64 (dropAttrF D n nm).2)) w') :
  Calls Tryz.prog 219 #[.pointer (some ⟨g,0,none⟩),.int .u64 (n:Nat),.string nm] w R:=by
 refine ok219 (some ⟨g,0,none⟩) n nm ?_
 unfold F219
 obtain⟨S,nms,gv,E,rfl,hL⟩:=h
 obtain⟨tl,hp,hback⟩:=hL.x.tree
 rw [NonNil_some]
 refine dropAttr_calls (θ:=⟨g,ty,tl⟩) hp hL.pi hw hn fun w2 o2 S2 p2 i2 d2 ev2=>⟨_,rfl,?_⟩
 have hx2:=hback w2 o2 S2 p2 ev2
 have hw2:=dropAttr_wf hw n nm
 obtain⟨s1,s2,s3⟩:=dropAttr_same (D:=S.D) (n:=n) (nm:=nm)
 rw [←d2] at hw2 s1 s2 s3
 exact hK w2 o2 ⟨S2,nms,gv,E,d2,hL.upd hx2 i2 hw hw2 s1 s2 s3⟩ (EvC.a ev2)
end
set_option maxRecDepth 100000
section
variable {g:Nat}
theorem cmIns (w : World) (a b c : Value) : (callMethod (.iface 61 (.pointer (some ⟨g, 0, none⟩))) "Insert" #[a, b, c]).run Tryz.prog w = .ok (.enter 40 #[.pointer (some ⟨g, 0, none⟩), a, b, c]) w := by kernel_rfl
theorem cmMov (w : World) (a b c : Value) : (callMethod (.iface 61 (.pointer (some ⟨g, 0, none⟩))) "Move" #[a, b, c]).run Tryz.prog w = .ok (.enter 220 #[.pointer (some ⟨g, 0, none⟩), a, b, c]) w := by kernel_rfl
theorem cmDel (w : World) (a : Value) : (callMethod (.iface 61 (.pointer (some ⟨g, 0, none⟩))) "Delete" #[a]).run Tryz.prog w = .ok (.enter 218 #[.pointer (some ⟨g, 0, none⟩), a]) w := by kernel_rfl
theorem cmName (w : World) (a b : Value) : (callMethod (.iface 61 (.pointer (some ⟨g, 0, none⟩))) "SetName" #[a, b]).run Tryz.prog w = .ok (.enter 222 #[.pointer (some ⟨g, 0, none⟩), a, b]) w := by kernel_rfl
theorem cmText (w : World) (a b : Value) : (callMethod (.iface 61 (.pointer (some ⟨g, 0, none⟩))) "SetText" #[a, b]).run Tryz.prog w = .ok (.enter 223 #[.pointer (some ⟨g, 0, none⟩), a, b]) w := by kernel_rfl
theorem cmAttr (w : World) (a b c : Value) : (callMethod (.iface 61 (.pointer (some ⟨g, 0, none⟩))) "SetAttr" #[a, b, c]).run Tryz.prog w = .ok (.enter 221 #[.pointer (some ⟨g, 0, none⟩), a, b, c]) w := by kernel_rfl
theorem cmDrop (w : World) (a b : Value) : (callMethod (.iface 61 (.pointer (some ⟨g, 0, none⟩))) "DropAttr" #[a, b]).run Tryz.prog w = .ok (.enter 219 #[.pointer (some ⟨g, 0, none⟩), a, b]) w := by kernel_rfl
theorem label_edr:Edr (.iface 61 (.pointer (some ⟨g,0,none⟩))) fun k w o D=>LD k g 105 w o D:=by
 refine⟨?_,?_,?_,?_,?_,?_,?_,?_,?_,?_⟩
 ·rintro k w o D ⟨S,nms,gv,E,rfl,h⟩
  have:=h.gv_
  exact⟨S,nms,gv,E,rfl,h.x,h.pi,h.word,h.def1,h.def2,by omega⟩
 ·rintro k w o D ⟨S,nms,gv,E,rfl,h⟩
  exact h.x.lt
 ·rintro k w w1 o D M ⟨S,nms,gv,E,rfl,h⟩ hf hm
  exact⟨S,nms,gv,E,rfl,h.x.fm hf hm,h.pi,h.word,h.def1,h.def2,h.gv_⟩
 ·intro k w o D x e wh a R K h hk hw hT hx ha hK
  exact⟨_,_,cmIns w _ _ _,insertL_calls (e:=e) h hk hw hT hx ha fun w' o' h' ev=>hK w' o' h' ev⟩
 ·intro k w o D n a wh R K h hk hw hn ha hK
  exact⟨_,_,cmMov w _ _ _,moveL_calls h hk hw hn ha fun w' o' h' ev=>hK w' o' h' ev⟩
 ·intro k w o D n R K h hk hw hn hK
  exact⟨_,_,cmDel w _,deleteL_calls h hk hw hn fun w' o' h' ev=>hK w' o' h' ev⟩
 ·intro k w o D n s R K h hk hw hT hn hK
  exact⟨_,_,cmName w _ _,setNameL_calls h hw hT hn fun w' o' h' ev=>hK w' o' h' ev⟩
 ·intro k w o D n s R K h hk hw hT hn hK
  exact⟨_,_,cmText w _ _,setTextL_calls h hw hT hn fun w' o' h' ev=>hK w' o' h' ev⟩
 ·intro k w o D n s t R K h hk hw hT hn hK
  exact⟨_,_,cmAttr w _ _ _,setAttrL_calls h hw hT hn fun w' o' h' ev=>hK w' o' h' ev⟩
 ·intro k w o D n s R K h hk hw hn hK
  exact⟨_,_,cmDrop w _ _,dropAttrL_calls h hw hn fun w' o' h' ev=>hK w' o' h' ev⟩
end
set_option maxRecDepth 100000
section
variable {w:World}{g:Nat}
def S0:PS:=⟨⟨[],[]⟩,[],0,0,0⟩
theorem pm_zero {ty:TypeId}{tl:List Value} (hB:Blk w g (docC (none,0,0) (none,0,0) 0 0 0 tl) ty):PM w (fun b=>if b=g then 1 else 0) ⟨g,ty,tl⟩ S0:=by
 refine⟨if_pos rfl,fun b hb=>?_,rfl,by decide,fun i b hb=>(by cases hb),⟨(none,0,0),(none,0,0),hB,.inl ⟨rfl,rfl⟩,fun x hx=>(by cases hx),.inl ⟨rfl,rfl⟩,fun x hx=>(by cases hx)⟩,fun i b s hb=>(by cases hb),fun s hs=>(by cases hs),⟨fun h hh=>(by cases hh),by decide⟩,by decide⟩
 have hb:(if b=g then 1 else 0)≠0:=hb
 by_cases e:b=g
 ·rw [e];exact hB.lt
 ·rw [if_neg e] at hb;exact absurd rfl hb
theorem pi_zero:PI S0:=⟨rfl,rfl,by decide,fun j t hj ht=>(by cases ht)⟩
theorem ld_zero (hB:Blk w g #[.slice none 0 0,.slice none 0 0,.int .i64 0,.int .i64 0,.int .i64 0,.map none,.pointer none,.int .u64 0,.int .u64 0,.map none] 105):LD 0 g 105 w (fun b=>if b=g then 1 else 0) ⟨[],[]⟩:=by
 have hn:∀y,slA ([]:List Sl) y=none:=fun y=>by
  cases h:slA ([]:List Sl) y with
  | none=>rfl
  | some s =>
   obtain⟨k,_,h2,_⟩:=slA_iff.1 h
   cases h2
 refine⟨S0,[0],0,fun _=>none,rfl,⟨.inr ⟨⟨pm_zero hB⟩,rfl,rfl,fun _=>rfl⟩,pi_zero,rfl,fun y hy=>absurd rfl hy,fun y s hs=>?_,by decide⟩⟩
 have hs:slA ([]:List Sl) y=some s:=hs
 rw [hn] at hs;cases hs
theorem rm_zero {ok:Nat→Bool} (hB:Blk w g #[.slice none 0 0,.slice none 0 0] 107):RM ok w g ⟨[],[]⟩ (none,0,0) (none,0,0) :=
 ⟨hB,⟨by decide,⟨[],rfl,Rd.nil _ _,rfl⟩,rr_none _ _,fun s hs=>(by cases hs),fun h hh=>(by cases hh)⟩,by decide⟩
end
end Go.Proofs.YtccplipiahdhiaaGreatDoor
set_option linter.unusedVariables false
set_option maxRecDepth 100000
namespace Go.Proofs.YtccplipiahdhiaaGreatDoor
open Go.Vc
def F8_j15 (L14:Int→Int→World→Prop) (i:Int) (n2:Int) (a:World) (R:Ending→World→Prop):Prop :=
 InR .i64 (i+(1:Int))∧L14 n2 (i+(1:Int)) a
def F8_j21 (L20:Int→World→Prop) (k:Int) (a:World) (R:Ending→World→Prop):Prop :=
 InR .i64 (k+(1:Int))∧L20 (k+(1:Int)) a
def F8_j29 (n:Int) (J15:Int→World→Prop) (a:World) (R:Ending→World→Prop):Prop :=
 InR .i64 (n+(1:Int))∧J15 (n+(1:Int)) a
def F8_l20 (head:ByteArray) (zb:Option Addr) (ab:Nat) (ac:Option Addr) (fa:Option Addr) (s:Nat) (ia:Int) (n:Int) (i:Int) (J15:Int→World→Prop) (pa:Option Addr) (v:Nat) (L20:Int→World→Prop) (k:Int) (yb:World) (R:Ending→World→Prop):Prop :=
 Br (decide (k < ((v:Nat):Int)))
 (∃J21:World→Prop,(∀ (ib:World),J21 ib→F8_j21 L20 k ib R) ∧
 (IdxA pa v k 3 fun ra =>
 LdI .u64 (yb.cell? ra) fun eb =>
 Calls Tryz.prog 35 #[(.pointer ac),(.int .u64 eb)] yb (post R fun v8 ib =>
 ∃(j:Int) (e:ByteArray) (f:Option Addr) (d:Nat) (b:Nat) (h:ByteArray) (g:Option Addr) (a:Nat) (c:Nat) (da:Int),v8=(.tuple #[(.agg #[(.int .i64 j),(.string e),(.slice f d b),(.string h),(.slice g a c)]),(.int .i64 da)]) ∧
 Al ib #[(.int .i64 0),(.string (ByteArray.mk #[])),(.slice none 0 0),(.string (ByteArray.mk #[])),(.slice none 0 0)] 84 fun g17 ub =>
 St ub g17 (.int .i64 j) fun ja =>
 St ja (g17.add 1) (.string e) fun ga =>
 St ga (g17.add 2) (.slice f d b) fun na =>
 St na (g17.add 3) (.string h) fun ka =>
 St ka (g17.add 4) (.slice g a c) fun ea =>
 LdStr (ea.cell? (g17.add 3)) fun pb =>
 Calls Tryz.prog 36 #[(.string pb)] ea (post R fun v9 ha =>
 ∃(z:Option Addr) (r:Nat) (m:Nat) (ca:Option Addr) (p:Nat) (q:Nat) (aa:Int),v9=(.tuple #[(.slice z r m),(.slice ca p q),(.int .i64 aa)]) ∧
 Dr ha fun ma =>
 Br (da != (0:Int))
 (R (.returned (.bool false)) ma)
 (Br (aa != (0:Int))
 (R (.returned (.bool false)) ma)
 (IdxA pa v k 3 fun sa =>
 LdI .i64 (ma.cell? (sa.add 1)) fun jb =>
 Br (decide (jb < (0:Int)))
 (R (.returned (.bool false)) ma)
 (IdxA pa v k 3 fun mb =>
 LdI .i64 (ma.cell? (mb.add 1)) fun ta =>
 Br (decide (ta≥((r:Nat):Int)))
 (R (.returned (.bool false)) ma)
 (IdxA pa v k 3 fun qa =>
 LdI .i64 (ma.cell? (qa.add 1)) fun nb =>
 IdxA z r nb 1 fun qb =>
 LdStr (ma.cell? qb) fun rb =>
 IdxA zb ab i 2 fun kb =>
 LdStr (ma.cell? kb) fun za =>
 Br (!(rb.toList == za.toList))
 (R (.returned (.bool false)) ma)
 (IdxA pa v k 3 fun ua =>
 LdI .i64 (ma.cell? (ua.add 1)) fun fb =>
 IdxA ca p fb 1 fun cb =>
 LdI .i64 (ma.cell? cb) fun sb =>
 IdxA pa v k 3 fun va =>
 LdI .i64 (ma.cell? (va.add 2)) fun ya =>
 Br (sb != ya)
 (R (.returned (.bool false)) ma)
 (J21 ma))))))))))
 (Br (ia == (0:Int))
 (IdxA zb ab i 2 fun hb =>
 LdStr (yb.cell? hb) fun tb =>
 Br (decide (((tb.size:Nat):Int)≥((head.size:Nat):Int)))
 (IdxA zb ab i 2 fun gb =>
 LdStr (yb.cell? gb) fun db =>
 SlB (0:Int) ((head.size:Nat):Int) ((db.size:Nat):Int)
 (Br ((db.extract ((0:Int)).toNat (((head.size:Nat):Int)).toNat).toList == head.toList)
 (∃J29:World→Prop,(∀ (ib:World),J29 ib→F8_j29 n J15 ib R) ∧
 (Dr yb fun ib =>
 Br (decide (n≥((s:Nat):Int)))
 (R (.returned (.bool false)) ib)
 (IdxA fa s n 2 fun vb =>
 LdStr (ib.cell? vb) fun ba =>
 LdI .i64 (ib.cell? (vb.add 1)) fun u =>
 IdxA zb ab i 2 fun bb =>
 LdStr (ib.cell? bb) fun t =>
 LdI .i64 (ib.cell? (bb.add 1)) fun y =>
 Br (!((ba == t) && ((u == y) && true)))
 (R (.returned (.bool false)) ib)
 (J29 ib))))
 (J15 n yb)))
 (J15 n yb))
 (J15 n yb))
def F8_j19 (head:ByteArray) (j:Option Addr) (g:Nat) (h:Option Addr) (e:Option Addr) (a:Nat) (d:Int) (n:Int) (i:Int) (J15:Int→World→Prop) (c:Option Addr) (b:Nat) (p:World) (R:Ending→World→Prop):Prop :=
 ∃(I:Int→World→Prop) (m:Int→World→Nat),I (0:Int) p ∧
 ∀(k:Int) (f:World),I k f→F8_l20 head j g h e a d n i J15 c b (fun k' w2=>I k' w2∧m k' w2 < m k f) k f R
def F8_l14 (head:ByteArray) (g:Option Addr) (v:Option Addr) (j:Nat) (aa:Option Addr) (e:Option Addr) (a:Nat) (f:Int) (L14:Int→Int→World→Prop) (n:Int) (i:Int) (ba:World) (R:Ending→World→Prop):Prop :=
 Br (decide (i < ((j:Nat):Int)))
 (∃J15:Int→World→Prop,(∀(n2:Int) (k:World),J15 n2 k→F8_j15 L14 i n2 k R) ∧
 (IdxA v j i 2 fun z =>
 LdStr (ba.cell? z) fun p =>
 Calls Tryz.prog 16 #[(.pointer g),(.string p)] ba (post R fun v7 k =>
 ∃(h:Option Addr) (b:Nat) (c:Nat) (d:Int),v7=(.tuple #[(.slice h b c),(.int .i64 d)]) ∧
 ∃J19:World→Prop,(∀ (m:World),J19 m→F8_j19 head v j aa e a f n i J15 h b m R) ∧
 (Dr k fun m =>
 Br (d != (0:Int))
 (R (.returned (.bool false)) m)
 (IdxA v j i 2 fun s =>
 LdI .i64 (m.cell? (s.add 1)) fun r =>
 Br (((b:Nat):Int) != r)
 (R (.returned (.bool false)) m)
 (Br (((b:Nat):Int) == (0:Int))
 (R (.returned (.bool false)) m)
 (Br (decide (i > (0:Int)))
 (InR .i64 (i-(1:Int))∧IdxA v j (i-(1:Int)) 2 fun q =>
 LdStr (m.cell? q) fun u =>
 IdxA v j i 2 fun t =>
 LdStr (m.cell? t) fun y =>
 Br (!(Op.bytesLess u.toList y.toList))
 (R (.returned (.bool false)) m)
 (J19 m))
 (J19 m))))))))
 (R (.returned (.bool (n == ((a:Nat):Int)))) ba)
def F8_j9 (head:ByteArray) (q:Option Addr) (c:Option Addr) (s:World) (R:Ending→World→Prop):Prop :=
 Calls Tryz.prog 23 #[(.pointer c)] s (post R fun v4 h =>
 ∃(t:Option Addr) (k:Nat) (f:Nat),v4=(.slice t k f) ∧
 Calls Tryz.prog 34 #[(.pointer q)] h (post R fun v5 j =>
 ∃(r:Option Addr),v5=(.pointer r) ∧
 Calls Tryz.prog 18 #[(.pointer c),(.string head)] j (post R fun v6 g =>
 ∃(e:Option Addr) (a:Nat) (b:Nat) (d:Int),v6=(.tuple #[(.slice e a b),(.int .i64 d)]) ∧
 ∃(I:Int→Int→World→Prop) (m:Int→Int→World→Nat),I (0:Int) (0:Int) g ∧
 ∀(n:Int) (i:Int) (p:World),I n i p→F8_l14 head c t k r e a d (fun n' i' w2=>I n' i' w2∧m n' i' w2 < m n i p) n i p R)))
def F8 (acts:Option Addr) (actsN:Nat) (actsC:Nat) (head:ByteArray) (h:World) (R:Ending→World→Prop):Prop :=
 Calls Tryz.prog 27 #[] h (post R fun v w1 =>
 ∃(g:Bool),v=(.bool g) ∧
 Br (!g)
 (R (.returned (.bool false)) w1)
 (Calls Tryz.prog 28 #[(.slice acts actsN actsC)] w1 (post R fun v2 e =>
 ∃(f:Option Addr),v2=(.pointer f) ∧
 Br (f).isNone
 (R (.returned (.bool false)) e)
 (Calls Tryz.prog 26 #[(.pointer f)] e (post R fun v3 d =>
 ∃(a:Option Addr) (b:Int),v3=(.tuple #[(.pointer a),(.int .i64 b)]) ∧
 ∃J9:World→Prop,(∀ (c:World),J9 c→F8_j9 head f a c R) ∧
 (Br (b != (0:Int))
 (R (.returned (.bool false)) d)
 (Br (a).isNone
 (R (.returned (.bool false)) d)
 (J9 d))))))))
theorem ok8 (acts:Option Addr) (actsN:Nat) (actsC:Nat) (head:ByteArray) {w:World}{R:Ending→World→Prop} (h:F8 acts actsN actsC head w R):Calls Tryz.prog 8 #[(.slice acts actsN actsC),(.string head)] w R :=
 vc_calls (pl:=⟨225,⟨[]⟩,[(21,⟨[],[(4,5),(17,179)]⟩),(29,⟨[],[(4,5),(204,219)]⟩),(19,⟨[],[(4,5),(65,100)]⟩),(15,⟨[(12,(.s (.int .i64)))],[(4,5),(12,13),(14,221)]⟩),(9,⟨[],[(4,5),(33,39)]⟩)],[(20,⟨[(16,(.s (.int .i64)))],[(4,5),(16,179)]⟩),(14,⟨[(12,(.s (.int .i64))),(13,(.s (.int .i64)))],[(4,5),(12,221)]⟩)]⟩) Tryz.func8 (by kernel_rfl) (by kernel_rfl) (by kernel_rfl) (Eq.mp (by kernel_rfl) h)
def F27_j8 (z:Option Addr) (ha:World) (R:Ending→World→Prop):Prop :=
 Al ha #[(.string (ByteArray.mk #[120])),(.string (ByteArray.mk #[121]))] 9 fun g59 r =>
 Calls Tryz.prog 11 #[(.pointer z),(.slice (some g59) 2 2)] r (post R fun v10 y =>
 ∃(t:Option Addr) (c:Nat) (g:Nat) (da:Int),v10=(.tuple #[(.slice t c g),(.int .i64 da)]) ∧
 Al y #[(.string (ByteArray.mk #[120])),(.string (ByteArray.mk #[121]))] 9 fun g65 q =>
 Calls Tryz.prog 12 #[(.pointer z),(.slice (some g65) 2 2)] q (post R fun v11 n =>
 ∃(aa:Option Addr) (j:Nat) (b:Nat) (v:Int),v11=(.tuple #[(.slice aa j b),(.int .i64 v)]) ∧
 Al n #[(.string (ByteArray.mk #[120])),(.string (ByteArray.mk #[121]))] 9 fun g71 ca =>
 Calls Tryz.prog 20 #[(.pointer z),(.slice (some g71) 2 2)] ca (post R fun v12 u =>
 ∃(s:Option Addr) (i:Nat) (a:Nat) (p:Int),v12=(.tuple #[(.slice s i a),(.int .i64 p)]) ∧
 Calls Tryz.prog 36 #[(.string (ByteArray.mk #[65,98,45,99]))] u (post R fun v13 ba =>
 ∃(k:Option Addr) (d:Nat) (h:Nat) (m:Option Addr) (e:Nat) (f:Nat) (ea:Int),v13=(.tuple #[(.slice k d h),(.slice m e f),(.int .i64 ea)]) ∧
 Br (da == (0:Int))
 (Br (((c:Nat):Int) == (3:Int))
 (Br (v == (0:Int))
 (Br (((j:Nat):Int) == (2:Int))
 (Br (p == (0:Int))
 (Br (((i:Nat):Int) == (1:Int))
 (Br (ea == (0:Int))
 (Br (((d:Nat):Int) == (2:Int))
 (IdxA k d (0:Int) 1 fun ga =>
 LdStr (ba.cell? ga) fun fa =>
 R (.returned (.bool (fa.toList == (ByteArray.mk #[97,98]).toList))) ba)
 (R (.returned (.bool false)) ba))
 (R (.returned (.bool false)) ba))
 (R (.returned (.bool false)) ba))
 (R (.returned (.bool false)) ba))
 (R (.returned (.bool false)) ba))
 (R (.returned (.bool false)) ba))
 (R (.returned (.bool false)) ba))
 (R (.returned (.bool false)) ba)))))
def F27  (w_:World) (R:Ending→World→Prop):Prop :=
 Al w_ #[(.slice none 0 0),(.slice none 0 0),(.int .i64 0),(.int .i64 0),(.int .i64 0),(.map none),(.pointer none),(.int .u64 0),(.int .u64 0),(.map none)] 105 fun g18 w1 =>
 CallV Tryz.prog (.func (.func 58) #[] #[]) #[(.string (ByteArray.mk #[120,32,121]))] w1 R (fun v ic =>
 ∃(pb:Int) (jb:ByteArray) (ra:Option Addr) (g:Nat) (s:Nat) (ha:ByteArray) (ka:Option Addr) (i:Nat) (m:Nat),v=(.agg #[(.int .i64 pb),(.string jb),(.slice ra g s),(.string ha),(.slice ka i m)]) ∧
 Al ic #[(.int .i64 pb),(.string jb),(.slice ra g s),(.string ha),(.slice ka i m)] 84 fun g25 pc =>
 CallV Tryz.prog (.func (.func 59) #[] #[]) #[(.string (ByteArray.mk #[98])),(.slice (some g25) 1 1)] pc R (fun v2 kc =>
 ∃(ec:Int) (bc:ByteArray) (hb:Option Addr) (c:Nat) (k:Nat) (za:ByteArray) (yb:Option Addr) (ca:Nat) (h:Nat),v2=(.agg #[(.int .i64 ec),(.string bc),(.slice hb c k),(.string za),(.slice yb ca h)]) ∧
 CallV Tryz.prog (.func (.func 58) #[] #[]) #[(.string (ByteArray.mk #[121,32]))] kc R (fun v3 mc =>
 ∃(ub:Int) (na:ByteArray) (eb:Option Addr) (y:Nat) (q:Nat) (ab:ByteArray) (sb:Option Addr) (d:Nat) (da:Nat),v3=(.agg #[(.int .i64 ub),(.string na),(.slice eb y q),(.string ab),(.slice sb d da)]) ∧
 CallV Tryz.prog (.func (.func 58) #[] #[]) #[(.string (ByteArray.mk #[120]))] mc R (fun v4 qc =>
 ∃(ia:Int) (db:ByteArray) (rb:Option Addr) (fa:Nat) (p:Nat) (cc:ByteArray) (ja:Option Addr) (e:Nat) (ga:Nat),v4=(.agg #[(.int .i64 ia),(.string db),(.slice rb fa p),(.string cc),(.slice ja e ga)]) ∧
 Al qc #[(.int .i64 ia),(.string db),(.slice rb fa p),(.string cc),(.slice ja e ga)] 84 fun g33 jc =>
 CallV Tryz.prog (.func (.func 59) #[] #[]) #[(.string (ByteArray.mk #[100])),(.slice (some g33) 1 1)] jc R (fun v5 nc =>
 ∃(zb:Int) (ib:ByteArray) (fc:Option Addr) (ea:Nat) (b:Nat) (nb:ByteArray) (ac:Option Addr) (aa:Nat) (ba:Nat),v5=(.agg #[(.int .i64 zb),(.string ib),(.slice fc ea b),(.string nb),(.slice ac aa ba)]) ∧
 Al nc #[(.int .i64 ub),(.string na),(.slice eb y q),(.string ab),(.slice sb d da),(.int .i64 zb),(.string ib),(.slice fc ea b),(.string nb),(.slice ac aa ba)] 84 fun g35 rc =>
 CallV Tryz.prog (.func (.func 59) #[] #[]) #[(.string (ByteArray.mk #[99])),(.slice (some g35) 2 2)] rc R (fun v6 fb =>
 ∃(ya:Int) (pa:ByteArray) (gb:Option Addr) (j:Nat) (a:Nat) (qb:ByteArray) (sa:Option Addr) (t:Nat) (f:Nat),v6=(.agg #[(.int .i64 ya),(.string pa),(.slice gb j a),(.string qb),(.slice sa t f)]) ∧
 Al fb #[(.int .i64 ec),(.string bc),(.slice hb c k),(.string za),(.slice yb ca h),(.int .i64 ya),(.string pa),(.slice gb j a),(.string qb),(.slice sa t f)] 84 fun g37 ma =>
 CallV Tryz.prog (.func (.func 59) #[] #[]) #[(.string (ByteArray.mk #[97])),(.slice (some g37) 2 2)] ma R (fun v7 dc =>
 ∃(cb:Int) (gc:ByteArray) (mb:Option Addr) (n:Nat) (z:Nat) (vb:ByteArray) (tb:Option Addr) (r:Nat) (u:Nat),v7=(.agg #[(.int .i64 cb),(.string gc),(.slice mb n z),(.string vb),(.slice tb r u)]) ∧
 Calls Tryz.prog 40 #[(.pointer (some g18)),(.int .i64 2),(.int .u64 0),(.agg #[(.int .i64 cb),(.string gc),(.slice mb n z),(.string vb),(.slice tb r u)])] dc (post R fun v8 ta =>
 ∃(hc:Int) (qa:Int),v8=(.tuple #[(.int .u64 hc),(.int .i64 qa)]) ∧
 Calls Tryz.prog 26 #[(.pointer (some g18))] ta (post R fun v9 va =>
 ∃(ua:Option Addr) (kb:Int),v9=(.tuple #[(.pointer ua),(.int .i64 kb)]) ∧
 ∃J8:World→Prop,(∀ (bb:World),J8 bb→F27_j8 ua bb R) ∧
 (Br (qa != (0:Int))
 (R (.returned (.bool false)) va)
 (Br (kb != (0:Int))
 (R (.returned (.bool false)) va)
 (Br (ua).isNone
 (R (.returned (.bool false)) va)
 (J8 va)))))))))))))
theorem ok27  {w:World}{R:Ending→World→Prop} (h:F27  w R):Calls Tryz.prog 27 #[] w R :=
 vc_calls (pl:=⟨120,⟨[]⟩,[(8,⟨[],[(0,1),(47,57)]⟩)],[]⟩) Tryz.func27 (by kernel_rfl) (by kernel_rfl) (by kernel_rfl) (Eq.mp (by kernel_rfl) h)
def F58 (s:ByteArray) (f:World) (R:Ending→World→Prop):Prop :=
 Al f #[(.int .i64 0),(.string (ByteArray.mk #[])),(.slice none 0 0),(.string (ByteArray.mk #[])),(.slice none 0 0)] 84 fun g2 w1 =>
 St w1 g2 (.int .i64 2) fun e =>
 St e (g2.add 1) (.string (ByteArray.mk #[])) fun d =>
 St d (g2.add 2) (.slice none 0 0) fun c =>
 St c (g2.add 3) (.string s) fun b =>
 St b (g2.add 4) (.slice none 0 0) fun a =>
 LdI .i64 (a.cell? g2) fun res0_0 =>
 LdStr (a.cell? (g2.add 1)) fun res0_1 =>
 LdSl (a.cell? (g2.add 2)) fun res0_2 res0_2N res0_2C =>
 LdStr (a.cell? (g2.add 3)) fun res0_3 =>
 LdSl (a.cell? (g2.add 4)) fun res0_4 res0_4N res0_4C =>
 R (.returned (.agg #[(.int .i64 res0_0),(.string res0_1),(.slice res0_2 res0_2N res0_2C),(.string res0_3),(.slice res0_4 res0_4N res0_4C)])) a
theorem ok58 (s:ByteArray) {w:World}{R:Ending→World→Prop} (h:F58 s w R):Calls Tryz.prog 58 #[(.string s)] w R :=
 vc_calls (pl:=⟨5,⟨[]⟩,[],[]⟩) Tryz.func58 (by kernel_rfl) (by kernel_rfl) (by kernel_rfl) (Eq.mp (by kernel_rfl) h)
def F59 (name:ByteArray) (kids:Option Addr) (kidsN:Nat) (kidsC:Nat) (f:World) (R:Ending→World→Prop):Prop :=
 Al f #[(.int .i64 0),(.string (ByteArray.mk #[])),(.slice none 0 0),(.string (ByteArray.mk #[])),(.slice none 0 0)] 84 fun g4 w1 =>
 St w1 g4 (.int .i64 1) fun e =>
 St e (g4.add 1) (.string name) fun d =>
 St d (g4.add 2) (.slice none 0 0) fun c =>
 St c (g4.add 3) (.string (ByteArray.mk #[])) fun b =>
 St b (g4.add 4) (.slice kids kidsN kidsC) fun a =>
 LdI .i64 (a.cell? g4) fun res0_0 =>
 LdStr (a.cell? (g4.add 1)) fun res0_1 =>
 LdSl (a.cell? (g4.add 2)) fun res0_2 res0_2N res0_2C =>
 LdStr (a.cell? (g4.add 3)) fun res0_3 =>
 LdSl (a.cell? (g4.add 4)) fun res0_4 res0_4N res0_4C =>
 R (.returned (.agg #[(.int .i64 res0_0),(.string res0_1),(.slice res0_2 res0_2N res0_2C),(.string res0_3),(.slice res0_4 res0_4N res0_4C)])) a
theorem ok59 (name:ByteArray) (kids:Option Addr) (kidsN:Nat) (kidsC:Nat) {w:World}{R:Ending→World→Prop} (h:F59 name kids kidsN kidsC w R):Calls Tryz.prog 59 #[(.string name),(.slice kids kidsN kidsC)] w R :=
 vc_calls (pl:=⟨8,⟨[]⟩,[],[]⟩) Tryz.func59 (by kernel_rfl) (by kernel_rfl) (by kernel_rfl) (Eq.mp (by kernel_rfl) h)
def F28_l3 (acts:Option Addr) (actsN:Nat) (g7:Addr) (g9:Addr) (L3:Int→World→Prop) (i:Int) (z:World) (R:Ending→World→Prop):Prop :=
 Br (decide (i < ((actsN:Nat):Int)))
 (IdxA acts actsN i 12 fun y =>
 LdI .i64 (z.cell? y) fun h =>
 LdI .i64 (z.cell? (y.add 1)) fun n =>
 LdB (z.cell? (y.add 2)) fun p =>
 LdI .u64 (z.cell? (y.add 3)) fun j =>
 LdI .u64 (z.cell? (y.add 4)) fun s =>
 LdStr (z.cell? (y.add 5)) fun r =>
 LdStr (z.cell? (y.add 6)) fun q =>
 LdI .i64 (z.cell? (y.add 7)) fun m =>
 LdStr (z.cell? (y.add 8)) fun g =>
 LdSl (z.cell? (y.add 9)) fun k d c =>
 LdStr (z.cell? (y.add 10)) fun e =>
 LdSl (z.cell? (y.add 11)) fun f b a =>
 Calls Tryz.prog 60 #[(.iface 61 (.pointer (some g7))),(.pointer (some g9)),(.agg #[(.int .i64 h),(.int .i64 n),(.bool p),(.int .u64 j),(.int .u64 s),(.string r),(.string q),(.int .i64 m),(.string g),(.slice k d c),(.string e),(.slice f b a)])] z (post R fun v t =>
 ∃(u:Bool),v=(.bool u) ∧
 Br (!u)
 (R (.returned (.pointer none)) t)
 (InR .i64 (i+(1:Int))∧L3 (i+(1:Int)) t)))
 (R (.returned (.pointer (some g7))) z)
def F28 (acts:Option Addr) (actsN:Nat) (actsC:Nat) (c:World) (R:Ending→World→Prop):Prop :=
 Al c #[(.slice none 0 0),(.slice none 0 0),(.int .i64 0),(.int .i64 0),(.int .i64 0),(.map none),(.pointer none),(.int .u64 0),(.int .u64 0),(.map none)] 105 fun g7 w1 =>
 Al w1 #[(.slice none 0 0),(.slice none 0 0)] 107 fun g9 b =>
 ∃(I:Int→World→Prop) (m:Int→World→Nat),I (0:Int) b ∧
 ∀(i:Int) (a:World),I i a→F28_l3 acts actsN g7 g9 (fun i' w2=>I i' w2∧m i' w2 < m i a) i a R
theorem ok28 (acts:Option Addr) (actsN:Nat) (actsC:Nat) {w:World}{R:Ending→World→Prop} (h:F28 acts actsN actsC w R):Calls Tryz.prog 28 #[(.slice acts actsN actsC)] w R :=
 vc_calls (pl:=⟨26,⟨[]⟩,[],[(3,⟨[(5,(.s (.int .i64)))],[(2,3),(5,25)]⟩)]⟩) Tryz.func28 (by kernel_rfl) (by kernel_rfl) (by kernel_rfl) (Eq.mp (by kernel_rfl) h)
end Go.Proofs.YtccplipiahdhiaaGreatDoor
namespace Go.Proofs.YtccplipiahdhiaaGreatDoor
open Go.RowKit Go.Vc
set_option linter.unusedVariables false
set_option linter.unusedSimpArgs false
set_option maxRecDepth 100000
def exX (s:ByteArray):Tr:=.mk 2 noB [] s []
def exE (s:ByteArray) (l:List Tr):Tr:=.mk 1 s [] noB l
def exT:Tr:=exE (ByteArray.mk #[97]) [exE (ByteArray.mk #[98]) [exX (ByteArray.mk #[120,32,121])],exE (ByteArray.mk #[99]) [exX (ByteArray.mk #[121,32]),exE (ByteArray.mk #[100]) [exX (ByteArray.mk #[120])]]]
def exD:Im:=(insF ⟨[],[]⟩ 2 0 exT).1
def exW:List ByteArray:=[ByteArray.mk #[120],ByteArray.mk #[121]]
theorem ex_ins:(insF ⟨[],[]⟩ 2 0 exT).2.2=0:=by decide +kernel
theorem ex_all:(AllS exD exW).length=3:=by decide +kernel
theorem ex_small:(SmallS exD exW).length=2:=by decide +kernel
theorem ex_phr:(phrF (slA exD.sl) (stD exD) exW).length=1:=by decide +kernel
theorem ex_can:canS exW=true:=by decide +kernel
theorem ex_text:(textS (ByteArray.mk #[65,98,45,99])).2=0:=by decide +kernel
theorem ex_words:(wordsF (ByteArray.mk #[65,98,45,99]) 0).map (·.1)=[ByteArray.mk #[97,98],ByteArray.mk #[99]]:=by decide +kernel
def eX (s:ByteArray):E5:=⟨2,noB,(none,0,0),s,(none,0,0)⟩
def eE (s:ByteArray) (v:Sv):E5:=⟨1,s,(none,0,0),noB,v⟩
section
variable {w w1:World}{R:Ending→World→Prop}
theorem rd_blk {α:Type}{L:Lay α}{g:Nat}{cs:Array Value}{t:TypeId}{xs:List α} (h:Blk w g cs t) (hc:cs.toList=L.all xs) (hm:xs.length≤maxLen):Rd L w (some ⟨g,0,none⟩) xs.length xs :=
 ⟨Nat.le_refl _,hm,(fun h=>by cases h),fun _=>⟨g,0,rfl,fun j u hj=>by rw [h.cell,Nat.zero_add,←Array.getElem?_toList,hc];exact hj⟩⟩
theorem exX_rd (s:ByteArray):RTr w (exX s) (eX s):=by
 unfold exX eX
 simp only [RTr]
 exact⟨trivial,trivial,trivial,rr_nil,by simp,[],rfl,Rd.nil _ _,by simp only [RTl]⟩
theorem exE_rd {s:ByteArray}{l:List Tr}{v:Sv}{es:List E5} (hl:l.length≤1048576) (hn:v.2.1=es.length) (hr:Rd LE5 w v.1 v.2.2 es) (ht:RTl w l es):RTr w (exE s l) (eE s v):=by
 unfold exE eE
 simp only [RTr]
 exact⟨trivial,trivial,trivial,rr_nil,hl,es,hn,hr,ht⟩
theorem exX_call {K:Value→World→Prop}{R':Ending→World→Prop} (s:ByteArray) (h:∀w',Below w.heap.size w w'→K (.agg #[.int .i64 2,.string noB,.slice none 0 0,.string s,.slice none 0 0]) w'):CallV Tryz.prog (.func (.func 58) #[] #[]) #[.string s] w R' K:=by
 refine⟨by kernel_rfl,?_⟩
 refine ok58 s ?_
 unfold F58
 refine al fun g w1 hb1 b1 hge=>?_
 simp only [Addr.add_mk,Nat.zero_add]
 refine st_blk b1 (by simp) fun w2 b2 f2=>?_
 refine st_blk b2 (by simp) fun w3 b3 f3=>?_
 refine st_blk b3 (by simp) fun w4 b4 f4=>?_
 refine st_blk b4 (by simp) fun w5 b5 f5=>?_
 refine st_blk b5 (by simp) fun w6 b6 f6=>?_
 have b7:Blk w6 g #[.int .i64 2,.string noB,.slice none 0 0,.string s,.slice none 0 0] 84:=b6
 simp only [b7.cell,lds]
 refine h w6 ?_
 exact (hb1.trans (((((f2.trans f3).trans f4).trans f5).trans f6).toBelow hb1.size fun x hx e=>by have e:x=g:=e;omega))
theorem exE_call {K:Value→World→Prop}{R':Ending→World→Prop} (s:ByteArray) (v:Sv) (h:∀w',Below w.heap.size w w'→K (.agg #[.int .i64 1,.string s,.slice none 0 0,.string noB,.slice v.1 v.2.1 v.2.2]) w'):CallV Tryz.prog (.func (.func 59) #[] #[]) #[.string s,.slice v.1 v.2.1 v.2.2] w R' K:=by
 refine⟨by kernel_rfl,?_⟩
 refine ok59 s v.1 v.2.1 v.2.2 ?_
 unfold F59
 refine al fun g w1 hb1 b1 hge=>?_
 simp only [Addr.add_mk,Nat.zero_add]
 refine st_blk b1 (by simp) fun w2 b2 f2=>?_
 refine st_blk b2 (by simp) fun w3 b3 f3=>?_
 refine st_blk b3 (by simp) fun w4 b4 f4=>?_
 refine st_blk b4 (by simp) fun w5 b5 f5=>?_
 refine st_blk b5 (by simp) fun w6 b6 f6=>?_
 have b7:Blk w6 g #[.int .i64 1,.string s,.slice none 0 0,.string noB,.slice v.1 v.2.1 v.2.2] 84:=b6
 simp only [b7.cell,lds]
 refine h w6 ?_
 exact (hb1.trans (((((f2.trans f3).trans f4).trans f5).trans f6).toBelow hb1.size fun x hx e=>by have e:x=g:=e;omega))
end
set_option maxRecDepth 100000
section
variable {w w1:World}{R:Ending→World→Prop}
theorem exW_rd {g:Nat} (h:Blk w g #[.string (ByteArray.mk #[120]),.string (ByteArray.mk #[121])] 9):RdV LS w exW (some ⟨g,0,none⟩,2,2) :=
 ⟨rfl,by decide,rd_blk (xs:=exW) h rfl (by decide)⟩
theorem lives_calls (hT:Tabs w) (hK:∀w',Below w.heap.size w w'→R (.returned (.bool true)) w'):Calls Tryz.prog 27 #[] w R:=by
 refine ok27 ?_
 unfold F27
 refine al fun gp w1 hb1 b1 hge=>?_
 refine exX_call _ fun w2 hb2=>⟨_,_,_,_,_,_,_,_,_,rfl,?_⟩
 refine al fun g25 w3 hb3 b25 hge25=>?_
 refine exE_call _ (some ⟨g25,0,none⟩,1,1) fun w4 hb4=>⟨_,_,_,_,_,_,_,_,_,rfl,?_⟩
 refine exX_call _ fun w5 hb5=>⟨_,_,_,_,_,_,_,_,_,rfl,?_⟩
 refine exX_call _ fun w6 hb6=>⟨_,_,_,_,_,_,_,_,_,rfl,?_⟩
 refine al fun g33 w7 hb7 b33 hge33=>?_
 refine exE_call _ (some ⟨g33,0,none⟩,1,1) fun w8 hb8=>⟨_,_,_,_,_,_,_,_,_,rfl,?_⟩
 refine al fun g35 w9 hb9 b35 hge35=>?_
 refine exE_call _ (some ⟨g35,0,none⟩,2,2) fun w10 hb10=>⟨_,_,_,_,_,_,_,_,_,rfl,?_⟩
 refine al fun g37 w11 hb11 b37 hge37=>?_
 refine exE_call _ (some ⟨g37,0,none⟩,2,2) fun w12 hb12=>⟨_,_,_,_,_,_,_,_,_,rfl,?_⟩
 have hs1:=hb1.size
 have hs2:=hb2.size
 have hs3:=hb3.size
 have hs4:=hb4.size
 have hs5:=hb5.size
 have hs6:=hb6.size
 have hs7:=hb7.size
 have hs8:=hb8.size
 have hs9:=hb9.size
 have hs10:=hb10.size
 have hs11:=hb11.size
 have hgp:=b1.lt
 have c11:=btr hb11 hb11.size hb12
 have c10:=btr hb10 hb10.size c11
 have c9:=btr hb9 hb9.size c10
 have c8:=btr hb8 hb8.size c9
 have c7:=btr hb7 hb7.size c8
 have c6:=btr hb6 hb6.size c7
 have c5:=btr hb5 hb5.size c6
 have c4:=btr hb4 hb4.size c5
 have c3:=btr hb3 hb3.size c4
 have c2:=btr hb2 hb2.size c3
 have c1:=btr hb1 hb1.size c2
 have p1:=b1.keep c2
 have p25:=b25.keep c4
 have p33:=b33.keep c8
 have p35:=b35.keep c10
 have p37:=b37.keep hb12
 have hL:=ld_zero p1
 generalize ho:(fun b=>if b=gp then 1 else 0)=o at hL
 have hoc:∀b,b≠gp→(o b).beq 0=true:=fun b hb=>by rw [←ho];simp only [if_neg hb];rfl
 have hW:∀{g:Nat}{c:Array Value}{t:TypeId},g≠gp→Blk w12 g c t→Blk (wc o w12) g c t:=fun hne hh=>cells_only (ok:=fun b=>Nat.beq (o b) 0) (hoc _ hne) hh
 have hsub:Sub w (wc o w12):=fun b c t fr hb=>by
  have hlt:=(Array.getElem?_eq_some_iff.1 hb).1
  refine cells_only (hoc b (by omega)) ?_
  rw [c1.block b hlt];exact hb
 have hx:RTr (wc o w12) exT (eE (ByteArray.mk #[97]) (some ⟨g37,0,none⟩,2,2)):=by
  have r25:RTr (wc o w12) (exE (ByteArray.mk #[98]) [exX (ByteArray.mk #[120,32,121])]) (eE (ByteArray.mk #[98]) (some ⟨g25,0,none⟩,1,1)) :=
   exE_rd (by decide) rfl (rd_blk (xs:=[eX (ByteArray.mk #[120,32,121])]) (hW (by omega) p25) rfl (by decide)) (by simp only [RTl];exact⟨_,_,rfl,exX_rd _,rfl⟩)
  have r33:RTr (wc o w12) (exE (ByteArray.mk #[100]) [exX (ByteArray.mk #[120])]) (eE (ByteArray.mk #[100]) (some ⟨g33,0,none⟩,1,1)) :=
   exE_rd (by decide) rfl (rd_blk (xs:=[eX (ByteArray.mk #[120])]) (hW (by omega) p33) rfl (by decide)) (by simp only [RTl];exact⟨_,_,rfl,exX_rd _,rfl⟩)
  have r35:RTr (wc o w12) (exE (ByteArray.mk #[99]) [exX (ByteArray.mk #[121,32]),exE (ByteArray.mk #[100]) [exX (ByteArray.mk #[120])]]) (eE (ByteArray.mk #[99]) (some ⟨g35,0,none⟩,2,2)) :=
   exE_rd (by decide) rfl (rd_blk (xs:=[eX (ByteArray.mk #[121,32]),eE (ByteArray.mk #[100]) (some ⟨g33,0,none⟩,1,1)]) (hW (by omega) p35) rfl (by simp [maxLen])) (by simp only [RTl];exact⟨_,_,rfl,exX_rd _,_,_,rfl,r33,rfl⟩)
  exact exE_rd (by decide) rfl (rd_blk (xs:=[eE (ByteArray.mk #[98]) (some ⟨g25,0,none⟩,1,1),eE (ByteArray.mk #[99]) (some ⟨g35,0,none⟩,2,2)]) (hW (by omega) p37) rfl (by simp [maxLen])) (by simp only [RTl];exact⟨_,_,rfl,r25,_,_,rfl,r35,rfl⟩)
 refine insertL_calls (a:=0) (e:=eE (ByteArray.mk #[97]) (some ⟨g37,0,none⟩,2,2)) hL (by decide) nil_wf (hT.sub hsub) hx (by decide) fun w13 o13 hL13 ev=>⟨_,_,rfl,?_⟩
 have B13:Below w.heap.size w w13:=c1.trans (ev.fm.toBelow c1.size fun b hb e=>e (by rw [←ho];exact if_neg (by omega)))
 refine New_calls hL13 (ins_wf nil_wf 2 0 exT) fun gx w14 hb14 hix=>⟨_,_,rfl,?_⟩
 have B14:=btr B13 B13.size hb14
 have hix:Ix w14 gx exD:=hix
 obtain⟨gd,mt,mh,o',S,nv,tv,hv,hix⟩:=hix
 refine⟨fun w'=>w'=w14,?_,?_⟩
 rotate_left
 ·refine brn (fun h=>absurd ex_ins h) fun _=>brn (fun h=>absurd rfl h) fun _=>?_
  rw [Option.isNone_some,Br_f]
 rintro w15 rfl
 unfold F27_j8
 have nc:canS exW=false→False:=fun h=>by rw [ex_can] at h;cases h
 refine al fun ga w16 hb16 b16 _=>?_
 have B16:=btr B14 B14.size hb16
 refine All_calls (vw:=(some ⟨ga,0,none⟩,2,2)) (hix.keep hb16) (hT.keep B16) (exW_rd b16) (fun _ va w17 hb17 oa=>⟨_,_,_,_,rfl,?_⟩) fun h=>(nc h).elim
 have B17:=btr B16 B16.size hb17
 refine al fun gb w18 hb18 b18 _=>?_
 have B18:=btr B17 B17.size hb18
 have C18:=btr hb16 hb16.size (btr hb17 hb17.size hb18)
 refine Smallest_calls (vw:=(some ⟨gb,0,none⟩,2,2)) (hix.keep C18) (hT.keep B18) (exW_rd b18) (fun _ vb w19 hb19 ob=>⟨_,_,_,_,rfl,?_⟩) fun h=>(nc h).elim
 have B19:=btr B18 B18.size hb19
 refine al fun gc w20 hb20 b20 _=>?_
 have B20:=btr B19 B19.size hb20
 have C20:=btr C18 C18.size (btr hb19 hb19.size hb20)
 refine Phrase_calls (v:=(some ⟨gc,0,none⟩,2,2)) (hix.keep C20) (hT.keep B20) (exW_rd b20) (fun _ vc w21 hb21 oc=>⟨_,_,_,_,rfl,?_⟩) fun h=>(nc h).elim
 have B21:=btr B20 B20.size hb21
 refine wordsA_k _ (hT.keep B21) fun v w22 ⟨A,n,c,A2,n2,c2,hv,hw⟩=>⟨_,_,_,_,_,_,_,hv,?_⟩
 have B22:=btr B21 B21.size hw.below
 have ea:=(rdO oa).1
 have eb:=(rdO ob).1
 have ec:=(rdO oc).1
 rw [ex_all] at ea
 rw [ex_small] at eb
 rw [ex_phr] at ec
 have hws:=hw.ws
 rw [if_pos ex_text,ex_words] at hws
 obtain⟨q1,q2⟩:=hws.rd
 rw [ea,eb,ec,ex_text,q1]
 refine bre (fun _=>?_) fun h=>absurd rfl h
 refine bre (fun _=>?_) fun h=>absurd rfl h
 refine bre (fun _=>?_) fun h=>absurd rfl h
 refine bre (fun _=>?_) fun h=>absurd rfl h
 refine bre (fun _=>?_) fun h=>absurd rfl h
 refine bre (fun _=>?_) fun h=>absurd rfl h
 refine bre (fun _=>?_) fun h=>absurd rfl h
 refine bre (fun _=>?_) fun h=>absurd rfl h
 refine q2.str rfl rfl (k:=0) (by decide) fun b oo cs=>?_
 simp only [cs,lds]
 rw [bytes_eq]
 exact hK w22 B22
end
set_option maxRecDepth 100000
structure E12 where
 a:Ac
 e:E5
def E12.cells (x:E12):List Value:=[.int .i64 x.a.kind,.int .i64 x.a.wh,.bool x.a.how,.int .u64 (x.a.n:Nat),.int .u64 (x.a.at_:Nat),.string x.a.nm,.string x.a.val,.int .i64 x.e.kind,.string x.e.nm,.slice x.e.ats.1 x.e.ats.2.1 x.e.ats.2.2,.string x.e.text,.slice x.e.kids.1 x.e.kids.2.1 x.e.kids.2.2]
def LAc:Lay E12:=⟨12,E12.cells,fun _=>rfl,fun _=>by simp [E12.cells,Value.oneCell'],by decide⟩
def RAc (w:World) (x:E12):Prop:=AcOk x.a∧RTr w x.a.x x.e
theorem RAc.sub {w w1:World}{x:E12} (h:RAc w x) (hs:Sub w w1):RAc w1 x:=⟨h.1,RTr.sub hs _ _ h.2⟩
structure Both (p:Value) (P:Nat→World→(Nat→Nat)→Im→Prop) (w0:World) (g k:Nat) (w:World) (o:Nat→Nat) (D:Im) (vs vr:Sv):Prop where
 p:P k w o D
 wf:Wf D
 r:RM (okc o) w g D vs vr
 og:o g=0
 old:Below w0.heap.size w0 w
 col:∀b,b < w0.heap.size→o b=0
 gne:w0.heap.size≤g
section
variable {p:Value}{P:Nat→World→(Nat→Nat)→Im→Prop}{k:Nat}{w w0 w1:World}{o:Nat→Nat}{g:Nat}{D:Im}{vs vr:Sv}{R:Ending→World→Prop}
theorem Both.sub (h:Both p P w0 g k w o D vs vr):Sub w0 (vw (okc o) g w):=fun b c t fr hb=>by
 have hlt:=(Array.getElem?_eq_some_iff.1 hb).1
 refine cells_only (vw_iff.2 ⟨okc_iff.2 (h.col b hlt),by have:=h.gne;omega⟩) ?_
 rw [h.old.block b hlt];exact hb
theorem Both.keep (E:Edr p P) (h:Both p P w0 g k w o D vs vr) (hb:Below w.heap.size w w1):Both p P w0 g k w1 o D vs vr :=
 ⟨E.keep (M:=fun _=>False) h.p (.below hb) fun _ _ h=>h.elim,h.wf,h.r.keep hb,h.og,btr h.old h.old.size hb,h.col,h.gne⟩
theorem both_does (E:Edr p P) (h:Both p P w0 g k w o D vs vr) (hk:k < 1099511627776) (hT:Tabs w0) {x:E12} (hx:RAc w0 x)
  (hK:∀w' o' vs' vr',Both p P w0 g (k+1) w' o' (doF D x.a) vs' vr'→R (.returned (.bool true)) w'):Calls Tryz.prog 60 #[p,.pointer (some ⟨g,0,none⟩),acV x.a x.e] w R:=by
 have hs:=h.sub
 refine does_calls E h.p hk h.wf h.r h.og (hT.sub hs) hx.1 (RTr.sub hs _ _ hx.2) fun w' o' vs' vr' hp hr hf ho=>hK w' o' vs' vr' ⟨hp,do_wf h.wf _,hr,?_,?_,fun b hb=>ho b (Nat.lt_of_lt_of_le hb h.old.size) (h.col b hb),h.gne⟩
 ·exact ho g h.r.blk.lt h.og
 ·refine h.old.trans (hf.toBelow h.old.size fun b hb e=>?_)
  rcases e with e | e
  ·exact e (h.col b hb)
  ·have:=h.gne;omega
end
set_option maxRecDepth 100000
section
variable {w w1:World}{R:Ending→World→Prop}
abbrev LBoth (gp:Nat) (w0:World) (g k:Nat) (w:World) (o:Nat→Nat) (D:Im) (vs vr:Sv):Prop:=Both (.iface 61 (.pointer (some ⟨gp,0,none⟩))) (fun k w o D=>LD k gp 105 w o D) w0 g k w o D vs vr
theorem played_calls {A:Option Addr}{c:Nat}{xs:List E12} (hT:Tabs w) (hr:Rd LAc w A c xs) (hx:∀x∈xs,RAc w x) (hl:xs.length≤1048576)
  (hK:∀gp gd w' o D vs vr k,k≤1048576→LBoth gp w gd k w' o D vs vr→R (.returned (.pointer (some ⟨gp,0,none⟩))) w'):Calls Tryz.prog 28 #[.slice A xs.length c] w R:=by
 refine ok28 A xs.length c ?_
 unfold F28
 refine al fun gp w1 hb1 b1 hge1=>al fun gd w2 hb2 b2 hge2=>?_
 have B2:=btr hb1 hb1.size hb2
 have hs1:=hb1.size
 have hb1l:=b1.lt
 have b12:=b1.keep hb2
 have h0:LBoth gp w gd 0 w2 (fun b=>if b=gp then 1 else 0) ⟨[],[]⟩ (none,0,0) (none,0,0) :=
  ⟨ld_zero b12,nil_wf,rm_zero b2,if_neg (by omega),B2,fun b hb=>if_neg (by omega),by omega⟩
 refine⟨fun i w'=>∃(m:Nat) (o:Nat→Nat) (D:Im) (vs vr:Sv),i=m∧m≤xs.length∧LBoth gp w gd m w' o D vs vr,fun i _=>xs.length-i.toNat,⟨0,_,_,_,_,rfl,by omega,h0⟩,?_⟩
 rintro _ w3 ⟨m,o,D,vs,vr,rfl,hm,h3⟩
 unfold F28_l3
 refine brd (fun hlt=>?_) (fun hge=>?_)
 ·have hml:m < xs.length:=by omega
  refine (hr.keep h3.old).idx rfl (by omega) (by omega) rfl fun b oo hc=>?_
  simp only [Int.toNat_natCast] at hc
  have k0:=hc 0 _ rfl
  have k1:=hc 1 _ rfl
  have k2:=hc 2 _ rfl
  have k3:=hc 3 _ rfl
  have k4:=hc 4 _ rfl
  have k5:=hc 5 _ rfl
  have k6:=hc 6 _ rfl
  have k7:=hc 7 _ rfl
  have k8:=hc 8 _ rfl
  have k9:=hc 9 _ rfl
  have k10:=hc 10 _ rfl
  have k11:=hc 11 _ rfl
  simp only [Nat.add_zero] at k0
  simp only [k0,k1,k2,k3,k4,k5,k6,k7,k8,k9,k10,k11,lds]
  refine both_does label_edr h3 (by omega) hT (hx _ (List.getElem_mem hml)) fun w4 o4 vs4 vr4 h4=>⟨_,rfl,?_⟩
  rw [brnot,Br_t]
  exact⟨inR_i64 (by omega) (by omega),⟨m+1,o4,_,vs4,vr4,by simp,by omega,h4⟩,(by first | omega | (dsimp only;omega))⟩
 ·exact hK gp gd w3 o D vs vr m (by omega) h3
end
set_option maxRecDepth 100000
section
variable {w:World}{R:Ending→World→Prop}
end
set_option maxRecDepth 100000
section
variable {W:World}{R:Ending→World→Prop}{A:Option Addr}{c:Nat}{xs:List E12}{ws:List ByteArray}{vw:Sv}
end
set_option maxRecDepth 100000
theorem filt_at {α:Type}{H:List α}{p:α→Bool}{k:Nat} (hk:k < H.length) (hp:p H[k]=true):(H.filter p)[((H.take k).filter p).length]?=some H[k]:=by
 have e:H.filter p=(H.take k).filter p++(H[k] :: (H.drop (k+1)).filter p):=by
  conv=>lhs;rw [←List.take_append_drop k H,List.filter_append,List.drop_eq_getElem_cons hk,List.filter_cons_of_pos hp]
 rw [e,List.getElem?_append_right (Nat.le_refl _),Nat.sub_self];rfl
theorem filt_step {α:Type}{H:List α}{p:α→Bool}{k:Nat} (hk:k < H.length):((H.take (k+1)).filter p).length=((H.take k).filter p).length+(if p H[k]=true then 1 else 0):=by
 rw [List.take_succ_eq_append_getElem hk,List.filter_append,List.length_append]
 congr 1
 by_cases e:p H[k]=true
 ·rw [List.filter_cons_of_pos e,if_pos e];rfl
 ·rw [List.filter_cons_of_neg e,if_neg e];rfl
section
variable {w0:World}{R:Ending→World→Prop}{D:Im}{ws:List ByteArray}{vp ve:Sv}{es:List Sv}
end
section
variable {W:World}{R:Ending→World→Prop}{A:Option Addr}{c:Nat}{xs:List E12}{ws:List ByteArray}{vw:Sv}
end
set_option maxRecDepth 100000
--PURE
section
variable {s:ByteArray}{i j k e f n:Nat}
theorem low_size:(lowB s).size=s.size:=by
 show ((s.data.toList.map lowU).toArray).size=s.data.size
 simp
theorem ext_size (he:e≤s.size):(lowB (s.extract i e)).size=e-i:=by
 rw [low_size,ByteArray.size_extract];omega
theorem low_get (he:e≤s.size) (hk:i+k < e):(lowB (s.extract i e)).get! k=lowU (s.get! (i+k)):=by
 have h0:s.data.size=s.size:=rfl
 have h1:k < (((s.extract i e).data.toList.map lowU).toArray).size:=by simp [ByteArray.data_extract];omega
 show ((((s.extract i e).data.toList.map lowU).toArray)[k]!)=lowU (s.data[i+k]!)
 rw [getElem!_pos (((s.extract i e).data.toList.map lowU).toArray) k h1,getElem!_pos s.data (i+k) (by omega)]
 simp [ByteArray.data_extract]
theorem lowW_hi {c:Nat} (h:128≤c):lowW c=c:=by unfold lowW;rw [if_neg (by omega)]
theorem lowU_hi {b:UInt8} (h:128≤b.toNat):lowU b=b:=by
 apply UInt8.toNat_inj.1;rw [lowU_nat,lowW_hi h]
theorem lowU_low (b:UInt8):lowU (lowU b)=lowU b:=by
 apply UInt8.toNat_inj.1;rw [lowU_nat,lowU_nat];unfold lowW;split <;> (try split) <;> omega
theorem lowB_low (s:ByteArray):lowB s=lowB (lowB s):=by
 unfold lowB
 simp [Function.comp_def,lowU_low]
theorem isW_get (h:isW s i=true):i < s.size∧inW (s.get! i).toNat=true:=by
 have hi:=isW_lt h
 rw [isW_at hi] at h
 refine⟨hi,?_⟩
 have:s.get! i=s[i]:=by show (s.data[i]!)=s.data[i];rw [getElem!_pos]
 rw [this];exact h
theorem isW_hi (hi:i < s.size) (h:128≤(s.get! i).toNat):isW s i=true:=by
 rw [isW_at hi]
 have:s.get! i=s[i]:=by show (s.data[i]!)=s.data[i];rw [getElem!_pos]
 rw [this] at h
 unfold inW
 rw [decide_eq_true_eq];omega
theorem runBy:∀{m i:Nat},s.size-i=m→∀{j},i≤j→j < runE s i→isW s j=true
 | m,i,hm,j,h1,h2=>by
  by_cases hw:isW s i=true
  ·have:=isW_lt hw
   by_cases e:j=i
   ·rw [e];exact hw
   ·rw [runE_t hw] at h2
    exact runBy (m:=s.size-(i+1)) rfl (by omega) h2
  ·have hw:isW s i=false:=by simpa using hw
   rw [runE_f hw] at h2;omega
termination_by m=>m
theorem cont_hi:∀(k j r:Nat) {x:Nat},contR s i k j r=some x→∀q,j≤q→q < j+k→128≤(s.get! (i+q)).toNat
 | 0,j,r,x,h,q,h1,h2=>by omega
 | k+1,j,r,x,h,q,h1,h2=>by
  rw [contR] at h
  split at h
  ·cases h
  ·by_cases e:q=j
   ·subst e;omega
   ·exact cont_hi k (j+1) _ h q (by omega) (by omega)
theorem at_facts (hn:(atR s i).2=n) (h0:n≠0):i+n≤s.size∧n=(sizeR (s.get! i).toNat).1∧(∀q,1≤q→q < n→128≤(s.get! (i+q)).toNat)∧(2≤n→128≤(s.get! i).toNat):=by
 unfold atR at hn
 split at hn
 ·exact absurd hn.symm h0
 ·rename_i hc
  split at hn
  ·exact absurd hn.symm h0
  ·rename_i r hr
   split at hn
   ·dsimp only at hn
    refine⟨by omega,hn.symm,fun q h1 h2=>cont_hi _ _ _ hr q h1 (by omega),fun h2=>?_⟩
    unfold sizeR at hn
    split at hn
    ·dsimp only at hn;omega
    ·omega
   ·exact absurd hn.symm h0
theorem cont_eq {v:ByteArray}:∀(k q r:Nat),(∀x,q≤x→x < q+k→v.get! (j+x)=s.get! (i+x))→contR v j k q r=contR s i k q r
 | 0,_,_,_=>rfl
 | k+1,q,r,h=>by
  rw [contR,contR,h q (Nat.le_refl _) (by omega)]
  split
  ·rfl
  ·exact cont_eq k (q+1) _ fun x h1 h2=>h x (by omega) (by omega)
theorem at_low (he:e≤s.size) (hn:(atR s (i+k)).2=n) (h0:n≠0) (hw:inW (s.get! (i+k)).toNat=true) (hk:i+k+n≤e):(atR (lowB (s.extract i e)) k).2=n:=by
 obtain⟨f1,f2,f3,f4⟩:=at_facts hn h0
 have hsz:=ext_size (i:=i) he
 have g0:=low_get (i:=i) (k:=k) he (by omega)
 by_cases h2:128≤(s.get! (i+k)).toNat
 ·have g1:(lowB (s.extract i e)).get! k=s.get! (i+k):=by rw [g0,lowU_hi h2]
  have key:atR (lowB (s.extract i e)) k=atR s (i+k):=by
   unfold atR
   rw [g1,hsz,if_neg (by omega),if_neg (by omega),cont_eq (i:=i+k) (j:=k) _ _ _ fun x h3 h4=>?_]
   have h5:=f3 x h3 (by omega)
   have:=low_get (i:=i) (k:=k+x) he (by omega)
   rw [←Nat.add_assoc] at this
   rw [this,lowU_hi h5]
  rw [key,hn]
 ·have hs1:sizeR (s.get! (i+k)).toNat=(1,(s.get! (i+k)).toNat):=by unfold sizeR;rw [if_pos (by omega)]
  rw [hs1] at f2
  dsimp only at f2
  subst f2
  unfold inW at hw
  rw [decide_eq_true_eq] at hw
  have g1:((lowB (s.extract i e)).get! k).toNat=lowW (s.get! (i+k)).toNat:=by rw [g0,lowU_nat]
  have hl:lowW (s.get! (i+k)).toNat < 128∧32≤lowW (s.get! (i+k)).toNat:=by unfold lowW;split <;> omega
  unfold atR
  rw [g1,hsz]
  generalize lowW (s.get! (i+k)).toNat=c at *
  have hs2:sizeR c=(1,c):=by unfold sizeR;rw [if_pos hl.1]
  rw [hs2]
  dsimp only
  rw [if_neg (by omega)]
  simp only [Nat.sub_self,contR]
  rw [if_pos ⟨by unfold canR;rw [decide_eq_true_eq];omega,by unfold lenR;rw [if_pos hl.1]⟩]
theorem bad_reach:∀(f i:Nat),(badF s f i).2=0→s.size < i+f→i≤j→j≤s.size→(i < j→(s.get! (j-1)).toNat < 128)→∃f',(badF s f' j).2=0∧s.size < j+f'
 | 0,i,_,h1,h2,h3,_=>by omega
 | f+1,i,h,h1,h2,h3,h4=>by
  by_cases e:j=i
  ·subst e;exact⟨f+1,h,h1⟩
  ·rw [badF,if_neg (by omega)] at h
   split at h
   ·cases h
   ·rename_i hn
    obtain⟨f1,f2,f3,f4⟩:=at_facts rfl hn
    by_cases h5:i+(atR s i).2≤j
    ·exact bad_reach f _ h (by omega) h5 h3 fun _=>h4 (by omega)
    ·exfalso
     have h6:=h4 (by omega)
     by_cases h7:j=i+1
     ·have:=f4 (by omega)
      rw [h7,Nat.add_sub_cancel] at h6;omega
     ·have:=f3 (j-1-i) (by omega) (by omega)
      rw [show i+(j-1-i)=j-1 by omega] at this;omega
theorem bad_low (he:e≤s.size) (hin:∀q,i≤q→q < e→isW s q=true) (hend:e < s.size→isW s e=false):∀(g f k:Nat),(badF s f (i+k)).2=0→s.size < i+k+f→i+k≤e→(badF (lowB (s.extract i e)) g k).2=0
 | 0,_,_,_,_,_=>rfl
 | g+1,0,_,_,h1,h2=>by omega
 | g+1,f+1,k,h,h1,h2=>by
  have hsz:=ext_size (i:=i) he
  rw [badF,hsz]
  by_cases h3:e-i≤k
  ·rw [if_pos h3]
  ·rw [if_neg h3]
   rw [badF,if_neg (by omega)] at h
   split at h
   ·cases h
   ·rename_i hn
    obtain⟨f1,f2,f3,f4⟩:=at_facts rfl hn
    have h4:i+k+(atR s (i+k)).2≤e:=by
     rcases Nat.lt_or_ge e (i+k+(atR s (i+k)).2) with h5 | h5
     ·exfalso
      have h6:=hend (by omega)
      have h7:=f3 (e-(i+k)) (by omega) (by omega)
      rw [show i+k+(e-(i+k))=e by omega] at h7
      rw [isW_hi (by omega) h7] at h6;cases h6
     ·exact h5
    have h5:=at_low he rfl hn (isW_get (hin (i+k) (by omega) (by omega))).2 h4
    rw [h5,if_neg hn]
    exact bad_low he hin hend g f (k+(atR s (i+k)).2) (by rw [←Nat.add_assoc];exact h) (by omega) (by omega)
theorem words_mem:∀{m i:Nat},s.size-i=m→∀{v:ByteArray}{a:Nat},(v,a)∈wordsF s i→(i=0∨isW s (i-1)=false∨isW s i=false)→isW s a=true∧v=lowB (s.extract a (runE s a))∧(a=0∨isW s (a-1)=false)
 | m,i,hm,v,a,h,hi=>by
  by_cases hw:isW s i=true
  ·have hlt:=isW_lt hw
   rw [wordsF_t hw] at h
   rcases List.mem_cons.1 h with h | h
   ·cases h
    refine⟨hw,rfl,?_⟩
    rcases hi with hi | hi | hi
    ·exact .inl hi
    ·exact .inr hi
    ·rw [hi] at hw;cases hw
   ·have:=runE_gt hw
    exact words_mem (m:=s.size-runE s i) rfl h (.inr (.inr (runE_end s i)))
  ·have hw:isW s i=false:=by simpa using hw
   by_cases hlt:i < s.size
   ·rw [wordsF_f hw] at h
    exact words_mem (m:=s.size-(i+1)) rfl h (.inr (.inl hw))
   ·rw [wordsF_end (by omega)] at h;cases h
termination_by m=>m
theorem isW_off (hi:i < s.size) (h:isW s i=false):(s.get! i).toNat < 128:=by
 rcases Nat.lt_or_ge (s.get! i).toNat 128 with h2 | h2
 ·exact h2
 ·rw [isW_hi hi h2] at h;cases h
theorem dec_low {n b0 b1 b2 b3:Nat}:b0 < 128∧(Lib.decodeN n b0 b1 b2 b3).1=b0∨128≤(Lib.decodeN n b0 b1 b2 b3).1:=by
 unfold Lib.decodeN
 by_cases h:b0 < 128
 ·rw [if_pos h];exact .inl ⟨h,rfl⟩
 ·rw [if_neg h]
  right
  repeat' split
  all_goals simp only
  all_goals omega
theorem idx_none {v:ByteArray} (h:∀q,q < v.size→inW (v.get! q).toNat=true):∀(f p:Nat),Lib.idxFuncFrom badR true v f p=-1
 | 0,_=>rfl
 | f+1,p=>by
  rw [Lib.idxFuncFrom]
  split
  ·rename_i hp
   have hq:=h p hp
   have:badR (Utf8.decode v p).1=false:=by
    rw [Lib.decode_at]
    unfold badR
    rcases dec_low (n:=v.size-p) (b0:=(v.get! p).toNat) (b1:=(v.get! (p+1)).toNat) (b2:=(v.get! (p+2)).toNat) (b3:=(v.get! (p+3)).toNat) with ⟨h1,h2⟩ | h1
    ·rw [h2,hq];simp
    ·rw [decide_eq_false (by omega)];rfl
   rw [this,if_neg (by decide)]
   exact idx_none h f _
  ·rfl
theorem inW_low {c:Nat} (h:inW c=true):inW (lowW c)=true:=by
 unfold inW lowW at *
 rw [decide_eq_true_eq] at *
 split <;> omega
theorem word_one {v:ByteArray}{a:Nat} (hs:(textS s).2=0) (h:(v,a)∈wordsF s 0):oneF v=true:=by
 have hsz:=textS_ok hs
 obtain⟨h1,rfl,h2⟩:=words_mem rfl h (.inl rfl)
 have hlt:=isW_lt h1
 have hgt:=runE_gt h1
 have hle:=runE_le s a (by omega)
 have hend:=runE_end s a
 have hin:∀q,a≤q→q < runE s a→isW s q=true:=fun q=>runBy rfl
 generalize runE s a=e at *
 have hb:(badF s (s.size+1) 0).2=0:=by unfold textS at hs;rwa [if_neg (by omega)] at hs
 obtain⟨f,hf1,hf2⟩:=bad_reach (j:=a) (s.size+1) 0 hb (by omega) (by omega) (by omega) fun h0=>isW_off (by omega) (h2.resolve_left (by omega))
 have es:=ext_size (i:=a) hle
 have ht:(textS (lowB (s.extract a e))).2=0:=by
  unfold textS
  rw [if_neg (by omega)]
  exact bad_low hle hin (fun _=>hend) _ f 0 hf1 hf2 (by omega)
 unfold oneF
 rw [Bool.and_eq_true,Bool.and_eq_true,Bool.and_eq_true,decide_eq_true_eq,decide_eq_true_eq,decide_eq_true_eq,Bool.not_eq_true',decide_eq_false_iff_not]
 refine⟨ht,fun h0=>?_,lowB_low _,?_⟩
 ·have:=congrArg ByteArray.size h0
  rw [es] at this
  have h9:(ByteArray.mk #[]).size=0:=rfl
  omega
 ·unfold Lib.idxFunc
  rw [idx_none fun q hq=>?_]
  ·decide
  ·rw [es] at hq
   rw [low_get hle (by omega),lowU_nat]
   exact inW_low (isW_get (hin (a+q) (by omega) (by omega))).2
end
set_option maxRecDepth 100000
theorem stand_at {D:Im} (hw:Wf D) {v:ByteArray}{h:Hit} (hh:h∈hitF (stD D) v):∃s,slA D.sl h.1=some s∧(textS s.text).2=0∧(wordsF s.text 0)[h.2.1]?=some (v,h.2.2):=by
 obtain⟨p1,p2⟩:=sts_mem.1 (hitF_mem.1 hh)
 unfold wdF at p2
 cases hs:slA D.sl h.1 with
 | none=>rw [hs] at p2;simp at p2
 | some s =>
  rw [hs] at p2
  have p2:(txF s)[h.2.1]?=some (v,h.2.2):=p2
  unfold txF at p2
  by_cases hk:s.kind=2
  ·rw [if_pos hk] at p2
   refine⟨s,rfl,?_,p2⟩
   have h3:=(hw.a.ok _ _ hs).1
   unfold ownF at h3
   rw [hk] at h3
   simpa using h3
  ·rw [if_neg hk] at p2;simp at p2
theorem stand_one {D:Im} (hw:Wf D) {v:ByteArray} (hne:hitF (stD D) v≠[]):oneF v=true:=by
 obtain⟨h,hh⟩:=List.exists_mem_of_ne_nil _ hne
 obtain⟨s,_,h2,h3⟩:=stand_at hw hh
 exact word_one h2 (List.mem_of_getElem? h3)
theorem nm_beq {a:ByteArray}{b:Int}:(!((a == a) && ((b == b) && true)))=false:=by
 have:(a == a)=true:=by
  obtain⟨d⟩:=a
  show (d == d)=true
  simp
 simp [this]
section
variable {w0:World}{R:Ending→World→Prop}{D:Im}{o:Nat→Nat}{gx gd mt mh gc:Nat}{S Sc:PS}{oc:Nat→Nat}{nv:Sv}{tv:Nat→Sv}{hv:ByteArray→Sv}{vl vb:Sv}{l:List Nm}{head:ByteArray}
theorem trm2 (hw:Wf D) (hT:Tabs w0) (hp:PM w0 oc ⟨gc,98,[]⟩ Sc) (hSD:Sc.D=D) (rl:RdV LNm w0 l vl) {m:Nat} (hm:m < l.length) {v7:Sv} (r7:RdV LHt w0 (hitF (stD D) l[m].1) v7) {okH:Bool}{f:Int} (hf:f=if okH=true then 0 else 1)
  (rb:RdV LNm w0 (l.filter fun p=>okH && preB head p.1) vb) {J:Int→World→Prop} (hJ:∀w',Below w0.heap.size w0 w'→J (((l.take (m+1)).filter fun p=>okH && preB head p.1).length:Nat) w') :
  F8_j19 head vl.1 vl.2.1 (some ⟨gc,0,none⟩) vb.1 vb.2.1 f (((l.take m).filter fun p=>okH && preB head p.1).length:Nat) m J v7.1 v7.2.1 w0 R:=by
 unfold F8_j19
 have hfew:=hit_few hw l[m].1
 refine⟨fun k w'=>∃p:Nat,k=p∧p≤(hitF (stD D) l[m].1).length∧Below w0.heap.size w0 w',fun k _=>(hitF (stD D) l[m].1).length-k.toNat,⟨0,rfl,by omega,.refl _ _⟩,?_⟩
 rintro _ w1 ⟨p,rfl,hp1,hb1⟩
 unfold F8_l20
 refine brd (fun hlt=>?_) (fun hge=>?_)
 ·have hp2:p < (hitF (stD D) l[m].1).length:=by have:=r7.1;omega
  have hmem:(hitF (stD D) l[m].1)[p]∈hitF (stD D) l[m].1:=List.getElem_mem hp2
  obtain⟨s,hs,htx,hwd⟩:=stand_at hw hmem
  refine⟨fun w'=>Below w0.heap.size w0 w',?_,?_⟩
  ·intro w' hb
   unfold F8_j21
   exact⟨inR_i64 (by omega) (by omega),⟨p+1,by simp,by omega,hb⟩,(by first | omega | (dsimp only;omega))⟩
  refine (r7.keep hb1).2.2.idx r7.1 (by omega) (by have:=r7.1;omega) rfl fun b1 o1 c1=>?_
  simp only [Int.toNat_natCast] at c1
  have k0:=c1 0 _ rfl
  simp only [Nat.add_zero] at k0
  simp only [k0,lds]
  have hp1':PM w1 oc ⟨gc,98,[]⟩ Sc:=hp.below hb1
  refine Get_calls hp1' (by rw [hSD];exact hs) fun va w2 hb2 _=>⟨_,_,_,_,_,_,_,_,_,_,rfl,?_⟩
  refine al fun gs w3 hb3 bs hges=>?_
  simp only [Addr.add_mk,Nat.zero_add]
  refine st_blk bs (by simp) fun u1 q1 f1=>st_blk q1 (by simp) fun u2 q2 f2=>st_blk q2 (by simp) fun u3 q3 f3=>st_blk q3 (by simp) fun u4 q4 f4=>st_blk q4 (by simp) fun w4 b4 f5=>?_
  simp only [List.setIfInBounds_toArray,List.set_cons_zero,List.set_cons_succ] at b4
  have F4:Fm (·=gs) w3 w4:=(((f1.trans f2).trans f3).trans f4).trans f5
  have D4:Below w2.heap.size w2 w4:=hb3.trans (F4.toBelow hb3.size fun b hb e=>by have e:b=gs:=e;omega)
  have B2:=btr hb1 hb1.size hb2
  have B4:=btr B2 B2.size D4
  simp only [b4.cell,lds]
  refine wordsA_k s.text (hT.keep B4) fun v w5 hans=>?_
  obtain⟨A5,n5,c5,A6,n6,c6,rfl,hws⟩:=hans
  refine⟨_,_,_,_,_,_,_,rfl,?_⟩
  rw [if_pos htx] at hws
  rw [htx]
  have B5:=btr B4 B4.size hws.below
  obtain⟨x1,x2⟩:=hws.ws.rd
  obtain⟨y1,y2⟩:=hws.at_.rd
  rw [List.length_map] at x1 y1
  obtain⟨hq1,hq2⟩:=List.getElem?_eq_some_iff.1 hwd
  refine dr fun w6 hb6 _=>?_
  have B6:=btr B5 B5.size hb6
  have r76:=r7.keep B6
  have rl6:=rl.keep B6
  refine brn (fun h=>absurd rfl h) fun _=>?_
  refine brn (fun h=>absurd rfl h) fun _=>?_
  refine r76.2.2.idx r76.1 (by omega) (by have:=r7.1;omega) rfl fun b1 o1 c1=>?_
  simp only [Int.toNat_natCast] at c1
  have k1:=c1 1 _ rfl
  have k2:=c1 2 _ rfl
  simp only [Addr.add_mk,k1,k2,lds]
  clear c1
  refine brd (fun h=>absurd h (by omega)) fun _=>?_
  refine r76.2.2.idx r76.1 (by omega) (by have:=r7.1;omega) rfl fun b1 o1 c1=>?_
  simp only [Int.toNat_natCast] at c1
  have k1:=c1 1 _ rfl
  have k2:=c1 2 _ rfl
  simp only [Addr.add_mk,k1,k2,lds]
  clear c1
  refine brd (fun h=>absurd h (by omega)) fun _=>?_
  refine r76.2.2.idx r76.1 (by omega) (by have:=r7.1;omega) rfl fun b1 o1 c1=>?_
  simp only [Int.toNat_natCast] at c1
  have k1:=c1 1 _ rfl
  have k2:=c1 2 _ rfl
  simp only [Addr.add_mk,k1,k2,lds]
  clear c1
  refine (x2.keep hb6).str (by rw [List.length_map];exact x1) rfl (k:=(hitF (stD D) l[m].1)[p].2.1) (by rw [List.length_map];exact hq1) fun b3 o3 c3=>?_
  rw [List.getElem_map,hq2] at c3
  simp only [c3,lds]
  refine rl6.2.2.idx rl6.1 (by omega) (by have:=rl.1;omega) rfl fun b4 o4 c4=>?_
  simp only [Int.toNat_natCast] at c4
  have m0:=c4 0 _ rfl
  simp only [Nat.add_zero] at m0
  simp only [m0,lds]
  rw [bytes_eq,decide_eq_true rfl,Bool.not_true,Br_f]
  refine r76.2.2.idx r76.1 (by omega) (by have:=r7.1;omega) rfl fun b1 o1 c1=>?_
  simp only [Int.toNat_natCast] at c1
  have k1:=c1 1 _ rfl
  have k2:=c1 2 _ rfl
  simp only [Addr.add_mk,k1,k2,lds]
  clear c1
  refine (y2.keep hb6).idx (by rw [List.length_map];exact y1) (by omega) (by omega) rfl fun b5 o5 c5=>?_
  simp only [Int.toNat_natCast,List.getElem_map,hq2] at c5
  have n0:=c5 0 _ rfl
  simp only [Nat.add_zero] at n0
  simp only [n0,lds]
  refine r76.2.2.idx r76.1 (by omega) (by have:=r7.1;omega) rfl fun b1 o1 c1=>?_
  simp only [Int.toNat_natCast] at c1
  have k1:=c1 1 _ rfl
  have k2:=c1 2 _ rfl
  simp only [Addr.add_mk,k1,k2,lds]
  clear c1
  exact brn (fun h=>absurd rfl h) fun _=>B6
 ·have H:=hJ w1 hb1
  have hst:=filt_step (p:=fun q:Nm=>okH && preB head q.1) hm
  rw [hst] at H
  have rl1:=rl.keep hb1
  cases okH with
  | false =>
   rw [if_neg (by decide)] at hf
   rw [if_neg (by simp)] at H
   subst hf
   exact H
  | true =>
  rw [if_pos rfl] at hf
  subst hf
  rw [show ((0:Int) == 0)=true from rfl,Br_t]
  refine rl1.2.2.idx rl1.1 (by omega) (by have:=rl.1;omega) rfl fun b4 o4 c4=>?_
  simp only [Int.toNat_natCast] at c4
  have m0:=c4 0 _ rfl
  simp only [Nat.add_zero] at m0
  simp only [m0,lds]
  clear c4
  refine brd (fun hsz=>?_) (fun hsz=>?_)
  ·clear m0
   refine rl1.2.2.idx rl1.1 (by omega) (by have:=rl.1;omega) rfl fun b4 o4 c4=>?_
   simp only [Int.toNat_natCast] at c4
   have m0:=c4 0 _ rfl
   simp only [Nat.add_zero] at m0
   simp only [m0,lds]
   clear c4
   refine⟨by omega,by omega,by omega,?_⟩
   have e0:((head.size:Nat):Int).toNat=head.size:=Int.toNat_natCast _
   rw [bytes_eq,Int.toNat_zero,e0]
   have hpre:preB head l[m].1=decide (l[m].1.extract 0 head.size=head):=by unfold preB;rw [decide_eq_true (by omega),Bool.true_and]
   refine br (fun he=>?_) (fun he=>?_)
   ·have hq:(fun q:Nm=>true && preB head q.1) l[m]=true:=by dsimp only;rw [hpre,he];rfl
    rw [if_pos hq] at H
    have hat:=filt_at (p:=fun q:Nm=>true && preB head q.1) hm hq
    obtain⟨hn1,hn2⟩:=List.getElem?_eq_some_iff.1 hat
    have hcl:((l.take m).filter fun q:Nm=>true && preB head q.1).length≤l.length:=Nat.le_trans (List.length_filter_le _ _) (by rw [List.length_take];omega)
    have hll:=rl.2.1
    refine⟨fun w'=>Below w0.heap.size w0 w',fun w' hb=>?_,?_⟩
    ·unfold F8_j29
     have H:=hJ w' hb
     rw [hst,if_pos hq] at H
     exact⟨inR_i64 (by omega) (by omega),by simpa using H⟩
    refine dr fun w2 hb2 _=>?_
    have B2:=btr hb1 hb1.size hb2
    refine brd (fun h=>absurd h (by have:=rb.1;omega)) fun _=>?_
    refine (rb.keep B2).2.2.idx rb.1 (by omega) (by have:=rb.1;omega) rfl fun b5 o5 c5=>?_
    simp only [Int.toNat_natCast,hn2] at c5
    have a0:=c5 0 _ rfl
    have a1:=c5 1 _ rfl
    simp only [Nat.add_zero] at a0
    simp only [Addr.add_mk,a0,a1,lds]
    have rl2:=rl1.keep hb2
    refine rl2.2.2.idx rl2.1 (by omega) (by have:=rl.1;omega) rfl fun b6 o6 c6=>?_
    simp only [Int.toNat_natCast] at c6
    have p0:=c6 0 _ rfl
    have p1:=c6 1 _ rfl
    simp only [Nat.add_zero] at p0
    simp only [Addr.add_mk,p0,p1,lds]
    rw [nm_beq,Br_f]
    exact B2
   ·rw [if_neg (by rw [hpre,he];decide)] at H
    exact H
  ·rw [if_neg (by unfold preB;rw [decide_eq_false (by omega)];simp)] at H
   exact H
theorem trm3 (hx : IxR w0 gx gd mt mh D o S nv tv hv) (hT : Tabs w0) (hp : PM w0 oc ⟨gc, 98, []⟩ Sc) (hSD : Sc.D = D) (rl : RdV LNm w0 l vl) (hl : IsTm (stD D) ByteArray.empty l) {okH : Bool} {f : Int} (hf : f = if okH = true then 0 else 1)
    (rb : RdV LNm w0 (l.filter fun p => okH && preB head p.1) vb) (hK : ∀ w', Below w0.heap.size w0 w' → R (.returned (.bool true)) w') :
    ∃ (I : Int → Int → World → Prop) (m : Int → Int → World → Nat), I (0 : Int) (0 : Int) w0 ∧
     ∀ (n : Int) (i : Int) (w1_7 : World), I n i w1_7 → F8_l14 head (some ⟨gx, 0, none⟩) vl.1 vl.2.1 (some ⟨gc, 0, none⟩) vb.1 vb.2.1 f (fun n' i' w2 => I n' i' w2 ∧ m n' i' w2 < m n i w1_7) n i w1_7 R := by
  refine ⟨fun n i w' => ∃ m : Nat, i = m ∧ m ≤ l.length ∧ n = (((l.take m).filter fun p => okH && preB head p.1).length : Nat) ∧ Below w0.heap.size w0 w', fun _ i _ => l.length - i.toNat, ⟨0, rfl, by omega, rfl, .refl _ _⟩, ?_⟩
  rintro n _ w1 ⟨m, rfl, hm, rfl, hb1⟩
  unfold F8_l14
  have hll := rl.2.1
  refine brd (fun hlt => ?_) (fun hge => ?_)
  · have hm2 : m < l.length := by have := rl.1; omega
    refine ⟨fun n2 w' => n2 = (((l.take (m + 1)).filter fun p => okH && preB head p.1).length : Nat) ∧ Below w0.heap.size w0 w', ?_, ?_⟩
    · rintro n2 w' ⟨rfl, hb⟩
      unfold F8_j15
      exact ⟨inR_i64 (by omega) (by omega), ⟨m + 1, by simp, by omega, rfl, hb⟩, (by first | omega | (dsimp only; omega))⟩
    have rl1 := rl.keep hb1
    refine rl1.2.2.idx rl1.1 (by omega) (by have := rl.1; omega) rfl fun b4 o4 c4 => ?_
    simp only [Int.toNat_natCast] at c4
    have m0 := c4 0 _ rfl
    simp only [Nat.add_zero] at m0
    simp only [m0, lds]
    obtain ⟨_, hne, hcnt⟩ := (hl.mem l[m].1 l[m].2).1 (List.getElem_mem hm2)
    have ho1 := stand_one hx.wf hne
    have no1 : oneF l[m].1 = false → False := fun e => by rw [ho1] at e; cases e
    refine Find_calls (hx.keep hb1) (hT.keep hb1) l[m].1 (fun _ v7 w7 hb7 o7 => ⟨_, _, _, _, rfl, ?_⟩) fun e => (no1 e).elim
    have B7 := btr hb1 hb1.size hb7
    have hfw := hit_few hx.wf l[m].1
    have r7 := rdV_own o7 (by omega)
    refine ⟨fun w' => Below w7.heap.size w7 w', fun w8 hb8 => ?_, ?_⟩
    · have B8 := btr B7 B7.size hb8
      exact trm2 hx.wf (hT.keep B8) (hp.below B8) hSD (rl.keep B8) hm2 (r7.keep hb8) hf (rb.keep B8) fun w9 hb9 => ⟨rfl, btr B8 B8.size hb9⟩
    refine dr fun w8 hb8 _ => ?_
    have B8 := btr B7 B7.size hb8
    have rl8 := rl.keep B8
    refine brn (fun h => absurd rfl h) fun _ => ?_
    refine rl8.2.2.idx rl8.1 (by omega) (by have := rl.1; omega) rfl fun b5 o5 c5 => ?_
    simp only [Int.toNat_natCast] at c5
    have n0 := c5 0 _ rfl
    have n1 := c5 1 _ rfl
    simp only [Nat.add_zero] at n0
    simp only [Addr.add_mk, n1, lds]
    refine brn (fun h => absurd (by rw [r7.1, ← hcnt]) h) fun _ => ?_
    refine bre (fun h => absurd h (by have := r7.1; have := List.length_pos_iff.2 hne; omega)) fun _ => ?_
    refine brd (fun hpos => ?_) (fun _ => hb8)
    refine ⟨inR_i64 (by omega) (by omega), ?_⟩
    have e1 : (((m : Nat) : Int) - 1).toNat = m - 1 := by omega
    refine rl8.2.2.idx rl8.1 (by omega) (by have := rl.1; omega) rfl fun b6 o6 c6 => ?_
    have p0 := c6 0 _ rfl
    simp only [e1, Nat.add_zero] at p0
    simp only [p0, lds]
    refine rl8.2.2.idx rl8.1 (by omega) (by have := rl.1; omega) rfl fun b7 o7 c7 => ?_
    have q0 := c7 0 _ rfl
    simp only [Int.toNat_natCast, Nat.add_zero] at q0
    simp only [q0, lds]
    have hup : blt l[m - 1].1 l[m].1 = true := List.pairwise_iff_getElem.1 hl.up (m - 1) m (by omega) hm2 (by omega)
    unfold blt at hup
    rw [hup, Bool.not_true, Br_f]
    exact hb8
  · have hm2 : m = l.length := by have := rl.1; omega
    subst hm2
    rw [List.take_length]
    have : ((((l.filter fun p => okH && preB head p.1).length : Nat) : Int) == ((vb.2.1 : Nat) : Int)) = true := by rw [rb.1]; simp
    rw [this]
    exact hK w1 hb1
end
section
variable {W:World}{R:Ending→World→Prop}{A:Option Addr}{c:Nat}{xs:List E12}{ws:List ByteArray}{vw:Sv}
theorem termsS_calls (hT:Tabs W) (hr:Rd LAc W A c xs) (hx:∀x∈xs,RAc W x) (hl:xs.length≤1048576) (head:ByteArray) (hK:∀w',Below W.heap.size W w'→R (.returned (.bool true)) w') :
  Calls Tryz.prog 8 #[.slice A xs.length c,.string head] W R:=by
 refine ok8 A xs.length c head ?_
 unfold F8
 refine lives_calls hT fun w1 hb1=>⟨_,rfl,?_⟩
 rw [brnot,Br_t]
 refine played_calls (hT.keep hb1) (hr.keep hb1) (fun x h=>(hx x h).sub (sub_below hb1)) hl fun gp gd w2 o D vs vr kk hkk h2=>⟨_,rfl,?_⟩
 rw [Option.isNone_some,Br_f]
 refine New_calls h2.p h2.wf fun gx w3 hb3 hix=>⟨_,_,rfl,?_⟩
 have B2:=btr hb1 hb1.size h2.old
 have B3:=btr B2 B2.size hb3
 have h3:=h2.keep label_edr hb3
 refine⟨fun w'=>w'=w3,?_,brn (fun h=>absurd rfl h) fun _=>by rw [Option.isNone_some,Br_f]⟩
 rintro w4 rfl
 unfold F8_j9
 obtain⟨gd',mt,mh,o',S,nv,tv,hv,hix⟩:=hix
 have hT4:=hT.keep B3
 have hst:=st_few hix.wf
 refine Terms_calls hix fun vl w5 l hb5 ol htm=>⟨_,_,_,rfl,?_⟩
 have hll:l.length≤67108864:=by
  refine Nat.le_trans ?_ hst
  have:=nodup_sub (a:=l.map (·.1)) (b:=(stD D).map (·.1)) ?_ fun x hx=>?_
  ·simpa using this
  ·rw [List.Nodup,List.pairwise_map]
   exact htm.up.imp fun {a b} h e=>by rw [e,blt_irr] at h;cases h
  ·obtain⟨⟨a,n⟩,h1,rfl⟩:=List.mem_map.1 hx
   obtain⟨y,hy⟩:=hit_word ((htm.mem a n).1 h1).2.1
   exact List.mem_map.2 ⟨_,hy,rfl⟩
 have h5:=h3.keep label_edr hb5
 refine Tree_calls h5.p ?_
 intro gc bs oc w6 Sc hb6 hSD hp _ _ _
 refine⟨_,rfl,?_⟩
 have B6:=btr hb5 hb5.size hb6
 have T6:=btr B3 B3.size B6
 have r6:=(rdV_own ol (by omega)).keep hb6
 refine Begins_calls (hix.keep B6) (hT.keep T6) head (fun ho vb w7 lb hb7 ob htb=>⟨_,_,_,_,rfl,?_⟩) fun ho w7 hb7=>⟨_,_,_,_,rfl,?_⟩
 ·have e:=tm_unique htb (tm_head htm)
  subst e
  have B7:=btr B6 B6.size hb7
  have hlb:(l.filter fun p=>preB head p.1).length≤l.length:=List.length_filter_le _ _
  have hfe:(l.filter fun p=>preB head p.1)=l.filter fun p=>true && preB head p.1:=by simp only [Bool.true_and]
  have rb:RdV LNm w7 (l.filter fun p=>preB head p.1) vb:=rdV_own ob (by omega)
  rw [hfe] at rb
  exact trm3 (okH:=true) (hix.keep B7) (hT.keep (btr B3 B3.size B7)) (hp.below hb7) hSD (r6.keep hb7) htm rfl rb fun w8 hb8=>hK w8 (btr B3 B3.size (btr B7 B7.size hb8))
 ·have B7:=btr B6 B6.size hb7
  have hfe:(l.filter fun p=>false && preB head p.1)=[]:=by simp
  exact trm3 (okH:=false) (vb:=(none,0,0)) (hix.keep B7) (hT.keep (btr B3 B3.size B7)) (hp.below hb7) hSD (r6.keep hb7) htm rfl (by rw [hfe];exact rdV_nil _ _) fun w8 hb8=>hK w8 (btr B3 B3.size (btr B7 B7.size hb8))
end
end Go.Proofs.YtccplipiahdhiaaGreatDoor
namespace Go.Proofs.YtccplipiahdhiaaGreatDoor
open Go.RowKit Go.Deep Go.WideShapes Go.ChangeShapes
section
variable {H:Type}{enc:TypeId × Value→H}{P:Program}{W:World}{α:Type}
theorem cells_of_rows {L:Lay α}{w:World}{b o:Nat}:∀(xs:List α),(∀i (h:i < xs.length),∀j u,(L.cells xs[i])[j]?=some u→w.cell? ⟨b,o+i*L.n+j,none⟩=some u) →
  ∀j u,(L.all xs)[j]?=some u→w.cell? ⟨b,o+j,none⟩=some u:=by
 intro xs h j u hj
 have hlt:j < xs.length*L.n:=by rw [←L.all_length];exact (List.getElem?_eq_some_iff.1 hj).1
 have hi:j / L.n < xs.length:=(Nat.div_lt_iff_lt_mul L.pos).2 hlt
 have hr:j % L.n < L.n:=Nat.mod_lt _ L.pos
 have hd:j / L.n*L.n+j % L.n=j:=by rw [Nat.mul_comm];exact Nat.div_add_mod j L.n
 have:=h (j / L.n) hi (j % L.n) u (by rw [←L.all_at xs _ hi _ hr,hd];exact hj)
 rwa [Nat.add_assoc,hd] at this
end
end Go.Proofs.YtccplipiahdhiaaGreatDoor
namespace Go.Proofs.YtccplipiahdhiaaGreatDoor
open Go.RowKit Go.Deep Go.WideShapes Go.ChangeShapes Go.Vc
set_option linter.unusedSimpArgs false
set_option linter.unusedVariables false
set_option maxRecDepth 100000
theorem upto_one {H:Type} (d:DataW H):1≤Rows.uptoBulk d:=by
 cases d with
 | lit l=>cases l <;> simp only [Rows.uptoBulk] <;> omega
 | _=>simp only [Rows.uptoBulk];omega
theorem upto_len {H:Type}:∀(l:List (DataW H)),l.length≤Rows.uptoBulkAll l
 | []=>by simp
 | d :: l=>by
  have:=upto_len l
  have:=upto_one d
  simp only [Rows.uptoBulkAll,List.length_cons];omega
theorem upto_part {H:Type}{d:DataW H}:∀{l:List (DataW H)},d∈l→Rows.uptoBulk d≤Rows.uptoBulkAll l
 | e :: l,h=>by
  simp only [Rows.uptoBulkAll]
  rcases List.mem_cons.1 h with rfl | h
  ·omega
  ·have:=upto_part h;omega
theorem upto_small {H:Type}{d:DataW H}{l:List (DataW H)} (hk:Rows.uptoSmall H l=true) (h:d∈l):Rows.uptoBulk d≤1048576 :=
 Nat.le_trans (upto_part h) (of_decide_eq_true hk)
section
variable {H:Type}{enc:TypeId × Value→H}{P:Program}{W:World}{α:Type}
theorem trod_parts {t:TypeId}{fs:Array Field}{fuel:Nat}{cs:List Value}{x:DataW H × List MemPlace} (ht:P.underlying t=some (.struct fs)) (h:DataW.trod enc P W 0 (fun _=>true) true fuel t cs=some x) :
  cs.length=P.cellsOf t∧∀(i:Nat) (f:Field),fs[i]?=some f→∃n y,DataW.trod enc P W 0 (fun _=>true) true n f.type ((cs.drop f.offset).take (P.cellsOf f.type))=some y∧Rows.uptoBulk y.1 < Rows.uptoBulk x.1:=by
 obtain⟨xs,n,_,rfl,hl,hlen,hf⟩:=DataW.trod_struct ht h
 refine⟨hl,fun i f hi=>?_⟩
 have hlt:i < xs.length:=by rw [hlen];exact (Array.getElem?_eq_some_iff.1 hi).1
 refine⟨n,xs[i],?_,?_⟩
 ·rw [hf i f hi,List.getElem?_eq_getElem hlt]
 ·have:=upto_part (List.mem_map.2 ⟨xs[i],List.getElem_mem hlt,rfl⟩:xs[i].1∈xs.map (·.1))
  simp only [Rows.uptoBulk];omega
theorem open_bk [Inhabited α] (L:Lay α) (Q:α→Prop) {t e:TypeId}{fuel:Nat}{cs:List Value}{x:DataW H × List MemPlace} (h:DataW.trod enc P W 0 (fun _=>true) true fuel t cs=some x) (ht:P.underlying t=some (.slice e)) (hC:P.cellsOf e=L.n)
  (hel:∀(n:Nat) (cs:List Value) (y:DataW H × List MemPlace),DataW.trod enc P W 0 (fun _=>true) true n e cs=some y→Rows.uptoBulk y.1 < Rows.uptoBulk x.1→∃z:α,cs=L.cells z∧Q z) :
  ∃A c xs,cs=[.slice A xs.length c]∧Rd L W A c xs∧(∀y∈xs,Q y)∧xs.length≤Rows.uptoBulk x.1:=by
 rcases open_slice ht h with ⟨hcs,_⟩ | ⟨a,len,cap,m,n,D,Pl,hcs,_,hl,hm,hmm,hx,hi⟩
 ·exact⟨none,0,[],hcs,Rd.nil _ _,by simp,by simp⟩
 ·have hlm:len≤m:=by rw [hmm];simp;exact hl
  have hx1:=(Prod.mk.inj hx).1
  rw [hx1] at hel ⊢
  have hbulk:∀i,i < len→Rows.uptoBulk (D i) < Rows.uptoBulk (.slice ((List.range len).map D) ((List.range (m-len)).map fun j=>D (len+j))):=fun i hi=>by
   have:=upto_part (List.mem_map.2 ⟨i,List.mem_range.2 hi,rfl⟩:D i∈(List.range len).map D)
   simp only [Rows.uptoBulk];omega
  obtain⟨f,hfx⟩:=choose_lt (α:=α) (n:=len) (p:=fun i y=>(∀j u,(L.cells y)[j]?=some u→W.cell? ((a.add (i*L.n)).add j)=some u)∧Q y) (fun i hil=>by
   obtain⟨cs',h1,h2⟩:=hi i (by omega)
   obtain⟨y,rfl,hq⟩:=hel _ _ _ h2 (hbulk i hil)
   obtain⟨_,hlen,hat⟩:=World.cells?_some h1
   refine⟨y,fun j u hj=>?_,hq⟩
   rw [hC] at hat hlen
   rw [hat j (by rw [←L.len y];exact (List.getElem?_eq_some_iff.1 hj).1)]
   exact hj)
  refine⟨some a,cap,(List.range len).map f,by simpa using hcs,⟨by simpa using hl,hm,(fun h=>by cases h),fun h0=>?_⟩,fun y hy=>?_,?_⟩
  ·simp at h0
   have hspot:a.spot=Option.none:=by
    have hy:=(hfx 0 h0).1
    have hn:0 < (L.cells (f 0)).length:=by rw [L.len];exact L.pos
    have:=hy 0 _ (List.getElem?_eq_getElem hn)
    simp only [Nat.zero_mul,Addr.add,if_true] at this
    unfold World.cell? at this
    cases hs:a.spot with
    | none=>rfl
    | some q =>
     split at this
     ·rw [hs] at this;simp at this
     ·cases this
   obtain⟨b,o,s⟩:=a
   simp only at hspot
   subst hspot
   refine⟨b,o,rfl,cells_of_rows _ (fun i hi j u hj=>?_)⟩
   simp at hi hj
   have:=(hfx i hi).1 j u hj
   rw [Addr.add_lit,Addr.add_lit] at this
   exact this
  ·obtain⟨i,hi,rfl⟩:=List.mem_map.1 hy
   exact (hfx i (List.mem_range.1 hi)).2
  ·have:=upto_len ((List.range len).map D)
   simp only [Rows.uptoBulk,List.length_map,List.length_range] at this ⊢
   omega
theorem list2 {α:Type}{l:List α} (h:l.length=2):∃a b,l=[a,b]:=by
 match l,h with
 | [a,b],_=>exact⟨a,b,rfl⟩
theorem list5 {α:Type}{l:List α} (h:l.length=5):∃a b c d e,l=[a,b,c,d,e]:=by
 match l,h with
 | [a,b,c,d,e],_=>exact⟨a,b,c,d,e,rfl⟩
theorem list12 {α:Type}{l:List α} (h:l.length=12):∃a b c d e f g i j k m n,l=[a,b,c,d,e,f,g,i,j,k,m,n]:=by
 match l,h with
 | [a,b,c,d,e,f,g,i,j,k,m,n],_=>exact⟨a,b,c,d,e,f,g,i,j,k,m,n,rfl⟩
end
instance:Inhabited E5:=⟨⟨0,noB,(none,0,0),noB,(none,0,0)⟩⟩
instance:Inhabited At:=⟨⟨noB,noB⟩⟩
instance:Inhabited Ac:=⟨⟨0,0,false,0,0,noB,noB,.mk 0 noB [] noB []⟩⟩
instance:Inhabited E12:=⟨⟨default,default⟩⟩
theorem rtl_of {w:World}:∀(es:List E5),(∀e∈es,∃t,RTr w t e)→∃ts,RTl w ts es
 | [],_=>⟨[],by simp only [RTl]⟩
 | e :: es,h=>by
  obtain⟨t,ht⟩:=h e (by simp)
  obtain⟨ts,hts⟩:=rtl_of es fun x hx=>h x (by simp [hx])
  exact⟨t :: ts,by simp only [RTl];exact⟨e,es,rfl,ht,hts⟩⟩
section
variable {H:Type}{enc:TypeId × Value→H}{W:World}
theorem kStr:(Tryz.prog).cellsOf 9=1:=by kernel_rfl
theorem kInt:(Tryz.prog).cellsOf 3=1:=by kernel_rfl
theorem kBool:(Tryz.prog).cellsOf 4=1:=by kernel_rfl
theorem kHn:(Tryz.prog).cellsOf 65=1:=by kernel_rfl
theorem kAts:(Tryz.prog).cellsOf 81=1:=by kernel_rfl
theorem kTrs:(Tryz.prog).cellsOf 82=1:=by kernel_rfl
theorem kTr:(Tryz.prog).cellsOf 84=5:=by kernel_rfl
theorem kAt:(Tryz.prog).cellsOf 205=2:=by kernel_rfl
theorem at_cells (n:Nat) (cs:List Value) (x:DataW H × List MemPlace) (h:DataW.trod enc Tryz.prog W 0 (fun _=>true) true n 205 cs=some x):∃y:At,cs=LAt.cells y:=by
 obtain⟨hl,hp⟩:=trod_parts Tryz.underlying205 h
 obtain⟨a,b,rfl⟩:=list2 (hl.trans kAt)
 obtain⟨_,_,h0,-⟩:=hp 0 _ rfl
 obtain⟨_,_,h1,-⟩:=hp 1 _ rfl
 simp only [List.getElem_toArray,List.getElem_cons_zero,List.getElem_cons_succ,kStr,List.drop_zero,List.drop_succ_cons,List.take_succ_cons,List.take_zero] at h0 h1
 obtain⟨s,e0,-,-⟩:=DataW.trod_string Tryz.underlying9 h0
 obtain⟨t,e1,-,-⟩:=DataW.trod_string Tryz.underlying9 h1
 simp only [List.cons.injEq,and_true] at e0 e1
 subst e0 e1
 exact⟨⟨s,t⟩,rfl⟩
theorem ats_cells {n:Nat}{cs:List Value}{x:DataW H × List MemPlace} (h:DataW.trod enc Tryz.prog W 0 (fun _=>true) true n 81 cs=some x) (hx:Rows.uptoBulk x.1≤1048576):∃(v:Sv) (l:List At),cs=[.slice v.1 v.2.1 v.2.2]∧RR LAt W l v:=by
 obtain⟨A,c,l,e,hr,-,hlen⟩:=open_bk LAt (fun _=>True) h Tryz.underlying81 kAt fun n cs y hy _=>by
  obtain⟨z,hz⟩:=at_cells n cs y hy
  exact⟨z,hz,trivial⟩
 exact⟨(A,l.length,c),l,e,Nat.le_trans hlen hx,rfl,hr⟩
theorem tr_cells:∀(B:Nat),B≤1048576→∀(n:Nat) (cs:List Value) (x:DataW H × List MemPlace),DataW.trod enc Tryz.prog W 0 (fun _=>true) true n 84 cs=some x→Rows.uptoBulk x.1≤B →
  ∃(e:E5),cs=e.cells∧∃t,RTr W t e:=by
 intro B
 induction B using Nat.strongRecOn with
 | _ B ih =>
  intro hB n cs x h hx
  obtain⟨hl,hp⟩:=trod_parts Tryz.underlying84 h
  obtain⟨a,b,c,d,e,rfl⟩:=list5 (hl.trans kTr)
  obtain⟨_,_,h0,b0⟩:=hp 0 _ rfl
  obtain⟨_,_,h1,b1⟩:=hp 1 _ rfl
  obtain⟨_,_,h2,b2⟩:=hp 2 _ rfl
  obtain⟨_,_,h3,b3⟩:=hp 3 _ rfl
  obtain⟨_,y4,h4,b4⟩:=hp 4 _ rfl
  simp only [List.getElem_toArray,List.getElem_cons_zero,List.getElem_cons_succ,kInt,kStr,kAts,kTrs,List.drop_zero,List.drop_succ_cons,List.take_succ_cons,List.take_zero] at h0 h1 h2 h3 h4
  obtain⟨kd,e0,-,-⟩:=DataW.trod_int Tryz.underlying3 h0
  obtain⟨nm,e1,-,-⟩:=DataW.trod_string Tryz.underlying9 h1
  obtain⟨va,la,e2,ha⟩:=ats_cells h2 (by omega)
  obtain⟨tx,e3,-,-⟩:=DataW.trod_string Tryz.underlying9 h3
  obtain⟨A,c',es,e4,hr,hq,hlen⟩:=open_bk LE5 (fun e=>∃t,RTr W t e) h4 Tryz.underlying82 kTr fun n cs y hy hby=>ih (Rows.uptoBulk y.1) (by omega) (by omega) n cs y hy (Nat.le_refl _)
  simp only [List.cons.injEq,and_true] at e0 e1 e2 e3 e4
  subst e0 e1 e2 e3 e4
  obtain⟨ts,hts⟩:=rtl_of es hq
  refine⟨⟨kd,nm,va,tx,(A,es.length,c')⟩,rfl,.mk kd nm la tx ts,?_⟩
  simp only [RTr]
  exact⟨by trivial,by trivial,by trivial,ha,by rw [←hts.len];omega,es,rfl,hr,hts⟩
theorem hn_cells {n:Nat}{cs:List Value}{x:DataW H × List MemPlace} (h:DataW.trod enc Tryz.prog W 0 (fun _=>true) true n 65 cs=some x):∃k:Nat,k < 18446744073709551616∧cs=[.int .u64 (k:Nat)]:=by
 obtain⟨k,rfl,-,hw⟩:=DataW.trod_int Tryz.underlying65 h
 have hx:0≤k∧k≤18446744073709551615:=by simpa [Lit.wf,IntKind.min,IntKind.max,IntKind.signed,IntKind.bits] using hw
 exact⟨k.toNat,by omega,by rw [Int.toNat_of_nonneg hx.1]⟩
theorem ac_cells {n:Nat}{cs:List Value}{x:DataW H × List MemPlace} (h:DataW.trod enc Tryz.prog W 0 (fun _=>true) true n 143 cs=some x) (hx:Rows.uptoBulk x.1≤1048576):∃y:E12,cs=LAc.cells y∧RAc W y:=by
 obtain⟨hl,hp⟩:=trod_parts Tryz.underlying143 h
 have kAc:(Tryz.prog).cellsOf 143=12:=by kernel_rfl
 obtain⟨a,b,c,d,e,f,g,i,j,k,m,o,rfl⟩:=list12 (hl.trans kAc)
 obtain⟨_,_,h0,b0⟩:=hp 0 _ rfl
 obtain⟨_,_,h1,b1⟩:=hp 1 _ rfl
 obtain⟨_,_,h2,b2⟩:=hp 2 _ rfl
 obtain⟨_,_,h3,b3⟩:=hp 3 _ rfl
 obtain⟨_,_,h4,b4⟩:=hp 4 _ rfl
 obtain⟨_,_,h5,b5⟩:=hp 5 _ rfl
 obtain⟨_,_,h6,b6⟩:=hp 6 _ rfl
 obtain⟨_,_,h7,b7⟩:=hp 7 _ rfl
 simp only [List.getElem_toArray,List.getElem_cons_zero,List.getElem_cons_succ,kInt,kStr,kBool,kHn,kTr,List.drop_zero,List.drop_succ_cons,List.take_succ_cons,List.take_zero] at h0 h1 h2 h3 h4 h5 h6 h7
 obtain⟨q0,e0,-,-⟩:=DataW.trod_int Tryz.underlying3 h0
 obtain⟨q1,e1,-,-⟩:=DataW.trod_int Tryz.underlying3 h1
 obtain⟨q2,e2,-⟩:=DataW.trod_bool Tryz.underlying4 h2
 obtain⟨q3,l3,e3⟩:=hn_cells h3
 obtain⟨q4,l4,e4⟩:=hn_cells h4
 obtain⟨q5,e5,-,-⟩:=DataW.trod_string Tryz.underlying9 h5
 obtain⟨q6,e6,-,-⟩:=DataW.trod_string Tryz.underlying9 h6
 obtain⟨q7,e7,t,ht⟩:=tr_cells 1048576 (Nat.le_refl _) _ _ _ h7 (by omega)
 simp only [E5.cells,List.cons.injEq,and_true] at e0 e1 e2 e3 e4 e5 e6 e7
 obtain⟨e7,e8,e9,e10,e11⟩:=e7
 subst e0 e1 e2 e3 e4 e5 e6 e7 e8 e9 e10 e11
 exact⟨⟨⟨q0,q1,q2,q3,q4,q5,q6,t⟩,q7⟩,rfl,⟨l3,l4⟩,ht⟩
theorem acs_open {n:Nat}{cs:List Value}{x:DataW H × List MemPlace} (h:DataW.trod enc Tryz.prog W 0 (fun _=>true) true n 59 cs=some x) (hx:Rows.uptoBulk x.1≤1048576) :
  ∃(A:Option Addr) (c:Nat) (xs:List E12),cs=[.slice A xs.length c]∧Rd LAc W A c xs∧(∀y∈xs,RAc W y)∧xs.length≤1048576:=by
 obtain⟨A,c,l,e,hr,hq,hlen⟩:=open_bk LAc (RAc W) h Tryz.underlying59 (by kernel_rfl) fun n cs y hy hb=>ac_cells hy (by omega)
 exact⟨A,c,l,e,hr,hq,Nat.le_trans hlen hx⟩
end
set_option maxRecDepth 100000
section
variable {H:Type}{enc:TypeId × Value→H}{W:World}
end
end Go.Proofs.YtccplipiahdhiaaGreatDoor
/- SearchTerms: each word is found as often as it says; those that begin so are those of all that do. -/
namespace Go.Proofs.YtccplipiahdhiaaGreatDoor.searchTerms
open Go.ChangeShapes Go.WideShapes Go.ChangeAt Go.RowKit Go.Joins Go.Lib Go.Vc
open Go.ChangeMaps (open_string shut_string)
set_option maxRecDepth 100000
set_option linter.unusedVariables false
set_option linter.unusedSimpArgs false
theorem own : ownKnob Tryz.prog.godebug = none := by kernel_rfl
theorem laidOut : laidOutB Tryz.prog = true := by kernel_rfl
/-- A world in which the tables are laid. -/
noncomputable def laidWorld (os : Os) : World :=
  let w0 := World.holding Tryz.prog os ⟨#[], #[], []⟩
  let put (h : Array Obj) (g : Nat) (cs : Array Value) : Array Obj := h.modify g fun
    | .cells _ t frozen => .cells cs t frozen
    | o => o
  let h1 := put w0.heap 1 (Lib.firstTab.map fun z => Value.int .u8 z).toArray
  let h2 := put h1 2 ((List.range 16).flatMap fun i => [Value.int .u8 (Lib.accLo i), Value.int .u8 (Lib.accHi i)]).toArray
  { w0 with heap := h2 }
theorem laid_met (os : Os) : laidMet Tryz.prog Rows.searchTermsUptoRow.laid ((laidWorld os).forCall (fun _ _ => 0) ⟨#[], #[.slice none 0 0, .string ⟨#[]⟩], []⟩).memory :=
  (LaidIn.of_run (l := Rows.searchTermsUptoRow.laid) [2, 1] 8 (by kernel_rfl) (by kernel_rfl) (by kernel_rfl) (by kernel_rfl)).met
theorem u8Types : U8Types Tryz.prog decRen := { decLays with }
theorem tabs_of {W : World} (h : laidMet Tryz.prog Rows.searchTermsUptoRow.laid W) : Tabs W :=
  utf8Tabs_of_readsT (ρ := decRen) u8Types ⟨by kernel_rfl, by kernel_rfl, by kernel_rfl, by kernel_rfl, by kernel_rfl, by kernel_rfl, by kernel_rfl⟩
    (by rw [← Pinned.utf8First_eq]; exact Lib.laidMet.reads h (.tail _ (.head _))) (Lib.laidMet.reads h (.head _))
theorem reads (os : Os) {H : Type} (enc : TypeId × Value → H) : ∃ places, DataW.whole enc Tryz.prog ((laidWorld os).forCall (fun _ _ => 0) ⟨#[], #[.slice none 0 0, .string ⟨#[]⟩], []⟩).memory Tryz.f8.params.toList Rows.searchTermsSpec.vars false (#[.slice none 0 0, .string ⟨#[]⟩] : Array Value).toList 8 = some ([.nil, .lit (.string [])], [], places) :=
  ⟨[], by kernel_rfl⟩
theorem lifted (os : Os) (started : os.Started) (H : Type) (enc : TypeId × Value → H) (F : Stop.Interp) :
    ReturnsInHanded {} Tryz.checked os 8 .any ((Rows.OpenSpec.upto Rows.searchTermsSpec).preRow enc Tryz.prog Tryz.f8 Rows.searchTermsUptoRow.domain false Rows.searchTermsUptoRow.laid) (((Rows.OpenSpec.upto Rows.searchTermsSpec).at F).post enc Tryz.prog Tryz.f8 false true false false) := by
  obtain ⟨places, hx⟩ := reads os enc
  refine returnsInHanded_of_row (C := Tryz.checked) (s := Rows.OpenSpec.upto Rows.searchTermsSpec) own started (by kernel_rfl) Tryz.func8
    (witness_row_at (enc := enc) (C := Tryz.checked) false (laidWorld os) #[.slice none 0 0, .string ⟨#[]⟩] rfl (by kernel_rfl) (by kernel_rfl) (by kernel_rfl)
      (OpenSpec.preRow_of_cond 8 hx (by kernel_rfl) (fun k hk => by cases hk; kernel_rfl) (by kernel_rfl) (laid_met os))) ?_
  intro W base args ds gs before hval0 hW _ hcond hsz0 hL _ _
  rw [MakeChecks.laidMetH_plain _ _ _ (by kernel_rfl)] at hL
  have hT : Tabs W := tabs_of hL
  have hk : Rows.uptoSmall H (ds ++ gs) = true := hcond _ rfl
  have hval : ∀ (j : Nat) t v, Tryz.f8.params[j]? = some t → args[j]? = some v → Value.okWide Tryz.prog W .any base t v := hval0
  have hWw : DataW.Whole enc Tryz.prog Tryz.f8.params.toList Rows.searchTermsSpec.vars false W args.toList ds gs before := hW
  clear hW
  have hW := hWw
  obtain ⟨p, q, hA0, hV, rfl, hfz, hnd⟩ := hW
  have hW' := hWw
  have hA : DataW.TrodAll enc Tryz.prog W 0 (fun _ => true) true Tryz.f8.params.toList args.toList ds p := hA0
  rw [Tryz.params8] at hA hval
  obtain ⟨v0, vs0, d0, ds0, p0, q0, hargs, rfl, rfl, h0, r0⟩ := trodAll_cons hA
  obtain ⟨v1, vs1, d1, ds1, p1, q1, rfl, rfl, rfl, h1, r1⟩ := trodAll_cons r0
  obtain ⟨rfl, rfl, rfl⟩ := trodAll_nil r1
  obtain rfl : args = #[v0, v1] := by cases args; simp_all
  obtain ⟨rfl, rfl⟩ := trodVars_none hV
  have k0 := h0
  have lt0 : ∀ x ∈ p0, x.block < W.heap.size := by obtain ⟨m, hm⟩ := k0; exact DataW.trod_lt m _ _ _ hm
  have k1 := h1
  have lt1 : ∀ x ∈ p1, x.block < W.heap.size := by obtain ⟨m, hm⟩ := k1; exact DataW.trod_lt m _ _ _ hm
  clear hA0 hval0
  obtain ⟨la, ln, lc, rfl⟩ := okWide_slice Tryz.underlying59 (hval 0 59 _ rfl rfl)
  obtain ⟨hd, rfl, rfl, rfl, hdw⟩ := open_string Tryz.underlying9 (hval 1 9 _ rfl rfl) h1
  obtain ⟨fl, hfl⟩ := h0
  obtain ⟨A, c, xs, hle, hR, hQ, hlen⟩ := acs_open hfl (upto_small hk (by simp))
  simp [Value.cells] at hle
  obtain ⟨rfl, rfl, rfl⟩ := hle
  refine (termsS_calls (R := fun e W' => e = .returned (.bool true) ∧ Below W.heap.size W W') hT hR hQ hlen hd fun w' hb => ⟨rfl, hb⟩).mono fun e W' ⟨he, bel⟩ => ?_
  subst he
  exact ⟨_, rfl, _, _, _, [], _, [], hW', trodAll_mk1 (shut_bool Tryz.underlying4 _), (trodAll_cons_mk (Below.trod laidOut (by kernel_rfl) (of_decide_eq_true (by kernel_rfl)) k0 bel lt0) (trodAll_cons_mk (Below.trod laidOut (by kernel_rfl) (of_decide_eq_true (by kernel_rfl)) k1 bel lt1) trodAll_mk0)), rfl, bel.frame _, fun h => by cases h⟩
theorem said : Rows.SearchTermsUptoSaid :=
  OpenClaim.holds_of_cond 8 Tryz.f8 rfl rfl rfl rfl rfl rfl rfl ⟨rfl, rfl, rfl, rfl, rfl⟩ rfl rfl rfl rfl rfl (by kernel_rfl) Tryz.func8 (by kernel_rfl)
    (of_decide_eq_true (by kernel_rfl)) (by unfold Func.isWrapper; first | (rw [if_neg (of_decide_eq_false (by kernel_rfl))]; exact ⟨rfl, rfl⟩) | (rw [if_pos (of_decide_eq_true (by kernel_rfl))]; kernel_rfl))
    (fun os started H enc _ F => by rw [OpenClaim.pre_eq_preRow]; exact lifted os started H enc F)
theorem plain (f : FuncId) (fn : Func) (hf : Tryz.pinned.checked.prog.funcNamed "espalier/espalierlaw26.SearchTerms" = some f) (hfn : Tryz.pinned.checked.prog.funcs[f]? = some fn) :
    false = Tryz.pinned.checked.prog.looks [] ∧ ∀ (j : Nat) t, fn.params[j]? = some t → Tryz.pinned.checked.prog.wantsStandIn t = false := by
  obtain rfl : f = 8 := Option.some.inj ((show Tryz.prog.funcNamed "espalier/espalierlaw26.SearchTerms" = some 8 by kernel_rfl).symm.trans hf) |>.symm
  obtain rfl : fn = Tryz.f8 := (Option.some.inj (Tryz.func8.symm.trans hfn)).symm
  refine ⟨by kernel_rfl, fun j t ht => ?_⟩
  have hm : t ∈ Tryz.f8.params.toList := by simpa using Array.mem_of_getElem? ht
  have hall : (Tryz.f8.params.toList.all fun u => !Tryz.prog.wantsStandIn u) = true := by kernel_rfl
  exact (show Tryz.prog.wantsStandIn t = false by simpa using List.all_eq_true.1 hall t hm)
end Go.Proofs.YtccplipiahdhiaaGreatDoor.searchTerms
namespace Go.Proofs.YtccplipiahdhiaaGreatDoor
open Go.ChangeShapes Go.WideShapes Go.ChangeAt Go.RowKit Go.Joins Go.Lib
theorem searchTerms_holds : Rows.SearchTermsUptoCardSaid :=
  Claim7.holds_tied_plain_at .later [] _ _ _ _ searchTerms.said (fun _ h => by cases h) (by kernel_rfl) (fun _ h => by cases h) searchTermsUpto_row_tie rfl ⟨rfl, rfl⟩ (by kernel_rfl) rfl searchTerms.plain (by kernel_rfl)
#print axioms searchTerms_holds
end Go.Proofs.YtccplipiahdhiaaGreatDoor
