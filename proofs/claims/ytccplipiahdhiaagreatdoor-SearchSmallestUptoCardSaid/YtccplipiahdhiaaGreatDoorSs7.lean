/- SearchSmallest: each element with all words is one of the smallest, or around one. -/
import Derived.Test.YtccplipiahdhiaaGreatDoorProg
import Derived.Deep.Slices
import Derived.SizedLaws
import Derived.DataReads
import Derived.WideShapes
import Derived.Test.YtccplipiahdhiaaGreatDoorRows
import Derived.Lib.SmallJoins
import Derived.Test.YtccplipiahdhiaaGreatDoorCards
import Derived.Test.YtccplipiahdhiaaGreatDoorTie
import Derived.WalkKit
import Derived.RowKit3
import Derived.ProofKit
import Derived.OpenShut
import Derived.ShutString
import Derived.ChangeOld
import Derived.Below
import Derived.Carry
import Derived.LaidMore
import Derived.PinnedBridge
import Derived.Lib.LaidIn
import Derived.Lib.LaidU8T
import Derived.SevenTiedAt
import Derived.Stop.Joined
import Derived.Deep.DeepHandedRow
import Derived.JoinedCond
import Derived.Deep.CondSized
import Derived.Test.YtccplipiahdhiaaGreatDoorSs6
namespace Go.Proofs.YtccplipiahdhiaaGreatDoor
open Go.RowKit Go.Vc
set_option linter.unusedVariables false
set_option linter.unusedSimpArgs false
set_option maxRecDepth 100000
section
variable {w w0 w1:World}{o:Nat→Nat}{gx gd mt mh:Nat}{D:Im}{S:PS}{nv vw:Sv}{tv:Nat→Sv}{hv:ByteArray→Sv}{R:Ending→World→Prop}{ws:List ByteArray}
theorem looked_calls (hx:IxR w gx gd mt mh D o S nv tv hv) (hT:Tabs w) (hw:RdV LS w ws vw)
  (h1:canS ws=true→∀gl w' a s b,LkS w w' gl gx vw a s b (D.roots.flatMap (findF (slA D.sl) ws q1 65)) (D.roots.flatMap (findF (slA D.sl) ws (qS (slA D.sl) ws) 65)) (D.roots.flatMap (findF (slA D.sl) ws (qB (slA D.sl) ws) 65))→R (.returned (.tuple #[.pointer (some ⟨gl,0,none⟩),.int .i64 0])) w')
  (h0:canS ws=false→∀w',Below w.heap.size w w'→R (.returned (.tuple #[.pointer none,.int .i64 1])) w'):Calls Tryz.prog 45 #[.pointer (some ⟨gx,0,none⟩),.slice vw.1 vw.2.1 vw.2.2] w R:=by
 refine ok45 (some ⟨gx,0,none⟩) vw.1 vw.2.1 vw.2.2 ?_
 unfold F45
 refine all_calls ws vw hT hw fun w1 hb1=>⟨_,rfl,?_⟩
 rw [brnot]
 refine br (fun ho=>?_) (fun ho=>h0 ho w1 hb1)
 have h1:=h1 ho
 refine al fun gl w2 hb2 b2 hge=>?_
 have B2:=btr hb1 hb1.size hb2
 have x2:=hx.keep B2
 have hs1:=hb1.size
 have hs2:=hb2.size
 have hgl:=b2.lt
 have hwf:=hx.wf
 have hsd:=hx.sd
 subst hsd
 have hfew:(allD' S.D).length≤4096:=rootsAll_few hwf.s hwf.a
 have L2:LkS w w2 gl gx vw (none,0,0) (none,0,0) (none,0,0) [] [] []:=⟨B2,by omega,b2,Own.nil _ _ _ _,Own.nil _ _ _ _,Own.nil _ _ _ _,Apart.nil_r,Apart.nil_r,Apart.nil_r⟩
 have cg:w2.cell? ⟨gx,0,none⟩=some (.pointer (some ⟨gd,0,none⟩)):=by rw [x2.blk.cell];rfl
 simp only [NonNil_some,Addr.add_mk,Nat.zero_add,cg,lds]
 refine Roots_calls (θ:=⟨gd,98,[]⟩) x2.pm hwf.a ?_
 intro vr w3 hb3 or3
 refine⟨_,_,_,rfl,?_⟩
 have L3:=L2.below hb3
 have hs3:=hb3.size
 obtain⟨r1,r2⟩:=rdO or3
 have hrl:S.D.roots.length≤4096:=Nat.le_trans (live_few (fun y hy=>by obtain⟨u,u1,_⟩:=rootc hwf.a hy;exact⟨u,u1⟩) hwf.a.root.1) x2.pm.few
 refine⟨fun i w'=>∃(k:Nat) (a s b:Sv),i=k∧k≤S.D.roots.length∧LkS w w' gl gx vw a s b ((S.D.roots.take k).flatMap (findF (slA S.D.sl) ws q1 65)) ((S.D.roots.take k).flatMap (findF (slA S.D.sl) ws (qS (slA S.D.sl) ws) 65)) ((S.D.roots.take k).flatMap (findF (slA S.D.sl) ws (qB (slA S.D.sl) ws) 65)) ∧
   LkF gl w3 (none,0,0) (none,0,0) (none,0,0) w' a s b,fun i _=>S.D.roots.length-i.toNat,
  ⟨0,_,_,_,rfl,by omega,by simpa using L3,.refl⟩,?_⟩
 rintro _ w4 ⟨k,a,s,b,rfl,hk,L4,F4⟩
 unfold F45_l5
 refine brd (fun hlt=>?_) (fun hge=>?_)
 ·have hk2:k < S.D.roots.length:=by omega
  have or4:=own_fm or3 F4.fm fun x hx2 q=>by
   have:=(or3.lt x hx2).1
   rcases q with e | e | e | e
   ·omega
   ·cases e
   ·cases e
   ·cases e
  refine (rdO or4).2.hn r1 rfl hk2 fun bb oo cc=>?_
  simp only [cc,lds]
  obtain⟨u,hu,hc⟩:=rootc hwf.a (List.getElem_mem hk2)
  have hfl:=@flat_take_le (allA (slA S.D.sl) 65) S.D.roots (k+1)
  rw [flat_take hk2,List.length_append] at hfl
  have hfl2:((S.D.roots.take k).flatMap (allA (slA S.D.sl) 65)).length+(allA (slA S.D.sl) 65 S.D.roots[k]).length≤4096:=Nat.le_trans hfl hfew
  have hq:∀q,((S.D.roots.take k).flatMap (findF (slA S.D.sl) ws q 65)).length+(allA (slA S.D.sl) 65 S.D.roots[k]).length≤4096:=fun q=>by
   have:=flat_le2 (l:=S.D.roots.take k) fun y _=>find_len (A:=slA S.D.sl) (ws:=ws) (q:=q) 65 y
   omega
  refine below_calls hx hw 65 _ 1 hu hc rfl L4 ⟨hq _,hq _,hq _⟩ fun w5 r20 m21 a' s' b' L5 F5 _ _ _ _=>⟨_,_,_,rfl,?_⟩
  refine⟨inR_i64 (by omega) (by omega),⟨k+1,a',s',b',by simp,by omega,?_,F4.trans F5⟩,(by first | omega | (dsimp only;omega))⟩
  rw [flat_take hk2,flat_take hk2,flat_take hk2]
  exact L5
 ·have hk2:k=S.D.roots.length:=by omega
  subst hk2
  rw [List.take_length] at L4
  exact h1 gl w4 a s b L4
theorem inOrder_calls (hx:IxR w gx gd mt mh D o S nv tv hv) {l:List Nat}{v:Sv} (hl:RdV LHn w l v) (hK:∀v' w',Below w.heap.size w w'→Own LHn w' w.heap.size 65 (slV v') ((allD' D).filter fun n=>decide (n∈l))→R (.returned (slV v')) w') :
  Calls Tryz.prog 46 #[.pointer (some ⟨gx,0,none⟩),.slice v.1 v.2.1 v.2.2] w R:=by
 refine ok46 (some ⟨gx,0,none⟩) v.1 v.2.1 v.2.2 ?_
 unfold F46
 refine al fun g2 w1 hb1 b1 hge1=>?_
 have x1:=hx.keep hb1
 have l1:=hl.keep hb1
 have hfew:(allD' D).length≤4096:=rootsAll_few hx.wf.s hx.wf.a
 have cn:w1.cell? ⟨gx,1,none⟩=some (.slice nv.1 nv.2.1 nv.2.2):=by rw [x1.blk.cell];rfl
 simp only [NonNil_some,Addr.add_mk,Nat.zero_add,cn,lds]
 refine cloneHn x1.nod (by omega) fun v2 w2 hb2 o2=>⟨_,_,_,rfl,?_⟩
 have hs1:=hb1.size
 refine delFn (B:=w1.heap.size) (fun y=>!(l.any fun z=>decide (z=y))) o2 (by omega) (fun y hy w3 K R' f3 hK2=>⟨by kernel_rfl,?_⟩) fun v3 w3 o3 f3=>⟨_,_,_,rfl,?_⟩
 ·have B3:Below w1.heap.size w1 w3:=hb2.trans (f3.toBelow hb2.size fun x hx2 e=>by have:=(o2.lt x e).1;omega)
  refine ok78 y ⟨g2,0,none⟩ ?_
  unfold F78
  have b3:=b1.keep B3
  simp only [b3.cell,List.getElem?_toArray,List.getElem?_cons_zero,lds]
  exact containsHn l v y (l1.keep B3) ⟨_,rfl,hK2 w3 (.refl _ _)⟩
 ·have B3:Below w1.heap.size w1 w3:=hb2.trans (f3.toBelow hb2.size fun x hx2 e=>by have:=(o2.lt x e).1;omega)
  have e:((allD' D).filter fun y=>!!(l.any fun z=>decide (z=y)))=(allD' D).filter fun n=>decide (n∈l):=by
   congr 1;funext y
   rw [Bool.not_not,Bool.eq_iff_iff,List.any_eq_true,decide_eq_true_eq]
   exact⟨fun⟨z,h1,h2⟩=>by rw [decide_eq_true_eq] at h2;subst h2;exact h1,fun h1=>⟨y,h1,decide_eq_true rfl⟩⟩
  rw [e] at o3
  exact hK v3 w3 (btr hb1 hs1 B3) (o3.rebase fun x hx2=>by have:=(o3.lt x hx2).1;omega)
theorem All_calls (hx:IxR w gx gd mt mh D o S nv tv hv) (hT:Tabs w) (hw:RdV LS w ws vw) (h1:canS ws=true→∀v w',Below w.heap.size w w'→Own LHn w' w.heap.size 65 (slV v) (AllS D ws)→R (.returned (.tuple #[slV v,.int .i64 0])) w')
  (h0:canS ws=false→∀w',Below w.heap.size w w'→R (.returned (.tuple #[.slice none 0 0,.int .i64 1])) w'):Calls Tryz.prog 11 #[.pointer (some ⟨gx,0,none⟩),.slice vw.1 vw.2.1 vw.2.2] w R:=by
 refine ok11 (some ⟨gx,0,none⟩) vw.1 vw.2.1 vw.2.2 ?_
 unfold F11
 have hfew:(allD' D).length≤4096:=rootsAll_few hx.wf.s hx.wf.a
 refine looked_calls hx hT hw (fun ho gl w1 a s b L1=>⟨_,_,rfl,?_⟩) fun ho w1 hb1=>⟨_,_,rfl,?_⟩
 ·refine brn (fun hn=>absurd rfl hn) fun _=>?_
  have x1:=hx.keep L1.bel
  have c1:w1.cell? ⟨gl,2,none⟩=some (slV a):=by rw [L1.blk.cell];rfl
  unfold slV at c1
  simp only [NonNil_some,Addr.add_mk,Nat.zero_add,c1,lds]
  have hlen:=@flat_le2 (findF (slA D.sl) ws (q1) 65) (allA (slA D.sl) 65) D.roots fun y _=>find_len 65 y
  refine inOrder_calls (v:=a) x1 (rdV_own L1.oa (by unfold allD' at hfew;omega)) fun v w2 hb2 o2=>⟨_,_,_,rfl,?_⟩
  have hs:=L1.bel.size
  exact h1 ho v w2 (btr L1.bel hs hb2) (o2.rebase fun x hx2=>by have:=(o2.lt x hx2).1;omega)
 ·refine brn (fun hn=>?_) fun hn=>absurd hn (by decide)
  exact h0 ho w1 hb1
theorem Smallest_calls (hx:IxR w gx gd mt mh D o S nv tv hv) (hT:Tabs w) (hw:RdV LS w ws vw) (h1:canS ws=true→∀v w',Below w.heap.size w w'→Own LHn w' w.heap.size 65 (slV v) (SmallS D ws)→R (.returned (.tuple #[slV v,.int .i64 0])) w')
  (h0:canS ws=false→∀w',Below w.heap.size w w'→R (.returned (.tuple #[.slice none 0 0,.int .i64 1])) w'):Calls Tryz.prog 12 #[.pointer (some ⟨gx,0,none⟩),.slice vw.1 vw.2.1 vw.2.2] w R:=by
 refine ok12 (some ⟨gx,0,none⟩) vw.1 vw.2.1 vw.2.2 ?_
 unfold F12
 have hfew:(allD' D).length≤4096:=rootsAll_few hx.wf.s hx.wf.a
 refine looked_calls hx hT hw (fun ho gl w1 a s b L1=>⟨_,_,rfl,?_⟩) fun ho w1 hb1=>⟨_,_,rfl,?_⟩
 ·refine brn (fun hn=>absurd rfl hn) fun _=>?_
  have x1:=hx.keep L1.bel
  have c1:w1.cell? ⟨gl,3,none⟩=some (slV s):=by rw [L1.blk.cell];rfl
  unfold slV at c1
  simp only [NonNil_some,Addr.add_mk,Nat.zero_add,c1,lds]
  have hlen:=@flat_le2 (findF (slA D.sl) ws (qS (slA D.sl) ws) 65) (allA (slA D.sl) 65) D.roots fun y _=>find_len 65 y
  refine inOrder_calls (v:=s) x1 (rdV_own L1.os (by unfold allD' at hfew;omega)) fun v w2 hb2 o2=>⟨_,_,_,rfl,?_⟩
  have hs:=L1.bel.size
  exact h1 ho v w2 (btr L1.bel hs hb2) (o2.rebase fun x hx2=>by have:=(o2.lt x hx2).1;omega)
 ·refine brn (fun hn=>?_) fun hn=>absurd hn (by decide)
  exact h0 ho w1 hb1
theorem Best_calls (hx:IxR w gx gd mt mh D o S nv tv hv) (hT:Tabs w) (hw:RdV LS w ws vw) (h1:canS ws=true→∀v w',Below w.heap.size w w'→Own LHn w' w.heap.size 65 (slV v) (BestS D ws)→R (.returned (.tuple #[slV v,.int .i64 0])) w')
  (h0:canS ws=false→∀w',Below w.heap.size w w'→R (.returned (.tuple #[.slice none 0 0,.int .i64 1])) w'):Calls Tryz.prog 13 #[.pointer (some ⟨gx,0,none⟩),.slice vw.1 vw.2.1 vw.2.2] w R:=by
 refine ok13 (some ⟨gx,0,none⟩) vw.1 vw.2.1 vw.2.2 ?_
 unfold F13
 have hfew:(allD' D).length≤4096:=rootsAll_few hx.wf.s hx.wf.a
 refine looked_calls hx hT hw (fun ho gl w1 a s b L1=>⟨_,_,rfl,?_⟩) fun ho w1 hb1=>⟨_,_,rfl,?_⟩
 ·refine brn (fun hn=>absurd rfl hn) fun _=>?_
  have x1:=hx.keep L1.bel
  have c1:w1.cell? ⟨gl,4,none⟩=some (slV b):=by rw [L1.blk.cell];rfl
  unfold slV at c1
  simp only [NonNil_some,Addr.add_mk,Nat.zero_add,c1,lds]
  have hlen:=@flat_le2 (findF (slA D.sl) ws (qB (slA D.sl) ws) 65) (allA (slA D.sl) 65) D.roots fun y _=>find_len 65 y
  refine inOrder_calls (v:=b) x1 (rdV_own L1.ob (by unfold allD' at hfew;omega)) fun v w2 hb2 o2=>⟨_,_,_,rfl,?_⟩
  have hs:=L1.bel.size
  exact h1 ho v w2 (btr L1.bel hs hb2) (o2.rebase fun x hx2=>by have:=(o2.lt x hx2).1;omega)
 ·refine brn (fun hn=>?_) fun hn=>absurd hn (by decide)
  exact h0 ho w1 hb1
end
set_option maxRecDepth 100000
def WAns (s:ByteArray) (w:World) (v:Value) (w':World):Prop :=
 (∃A n c A2 n2 c2,v=.tuple #[.slice A n c,.slice A2 n2 c2,.int .i64 (textS s).2]∧WS w (.slice A n c) (.slice A2 n2 c2) (if (textS s).2=0 then wordsF s 0 else []) w')
theorem WS.start {w0 w1 w:World}{v u:Value}{l:List (ByteArray × Nat)} (hb:Below w0.heap.size w0 w1) (h:WS w1 v u l w):WS w0 v u l w :=
 ⟨hb.trans (h.below.mono hb.size),h.ws.rebase fun k hk=>Nat.le_trans hb.size (h.ws.lt k hk).1,h.at_.rebase fun k hk=>Nat.le_trans hb.size (h.at_.lt k hk).1,h.ap⟩
theorem wordsA_k (s:ByteArray) {w:World} (hT:Tabs w) {R:Ending→World→Prop} (h:∀v w',WAns s w v w'→R (.returned v) w'):Calls Tryz.prog 36 #[.string s] w R:=by
 refine ok36 s ?_
 unfold F36
 refine textA_k s hT fun w1 hb=>⟨_,_,rfl,?_⟩
 refine brn (fun hne=>?_) (fun he=>?_)
 ·refine h _ _ ⟨_,_,_,_,_,_,rfl,?_⟩
  rw [if_neg (by omega)]
  exact⟨hb,Own.nil _ _ _ _,Own.nil _ _ _ _,Apart.nil_r⟩
 ·have he':(textS s).2=0:=by omega
  refine words_calls s (textS_ok he') fun A n c A2 n2 c2 w2 hw=>⟨_,_,_,_,_,_,rfl,h _ _ ⟨_,_,_,_,_,_,by rw [he'];rfl,?_⟩⟩
  rw [if_pos he']
  exact hw.start hb
set_option maxRecDepth 100000
section
variable {w w1 w2:World}{o o1 o2:Nat→Nat}{g k:Nat}{ty:TypeId}{M:Nat→Prop}{R:Ending→World→Prop}{D:Im}{E:Nat→Option (Nat × Nat)}{S:PS}{θ:Th}
theorem AllT0_calls (h:PM w o θ S) (hS:WfS S.D.sl) (hA:WfA (slA S.D.sl) S.D.roots [])
  (hK:∀v' w',Below w.heap.size w w'→R (.returned (.tuple #[slV v',.int .i64 0])) w'):Calls Tryz.prog 56 #[.pointer (some ⟨θ.g,0,none⟩),.int .u64 0] w R:=by
 refine ok56 (some ⟨θ.g,0,none⟩) 0 ?_
 unfold F56
 refine bre (fun _=>?_) (fun e=>absurd rfl e)
 obtain⟨nv,rv,hd⟩:=h.doc
 obtain⟨A,c,hvf,hrd⟩:=hd.r1.form
 have e1:=slvF hvf
 have cv':w.cell? ⟨θ.g,1,none⟩=some (.slice rv.1 rv.2.1 rv.2.2):=by rw [hd.blk.cell];rfl
 simp only [NonNil_some,Addr.add_mk,Nat.zero_add,cv',lds]
 have hf:=rootsAll_few hS hA
 refine allP_calls h hA 65 (l:=S.D.roots) (v:=rv) (cc:=1) (xs:=[]) (by rw [e1];simp) (by rw [e1];exact hrd) h.rts.2 (fun y hy=>by
  obtain⟨_,t,ht,tp⟩:=hA.root.2 y hy
  exact⟨t,ht,.succ (hA.ne0 ht) ht (by rw [tp];exact .zero)⟩) (by omega) (Below.refl _ _) (.inl ⟨rfl,rfl⟩) (by simp only [List.length_nil];omega) fun A' n' c' w' hb' ho'=>⟨A',n',c',rfl,hK (A',n',c') w' hb'⟩
theorem del_word (hw:Wf D) {n:Nat}{s:Sl} (hn:slA D.sl n=some s):(delF D n).1.roots.flatMap (wrd (slA (delF D n).1.sl) (dropE E (allA (slA D.sl) 65 n)) 65)=(setR D.roots s.parent ((lstA (slA D.sl) D.roots s.parent).erase n)).flatMap (wrd (setA (slA D.sl) s.parent ((lstA (slA D.sl) D.roots s.parent).erase n)) E 65)∧(∀y,(∃t,slA (delF D n).1.sl y=some t)↔y∉allA (slA D.sl) 65 n∧∃t,slA D.sl y=some t):=by
 have hwf:=del_wf hw n
 obtain⟨o1,o2,o3,o4⟩:=out_wf hw hn
 have hl0:∀z,z∈([]:List Nat)→z=n∨¬Wi (slA D.sl) n z:=fun z hz=>by simp at hz
 have hpa:∀x t,slA D.sl x=some t→∃u,slA (outI D n).sl x=some u∧u.parent=t.parent:=by rw [o3];exact setA_pa
 obtain⟨r1,r2⟩:=killF_A (allA (slA D.sl) 65 n) (outI D n).sl o1 (all_nodup hw.a 65 n ⟨s,hn⟩ hl0) fun x hx=>by
  obtain⟨t,ht⟩:=all_live hw.a ⟨s,hn⟩ hl0 hx
  obtain⟨u,hu,_⟩:=hpa x t ht
  exact⟨u,hu⟩
 have hD:(delF D n).1={ outI D n with sl:=killF (outI D n).sl (allA (slA D.sl) 65 n) }:=by unfold delF;rw [hn]
 rw [hD] at hwf ⊢
 dsimp only at hwf ⊢
 have o4':(outI D n).roots=setR D.roots s.parent ((lstA (slA D.sl) D.roots s.parent).erase n):=o4
 have o3':slA (outI D n).sl=setA (slA D.sl) s.parent ((lstA (slA D.sl) D.roots s.parent).erase n):=o3
 constructor
 ·rw [←o4',←o3']
  refine flat_congr fun z hz=>?_
  obtain⟨_,u,u1,_⟩:=hwf.a.root.2 z hz
  refine (wrd_congr2 hwf.a 65 z u1 fun y hy=>?_).symm
  obtain⟨t,ht⟩:=all_live hwf.a ⟨u,u1⟩ (fun z hz=>by simp at hz) hy
  have ht':slA (killF (outI D n).sl (allA (slA D.sl) 65 n)) y=some t:=ht
  have hyL:y∉allA (slA D.sl) 65 n:=fun e=>by rw [r2,if_pos e] at ht';cases ht'
  refine⟨?_,?_⟩
  ·show slA (outI D n).sl y=slA (killF (outI D n).sl (allA (slA D.sl) 65 n)) y
   rw [r2,if_neg hyL]
  ·unfold dropE;rw [if_neg hyL]
 ·intro y
  rw [r2]
  by_cases hyL:y∈allA (slA D.sl) 65 n
  ·rw [if_pos hyL]
   exact⟨fun⟨t,ht⟩=>(by cases ht),fun h=>absurd hyL h.1⟩
  ·rw [if_neg hyL,o3']
   constructor
   ·rintro ⟨t,ht⟩
    obtain⟨u,hu,_⟩:=setA_live ht
    exact⟨hyL,u,hu⟩
   ·rintro ⟨_,t,ht⟩
    obtain⟨u,hu,_⟩:=setA_of' (p:=s.parent) (l:=(lstA (slA D.sl) D.roots s.parent).erase n) ht
    exact⟨u,hu⟩
theorem deleteL_calls (h:LD k g ty w o D) (hk:k < 1099511627776) (hw:Wf D) {n:Nat} (hn:n < 18446744073709551616)
  (hK:∀w' o',LD (k+1) g ty w' o' (delF D n).1→EvA w o w' o'→R (.returned (.int .i64 (delF D n).2)) w') :
  Calls Tryz.prog 218 #[.pointer (some ⟨g,0,none⟩),.int .u64 (n:Nat)] w R:=by
 refine ok218 (some ⟨g,0,none⟩) n ?_
 unfold F218
 obtain⟨S,nms,gv,E,rfl,hL⟩:=h
 obtain⟨tl,hp,hback⟩:=hL.x.tree
 have hgv:=hL.gv_
 have hbad:slA S.D.sl n=none→∀w',Below w.heap.size w w'→R (.returned (.int .i64 8)) w':=fun hs w' hb=>by
  have e:delF S.D n=(S.D,8):=by unfold delF;rw [hs]
  rw [e] at hK
  exact hK w' o ⟨S,nms,gv,E,rfl,hL.x.below hb,hL.pi,hL.word,hL.def1,hL.def2,by omega⟩ (EvA.below hb)
 rw [NonNil_some]
 by_cases h0:n=0
 ·subst h0
  refine AllT0_calls (θ:=⟨g,ty,tl⟩) hp hw.s hw.a fun v w1 hb1=>⟨_,_,_,_,rfl,fun _=>False,fun _ h=>h.elim,brn (fun e=>absurd rfl e) fun _=>bre (fun _=>hbad (slA_zero _) w1 hb1) fun e=>absurd rfl e⟩
 refine AllT_calls (θ:=⟨g,ty,tl⟩) hp hw.s hw.a hn h0 fun v w1 hb1 hv=>⟨_,_,_,_,rfl,?_⟩
 cases hs:slA S.D.sl n with
 | none =>
  refine⟨fun _=>False,fun _ h=>h.elim,?_⟩
  rw [if_neg (by simp)]
  exact brn (fun _=>hbad hs w1 hb1) (fun e=>absurd e (by decide))
 | some s =>
 have hv:=hv s hs
 refine⟨fun w'=>w1=w',?_,?_⟩
 rotate_left
 ·rw [if_pos (by simp)]
  exact brn (fun e=>absurd rfl e) fun _=>bre (fun e=>absurd (by omega) h0) fun _=>rfl
 rintro _ rfl
 unfold F218_j4
 have hx1:=hL.x.below hb1
 have hE0:E 0=none:=Classical.byContradiction fun e=>by
  obtain⟨t,ht⟩:=hL.def1 0 e
  rw [hw.a.zero] at ht;cases ht
 obtain⟨X,Y,a1,b1,l1⟩:=attach (E:=E) (E':=E) hw.a hs hE0 (fun _ _=>rfl)
 obtain⟨lbs0,hI⟩:=hL.x.I
 have hnm:nms=X++wrd (slA S.D.sl) E 65 n++Y:=by rw [hL.word];exact a1
 have hXne:X≠[]:=fun e=>by rw [e] at l1;cases l1
 have h0X:0∈X:=by
  cases X with
  | nil=>exact absurd rfl hXne
  | cons x X =>
   have:=hI.h0
   rw [hnm] at this
   have:x=0:=by simpa using this
   rw [this];exact List.mem_cons_self ..
 obtain⟨hT,hmem⟩:=tgd_of (E:=E) hw.a hs (X:=X) (Y:=Y) (by rw [←hnm];exact hI.nd) h0X hL.def2
 have hfew:(allA (slA S.D.sl) 65 n).length≤4096:=all_fewP hw.s hw.a ⟨s,hs⟩
 obtain⟨dw1,dw2⟩:=del_word (E:=E) hw hs
 rcases hx1 with ⟨bs,lbs,mb,wr,em,hM⟩ | ⟨-,-,-,hz⟩
 rotate_left
 ·exact absurd (hz n) (hL.def2 n s hs)
 cases em with
 | none=>exact absurd (hM.e n) (hL.def2 n s hs)
 | some eb =>
 have hlt:=hL.x.lt
 refine untag_calls (v:=v) hM hv (fun b hb=>Classical.byContradiction fun e=>by have:=hlt b e;have:=(hv.lt b hb).1;omega) (by omega) (by rw [hnm];exact hT) fun w2 bs2 lbs2 h2 ev2=>⟨rfl,?_⟩
 rw [NonNil_some]
 have hx2:LX w2 o g ty S (untagN E (allA (slA S.D.sl) 65 n) nms) gv (dropE E (allA (slA S.D.sl) 65 n)):=.inl ⟨bs2,lbs2,mb,wr,some eb,h2⟩
 obtain⟨tl2,hp2,hback2⟩:=hx2.tree
 refine delete_calls (θ:=⟨g,ty,tl2⟩) hp2 hL.pi hw hn fun w3 o3 S3 p3 i3 d3 ev3=>⟨_,rfl,?_⟩
 have hx3:=hback2 w3 o3 S3 p3 ev3
 refine hK w3 o3 ⟨S3,_,gv,_,d3,hx3,i3,?_,fun y hy=>?_,fun y t ht=>?_,by omega⟩ (((EvA.below hb1).tr ev2.a).tr (EvC.a ev3))
 ·rw [d3,dw1,b1,hnm]
  exact untag_word (by rw [←hnm];exact hI.nd) hmem
 ·rw [d3]
  unfold dropE at hy
  by_cases hyL:y∈allA (slA S.D.sl) 65 n
  ·rw [if_pos hyL] at hy;exact absurd rfl hy
  ·rw [if_neg hyL] at hy
   exact (dw2 y).2 ⟨hyL,hL.def1 y hy⟩
 ·rw [d3] at ht
  obtain⟨hyL,u,hu⟩:=(dw2 y).1 ⟨t,ht⟩
  unfold dropE
  rw [if_neg hyL]
  exact hL.def2 y u hu
end
set_option maxRecDepth 100000
section
variable {D:Im}{E:Nat→Option (Nat × Nat)}
theorem mov_att (hw:Wf D) {n a:Nat}{wh:Int} (h0:(movF D n wh a).2=0):∃s s',slA D.sl n=some s∧Att (slA (delF D n).1.sl) (delF D n).1.roots (slA (movF D n wh a).1.sl) (movF D n wh a).1.roots n s'∧(∀y,y∈allA (slA (movF D n wh a).1.sl) 65 n↔y∈allA (slA D.sl) 65 n):=by
 have hwf:=mov_wf hw n wh a
 have hdf:=del_wf hw n
 unfold movF at h0 hwf ⊢
 by_cases h1:(placeF D wh a).2=1
 ·rw [if_pos h1] at h0;cases h0
 rw [if_neg h1] at h0 hwf ⊢
 by_cases h2:slA D.sl n=none∨(placeF D wh a).2=8
 ·rw [if_pos h2] at h0;cases h0
 rw [if_neg h2] at h0 hwf ⊢
 by_cases h3:a≠0∧wiI D n a=true
 ·rw [if_pos h3] at h0;cases h0
 rw [if_neg h3] at h0 hwf ⊢
 by_cases h4:(placeF D wh a).2≠0
 ·rw [if_pos h4] at h0;exact absurd h0 h4
 rw [if_neg h4] at h0 hwf ⊢
 by_cases h5:64 < cntI D (placeF D wh a).1+dpA (slA D.sl) 65 n
 ·rw [if_pos h5] at h0;cases h0
 rw [if_neg h5] at hwf ⊢
 obtain⟨s,hs⟩:∃s,slA D.sl n=some s:=by
  cases hs:slA D.sl n with
  | none=>exact absurd (.inl hs) h2
  | some s=>exact⟨s,rfl⟩
 have h4':(placeF D wh a).2=0:=by simpa using h4
 obtain⟨m1,m2,m3,m4⟩:=mov_facts hw hs h3 h4'
 obtain⟨p1,p2,p3,p4,p5,p6⟩:=place_ok hw h4'
 obtain⟨o1,o2,o3,o4⟩:=out_wf hw hs
 generalize placeF D wh a=pr at *
 obtain⟨p,pe⟩:=pr
 dsimp only at *
 have n0:=hw.a.ne0 hs
 have hs1:slA (outI D n).sl n=some s:=by rw [o3,setA_of hs,if_neg (fun e=>m3 e.1)]
 have pe1:p=0∨∃t,slA (outI D n).sl p=some t:=by
  rcases p1 with e | ⟨t,ht,_⟩
  ·exact .inl e
  ·rw [o3]
   obtain⟨u,u1,_⟩:=setA_of' (p:=s.parent) (l:=(lstI D s.parent).erase n) ht
   exact .inr ⟨u,u1⟩
 obtain⟨X,hX⟩:∃X,X=insAt (lstI (outI D n) p) (posF wh a (lstI (outI D n) p)) n:=⟨_,rfl⟩
 have hput:putI (outI D n) n p wh a=setI (outI D n) p X:=by unfold putI;rw [←hX]
 rw [hput] at hwf ⊢
 obtain⟨e1,e2⟩:=setI_A (D:=outI D n) (l:=X) pe1
 have hs2:slA (setI (outI D n) p X).sl n=some s:=by rw [e1,setA_of hs1,if_neg (fun e=>m2 e.1)]
 have e3:∀y,slA (updI (setI (outI D n) p X) n fun s=>{ s with parent:=p }).sl y=if y=n then some { s with parent:=p } else slA (setI (outI D n) p X).sl y:=fun y=>by
  exact slA_modify (f:=fun s:Sl=>{ s with parent:=p }) hs2 rfl (show s.live=true from slA_live hs2) y
 have e4:(updI (setI (outI D n) p X) n fun s=>{ s with parent:=p }).roots=setR (outI D n).roots p X:=e2
 have hl0:∀z,z∈([]:List Nat)→z=n∨¬Wi (slA D.sl) n z:=fun z hz=>by simp at hz
 have hpa:∀x t,slA D.sl x=some t→∃u,slA (outI D n).sl x=some u∧u.parent=t.parent:=by rw [o3];exact setA_pa
 have hap:∀x t,slA (outI D n).sl x=some t→∃u,slA D.sl x=some u∧u.parent=t.parent:=by rw [o3];exact setA_ap
 obtain⟨r1,r2⟩:=killF_A (allA (slA D.sl) 65 n) (outI D n).sl o1 (all_nodup hw.a 65 n ⟨s,hs⟩ hl0) fun x hx=>by
  obtain⟨t,ht⟩:=all_live hw.a ⟨s,hs⟩ hl0 hx
  obtain⟨u,hu,_⟩:=hpa x t ht
  exact⟨u,hu⟩
 have hD:(delF D n).1={ outI D n with sl:=killF (outI D n).sl (allA (slA D.sl) 65 n) }:=by unfold delF;rw [hs]
 rw [hD] at hdf ⊢
 have hnL:n∈allA (slA D.sl) 65 n:=by rw [allA_some hs];exact List.mem_cons_self ..
 have hnl:n∉lstI (outI D n) p:=fun hm=>((o2.lst p).2 n hm).1 (by simp)
 have hXe:X.erase n=lstI (outI D n) p:=by rw [hX];exact insAt_erase hnl
 have hA':slA (updI (setI (outI D n) p X) n fun s=>{ s with parent:=p }).sl=fun y=>if y=n then some { s with parent:=p } else setA (slA (outI D n).sl) p X y:=by
  funext y;rw [e3,e1]
 have hwa:=hwf.a
 rw [hA',e4] at hwa
 rw [hA',e4]
 have hL:lstA (fun y=>if y=n then some { s with parent:=p } else setA (slA (outI D n).sl) p X y) (setR (outI D n).roots p X) p=X:=by
  by_cases hp0:p=0
  ·subst hp0;rw [lstA_zero];unfold setR;rw [if_pos rfl]
  ·obtain⟨t,ht⟩:=pe1.resolve_left hp0
   have:(if p=n then some { s with parent:=p } else setA (slA (outI D n).sl) p X p)=some { t with kids:=X }:=by
    rw [if_neg (fun e=>m2 e.symm)]
    unfold setA;rw [if_pos ⟨rfl,hp0⟩,ht];rfl
   rw [lstA_some hp0 this]
 refine⟨s,{ s with parent:=p },hs,⟨hdf.a,hwa,if_pos rfl,?_,?_,fun y t hy=>?_⟩,fun y=>?_⟩
 ·show slA (killF (outI D n).sl (allA (slA D.sl) 65 n)) n=none
  rw [r2,if_pos hnL]
 ·show setR (setR (outI D n).roots p X) p ((lstA _ (setR (outI D n).roots p X) p).erase n)=(outI D n).roots
  rw [hL,hXe]
  unfold setR
  by_cases hp0:p=0
  ·rw [if_pos hp0,hp0];unfold lstI;exact lstA_zero
  ·rw [if_neg hp0,if_neg hp0]
 ·have hy':slA (killF (outI D n).sl (allA (slA D.sl) 65 n)) y=some t:=hy
  rw [r2] at hy'
  have hyL:y∉allA (slA D.sl) 65 n:=fun e=>by rw [if_pos e] at hy';cases hy'
  rw [if_neg hyL] at hy'
  have hyn:y≠n:=fun e=>hyL (by rw [e];exact hnL)
  show setA _ p ((lstA _ (setR (outI D n).roots p X) p).erase n) y=some t
  rw [hL,hXe]
  unfold setA
  by_cases hc:y=p∧p≠0
  ·rw [if_pos hc]
   dsimp only
   rw [if_neg hyn,if_pos hc,hy']
   have:lstI (outI D n) p=t.kids:=by unfold lstI;rw [←hc.1];exact lstA_some (by rw [hc.1];exact hc.2) hy'
   simp only [Option.map_some,this]
  ·rw [if_neg hc]
   dsimp only
   rw [if_neg hyn,if_neg hc];exact hy'
 ·have hn':(fun y=>if y=n then some { s with parent:=p } else setA (slA (outI D n).sl) p X y) n=some { s with parent:=p }:=by dsimp only;rw [if_pos rfl]
  obtain⟨c,c1,c2⟩:=hw.a.chain n s hs
  obtain⟨c',c1',c2'⟩:=hwa.chain n _ hn'
  rw [mem_all hw.a ⟨s,hs⟩ hl0 c2 (by omega),mem_all hwa ⟨_,hn'⟩ (fun z hz=>by simp at hz) c2' (by omega)]
  constructor
  ·intro h
   induction h with
   | self=>exact .self
   | @up x u hx hw' ih =>
    by_cases e:x=n
    ·rw [e];exact .self
    ·have hx:(if x=n then some { s with parent:=p } else setA (slA (outI D n).sl) p X x)=some u:=hx
     rw [if_neg e] at hx
     obtain⟨v,hv,hvp⟩:=setA_live hx
     obtain⟨v',hv',hvp'⟩:=hap x v hv
     exact .up hv' (by rw [hvp',hvp];exact ih)
  ·intro h
   induction h with
   | self=>exact .self
   | @up x u hx hw' ih =>
    by_cases e:x=n
    ·rw [e];exact .self
    ·obtain⟨v,hv,hvp⟩:=hpa x u hx
     obtain⟨v',hv',hvp'⟩:=setA_of' (p:=p) (l:=X) hv
     refine .up (s:=v') ?_ (by rw [hvp'.1,hvp];exact ih)
     show (if x=n then _ else setA (slA (outI D n).sl) p X x)=some v'
     rw [if_neg e];exact hv'
end
set_option maxRecDepth 100000
section
variable {w w1 w2:World}{o o1 o2:Nat→Nat}{g k:Nat}{ty:TypeId}{M:Nat→Prop}{R:Ending→World→Prop}{D:Im}{E:Nat→Option (Nat × Nat)}{S:PS}{θ:Th}
theorem mov_err {n a:Nat}{wh:Int} (h:(movF D n wh a).2≠0):(movF D n wh a).1=D:=by
 unfold movF at h ⊢
 split
 ·rfl
 split
 ·rfl
 split
 ·rfl
 split
 ·rfl
 split
 ·rfl
 ·exfalso
  rename_i h1 h2 h3 h4 h5
  rw [if_neg h1,if_neg h2,if_neg h3,if_neg h4,if_neg h5] at h
  exact h rfl
theorem moveL_calls (h:LD k g ty w o D) (hk:k < 1099511627776) (hw:Wf D) {n a:Nat}{wh:Int} (hn:n < 18446744073709551616) (ha:a < 18446744073709551616)
  (hK:∀w' o',LD (k+1) g ty w' o' (movF D n wh a).1→EvA w o w' o'→R (.returned (.int .i64 (movF D n wh a).2)) w') :
  Calls Tryz.prog 220 #[.pointer (some ⟨g,0,none⟩),.int .u64 (n:Nat),.int .i64 wh,.int .u64 (a:Nat)] w R:=by
 refine ok220 (some ⟨g,0,none⟩) n wh a ?_
 unfold F220
 obtain⟨S,nms,gv,E,rfl,hL⟩:=h
 obtain⟨tl,hp,hback⟩:=hL.x.tree
 have hgv:=hL.gv_
 rw [NonNil_some]
 refine move_calls (θ:=⟨g,ty,tl⟩) hp hL.pi hw hn ha fun w2 o2 S2 p2 i2 d2 ev2=>⟨_,rfl,?_⟩
 have hx2:=hback w2 o2 S2 p2 ev2
 refine⟨fun w'=>∃o',LD (k+1) g ty w' o' (movF S.D n wh a).1∧EvA w o w' o',?_,?_⟩
 ·rintro w3 ⟨o3,h3,e3⟩
  unfold F220_j6
  exact hK w3 o3 h3 e3
 refine bre (fun h0=>?_) (fun h0=>?_)
 rotate_left
 ·have hD:S2.D=S.D:=by rw [d2];exact mov_err h0
  exact⟨o2,⟨S2,nms,gv,E,d2,hx2,i2,by rw [hD];exact hL.word,by rw [hD];exact hL.def1,by rw [hD];exact hL.def2,by omega⟩,EvC.a ev2⟩
 obtain⟨s,s',hs,hAt,hmm⟩:=mov_att hw (n:=n) (a:=a) (wh:=wh) h0
 have hw2:=mov_wf hw n wh a
 rw [←d2] at hAt hw2 hmm ⊢
 have n0:=hw.a.ne0 hs
 have hE0:E 0=none:=Classical.byContradiction fun e=>by
  obtain⟨t,ht⟩:=hL.def1 0 e
  rw [hw.a.zero] at ht;cases ht
 obtain⟨X,Y,a1,b1,l1⟩:=attach (E:=E) (E':=E) hw.a hs hE0 (fun _ _=>rfl)
 obtain⟨lbs0,hI⟩:=hL.x.I
 have hnm:nms=X++wrd (slA S.D.sl) E 65 n++Y:=by rw [hL.word];exact a1
 have hXne:X≠[]:=fun e=>by rw [e] at l1;cases l1
 have h0X:0∈X:=by
  cases X with
  | nil=>exact absurd rfl hXne
  | cons x X =>
   have:=hI.h0
   rw [hnm] at this
   have:x=0:=by simpa using this
   rw [this];exact List.mem_cons_self ..
 have hndn:(X++wrd (slA S.D.sl) E 65 n++Y).Nodup:=by rw [←hnm];exact hI.nd
 obtain⟨hT,hmem⟩:=tgd_of (E:=E) hw.a hs (X:=X) (Y:=Y) hndn h0X hL.def2
 obtain⟨dw1,dw2⟩:=del_word (E:=E) hw hs
 have hfew:=hAt.few (D:=(delF S.D n).1) (D':=S2.D) hw2.s rfl
 have hLn:=all_nodup hAt.w 65 n ⟨s',hAt.at_⟩ (fun z hz=>by simp at hz)
 have hlen2:=all_fewP hw2.s hAt.w (r:=65) ⟨s',hAt.at_⟩
 have hT2:Tgd E (X++wrd (slA S.D.sl) E 65 n++Y) (allA (slA S2.D.sl) 65 n):=⟨hLn,fun y hy=>hT.some_ y ((hmm y).1 hy),fun y hy=>hT.mem y ((hmm y).1 hy),fun y hy z hz=>hT.apart y ((hmm y).1 hy) z ((hmm z).1 hz)⟩
 have hmem2:∀x,x∈wrd (slA S.D.sl) E 65 n↔x∈(allA (slA S2.D.sl) 65 n).flatMap (prE E):=fun x=>by
  rw [hmem,List.mem_flatMap,List.mem_flatMap]
  exact⟨fun⟨y,hy,hx⟩=>⟨y,(hmm y).2 hy,hx⟩,fun⟨y,hy,hx⟩=>⟨y,(hmm y).1 hy,hx⟩⟩
 have hdE:dropE E (allA (slA S2.D.sl) 65 n)=dropE E (allA (slA S.D.sl) 65 n):=by
  funext y
  unfold dropE
  by_cases hy:y∈allA (slA S.D.sl) 65 n
  ·rw [if_pos hy,if_pos ((hmm y).2 hy)]
  ·rw [if_neg hy,if_neg (fun e=>hy ((hmm y).1 e))]
 obtain⟨tl2,hp2,-⟩:=hx2.tree
 rw [NonNil_some]
 refine AllT_calls (θ:=⟨g,ty,tl2⟩) hp2 hw2.s hAt.w hn n0 fun v w3 hb3 hv=>⟨_,_,_,_,rfl,?_⟩
 have hv:=hv s' hAt.at_
 have hx3:=hx2.below hb3
 have hlt:=hx2.lt
 rcases hx3 with ⟨bs,lbs,mb,wr,em,hM⟩ | ⟨-,-,-,hz⟩
 rotate_left
 ·exact absurd (hz n) (hL.def2 n s hs)
 cases em with
 | none=>exact absurd (hM.e n) (hL.def2 n s hs)
 | some eb =>
 refine untag_calls (v:=v) hM hv (fun b hb=>Classical.byContradiction fun e=>by have:=hlt b e;have:=(hv.lt b hb).1;omega) (by omega) (by rw [hnm];exact hT2) fun w4 bs4 lbs4 h4 ev4=>⟨rfl,?_⟩
 have hx4:LX w4 o2 g ty S2 (untagN E (allA (slA S2.D.sl) 65 n) nms) gv (dropE E (allA (slA S2.D.sl) 65 n)):=.inl ⟨bs4,lbs4,mb,wr,some eb,h4⟩
 refine ahead_calls hx4 hAt.w hAt.at_ fun w5 hb5=>⟨_,rfl,?_⟩
 have hx5:=hx4.below hb5
 have hword:untagN E (allA (slA S2.D.sl) 65 n) nms=0 :: (delF S.D n).1.roots.flatMap (wrd (slA (delF S.D n).1.sl) (dropE E (allA (slA S2.D.sl) 65 n)) 65):=by
  rw [hdE,dw1,b1,hnm]
  exact untag_word hndn hmem2
 refine retag hx5 hw2.s hAt hword (fun y hy=>?_) (fun y t ht=>?_) hfew (by omega) fun w6 o6 nms' E' vv h6 q1 q2 q3 ev6=>⟨_,rfl,o6,⟨S2,nms',_,E',rfl,h6,i2,q1,q2,q3,by omega⟩,((((EvC.a ev2).tr (EvA.below hb3)).tr ev4.a).tr (EvA.below hb5)).tr ev6⟩
 ·unfold dropE at hy
  by_cases hyL:y∈allA (slA S2.D.sl) 65 n
  ·rw [if_pos hyL] at hy;exact absurd rfl hy
  ·rw [if_neg hyL] at hy
   exact (dw2 y).2 ⟨fun e=>hyL ((hmm y).2 e),hL.def1 y hy⟩
 ·obtain⟨hyL,u,hu⟩:=(dw2 y).1 ⟨t,ht⟩
  unfold dropE
  rw [if_neg (fun e=>hyL ((hmm y).1 e))]
  exact hL.def2 y u hu
end
set_option maxRecDepth 100000
section
variable {w w1 w2:World}{o o1 o2:Nat→Nat}{g k:Nat}{ty:TypeId}{M:Nat→Prop}{R:Ending→World→Prop}{D:Im}{E:Nat→Option (Nat × Nat)}{S:PS}{θ:Th}{nms:List Nat}{gv:Nat}
theorem LIv.upd (hL:LIv k w o g ty S nms gv E) {S2:PS} (hx:LX w2 o2 g ty S2 nms gv E) (hi:PI S2) (hwf:Wf S.D) (hwf2:Wf S2.D) (hr:S2.D.roots=S.D.roots) (hk1:∀y s,slA S.D.sl y=some s→∃t,slA S2.D.sl y=some t∧t.kids=s.kids) (hk2:∀y t,slA S2.D.sl y=some t→∃s,slA S.D.sl y=some s):LIv (k+1) w2 o2 g ty S2 nms gv E:=by
 have hgv:=hL.gv_
 have key:∀r z,(∃s,slA S.D.sl z=some s)→wrd (slA S2.D.sl) E r z=wrd (slA S.D.sl) E r z:=by
  intro r
  induction r with
  | zero=>intro z _;rfl
  | succ r ih =>
   rintro z ⟨s,hs⟩
   obtain⟨t,ht,hk⟩:=hk1 z s hs
   rw [wrd_some hs,wrd_some ht,hk,flat_congr fun y hy=>ih y (by obtain⟨_,u,u1,_⟩:=(hwf.a.kid z s hs).2 y hy;exact⟨u,u1⟩)]
 refine⟨hx,hi,?_,fun y hy=>?_,fun y t ht=>?_,by omega⟩
 ·rw [hL.word,hr]
  rw [flat_congr fun z hz=>(key 65 z (by obtain⟨_,u,u1,_⟩:=hwf.a.root.2 z hz;exact⟨u,u1⟩)).symm]
 ·obtain⟨s,hs⟩:=hL.def1 y hy
  obtain⟨t,ht,_⟩:=hk1 y s hs
  exact⟨t,ht⟩
 ·obtain⟨s,hs⟩:=hk2 y t ht
  exact hL.def2 y s hs
theorem upd_kids {n:Nat}{s:Sl}{f:Sl→Sl} (hs:slA D.sl n=some s) (h1:(f s).kids=s.kids) (h4:(f s).gen=s.gen) (h5:(f s).live=s.live):(updI D n f).roots=D.roots∧(∀y u,slA D.sl y=some u→∃t,slA (updI D n f).sl y=some t∧t.kids=u.kids)∧∀y t,slA (updI D n f).sl y=some t→∃u,slA D.sl y=some u:=by
 have e3:∀y,slA (updI D n f).sl y=if y=n then some (f s) else slA D.sl y:=fun y=>slA_modify hs h4 (by rw [h5];exact slA_live hs) y
 refine⟨rfl,fun y u hu=>?_,fun y t ht=>?_⟩
 ·rw [e3]
  by_cases e:y=n
  ·rw [if_pos e];rw [e,hs] at hu;cases hu;exact⟨_,rfl,h1⟩
  ·rw [if_neg e];exact⟨u,hu,rfl⟩
 ·rw [e3] at ht
  by_cases e:y=n
  ·exact⟨s,by rw [e];exact hs⟩
  ·rw [if_neg e] at ht;exact⟨t,ht⟩
def Same (D D':Im):Prop:=D'.roots=D.roots∧(∀y u,slA D.sl y=some u→∃t,slA D'.sl y=some t∧t.kids=u.kids)∧∀y t,slA D'.sl y=some t→∃u,slA D.sl y=some u
theorem Same.refl (D:Im):Same D D:=⟨rfl,fun y u hu=>⟨u,hu,rfl⟩,fun y t ht=>⟨t,ht⟩⟩
theorem setName_same {n:Nat}{nm:ByteArray}:Same D (setNameF D n nm).1:=by
 unfold setNameF
 split
 ·exact Same.refl D
 split
 ·rename_i h1 _
  obtain⟨s,hs,hk⟩:=chg_some (by simpa using h1)
  exact upd_kids hs rfl rfl rfl
 ·exact Same.refl D
theorem setNameL_calls (h:LD k g ty w o D) (hw:Wf D) (hT:Tabs (wc o w)) {n:Nat} (hn:n < 18446744073709551616) {nm:ByteArray}
  (hK:∀w' o',LD (k+1) g ty w' o' (setNameF D n nm).1→EvA w o w' o'→R (.returned (.int .i64 (setNameF D n nm).2)) w') :
  Calls Tryz.prog 222 #[.pointer (some ⟨g,0,none⟩),.int .u64 (n:Nat),.string nm] w R:=by
 refine ok222 (some ⟨g,0,none⟩) n nm ?_
 unfold F222
 obtain⟨S,nms,gv,E,rfl,hL⟩:=h
 obtain⟨tl,hp,hback⟩:=hL.x.tree
 rw [NonNil_some]
 refine setName_calls (θ:=⟨g,ty,tl⟩) hp hL.pi hn fun w2 S2 p2 i2 d2 ev2=>⟨_,rfl,?_⟩
 have hx2:=hback w2 o S2 p2 ev2
 have hw2:=setName_wf hw n nm
 obtain⟨s1,s2,s3⟩:=setName_same (D:=S.D) (n:=n) (nm:=nm)
 rw [←d2] at hw2 s1 s2 s3
 exact hK w2 o ⟨S2,nms,gv,E,d2,hL.upd hx2 i2 hw hw2 s1 s2 s3⟩ (EvC.a ev2)
theorem setText_same {n:Nat}{t:ByteArray}:Same D (setTextF D n t).1:=by
 unfold setTextF
 split
 ·exact Same.refl D
 split
 ·rename_i h1 _
  obtain⟨s,hs,hk⟩:=chg_some (by simpa using h1)
  exact upd_kids hs rfl rfl rfl
 ·exact Same.refl D
theorem setTextL_calls (h:LD k g ty w o D) (hw:Wf D) (hT:Tabs (wc o w)) {n:Nat} (hn:n < 18446744073709551616) {t:ByteArray}
  (hK:∀w' o',LD (k+1) g ty w' o' (setTextF D n t).1→EvA w o w' o'→R (.returned (.int .i64 (setTextF D n t).2)) w') :
  Calls Tryz.prog 223 #[.pointer (some ⟨g,0,none⟩),.int .u64 (n:Nat),.string t] w R:=by
 refine ok223 (some ⟨g,0,none⟩) n t ?_
 unfold F223
 obtain⟨S,nms,gv,E,rfl,hL⟩:=h
 obtain⟨tl,hp,hback⟩:=hL.x.tree
 rw [NonNil_some]
 refine setText_calls (θ:=⟨g,ty,tl⟩) hp hL.pi hT hn fun w2 S2 p2 i2 d2 ev2=>⟨_,rfl,?_⟩
 have hx2:=hback w2 o S2 p2 ev2
 have hw2:=setText_wf hw n t
 obtain⟨s1,s2,s3⟩:=setText_same (D:=S.D) (n:=n) (t:=t)
 rw [←d2] at hw2 s1 s2 s3
 exact hK w2 o ⟨S2,nms,gv,E,d2,hL.upd hx2 i2 hw hw2 s1 s2 s3⟩ (EvC.a ev2)
theorem setAttr_same {n:Nat}{nm t:ByteArray}:Same D (setAttrF D n nm t).1:=by
 unfold setAttrF
 split
 ·exact Same.refl D
 split
 ·exact Same.refl D
 split
 ·exact Same.refl D
 split
 ·exact Same.refl D
 ·rename_i h1 _ _ _
  obtain⟨s,hs,hk⟩:=chg_some (by simpa using h1)
  exact upd_kids hs rfl rfl rfl
theorem setAttrL_calls (h:LD k g ty w o D) (hw:Wf D) (hT:Tabs (wc o w)) {n:Nat} (hn:n < 18446744073709551616) {nm t:ByteArray}
  (hK:∀w' o',LD (k+1) g ty w' o' (setAttrF D n nm t).1→EvA w o w' o'→R (.returned (.int .i64 (setAttrF D n nm t).2)) w') :
  Calls Tryz.prog 221 #[.pointer (some ⟨g,0,none⟩),.int .u64 (n:Nat),.string nm,.string t] w R:=by
 refine ok221 (some ⟨g,0,none⟩) n nm t ?_
 unfold F221
 obtain⟨S,nms,gv,E,rfl,hL⟩:=h
 obtain⟨tl,hp,hback⟩:=hL.x.tree
 rw [NonNil_some]
 refine setAttr_calls (θ:=⟨g,ty,tl⟩) hp hL.pi hw hT hn fun w2 o2 S2 p2 i2 d2 ev2=>⟨_,rfl,?_⟩
 have hx2:=hback w2 o2 S2 p2 ev2
 have hw2:=setAttr_wf hw n nm t
 obtain⟨s1,s2,s3⟩:=setAttr_same (D:=S.D) (n:=n) (nm:=nm) (t:=t)
 rw [←d2] at hw2 s1 s2 s3
 exact hK w2 o2 ⟨S2,nms,gv,E,d2,hL.upd hx2 i2 hw hw2 s1 s2 s3⟩ (EvC.a ev2)
theorem dropAttr_same {n:Nat}{nm:ByteArray}:Same D (dropAttrF D n nm).1:=by
 unfold dropAttrF
 split
 ·exact Same.refl D
 split
 ·rename_i h1 _
  obtain⟨s,hs,hk⟩:=chg_some (by simpa using h1)
  exact upd_kids hs rfl rfl rfl
 ·exact Same.refl D
theorem dropAttrL_calls (h:LD k g ty w o D) (hw:Wf D) {n:Nat} (hn:n < 18446744073709551616) {nm:ByteArray}
  (hK:∀w' o',LD (k+1) g ty w' o' (dropAttrF D n nm).1→EvA w o w' o'→R (.returned (.int .i64 (dropAttrF D n nm).2)) w') :
  Calls Tryz.prog 219 #[.pointer (some ⟨g,0,none⟩),.int .u64 (n:Nat),.string nm] w R:=by
 refine ok219 (some ⟨g,0,none⟩) n nm ?_
 unfold F219
 obtain⟨S,nms,gv,E,rfl,hL⟩:=h
 obtain⟨tl,hp,hback⟩:=hL.x.tree
 rw [NonNil_some]
 refine dropAttr_calls (θ:=⟨g,ty,tl⟩) hp hL.pi hw hn fun w2 o2 S2 p2 i2 d2 ev2=>⟨_,rfl,?_⟩
 have hx2:=hback w2 o2 S2 p2 ev2
 have hw2:=dropAttr_wf hw n nm
 obtain⟨s1,s2,s3⟩:=dropAttr_same (D:=S.D) (n:=n) (nm:=nm)
 rw [←d2] at hw2 s1 s2 s3
 exact hK w2 o2 ⟨S2,nms,gv,E,d2,hL.upd hx2 i2 hw hw2 s1 s2 s3⟩ (EvC.a ev2)
end
set_option maxRecDepth 100000
section
variable {g:Nat}
theorem cmIns (w : World) (a b c : Value) : (callMethod (.iface 61 (.pointer (some ⟨g, 0, none⟩))) "Insert" #[a, b, c]).run Tryz.prog w = .ok (.enter 40 #[.pointer (some ⟨g, 0, none⟩), a, b, c]) w := by kernel_rfl
theorem cmMov (w : World) (a b c : Value) : (callMethod (.iface 61 (.pointer (some ⟨g, 0, none⟩))) "Move" #[a, b, c]).run Tryz.prog w = .ok (.enter 220 #[.pointer (some ⟨g, 0, none⟩), a, b, c]) w := by kernel_rfl
theorem cmDel (w : World) (a : Value) : (callMethod (.iface 61 (.pointer (some ⟨g, 0, none⟩))) "Delete" #[a]).run Tryz.prog w = .ok (.enter 218 #[.pointer (some ⟨g, 0, none⟩), a]) w := by kernel_rfl
theorem cmName (w : World) (a b : Value) : (callMethod (.iface 61 (.pointer (some ⟨g, 0, none⟩))) "SetName" #[a, b]).run Tryz.prog w = .ok (.enter 222 #[.pointer (some ⟨g, 0, none⟩), a, b]) w := by kernel_rfl
theorem cmText (w : World) (a b : Value) : (callMethod (.iface 61 (.pointer (some ⟨g, 0, none⟩))) "SetText" #[a, b]).run Tryz.prog w = .ok (.enter 223 #[.pointer (some ⟨g, 0, none⟩), a, b]) w := by kernel_rfl
theorem cmAttr (w : World) (a b c : Value) : (callMethod (.iface 61 (.pointer (some ⟨g, 0, none⟩))) "SetAttr" #[a, b, c]).run Tryz.prog w = .ok (.enter 221 #[.pointer (some ⟨g, 0, none⟩), a, b, c]) w := by kernel_rfl
theorem cmDrop (w : World) (a b : Value) : (callMethod (.iface 61 (.pointer (some ⟨g, 0, none⟩))) "DropAttr" #[a, b]).run Tryz.prog w = .ok (.enter 219 #[.pointer (some ⟨g, 0, none⟩), a, b]) w := by kernel_rfl
theorem label_edr:Edr (.iface 61 (.pointer (some ⟨g,0,none⟩))) fun k w o D=>LD k g 105 w o D:=by
 refine⟨?_,?_,?_,?_,?_,?_,?_,?_,?_,?_⟩
 ·rintro k w o D ⟨S,nms,gv,E,rfl,h⟩
  have:=h.gv_
  exact⟨S,nms,gv,E,rfl,h.x,h.pi,h.word,h.def1,h.def2,by omega⟩
 ·rintro k w o D ⟨S,nms,gv,E,rfl,h⟩
  exact h.x.lt
 ·rintro k w w1 o D M ⟨S,nms,gv,E,rfl,h⟩ hf hm
  exact⟨S,nms,gv,E,rfl,h.x.fm hf hm,h.pi,h.word,h.def1,h.def2,h.gv_⟩
 ·intro k w o D x e wh a R K h hk hw hT hx ha hK
  exact⟨_,_,cmIns w _ _ _,insertL_calls (e:=e) h hk hw hT hx ha fun w' o' h' ev=>hK w' o' h' ev⟩
 ·intro k w o D n a wh R K h hk hw hn ha hK
  exact⟨_,_,cmMov w _ _ _,moveL_calls h hk hw hn ha fun w' o' h' ev=>hK w' o' h' ev⟩
 ·intro k w o D n R K h hk hw hn hK
  exact⟨_,_,cmDel w _,deleteL_calls h hk hw hn fun w' o' h' ev=>hK w' o' h' ev⟩
 ·intro k w o D n s R K h hk hw hT hn hK
  exact⟨_,_,cmName w _ _,setNameL_calls h hw hT hn fun w' o' h' ev=>hK w' o' h' ev⟩
 ·intro k w o D n s R K h hk hw hT hn hK
  exact⟨_,_,cmText w _ _,setTextL_calls h hw hT hn fun w' o' h' ev=>hK w' o' h' ev⟩
 ·intro k w o D n s t R K h hk hw hT hn hK
  exact⟨_,_,cmAttr w _ _ _,setAttrL_calls h hw hT hn fun w' o' h' ev=>hK w' o' h' ev⟩
 ·intro k w o D n s R K h hk hw hn hK
  exact⟨_,_,cmDrop w _ _,dropAttrL_calls h hw hn fun w' o' h' ev=>hK w' o' h' ev⟩
end
set_option maxRecDepth 100000
section
variable {w:World}{g:Nat}
def S0:PS:=⟨⟨[],[]⟩,[],0,0,0⟩
theorem pm_zero {ty:TypeId}{tl:List Value} (hB:Blk w g (docC (none,0,0) (none,0,0) 0 0 0 tl) ty):PM w (fun b=>if b=g then 1 else 0) ⟨g,ty,tl⟩ S0:=by
 refine⟨if_pos rfl,fun b hb=>?_,rfl,by decide,fun i b hb=>(by cases hb),⟨(none,0,0),(none,0,0),hB,.inl ⟨rfl,rfl⟩,fun x hx=>(by cases hx),.inl ⟨rfl,rfl⟩,fun x hx=>(by cases hx)⟩,fun i b s hb=>(by cases hb),fun s hs=>(by cases hs),⟨fun h hh=>(by cases hh),by decide⟩,by decide⟩
 have hb:(if b=g then 1 else 0)≠0:=hb
 by_cases e:b=g
 ·rw [e];exact hB.lt
 ·rw [if_neg e] at hb;exact absurd rfl hb
theorem pi_zero:PI S0:=⟨rfl,rfl,by decide,fun j t hj ht=>(by cases ht)⟩
theorem ld_zero (hB:Blk w g #[.slice none 0 0,.slice none 0 0,.int .i64 0,.int .i64 0,.int .i64 0,.map none,.pointer none,.int .u64 0,.int .u64 0,.map none] 105):LD 0 g 105 w (fun b=>if b=g then 1 else 0) ⟨[],[]⟩:=by
 have hn:∀y,slA ([]:List Sl) y=none:=fun y=>by
  cases h:slA ([]:List Sl) y with
  | none=>rfl
  | some s =>
   obtain⟨k,_,h2,_⟩:=slA_iff.1 h
   cases h2
 refine⟨S0,[0],0,fun _=>none,rfl,⟨.inr ⟨⟨pm_zero hB⟩,rfl,rfl,fun _=>rfl⟩,pi_zero,rfl,fun y hy=>absurd rfl hy,fun y s hs=>?_,by decide⟩⟩
 have hs:slA ([]:List Sl) y=some s:=hs
 rw [hn] at hs;cases hs
theorem rm_zero {ok:Nat→Bool} (hB:Blk w g #[.slice none 0 0,.slice none 0 0] 107):RM ok w g ⟨[],[]⟩ (none,0,0) (none,0,0) :=
 ⟨hB,⟨by decide,⟨[],rfl,Rd.nil _ _,rfl⟩,rr_none _ _,fun s hs=>(by cases hs),fun h hh=>(by cases hh)⟩,by decide⟩
end
end Go.Proofs.YtccplipiahdhiaaGreatDoor
set_option linter.unusedVariables false
set_option maxRecDepth 100000
namespace Go.Proofs.YtccplipiahdhiaaGreatDoor
open Go.Vc
def F7_j23 (L22:Bool→Int→World→Prop) (k:Int) (around2:Bool) (a:World) (R:Ending→World→Prop):Prop :=
 InR .i64 (k+(1:Int))∧L22 around2 (k+(1:Int)) a
def F7_j29 (e:Option Addr) (b:Nat) (d:Option Addr) (c:Nat) (a:Nat) (i:Int) (J23:Bool→World→Prop) (k:Bool) (around2:Bool) (m:World) (R:Ending→World→Prop):Prop :=
 Br k
 (IdxA e b i 1 fun g =>
 LdI .u64 (m.cell? g) fun j =>
 Calls Tryz.prog 32 #[(.slice d c a),(.int .u64 j)] m (post R fun v11 f =>
 ∃(h:Bool),v11=(.bool h) ∧
 Br h
 (R (.returned (.bool false)) f)
 (J23 around2 f)))
 (J23 around2 m)
def F7_j27 (p:Option Addr) (j:Nat) (n:Option Addr) (k:Nat) (h:Nat) (i:Int) (a:Addr) (around:Bool) (J23:Bool→World→Prop) (b:Addr) (t:World) (R:Ending→World→Prop):Prop :=
 LdI .u64 (t.cell? b) fun m =>
 LdI .u64 (t.cell? (b.add 1)) fun d =>
 LdI .i64 (t.cell? (b.add 2)) fun c =>
 LdI .u64 (t.cell? a) fun e =>
 LdI .u64 (t.cell? (a.add 1)) fun g =>
 LdI .i64 (t.cell? (a.add 2)) fun f =>
 Calls Tryz.prog 33 #[(.agg #[(.int .u64 m),(.int .u64 d),(.int .i64 c)]),(.agg #[(.int .u64 e),(.int .u64 g),(.int .i64 f)])] t (post R fun v10 q =>
 ∃(s:Bool),v10=(.bool s) ∧
 ∃J29:Bool→World→Prop,(∀(around2:Bool) (r:World),J29 around2 r→F7_j29 p j n k h i J23 s around2 r R) ∧
 (Br around
 (J29 true q)
 (J29 s q)))
def F7_l22 (aa:Option Addr) (t:Option Addr) (j:Nat) (u:Option Addr) (h:Nat) (g:Nat) (L17:Int→World→Prop) (i:Int) (q:Int) (a:Addr) (L22:Bool→Int→World→Prop) (around:Bool) (k:Int) (ba:World) (R:Ending→World→Prop):Prop :=
 Br (decide (k < ((h:Nat):Int)))
 (∃J23:Bool→World→Prop,(∀(around2:Bool) (p:World),J23 around2 p→F7_j23 L22 k around2 p R) ∧
 (IdxA u h k 1 fun y =>
 LdI .u64 (ba.cell? y) fun z =>
 Calls Tryz.prog 31 #[(.pointer aa),(.int .u64 z)] ba (post R fun v9 p =>
 ∃(e:Int) (d:Int) (c:Int) (f:Int),v9=(.tuple #[(.agg #[(.int .u64 e),(.int .u64 d),(.int .i64 c)]),(.int .i64 f)]) ∧
 Al p #[(.int .u64 0),(.int .u64 0),(.int .i64 0)] 72 fun b v =>
 St v b (.int .u64 e) fun s =>
 St s (b.add 1) (.int .u64 d) fun r =>
 St r (b.add 2) (.int .i64 c) fun n =>
 ∃J27:World→Prop,(∀ (m:World),J27 m→F7_j27 t j u h g i a around J23 b m R) ∧
 (Br (q != (0:Int))
 (R (.returned (.bool false)) n)
 (Br (f != (0:Int))
 (R (.returned (.bool false)) n)
 (J27 n))))))
 (Br (!around)
 (R (.returned (.bool false)) ba)
 (InR .i64 (i+(1:Int))∧L17 (i+(1:Int)) ba))
def F7_j35 (L34:Int→World→Prop) (i2:Int) (a:World) (R:Ending→World→Prop):Prop :=
 InR .i64 (i2+(1:Int))∧L34 (i2+(1:Int)) a
def F7_l39 (e:Option Addr) (b:Nat) (c:Nat) (d:Option Addr) (a:Nat) (L39:Int→World→Prop) (i3:Int) (j:World) (R:Ending→World→Prop):Prop :=
 Br (decide (i3 < ((a:Nat):Int)))
 (IdxA d a i3 1 fun g =>
 LdI .u64 (j.cell? g) fun i =>
 Calls Tryz.prog 32 #[(.slice e b c),(.int .u64 i)] j (post R fun v7 h =>
 ∃(f:Bool),v7=(.bool f) ∧
 Br (!f)
 (R (.returned (.bool false)) h)
 (InR .i64 (i3+(1:Int))∧L39 (i3+(1:Int)) h)))
 (R (.returned (.bool true)) j)
def F7_l34 (h:Option Addr) (c:Nat) (d:Nat) (f:Option Addr) (e:Nat) (g:Option Addr) (b:Nat) (a:Nat) (L34:Int→World→Prop) (i2:Int) (t:World) (R:Ending→World→Prop):Prop :=
 Br (decide (i2 < ((e:Nat):Int)))
 (∃J35:World→Prop,(∀ (p:World),J35 p→F7_j35 L34 i2 p R) ∧
 (IdxA f e i2 1 fun r =>
 LdI .u64 (t.cell? r) fun j =>
 Calls Tryz.prog 32 #[(.slice g b a),(.int .u64 j)] t (post R fun v7 p =>
 ∃(s:Bool),v7=(.bool s) ∧
 Br (!s)
 (R (.returned (.bool false)) p)
 (IdxA f e i2 1 fun i =>
 LdI .u64 (p.cell? i) fun n =>
 Calls Tryz.prog 32 #[(.slice h c d),(.int .u64 n)] p (post R fun v8 q =>
 ∃(k:Bool),v8=(.bool k) ∧
 Br (!k)
 (R (.returned (.bool false)) q)
 (J35 q))))))
 (∃(I:Int→World→Prop) (m:Int→World→Nat),I (0:Int) t ∧
 ∀(i3:Int) (p:World),I i3 p→F7_l39 h c d g b (fun i3' w2=>I i3' w2∧m i3' w2 < m i3 p) i3 p R)
def F7_l17 (fa:Option Addr) (s:Option Addr) (j:Nat) (n:Nat) (v:Option Addr) (h:Nat) (g:Nat) (y:Option Addr) (e:Nat) (f:Nat) (L17:Int→World→Prop) (i:Int) (ia:World) (R:Ending→World→Prop):Prop :=
 Br (decide (i < ((j:Nat):Int)))
 (IdxA s j i 1 fun ga =>
 LdI .u64 (ia.cell? ga) fun ha =>
 Calls Tryz.prog 31 #[(.pointer fa),(.int .u64 ha)] ia (post R fun v7 z =>
 ∃(b:Int) (d:Int) (c:Int) (r:Int),v7=(.tuple #[(.agg #[(.int .u64 b),(.int .u64 d),(.int .i64 c)]),(.int .i64 r)]) ∧
 Al z #[(.int .u64 0),(.int .u64 0),(.int .i64 0)] 72 fun a da =>
 St da a (.int .u64 b) fun aa =>
 St aa (a.add 1) (.int .u64 d) fun u =>
 St u (a.add 2) (.int .i64 c) fun t =>
 IdxA s j i 1 fun ca =>
 LdI .u64 (t.cell? ca) fun ea =>
 Calls Tryz.prog 32 #[(.slice v h g),(.int .u64 ea)] t (post R fun v8 q =>
 ∃(ba:Bool),v8=(.bool ba) ∧
 ∃(I:Bool→Int→World→Prop) (m:Bool→Int→World→Nat),I ba (0:Int) q ∧
 ∀(around:Bool) (k:Int) (p:World),I around k p→F7_l22 fa s j v h g L17 i r a (fun around' k' w2=>I around' k' w2∧m around' k' w2 < m around k p) around k p R)))
 (∃(I:Int→World→Prop) (m:Int→World→Nat),I (0:Int) ia ∧
 ∀(i2:Int) (z:World),I i2 z→F7_l34 s j n v h y e f (fun i2' w2=>I i2' w2∧m i2' w2 < m i2 z) i2 z R)
def F7_j16 (n:Option Addr) (j:Option Addr) (d:Nat) (e:Nat) (g:Option Addr) (f:Nat) (c:Nat) (h:Option Addr) (b:Nat) (a:Nat) (p:World) (R:Ending→World→Prop):Prop :=
 ∃(I:Int→World→Prop) (m:Int→World→Nat),I (0:Int) p ∧
 ∀(i:Int) (k:World),I i k→F7_l17 n j d e g f c h b a (fun i' w2=>I i' w2∧m i' w2 < m i k) i k R
def F7_j9 (words:Option Addr) (wordsN:Nat) (wordsC:Nat) (t:Option Addr) (g:Option Addr) (u:World) (R:Ending→World→Prop):Prop :=
 Calls Tryz.prog 11 #[(.pointer g),(.slice words wordsN wordsC)] u (post R fun v4 r =>
 ∃(h:Option Addr) (e:Nat) (f:Nat) (m:Int),v4=(.tuple #[(.slice h e f),(.int .i64 m)]) ∧
 Calls Tryz.prog 12 #[(.pointer g),(.slice words wordsN wordsC)] r (post R fun v5 p =>
 ∃(j:Option Addr) (d:Nat) (c:Nat) (n:Int),v5=(.tuple #[(.slice j d c),(.int .i64 n)]) ∧
 Calls Tryz.prog 13 #[(.pointer g),(.slice words wordsN wordsC)] p (post R fun v6 s =>
 ∃(k:Option Addr) (a:Nat) (b:Nat) (i:Int),v6=(.tuple #[(.slice k a b),(.int .i64 i)]) ∧
 Br (m != (0:Int))
 (Br (n == m)
 (Br (i == m)
 (InR .i64 (((e:Nat):Int)+((d:Nat):Int))∧InR .i64 ((((e:Nat):Int)+((d:Nat):Int))+((a:Nat):Int))∧R (.returned (.bool (((((e:Nat):Int)+((d:Nat):Int))+((a:Nat):Int)) == (0:Int)))) s)
 (R (.returned (.bool false)) s))
 (R (.returned (.bool false)) s))
 (∃J16:World→Prop,(∀ (q:World),J16 q→F7_j16 t h e f j d c k a b q R) ∧
 (Br (n != (0:Int))
 (R (.returned (.bool false)) s)
 (Br (i != (0:Int))
 (R (.returned (.bool false)) s)
 (J16 s)))))))
def F7 (acts:Option Addr) (actsN:Nat) (actsC:Nat) (words:Option Addr) (wordsN:Nat) (wordsC:Nat) (h:World) (R:Ending→World→Prop):Prop :=
 Calls Tryz.prog 27 #[] h (post R fun v w1 =>
 ∃(f:Bool),v=(.bool f) ∧
 Br (!f)
 (R (.returned (.bool false)) w1)
 (Calls Tryz.prog 28 #[(.slice acts actsN actsC)] w1 (post R fun v2 d =>
 ∃(g:Option Addr),v2=(.pointer g) ∧
 Br (g).isNone
 (R (.returned (.bool false)) d)
 (Calls Tryz.prog 26 #[(.pointer g)] d (post R fun v3 e =>
 ∃(a:Option Addr) (b:Int),v3=(.tuple #[(.pointer a),(.int .i64 b)]) ∧
 ∃J9:World→Prop,(∀ (c:World),J9 c→F7_j9 words wordsN wordsC g a c R) ∧
 (Br (b != (0:Int))
 (R (.returned (.bool false)) e)
 (Br (a).isNone
 (R (.returned (.bool false)) e)
 (J9 e))))))))
theorem ok7 (acts:Option Addr) (actsN:Nat) (actsC:Nat) (words:Option Addr) (wordsN:Nat) (wordsC:Nat) {w:World}{R:Ending→World→Prop} (h:F7 acts actsN actsC words wordsN wordsC w R):Calls Tryz.prog 7 #[(.slice acts actsN actsC),(.slice words wordsN wordsC)] w R :=
 vc_calls (pl:=⟨181,⟨[]⟩,[(29,⟨[(17,(.s .bool))],[(17,18),(131,135)]⟩),(27,⟨[],[(4,5),(122,128)]⟩),(23,⟨[(17,(.s .bool))],[(4,5),(17,18),(19,144)]⟩),(35,⟨[],[(4,5),(152,168)]⟩),(16,⟨[],[(4,5),(80,86)]⟩),(9,⟨[],[(4,5),(35,41)]⟩)],[(22,⟨[(17,(.s .bool)),(18,(.s (.int .i64)))],[(4,5),(17,144)]⟩),(17,⟨[(14,(.s (.int .i64)))],[(4,5),(14,146)]⟩),(34,⟨[(22,(.s (.int .i64)))],[(4,5),(22,168)]⟩),(39,⟨[(23,(.s (.int .i64)))],[(4,5),(23,181)]⟩)]⟩) Tryz.func7 (by kernel_rfl) (by kernel_rfl) (by kernel_rfl) (Eq.mp (by kernel_rfl) h)
def F32_l2 (l:Option Addr) (lN:Nat) (n:Int) (L2:Int→World→Prop) (i:Int) (c:World) (R:Ending→World→Prop):Prop :=
 Br (decide (i < ((lN:Nat):Int)))
 (IdxA l lN i 1 fun a =>
 LdI .u64 (c.cell? a) fun b =>
 Br (b == n)
 (R (.returned (.bool true)) c)
 (InR .i64 (i+(1:Int))∧L2 (i+(1:Int)) c))
 (R (.returned (.bool false)) c)
def F32 (l:Option Addr) (lN:Nat) (lC:Nat) (n:Int) (a:World) (R:Ending→World→Prop):Prop :=
 ∃(I:Int→World→Prop) (m:Int→World→Nat),I (0:Int) a ∧
 ∀(i:Int) (w1:World),I i w1→F32_l2 l lN n (fun i' w2=>I i' w2∧m i' w2 < m i w1) i w1 R
theorem ok32 (l:Option Addr) (lN:Nat) (lC:Nat) (n:Int) {w:World}{R:Ending→World→Prop} (h:F32 l lN lC n w R):Calls Tryz.prog 32 #[(.slice l lN lC),(.int .u64 n)] w R :=
 vc_calls (pl:=⟨18,⟨[]⟩,[],[(2,⟨[(5,(.s (.int .i64)))],[(4,18)]⟩)]⟩) Tryz.func32 (by kernel_rfl) (by kernel_rfl) (by kernel_rfl) (Eq.mp (by kernel_rfl) h)
def F27_j8 (aa:Option Addr) (ha:World) (R:Ending→World→Prop):Prop :=
 Al ha #[(.string (ByteArray.mk #[120])),(.string (ByteArray.mk #[121]))] 9 fun g59 y =>
 Calls Tryz.prog 11 #[(.pointer aa),(.slice (some g59) 2 2)] y (post R fun v10 u =>
 ∃(t:Option Addr) (e:Nat) (j:Nat) (v:Int),v10=(.tuple #[(.slice t e j),(.int .i64 v)]) ∧
 Al u #[(.string (ByteArray.mk #[120])),(.string (ByteArray.mk #[121]))] 9 fun g65 n =>
 Calls Tryz.prog 12 #[(.pointer aa),(.slice (some g65) 2 2)] n (post R fun v11 m =>
 ∃(da:Option Addr) (a:Nat) (b:Nat) (s:Int),v11=(.tuple #[(.slice da a b),(.int .i64 s)]) ∧
 Al m #[(.string (ByteArray.mk #[120])),(.string (ByteArray.mk #[121]))] 9 fun g71 ca =>
 Calls Tryz.prog 20 #[(.pointer aa),(.slice (some g71) 2 2)] ca (post R fun v12 k =>
 ∃(z:Option Addr) (h:Nat) (c:Nat) (p:Int),v12=(.tuple #[(.slice z h c),(.int .i64 p)]) ∧
 Calls Tryz.prog 36 #[(.string (ByteArray.mk #[65,98,45,99]))] k (post R fun v13 q =>
 ∃(r:Option Addr) (i:Nat) (d:Nat) (ba:Option Addr) (f:Nat) (g:Nat) (ea:Int),v13=(.tuple #[(.slice r i d),(.slice ba f g),(.int .i64 ea)]) ∧
 Br (v == (0:Int))
 (Br (((e:Nat):Int) == (3:Int))
 (Br (s == (0:Int))
 (Br (((a:Nat):Int) == (2:Int))
 (Br (p == (0:Int))
 (Br (((h:Nat):Int) == (1:Int))
 (Br (ea == (0:Int))
 (Br (((i:Nat):Int) == (2:Int))
 (IdxA r i (0:Int) 1 fun ga =>
 LdStr (q.cell? ga) fun fa =>
 R (.returned (.bool (fa.toList == (ByteArray.mk #[97,98]).toList))) q)
 (R (.returned (.bool false)) q))
 (R (.returned (.bool false)) q))
 (R (.returned (.bool false)) q))
 (R (.returned (.bool false)) q))
 (R (.returned (.bool false)) q))
 (R (.returned (.bool false)) q))
 (R (.returned (.bool false)) q))
 (R (.returned (.bool false)) q)))))
def F27  (w_:World) (R:Ending→World→Prop):Prop :=
 Al w_ #[(.slice none 0 0),(.slice none 0 0),(.int .i64 0),(.int .i64 0),(.int .i64 0),(.map none),(.pointer none),(.int .u64 0),(.int .u64 0),(.map none)] 105 fun g18 w1 =>
 CallV Tryz.prog (.func (.func 58) #[] #[]) #[(.string (ByteArray.mk #[120,32,121]))] w1 R (fun v rc =>
 ∃(ka:Int) (vb:ByteArray) (ha:Option Addr) (j:Nat) (a:Nat) (kb:ByteArray) (fc:Option Addr) (e:Nat) (t:Nat),v=(.agg #[(.int .i64 ka),(.string vb),(.slice ha j a),(.string kb),(.slice fc e t)]) ∧
 Al rc #[(.int .i64 ka),(.string vb),(.slice ha j a),(.string kb),(.slice fc e t)] 84 fun g25 kc =>
 CallV Tryz.prog (.func (.func 59) #[] #[]) #[(.string (ByteArray.mk #[98])),(.slice (some g25) 1 1)] kc R (fun v2 ic =>
 ∃(jb:Int) (hc:ByteArray) (bc:Option Addr) (n:Nat) (p:Nat) (qb:ByteArray) (dc:Option Addr) (ca:Nat) (f:Nat),v2=(.agg #[(.int .i64 jb),(.string hc),(.slice bc n p),(.string qb),(.slice dc ca f)]) ∧
 CallV Tryz.prog (.func (.func 58) #[] #[]) #[(.string (ByteArray.mk #[121,32]))] ic R (fun v3 pc =>
 ∃(ec:Int) (hb:ByteArray) (va:Option Addr) (da:Nat) (i:Nat) (ma:ByteArray) (zb:Option Addr) (q:Nat) (c:Nat),v3=(.agg #[(.int .i64 ec),(.string hb),(.slice va da i),(.string ma),(.slice zb q c)]) ∧
 CallV Tryz.prog (.func (.func 58) #[] #[]) #[(.string (ByteArray.mk #[120]))] pc R (fun v4 jc =>
 ∃(ia:Int) (yb:ByteArray) (za:Option Addr) (h:Nat) (k:Nat) (fb:ByteArray) (pa:Option Addr) (u:Nat) (s:Nat),v4=(.agg #[(.int .i64 ia),(.string yb),(.slice za h k),(.string fb),(.slice pa u s)]) ∧
 Al jc #[(.int .i64 ia),(.string yb),(.slice za h k),(.string fb),(.slice pa u s)] 84 fun g33 mc =>
 CallV Tryz.prog (.func (.func 59) #[] #[]) #[(.string (ByteArray.mk #[100])),(.slice (some g33) 1 1)] mc R (fun v5 nc =>
 ∃(sb:Int) (ta:ByteArray) (ub:Option Addr) (z:Nat) (g:Nat) (eb:ByteArray) (db:Option Addr) (ea:Nat) (fa:Nat),v5=(.agg #[(.int .i64 sb),(.string ta),(.slice ub z g),(.string eb),(.slice db ea fa)]) ∧
 Al nc #[(.int .i64 ec),(.string hb),(.slice va da i),(.string ma),(.slice zb q c),(.int .i64 sb),(.string ta),(.slice ub z g),(.string eb),(.slice db ea fa)] 84 fun g35 qc =>
 CallV Tryz.prog (.func (.func 59) #[] #[]) #[(.string (ByteArray.mk #[99])),(.slice (some g35) 2 2)] qc R (fun v6 pb =>
 ∃(ra:Int) (nb:ByteArray) (cc:Option Addr) (aa:Nat) (r:Nat) (ja:ByteArray) (na:Option Addr) (m:Nat) (ba:Nat),v6=(.agg #[(.int .i64 ra),(.string nb),(.slice cc aa r),(.string ja),(.slice na m ba)]) ∧
 Al pb #[(.int .i64 jb),(.string hc),(.slice bc n p),(.string qb),(.slice dc ca f),(.int .i64 ra),(.string nb),(.slice cc aa r),(.string ja),(.slice na m ba)] 84 fun g37 gc =>
 CallV Tryz.prog (.func (.func 59) #[] #[]) #[(.string (ByteArray.mk #[97])),(.slice (some g37) 2 2)] gc R (fun v7 ya =>
 ∃(ib:Int) (bb:ByteArray) (rb:Option Addr) (ga:Nat) (y:Nat) (qa:ByteArray) (gb:Option Addr) (d:Nat) (b:Nat),v7=(.agg #[(.int .i64 ib),(.string bb),(.slice rb ga y),(.string qa),(.slice gb d b)]) ∧
 Calls Tryz.prog 40 #[(.pointer (some g18)),(.int .i64 2),(.int .u64 0),(.agg #[(.int .i64 ib),(.string bb),(.slice rb ga y),(.string qa),(.slice gb d b)])] ya (post R fun v8 ac =>
 ∃(ua:Int) (cb:Int),v8=(.tuple #[(.int .u64 ua),(.int .i64 cb)]) ∧
 Calls Tryz.prog 26 #[(.pointer (some g18))] ac (post R fun v9 tb =>
 ∃(ab:Option Addr) (sa:Int),v9=(.tuple #[(.pointer ab),(.int .i64 sa)]) ∧
 ∃J8:World→Prop,(∀ (mb:World),J8 mb→F27_j8 ab mb R) ∧
 (Br (cb != (0:Int))
 (R (.returned (.bool false)) tb)
 (Br (sa != (0:Int))
 (R (.returned (.bool false)) tb)
 (Br (ab).isNone
 (R (.returned (.bool false)) tb)
 (J8 tb)))))))))))))
theorem ok27  {w:World}{R:Ending→World→Prop} (h:F27  w R):Calls Tryz.prog 27 #[] w R :=
 vc_calls (pl:=⟨120,⟨[]⟩,[(8,⟨[],[(0,1),(47,57)]⟩)],[]⟩) Tryz.func27 (by kernel_rfl) (by kernel_rfl) (by kernel_rfl) (Eq.mp (by kernel_rfl) h)
def F58 (s:ByteArray) (f:World) (R:Ending→World→Prop):Prop :=
 Al f #[(.int .i64 0),(.string (ByteArray.mk #[])),(.slice none 0 0),(.string (ByteArray.mk #[])),(.slice none 0 0)] 84 fun g2 w1 =>
 St w1 g2 (.int .i64 2) fun d =>
 St d (g2.add 1) (.string (ByteArray.mk #[])) fun e =>
 St e (g2.add 2) (.slice none 0 0) fun a =>
 St a (g2.add 3) (.string s) fun b =>
 St b (g2.add 4) (.slice none 0 0) fun c =>
 LdI .i64 (c.cell? g2) fun res0_0 =>
 LdStr (c.cell? (g2.add 1)) fun res0_1 =>
 LdSl (c.cell? (g2.add 2)) fun res0_2 res0_2N res0_2C =>
 LdStr (c.cell? (g2.add 3)) fun res0_3 =>
 LdSl (c.cell? (g2.add 4)) fun res0_4 res0_4N res0_4C =>
 R (.returned (.agg #[(.int .i64 res0_0),(.string res0_1),(.slice res0_2 res0_2N res0_2C),(.string res0_3),(.slice res0_4 res0_4N res0_4C)])) c
theorem ok58 (s:ByteArray) {w:World}{R:Ending→World→Prop} (h:F58 s w R):Calls Tryz.prog 58 #[(.string s)] w R :=
 vc_calls (pl:=⟨5,⟨[]⟩,[],[]⟩) Tryz.func58 (by kernel_rfl) (by kernel_rfl) (by kernel_rfl) (Eq.mp (by kernel_rfl) h)
def F59 (name:ByteArray) (kids:Option Addr) (kidsN:Nat) (kidsC:Nat) (f:World) (R:Ending→World→Prop):Prop :=
 Al f #[(.int .i64 0),(.string (ByteArray.mk #[])),(.slice none 0 0),(.string (ByteArray.mk #[])),(.slice none 0 0)] 84 fun g4 w1 =>
 St w1 g4 (.int .i64 1) fun d =>
 St d (g4.add 1) (.string name) fun e =>
 St e (g4.add 2) (.slice none 0 0) fun a =>
 St a (g4.add 3) (.string (ByteArray.mk #[])) fun b =>
 St b (g4.add 4) (.slice kids kidsN kidsC) fun c =>
 LdI .i64 (c.cell? g4) fun res0_0 =>
 LdStr (c.cell? (g4.add 1)) fun res0_1 =>
 LdSl (c.cell? (g4.add 2)) fun res0_2 res0_2N res0_2C =>
 LdStr (c.cell? (g4.add 3)) fun res0_3 =>
 LdSl (c.cell? (g4.add 4)) fun res0_4 res0_4N res0_4C =>
 R (.returned (.agg #[(.int .i64 res0_0),(.string res0_1),(.slice res0_2 res0_2N res0_2C),(.string res0_3),(.slice res0_4 res0_4N res0_4C)])) c
theorem ok59 (name:ByteArray) (kids:Option Addr) (kidsN:Nat) (kidsC:Nat) {w:World}{R:Ending→World→Prop} (h:F59 name kids kidsN kidsC w R):Calls Tryz.prog 59 #[(.string name),(.slice kids kidsN kidsC)] w R :=
 vc_calls (pl:=⟨8,⟨[]⟩,[],[]⟩) Tryz.func59 (by kernel_rfl) (by kernel_rfl) (by kernel_rfl) (Eq.mp (by kernel_rfl) h)
def F28_l3 (acts:Option Addr) (actsN:Nat) (g7:Addr) (g9:Addr) (L3:Int→World→Prop) (i:Int) (z:World) (R:Ending→World→Prop):Prop :=
 Br (decide (i < ((actsN:Nat):Int)))
 (IdxA acts actsN i 12 fun y =>
 LdI .i64 (z.cell? y) fun m =>
 LdI .i64 (z.cell? (y.add 1)) fun g =>
 LdB (z.cell? (y.add 2)) fun q =>
 LdI .u64 (z.cell? (y.add 3)) fun h =>
 LdI .u64 (z.cell? (y.add 4)) fun p =>
 LdStr (z.cell? (y.add 5)) fun j =>
 LdStr (z.cell? (y.add 6)) fun s =>
 LdI .i64 (z.cell? (y.add 7)) fun k =>
 LdStr (z.cell? (y.add 8)) fun n =>
 LdSl (z.cell? (y.add 9)) fun r d f =>
 LdStr (z.cell? (y.add 10)) fun c =>
 LdSl (z.cell? (y.add 11)) fun e a b =>
 Calls Tryz.prog 60 #[(.iface 61 (.pointer (some g7))),(.pointer (some g9)),(.agg #[(.int .i64 m),(.int .i64 g),(.bool q),(.int .u64 h),(.int .u64 p),(.string j),(.string s),(.int .i64 k),(.string n),(.slice r d f),(.string c),(.slice e a b)])] z (post R fun v t =>
 ∃(u:Bool),v=(.bool u) ∧
 Br (!u)
 (R (.returned (.pointer none)) t)
 (InR .i64 (i+(1:Int))∧L3 (i+(1:Int)) t)))
 (R (.returned (.pointer (some g7))) z)
def F28 (acts:Option Addr) (actsN:Nat) (actsC:Nat) (c:World) (R:Ending→World→Prop):Prop :=
 Al c #[(.slice none 0 0),(.slice none 0 0),(.int .i64 0),(.int .i64 0),(.int .i64 0),(.map none),(.pointer none),(.int .u64 0),(.int .u64 0),(.map none)] 105 fun g7 w1 =>
 Al w1 #[(.slice none 0 0),(.slice none 0 0)] 107 fun g9 a =>
 ∃(I:Int→World→Prop) (m:Int→World→Nat),I (0:Int) a ∧
 ∀(i:Int) (b:World),I i b→F28_l3 acts actsN g7 g9 (fun i' w2=>I i' w2∧m i' w2 < m i b) i b R
theorem ok28 (acts:Option Addr) (actsN:Nat) (actsC:Nat) {w:World}{R:Ending→World→Prop} (h:F28 acts actsN actsC w R):Calls Tryz.prog 28 #[(.slice acts actsN actsC)] w R :=
 vc_calls (pl:=⟨26,⟨[]⟩,[],[(3,⟨[(5,(.s (.int .i64)))],[(2,3),(5,25)]⟩)]⟩) Tryz.func28 (by kernel_rfl) (by kernel_rfl) (by kernel_rfl) (Eq.mp (by kernel_rfl) h)
end Go.Proofs.YtccplipiahdhiaaGreatDoor
namespace Go.Proofs.YtccplipiahdhiaaGreatDoor
open Go.RowKit Go.Vc
set_option linter.unusedVariables false
set_option linter.unusedSimpArgs false
set_option maxRecDepth 100000
def exX (s:ByteArray):Tr:=.mk 2 noB [] s []
def exE (s:ByteArray) (l:List Tr):Tr:=.mk 1 s [] noB l
def exT:Tr:=exE (ByteArray.mk #[97]) [exE (ByteArray.mk #[98]) [exX (ByteArray.mk #[120,32,121])],exE (ByteArray.mk #[99]) [exX (ByteArray.mk #[121,32]),exE (ByteArray.mk #[100]) [exX (ByteArray.mk #[120])]]]
def exD:Im:=(insF ⟨[],[]⟩ 2 0 exT).1
def exW:List ByteArray:=[ByteArray.mk #[120],ByteArray.mk #[121]]
theorem ex_ins:(insF ⟨[],[]⟩ 2 0 exT).2.2=0:=by decide +kernel
theorem ex_all:(AllS exD exW).length=3:=by decide +kernel
theorem ex_small:(SmallS exD exW).length=2:=by decide +kernel
theorem ex_phr:(phrF (slA exD.sl) (stD exD) exW).length=1:=by decide +kernel
theorem ex_can:canS exW=true:=by decide +kernel
theorem ex_text:(textS (ByteArray.mk #[65,98,45,99])).2=0:=by decide +kernel
theorem ex_words:(wordsF (ByteArray.mk #[65,98,45,99]) 0).map (·.1)=[ByteArray.mk #[97,98],ByteArray.mk #[99]]:=by decide +kernel
def eX (s:ByteArray):E5:=⟨2,noB,(none,0,0),s,(none,0,0)⟩
def eE (s:ByteArray) (v:Sv):E5:=⟨1,s,(none,0,0),noB,v⟩
section
variable {w w1:World}{R:Ending→World→Prop}
theorem rd_blk {α:Type}{L:Lay α}{g:Nat}{cs:Array Value}{t:TypeId}{xs:List α} (h:Blk w g cs t) (hc:cs.toList=L.all xs) (hm:xs.length≤maxLen):Rd L w (some ⟨g,0,none⟩) xs.length xs :=
 ⟨Nat.le_refl _,hm,(fun h=>by cases h),fun _=>⟨g,0,rfl,fun j u hj=>by rw [h.cell,Nat.zero_add,←Array.getElem?_toList,hc];exact hj⟩⟩
theorem exX_rd (s:ByteArray):RTr w (exX s) (eX s):=by
 unfold exX eX
 simp only [RTr]
 exact⟨trivial,trivial,trivial,rr_nil,by simp,[],rfl,Rd.nil _ _,by simp only [RTl]⟩
theorem exE_rd {s:ByteArray}{l:List Tr}{v:Sv}{es:List E5} (hl:l.length≤1048576) (hn:v.2.1=es.length) (hr:Rd LE5 w v.1 v.2.2 es) (ht:RTl w l es):RTr w (exE s l) (eE s v):=by
 unfold exE eE
 simp only [RTr]
 exact⟨trivial,trivial,trivial,rr_nil,hl,es,hn,hr,ht⟩
theorem exX_call {K:Value→World→Prop}{R':Ending→World→Prop} (s:ByteArray) (h:∀w',Below w.heap.size w w'→K (.agg #[.int .i64 2,.string noB,.slice none 0 0,.string s,.slice none 0 0]) w'):CallV Tryz.prog (.func (.func 58) #[] #[]) #[.string s] w R' K:=by
 refine⟨by kernel_rfl,?_⟩
 refine ok58 s ?_
 unfold F58
 refine al fun g w1 hb1 b1 hge=>?_
 simp only [Addr.add_mk,Nat.zero_add]
 refine st_blk b1 (by simp) fun w2 b2 f2=>?_
 refine st_blk b2 (by simp) fun w3 b3 f3=>?_
 refine st_blk b3 (by simp) fun w4 b4 f4=>?_
 refine st_blk b4 (by simp) fun w5 b5 f5=>?_
 refine st_blk b5 (by simp) fun w6 b6 f6=>?_
 have b7:Blk w6 g #[.int .i64 2,.string noB,.slice none 0 0,.string s,.slice none 0 0] 84:=b6
 simp only [b7.cell,lds]
 refine h w6 ?_
 exact (hb1.trans (((((f2.trans f3).trans f4).trans f5).trans f6).toBelow hb1.size fun x hx e=>by have e:x=g:=e;omega))
theorem exE_call {K:Value→World→Prop}{R':Ending→World→Prop} (s:ByteArray) (v:Sv) (h:∀w',Below w.heap.size w w'→K (.agg #[.int .i64 1,.string s,.slice none 0 0,.string noB,.slice v.1 v.2.1 v.2.2]) w'):CallV Tryz.prog (.func (.func 59) #[] #[]) #[.string s,.slice v.1 v.2.1 v.2.2] w R' K:=by
 refine⟨by kernel_rfl,?_⟩
 refine ok59 s v.1 v.2.1 v.2.2 ?_
 unfold F59
 refine al fun g w1 hb1 b1 hge=>?_
 simp only [Addr.add_mk,Nat.zero_add]
 refine st_blk b1 (by simp) fun w2 b2 f2=>?_
 refine st_blk b2 (by simp) fun w3 b3 f3=>?_
 refine st_blk b3 (by simp) fun w4 b4 f4=>?_
 refine st_blk b4 (by simp) fun w5 b5 f5=>?_
 refine st_blk b5 (by simp) fun w6 b6 f6=>?_
 have b7:Blk w6 g #[.int .i64 1,.string s,.slice none 0 0,.string noB,.slice v.1 v.2.1 v.2.2] 84:=b6
 simp only [b7.cell,lds]
 refine h w6 ?_
 exact (hb1.trans (((((f2.trans f3).trans f4).trans f5).trans f6).toBelow hb1.size fun x hx e=>by have e:x=g:=e;omega))
end
set_option maxRecDepth 100000
section
variable {w w1:World}{R:Ending→World→Prop}
theorem exW_rd {g:Nat} (h:Blk w g #[.string (ByteArray.mk #[120]),.string (ByteArray.mk #[121])] 9):RdV LS w exW (some ⟨g,0,none⟩,2,2) :=
 ⟨rfl,by decide,rd_blk (xs:=exW) h rfl (by decide)⟩
theorem lives_calls (hT:Tabs w) (hK:∀w',Below w.heap.size w w'→R (.returned (.bool true)) w'):Calls Tryz.prog 27 #[] w R:=by
 refine ok27 ?_
 unfold F27
 refine al fun gp w1 hb1 b1 hge=>?_
 refine exX_call _ fun w2 hb2=>⟨_,_,_,_,_,_,_,_,_,rfl,?_⟩
 refine al fun g25 w3 hb3 b25 hge25=>?_
 refine exE_call _ (some ⟨g25,0,none⟩,1,1) fun w4 hb4=>⟨_,_,_,_,_,_,_,_,_,rfl,?_⟩
 refine exX_call _ fun w5 hb5=>⟨_,_,_,_,_,_,_,_,_,rfl,?_⟩
 refine exX_call _ fun w6 hb6=>⟨_,_,_,_,_,_,_,_,_,rfl,?_⟩
 refine al fun g33 w7 hb7 b33 hge33=>?_
 refine exE_call _ (some ⟨g33,0,none⟩,1,1) fun w8 hb8=>⟨_,_,_,_,_,_,_,_,_,rfl,?_⟩
 refine al fun g35 w9 hb9 b35 hge35=>?_
 refine exE_call _ (some ⟨g35,0,none⟩,2,2) fun w10 hb10=>⟨_,_,_,_,_,_,_,_,_,rfl,?_⟩
 refine al fun g37 w11 hb11 b37 hge37=>?_
 refine exE_call _ (some ⟨g37,0,none⟩,2,2) fun w12 hb12=>⟨_,_,_,_,_,_,_,_,_,rfl,?_⟩
 have hs1:=hb1.size
 have hs2:=hb2.size
 have hs3:=hb3.size
 have hs4:=hb4.size
 have hs5:=hb5.size
 have hs6:=hb6.size
 have hs7:=hb7.size
 have hs8:=hb8.size
 have hs9:=hb9.size
 have hs10:=hb10.size
 have hs11:=hb11.size
 have hgp:=b1.lt
 have c11:=btr hb11 hb11.size hb12
 have c10:=btr hb10 hb10.size c11
 have c9:=btr hb9 hb9.size c10
 have c8:=btr hb8 hb8.size c9
 have c7:=btr hb7 hb7.size c8
 have c6:=btr hb6 hb6.size c7
 have c5:=btr hb5 hb5.size c6
 have c4:=btr hb4 hb4.size c5
 have c3:=btr hb3 hb3.size c4
 have c2:=btr hb2 hb2.size c3
 have c1:=btr hb1 hb1.size c2
 have p1:=b1.keep c2
 have p25:=b25.keep c4
 have p33:=b33.keep c8
 have p35:=b35.keep c10
 have p37:=b37.keep hb12
 have hL:=ld_zero p1
 generalize ho:(fun b=>if b=gp then 1 else 0)=o at hL
 have hoc:∀b,b≠gp→(o b).beq 0=true:=fun b hb=>by rw [←ho];simp only [if_neg hb];rfl
 have hW:∀{g:Nat}{c:Array Value}{t:TypeId},g≠gp→Blk w12 g c t→Blk (wc o w12) g c t:=fun hne hh=>cells_only (ok:=fun b=>Nat.beq (o b) 0) (hoc _ hne) hh
 have hsub:Sub w (wc o w12):=fun b c t fr hb=>by
  have hlt:=(Array.getElem?_eq_some_iff.1 hb).1
  refine cells_only (hoc b (by omega)) ?_
  rw [c1.block b hlt];exact hb
 have hx:RTr (wc o w12) exT (eE (ByteArray.mk #[97]) (some ⟨g37,0,none⟩,2,2)):=by
  have r25:RTr (wc o w12) (exE (ByteArray.mk #[98]) [exX (ByteArray.mk #[120,32,121])]) (eE (ByteArray.mk #[98]) (some ⟨g25,0,none⟩,1,1)) :=
   exE_rd (by decide) rfl (rd_blk (xs:=[eX (ByteArray.mk #[120,32,121])]) (hW (by omega) p25) rfl (by decide)) (by simp only [RTl];exact⟨_,_,rfl,exX_rd _,rfl⟩)
  have r33:RTr (wc o w12) (exE (ByteArray.mk #[100]) [exX (ByteArray.mk #[120])]) (eE (ByteArray.mk #[100]) (some ⟨g33,0,none⟩,1,1)) :=
   exE_rd (by decide) rfl (rd_blk (xs:=[eX (ByteArray.mk #[120])]) (hW (by omega) p33) rfl (by decide)) (by simp only [RTl];exact⟨_,_,rfl,exX_rd _,rfl⟩)
  have r35:RTr (wc o w12) (exE (ByteArray.mk #[99]) [exX (ByteArray.mk #[121,32]),exE (ByteArray.mk #[100]) [exX (ByteArray.mk #[120])]]) (eE (ByteArray.mk #[99]) (some ⟨g35,0,none⟩,2,2)) :=
   exE_rd (by decide) rfl (rd_blk (xs:=[eX (ByteArray.mk #[121,32]),eE (ByteArray.mk #[100]) (some ⟨g33,0,none⟩,1,1)]) (hW (by omega) p35) rfl (by simp [maxLen])) (by simp only [RTl];exact⟨_,_,rfl,exX_rd _,_,_,rfl,r33,rfl⟩)
  exact exE_rd (by decide) rfl (rd_blk (xs:=[eE (ByteArray.mk #[98]) (some ⟨g25,0,none⟩,1,1),eE (ByteArray.mk #[99]) (some ⟨g35,0,none⟩,2,2)]) (hW (by omega) p37) rfl (by simp [maxLen])) (by simp only [RTl];exact⟨_,_,rfl,r25,_,_,rfl,r35,rfl⟩)
 refine insertL_calls (a:=0) (e:=eE (ByteArray.mk #[97]) (some ⟨g37,0,none⟩,2,2)) hL (by decide) nil_wf (hT.sub hsub) hx (by decide) fun w13 o13 hL13 ev=>⟨_,_,rfl,?_⟩
 have B13:Below w.heap.size w w13:=c1.trans (ev.fm.toBelow c1.size fun b hb e=>e (by rw [←ho];exact if_neg (by omega)))
 refine New_calls hL13 (ins_wf nil_wf 2 0 exT) fun gx w14 hb14 hix=>⟨_,_,rfl,?_⟩
 have B14:=btr B13 B13.size hb14
 have hix:Ix w14 gx exD:=hix
 obtain⟨gd,mt,mh,o',S,nv,tv,hv,hix⟩:=hix
 refine⟨fun w'=>w'=w14,?_,?_⟩
 rotate_left
 ·refine brn (fun h=>absurd ex_ins h) fun _=>brn (fun h=>absurd rfl h) fun _=>?_
  rw [Option.isNone_some,Br_f]
 rintro w15 rfl
 unfold F27_j8
 have nc:canS exW=false→False:=fun h=>by rw [ex_can] at h;cases h
 refine al fun ga w16 hb16 b16 _=>?_
 have B16:=btr B14 B14.size hb16
 refine All_calls (vw:=(some ⟨ga,0,none⟩,2,2)) (hix.keep hb16) (hT.keep B16) (exW_rd b16) (fun _ va w17 hb17 oa=>⟨_,_,_,_,rfl,?_⟩) fun h=>(nc h).elim
 have B17:=btr B16 B16.size hb17
 refine al fun gb w18 hb18 b18 _=>?_
 have B18:=btr B17 B17.size hb18
 have C18:=btr hb16 hb16.size (btr hb17 hb17.size hb18)
 refine Smallest_calls (vw:=(some ⟨gb,0,none⟩,2,2)) (hix.keep C18) (hT.keep B18) (exW_rd b18) (fun _ vb w19 hb19 ob=>⟨_,_,_,_,rfl,?_⟩) fun h=>(nc h).elim
 have B19:=btr B18 B18.size hb19
 refine al fun gc w20 hb20 b20 _=>?_
 have B20:=btr B19 B19.size hb20
 have C20:=btr C18 C18.size (btr hb19 hb19.size hb20)
 refine Phrase_calls (v:=(some ⟨gc,0,none⟩,2,2)) (hix.keep C20) (hT.keep B20) (exW_rd b20) (fun _ vc w21 hb21 oc=>⟨_,_,_,_,rfl,?_⟩) fun h=>(nc h).elim
 have B21:=btr B20 B20.size hb21
 refine wordsA_k _ (hT.keep B21) fun v w22 ⟨A,n,c,A2,n2,c2,hv,hw⟩=>⟨_,_,_,_,_,_,_,hv,?_⟩
 have B22:=btr B21 B21.size hw.below
 have ea:=(rdO oa).1
 have eb:=(rdO ob).1
 have ec:=(rdO oc).1
 rw [ex_all] at ea
 rw [ex_small] at eb
 rw [ex_phr] at ec
 have hws:=hw.ws
 rw [if_pos ex_text,ex_words] at hws
 obtain⟨q1,q2⟩:=hws.rd
 rw [ea,eb,ec,ex_text,q1]
 refine bre (fun _=>?_) fun h=>absurd rfl h
 refine bre (fun _=>?_) fun h=>absurd rfl h
 refine bre (fun _=>?_) fun h=>absurd rfl h
 refine bre (fun _=>?_) fun h=>absurd rfl h
 refine bre (fun _=>?_) fun h=>absurd rfl h
 refine bre (fun _=>?_) fun h=>absurd rfl h
 refine bre (fun _=>?_) fun h=>absurd rfl h
 refine bre (fun _=>?_) fun h=>absurd rfl h
 refine q2.str rfl rfl (k:=0) (by decide) fun b oo cs=>?_
 simp only [cs,lds]
 rw [bytes_eq]
 exact hK w22 B22
end
set_option maxRecDepth 100000
structure E12 where
 a:Ac
 e:E5
def E12.cells (x:E12):List Value:=[.int .i64 x.a.kind,.int .i64 x.a.wh,.bool x.a.how,.int .u64 (x.a.n:Nat),.int .u64 (x.a.at_:Nat),.string x.a.nm,.string x.a.val,.int .i64 x.e.kind,.string x.e.nm,.slice x.e.ats.1 x.e.ats.2.1 x.e.ats.2.2,.string x.e.text,.slice x.e.kids.1 x.e.kids.2.1 x.e.kids.2.2]
def LAc:Lay E12:=⟨12,E12.cells,fun _=>rfl,fun _=>by simp [E12.cells,Value.oneCell'],by decide⟩
def RAc (w:World) (x:E12):Prop:=AcOk x.a∧RTr w x.a.x x.e
theorem RAc.sub {w w1:World}{x:E12} (h:RAc w x) (hs:Sub w w1):RAc w1 x:=⟨h.1,RTr.sub hs _ _ h.2⟩
structure Both (p:Value) (P:Nat→World→(Nat→Nat)→Im→Prop) (w0:World) (g k:Nat) (w:World) (o:Nat→Nat) (D:Im) (vs vr:Sv):Prop where
 p:P k w o D
 wf:Wf D
 r:RM (okc o) w g D vs vr
 og:o g=0
 old:Below w0.heap.size w0 w
 col:∀b,b < w0.heap.size→o b=0
 gne:w0.heap.size≤g
section
variable {p:Value}{P:Nat→World→(Nat→Nat)→Im→Prop}{k:Nat}{w w0 w1:World}{o:Nat→Nat}{g:Nat}{D:Im}{vs vr:Sv}{R:Ending→World→Prop}
theorem Both.sub (h:Both p P w0 g k w o D vs vr):Sub w0 (vw (okc o) g w):=fun b c t fr hb=>by
 have hlt:=(Array.getElem?_eq_some_iff.1 hb).1
 refine cells_only (vw_iff.2 ⟨okc_iff.2 (h.col b hlt),by have:=h.gne;omega⟩) ?_
 rw [h.old.block b hlt];exact hb
theorem Both.keep (E:Edr p P) (h:Both p P w0 g k w o D vs vr) (hb:Below w.heap.size w w1):Both p P w0 g k w1 o D vs vr :=
 ⟨E.keep (M:=fun _=>False) h.p (.below hb) fun _ _ h=>h.elim,h.wf,h.r.keep hb,h.og,btr h.old h.old.size hb,h.col,h.gne⟩
theorem both_does (E:Edr p P) (h:Both p P w0 g k w o D vs vr) (hk:k < 1099511627776) (hT:Tabs w0) {x:E12} (hx:RAc w0 x)
  (hK:∀w' o' vs' vr',Both p P w0 g (k+1) w' o' (doF D x.a) vs' vr'→R (.returned (.bool true)) w'):Calls Tryz.prog 60 #[p,.pointer (some ⟨g,0,none⟩),acV x.a x.e] w R:=by
 have hs:=h.sub
 refine does_calls E h.p hk h.wf h.r h.og (hT.sub hs) hx.1 (RTr.sub hs _ _ hx.2) fun w' o' vs' vr' hp hr hf ho=>hK w' o' vs' vr' ⟨hp,do_wf h.wf _,hr,?_,?_,fun b hb=>ho b (Nat.lt_of_lt_of_le hb h.old.size) (h.col b hb),h.gne⟩
 ·exact ho g h.r.blk.lt h.og
 ·refine h.old.trans (hf.toBelow h.old.size fun b hb e=>?_)
  rcases e with e | e
  ·exact e (h.col b hb)
  ·have:=h.gne;omega
end
set_option maxRecDepth 100000
section
variable {w w1:World}{R:Ending→World→Prop}
abbrev LBoth (gp:Nat) (w0:World) (g k:Nat) (w:World) (o:Nat→Nat) (D:Im) (vs vr:Sv):Prop:=Both (.iface 61 (.pointer (some ⟨gp,0,none⟩))) (fun k w o D=>LD k gp 105 w o D) w0 g k w o D vs vr
theorem played_calls {A:Option Addr}{c:Nat}{xs:List E12} (hT:Tabs w) (hr:Rd LAc w A c xs) (hx:∀x∈xs,RAc w x) (hl:xs.length≤1048576)
  (hK:∀gp gd w' o D vs vr k,k≤1048576→LBoth gp w gd k w' o D vs vr→R (.returned (.pointer (some ⟨gp,0,none⟩))) w'):Calls Tryz.prog 28 #[.slice A xs.length c] w R:=by
 refine ok28 A xs.length c ?_
 unfold F28
 refine al fun gp w1 hb1 b1 hge1=>al fun gd w2 hb2 b2 hge2=>?_
 have B2:=btr hb1 hb1.size hb2
 have hs1:=hb1.size
 have hb1l:=b1.lt
 have b12:=b1.keep hb2
 have h0:LBoth gp w gd 0 w2 (fun b=>if b=gp then 1 else 0) ⟨[],[]⟩ (none,0,0) (none,0,0) :=
  ⟨ld_zero b12,nil_wf,rm_zero b2,if_neg (by omega),B2,fun b hb=>if_neg (by omega),by omega⟩
 refine⟨fun i w'=>∃(m:Nat) (o:Nat→Nat) (D:Im) (vs vr:Sv),i=m∧m≤xs.length∧LBoth gp w gd m w' o D vs vr,fun i _=>xs.length-i.toNat,⟨0,_,_,_,_,rfl,by omega,h0⟩,?_⟩
 rintro _ w3 ⟨m,o,D,vs,vr,rfl,hm,h3⟩
 unfold F28_l3
 refine brd (fun hlt=>?_) (fun hge=>?_)
 ·have hml:m < xs.length:=by omega
  refine (hr.keep h3.old).idx rfl (by omega) (by omega) rfl fun b oo hc=>?_
  simp only [Int.toNat_natCast] at hc
  have k0:=hc 0 _ rfl
  have k1:=hc 1 _ rfl
  have k2:=hc 2 _ rfl
  have k3:=hc 3 _ rfl
  have k4:=hc 4 _ rfl
  have k5:=hc 5 _ rfl
  have k6:=hc 6 _ rfl
  have k7:=hc 7 _ rfl
  have k8:=hc 8 _ rfl
  have k9:=hc 9 _ rfl
  have k10:=hc 10 _ rfl
  have k11:=hc 11 _ rfl
  simp only [Nat.add_zero] at k0
  simp only [k0,k1,k2,k3,k4,k5,k6,k7,k8,k9,k10,k11,lds]
  refine both_does label_edr h3 (by omega) hT (hx _ (List.getElem_mem hml)) fun w4 o4 vs4 vr4 h4=>⟨_,rfl,?_⟩
  rw [brnot,Br_t]
  exact⟨inR_i64 (by omega) (by omega),⟨m+1,o4,_,vs4,vr4,by simp,by omega,h4⟩,(by first | omega | (dsimp only;omega))⟩
 ·exact hK gp gd w3 o D vs vr m (by omega) h3
theorem in_calls {l:List Nat}{v:Sv}{n:Nat} (hl:RdV LHn w l v) (hK:R (.returned (.bool (decide (n∈l)))) w):Calls Tryz.prog 32 #[.slice v.1 v.2.1 v.2.2,.int .u64 (n:Nat)] w R:=by
 obtain⟨z1,z0,z2⟩:=hl
 refine ok32 v.1 v.2.1 v.2.2 n ?_
 unfold F32
 refine⟨fun i w'=>∃k:Nat,i=k∧k≤l.length∧w=w'∧n∉l.take k,fun i _=>l.length-i.toNat,⟨0,rfl,by omega,rfl,by simp⟩,?_⟩
 rintro i w1 ⟨k,rfl,hk,rfl,hF⟩
 unfold F32_l2
 refine brd (fun hlt=>?_) (fun hge=>?_)
 ·have hk2:k < l.length:=by omega
  refine z2.hn z1 rfl (k:=k) hk2 fun b o c0=>?_
  simp only [c0,lds]
  refine bre (fun hp=>?_) (fun hp=>?_)
  ·have e:n=l[k]:=by omega
   rw [decide_eq_true (by rw [e];exact List.getElem_mem hk2)] at hK
   exact hK
  ·refine⟨inR_i64 (by omega) (by omega),⟨k+1,by simp,by omega,trivial,fun h=>?_⟩,(by first | omega | (dsimp only;omega))⟩
   rw [List.take_succ_eq_append_getElem hk2,List.mem_append,List.mem_singleton] at h
   rcases h with h | h
   ·exact hF h
   ·omega
 ·have hk2:k=l.length:=by omega
  subst hk2
  rw [List.take_length] at hF
  rw [decide_eq_false hF] at hK
  exact hK
end
set_option maxRecDepth 100000
section
variable {W:World}{R:Ending→World→Prop}{A:Option Addr}{c:Nat}{xs:List E12}{ws:List ByteArray}{vw:Sv}
end
set_option maxRecDepth 100000
structure Asks (w:World) (gp gd:Nat) (D:Im) (E:Nat→Option (Nat × Nat)) (nms lbs:List Nat) (gv:Nat) (vs vr:Sv) (es:List S8):Prop where
 wf:Wf D
 i:TgI nms lbs gv
 word:nms=0 :: D.roots.flatMap (wrd (slA D.sl) E 65)
 r:RW [] w gd D vs vr es
 span:∀{x c:Nat}{s:Sl}{w1:World}{R:Ending→World→Prop},slA D.sl x=some s→Ch (slA D.sl) x c→c≤64→Below w.heap.size w w1 →
  (∀w',Below w1.heap.size w1 w'→R (.returned (.tuple #[sp3 (spn E nms lbs x c),.int .i64 0])) w')→Calls Tryz.prog 31 #[.pointer (some ⟨gp,0,none⟩),.int .u64 (x:Nat)] w1 R
theorem Asks.of {k g gd:Nat}{w:World}{o:Nat→Nat}{D:Im}{vs vr:Sv}{es:List S8} (hL:LD k g 105 w o D) (hw:Wf D) (hr:RW [] w gd D vs vr es):∃E nms lbs gv,Asks w g gd D E nms lbs gv vs vr es:=by
 obtain⟨S,nms,gv,E,rfl,h⟩:=hL
 have hword:=h.word
 have hd2:=h.def2
 obtain⟨lbs,hI,hM⟩:∃lbs,TgI nms lbs gv∧∀y,E y≠none→∃bs mb wr em,LM w o g 105 S bs nms lbs mb gv wr em E:=by
  rcases h.x with ⟨bs,lbs,mb,wr,em,h⟩ | ⟨h,rfl,rfl,h2⟩
  ·exact⟨lbs,h.i,fun _ _=>⟨bs,mb,wr,em,h⟩⟩
  ·exact⟨_,one_I,fun y hy=>absurd (h2 y) hy⟩
 refine⟨E,nms,lbs,gv,hw,hI,hword,hr,?_⟩
 intro x c s w1 R hs hc hc2 hb hK
 have hE:=hd2 x s hs
 obtain⟨bs,mb,wr,em,hm⟩:=hM x hE
 obtain⟨⟨b,e⟩,hbe⟩:=Option.ne_none_iff_exists'.1 hE
 have heN:eN E x=(b,e):=by unfold eN;rw [hbe];rfl
 have hin:x∈S.D.roots.flatMap (allA (slA S.D.sl) 65):=(mem_all_roots hw.a).2 ⟨s,hs⟩
 obtain⟨m1,m2⟩:=flat_mem (E:=E) (r:=65) hw.a (fun y hy=>by obtain⟨_,t,t1,_⟩:=hw.a.root.2 y hy;exact⟨t,t1⟩) x hin
 rw [heN] at m1 m2
 have n1:b∈nms:=by rw [hword];exact List.mem_cons_of_mem _ m1
 have n2:e∈nms:=by rw [hword];exact List.mem_cons_of_mem _ m2
 have l1:=List.idxOf_lt_length_iff.2 n1
 have l2:=List.idxOf_lt_length_iff.2 n2
 have hl:=hI.len
 refine Span_calls (hm.below hb) hw.a hs hc hc2 hbe (i:=nms.idxOf b) (j:=nms.idxOf e) (l:=lbs.getD (nms.idxOf b) 0) (m:=lbs.getD (nms.idxOf e) 0) ((idx_iff hI.nd).2 ⟨n1,rfl⟩) ((idx_iff hI.nd).2 ⟨n2,rfl⟩)
  (by rw [List.getD_eq_getElem?_getD,List.getElem?_eq_getElem (by omega)];rfl) (by rw [List.getD_eq_getElem?_getD,List.getElem?_eq_getElem (by omega)];rfl) fun w' hb'=>?_
 have:=hK w' hb'
 unfold sp3 spn bg en lab at this
 rw [heN] at this
 exact this
set_option maxRecDepth 100000
section
variable {w w0:World}{R:Ending→World→Prop}{a b:Sp3}
theorem descS_calls (hK:∀w',Below w.heap.size w w'→R (.returned (.bool (ancB b a))) w'):Calls Tryz.prog 33 #[sp3 a,sp3 b] w R:=by
 refine ok33 a.1 a.2.1 a.2.2 b.1 b.2.1 b.2.2 ?_
 unfold F33
 refine al fun ga w1 hb1 ba _=>al fun gb w2 hb2 bb _=>?_
 have ba2:=ba.keep hb2
 simp only [Addr.add_mk,Nat.zero_add,ba2.cell,bb.cell,lds]
 refine ok63 b.1 b.2.1 b.2.2 a.1 a.2.1 a.2.2 ?_
 unfold F63
 refine al fun gc w3 hb3 bc _=>al fun gd w4 hb4 bd _=>?_
 have bc2:=bc.keep hb4
 simp only [Addr.add_mk,Nat.zero_add,bc2.cell,bd.cell,lds]
 have B2:=btr hb1 hb1.size hb2
 have:=hK w4 (btr B2 B2.size (btr hb3 hb3.size hb4))
 unfold ancB at this
 refine brd (fun h=>?_) (fun h=>?_)
 ·rw [decide_eq_true h,Bool.true_and] at this;exact⟨_,rfl,this⟩
 ·rw [decide_eq_false h,Bool.false_and] at this;exact⟨_,rfl,this⟩
end
abbrev Inn (D:Im) (x y:Nat):Prop:=y∈allA (slA D.sl) 65 x∧y≠x
section
variable {w0 w:World}{gp gd:Nat}{D:Im}{E:Nat→Option (Nat × Nat)}{nms lbs:List Nat}{gv:Nat}{vs vr:Sv}{es:List S8}{R:Ending→World→Prop}{i k x y cx cy:Nat}{sx sy:Sl}{ws:List ByteArray}{va vb vc:Sv}
theorem inner_iff (h:Asks w0 gp gd D E nms lbs gv vs vr es) (hx:Nd D i x cx sx) (hy:Nd D k y cy sy):ancB (spn E nms lbs x cx) (spn E nms lbs y cy)=decide (Inn D x y):=by
 rw [(pair_rel h.wf.a h.i h.word hx hy).2.1,decide_eq_decide]
 have h1:=in_iff h.wf.a hx.at_ hy.at_
 have hne:y≠x↔i≠k:=by
  have hnd:(allD' D).Nodup:=rootsAll_nodup h.wf.a
  have ax:=hx.at_
  have ay:=hy.at_
  constructor
  ·intro hh e;subst e;rw [ax] at ay;exact hh (Option.some.inj ay).symm
  ·intro hh e;subst e
   obtain⟨l1,e1⟩:=List.getElem?_eq_some_iff.1 ax
   obtain⟨l2,e2⟩:=List.getElem?_eq_some_iff.1 ay
   exact hh ((List.getElem_inj hnd).1 (e1.trans e2.symm))
 unfold Inn szN
 rw [h1,hne]
 omega
theorem fnd_nd (hA:WfA (slA D.sl) D.roots []) {q:Nat→Nat→Bool} (h:x∈fndF D ws q):∃i c s,c≤64∧Nd D i x c s:=by
 obtain⟨i,hi⟩:=List.mem_iff_getElem?.1 (List.mem_filter.1 h).1
 obtain⟨c,s,h1,h2⟩:=Nd.of hA hi
 exact⟨i,c,s,h1,h2⟩
theorem small_calls (h:Asks w0 gp gd D E nms lbs gv vs vr es) (ra:RdV LHn w0 (AllS D ws) va) (rb:RdV LHn w0 (SmallS D ws) vb) (rc:RdV LHn w0 (BestS D ws) vc) (hK:∀w',Below w0.heap.size w0 w'→R (.returned (.bool true)) w') :
  F7_j16 (some ⟨gp,0,none⟩) va.1 va.2.1 va.2.2 vb.1 vb.2.1 vb.2.2 vc.1 vc.2.1 vc.2.2 w0 R:=by
 have hA:=h.wf.a
 have la:=ra.2.1
 have lb:=rb.2.1
 have lc:=rc.2.1
 unfold F7_j16
 refine⟨fun i w'=>∃m:Nat,i=m∧m≤(AllS D ws).length∧Below w0.heap.size w0 w',fun i _=>(AllS D ws).length-i.toNat,⟨0,rfl,by omega,.refl _ _⟩,?_⟩
 rintro _ w1 ⟨m,rfl,hm,hb1⟩
 unfold F7_l17
 refine brd (fun hlt=>?_) (fun hge=>?_)
 ·have hm2:m < (AllS D ws).length:=by have:=ra.1;omega
  refine (ra.keep hb1).2.2.hn ra.1 rfl hm2 fun b o c0=>?_
  simp only [c0,lds]
  have hxm:(AllS D ws)[m]∈AllS D ws:=List.getElem_mem hm2
  generalize hgx:(AllS D ws)[m]=x at *
  obtain⟨ix,cx,sx,hcx,hx⟩:=fnd_nd hA hxm
  refine h.span hx.sl hx.ch hcx hb1 fun w2 hb2=>⟨_,_,_,_,rfl,?_⟩
  have B2:=btr hb1 hb1.size hb2
  refine al3 fun ga w3 hb3 ba hgea=>?_
  have B3:=btr B2 B2.size hb3
  refine (ra.keep B3).2.2.hn ra.1 rfl hm2 fun b2 o2 c2=>?_
  rw [hgx] at c2
  simp only [c2,lds]
  refine in_calls (n:=x) (rb.keep B3) ⟨_,rfl,?_⟩
  refine⟨fun ar k w'=>∃kk:Nat,k=kk∧kk≤(SmallS D ws).length∧Below w3.heap.size w3 w'∧ar=(decide (x∈SmallS D ws) || ((SmallS D ws).take kk).any fun y=>decide (Inn D x y)),fun _ k _=>(SmallS D ws).length-k.toNat,
   ⟨0,rfl,by omega,.refl _ _,by simp⟩,?_⟩
  rintro ar _ w4 ⟨k,rfl,hk,hb4,har⟩
  have B4:=btr B3 B3.size hb4
  unfold F7_l22
  refine brd (fun hlk=>?_) (fun hgk=>?_)
  ·have hk2:k < (SmallS D ws).length:=by have:=rb.1;omega
   have htk:((SmallS D ws).take (k+1)).any (fun y=>decide (Inn D x y))=(((SmallS D ws).take k).any (fun y=>decide (Inn D x y)) || decide (Inn D x (SmallS D ws)[k])):=by
    rw [List.take_succ_eq_append_getElem hk2,List.any_append];simp
   refine⟨fun ar w'=>Below w3.heap.size w3 w'∧ar=(decide (x∈SmallS D ws) || ((SmallS D ws).take (k+1)).any fun y=>decide (Inn D x y)),?_,?_⟩
   ·rintro ar w' ⟨p1,p2⟩
    exact⟨inR_i64 (by omega) (by omega),⟨k+1,by simp,by omega,p1,p2⟩,(by first | omega | (dsimp only;omega))⟩
   refine (rb.keep B4).2.2.hn rb.1 rfl hk2 fun b5 o5 c5=>?_
   simp only [c5,lds]
   have hym:(SmallS D ws)[k]∈SmallS D ws:=List.getElem_mem hk2
   generalize hgy:(SmallS D ws)[k]=y at *
   obtain⟨iy,cy,sy,hcy,hy⟩:=fnd_nd hA hym
   refine h.span hy.sl hy.ch hcy B4 fun w5 hb5=>⟨_,_,_,_,rfl,?_⟩
   refine al3 fun gb w6 hb6 bb hgeb=>?_
   have C5:=btr hb4 hb4.size hb5
   have C6:=btr C5 C5.size hb6
   have B6:=btr B3 B3.size C6
   refine⟨fun w'=>w'=w6,?_,brn (fun h=>absurd rfl h) fun _=>brn (fun h=>absurd rfl h) fun _=>rfl⟩
   rintro w7 rfl
   unfold F7_j27
   have ba6:=ba.keep C6
   simp only [Addr.add_mk,Nat.zero_add,ba6.cell,bb.cell,lds]
   refine descS_calls (a:=spn E nms lbs y cy) (b:=spn E nms lbs x cx) fun w8 hb8=>⟨_,rfl,?_⟩
   rw [inner_iff h hx hy]
   have C8:=btr C6 C6.size hb8
   have B8:=btr B3 B3.size C8
   refine⟨fun ar w'=>w'=w8∧ar=(decide (x∈SmallS D ws) || ((SmallS D ws).take (k+1)).any fun y=>decide (Inn D x y)),?_,?_⟩
   ·rintro ar w9 ⟨rfl,har2⟩
    unfold F7_j29
    refine brd (fun hin=>?_) (fun _=>⟨C8,har2⟩)
    refine (ra.keep B8).2.2.hn ra.1 rfl hm2 fun b9 o9 c9=>?_
    rw [hgx] at c9
    simp only [c9,lds]
    refine in_calls (n:=x) (rb.keep B8) ⟨_,rfl,?_⟩
    have e9:decide (x∈SmallS D ws)=false:=decide_eq_false fun hxs=>small_apart hA hxs hym hin
    rw [e9] at har2 ⊢
    rw [Br_f]
    exact⟨C8,har2⟩
   ·rw [htk,←Bool.or_assoc,←har]
    refine br (fun e=>?_) (fun e=>?_)
    ·exact⟨rfl,by rw [e,Bool.true_or]⟩
    ·exact⟨rfl,by rw [e,Bool.false_or]⟩
  ·have hk2:k=(SmallS D ws).length:=by have:=rb.1;omega
   subst hk2
   rw [List.take_length] at har
   have htrue:ar=true:=by
    rw [har,Bool.or_eq_true,decide_eq_true_eq,List.any_eq_true]
    rcases all_around hA 64 hxm (fun c _=>by omega) with e | ⟨y,e1,e2⟩
    ·exact .inl e
    ·exact .inr ⟨y,e1,decide_eq_true e2⟩
   rw [htrue,brnot,Br_t]
   exact⟨inR_i64 (by omega) (by omega),⟨m+1,by simp,by omega,B4⟩,(by first | omega | (dsimp only;omega))⟩
 ·refine⟨fun i w'=>∃k:Nat,i=k∧k≤(SmallS D ws).length∧Below w0.heap.size w0 w',fun i _=>(SmallS D ws).length-i.toNat,⟨0,rfl,by omega,hb1⟩,?_⟩
  rintro _ w2 ⟨k,rfl,hk,hb2⟩
  unfold F7_l34
  refine brd (fun hlk=>?_) (fun hgk=>?_)
  ·have hk2:k < (SmallS D ws).length:=by have:=rb.1;omega
   refine⟨fun w'=>w'=w2,fun w' e=>⟨inR_i64 (by omega) (by omega),⟨k+1,by simp,by omega,by rw [e];exact hb2⟩,(by first | omega | (dsimp only;omega))⟩,?_⟩
   refine (rb.keep hb2).2.2.hn rb.1 rfl hk2 fun b o c0=>?_
   simp only [c0,lds]
   have hym:(SmallS D ws)[k]∈SmallS D ws:=List.getElem_mem hk2
   refine in_calls (rc.keep hb2) ⟨_,rfl,?_⟩
   rw [decide_eq_true (small_in_best hA hym),brnot,Br_t]
   refine (rb.keep hb2).2.2.hn rb.1 rfl hk2 fun b o c0=>?_
   simp only [c0,lds]
   refine in_calls (ra.keep hb2) ⟨_,rfl,?_⟩
   rw [decide_eq_true (in_all hA hym),brnot,Br_t]
  ·refine⟨fun i w'=>∃k:Nat,i=k∧k≤(BestS D ws).length∧Below w0.heap.size w0 w',fun i _=>(BestS D ws).length-i.toNat,⟨0,rfl,by omega,hb2⟩,?_⟩
   rintro _ w3 ⟨j,rfl,hj,hb3⟩
   unfold F7_l39
   refine brd (fun hlj=>?_) (fun _=>hK w3 hb3)
   have hj2:j < (BestS D ws).length:=by have:=rc.1;omega
   refine (rc.keep hb3).2.2.hn rc.1 rfl hj2 fun b o c0=>?_
   simp only [c0,lds]
   refine in_calls (ra.keep hb3) ⟨_,rfl,?_⟩
   rw [decide_eq_true (in_all hA (List.getElem_mem hj2)),brnot,Br_t]
   exact⟨inR_i64 (by omega) (by omega),⟨j+1,by simp,by omega,hb3⟩,(by first | omega | (dsimp only;omega))⟩
end
set_option maxRecDepth 100000
section
variable {W:World}{R:Ending→World→Prop}{A:Option Addr}{c:Nat}{xs:List E12}{ws:List ByteArray}{vw:Sv}
theorem smallestS_calls (hT:Tabs W) (hr:Rd LAc W A c xs) (hx:∀x∈xs,RAc W x) (hl:xs.length≤1048576) (hw:RdV LS W ws vw) (hK:∀w',Below W.heap.size W w'→R (.returned (.bool true)) w') :
  Calls Tryz.prog 7 #[.slice A xs.length c,.slice vw.1 vw.2.1 vw.2.2] W R:=by
 refine ok7 A xs.length c vw.1 vw.2.1 vw.2.2 ?_
 unfold F7
 refine lives_calls hT fun w1 hb1=>⟨_,rfl,?_⟩
 rw [brnot,Br_t]
 refine played_calls (hT.keep hb1) (hr.keep hb1) (fun x h=>(hx x h).sub (sub_below hb1)) hl fun gp gd w2 o D vs vr kk hkk h2=>⟨_,rfl,?_⟩
 rw [Option.isNone_some,Br_f]
 refine New_calls h2.p h2.wf fun gx w3 hb3 hix=>⟨_,_,rfl,?_⟩
 have B2:=btr hb1 hb1.size h2.old
 have B3:=btr B2 B2.size hb3
 have h3:=h2.keep label_edr hb3
 refine⟨fun w'=>w'=w3,?_,brn (fun h=>absurd rfl h) fun _=>by rw [Option.isNone_some,Br_f]⟩
 rintro w4 rfl
 unfold F7_j9
 obtain⟨gd',mt,mh,o',S,nv,tv,hv,hix⟩:=hix
 have hfew:(allD' D).length≤4096:=rootsAll_few hix.wf.s hix.wf.a
 have few:∀q,(fndF D ws q).length < 4611686018427387904:=fun q=>by have:=List.length_filter_le (fun n=>decide (n∈D.roots.flatMap (findF (slA D.sl) ws q 65))) (allD' D);unfold fndF;omega
 have hT4:=hT.keep B3
 have hw4:=hw.keep B3
 by_cases ho:canS ws=true
 ·have no:canS ws=false→False:=fun e=>by rw [ho] at e;cases e
  refine All_calls hix hT4 hw4 (fun _ v1 w5 hb5 o1=>⟨_,_,_,_,rfl,?_⟩) fun e=>(no e).elim
  refine Smallest_calls (hix.keep hb5) (hT4.keep hb5) (hw4.keep hb5) (fun _ v2 w6 hb6 o2=>⟨_,_,_,_,rfl,?_⟩) fun e=>(no e).elim
  have B6:=btr hb5 hb5.size hb6
  refine Best_calls (hix.keep B6) (hT4.keep B6) (hw4.keep B6) (fun _ v3 w7 hb7 o3=>⟨_,_,_,_,rfl,?_⟩) fun e=>(no e).elim
  have B7:=btr B6 B6.size hb7
  have C7:=btr hb6 hb6.size hb7
  refine brn (fun h=>absurd rfl h) fun _=>?_
  refine⟨fun w'=>w'=w7,?_,brn (fun h=>absurd rfl h) fun _=>brn (fun h=>absurd rfl h) fun _=>rfl⟩
  rintro w8 rfl
  have h8:=h3.keep label_edr B7
  obtain⟨es,hre⟩:=h8.r.re
  obtain⟨E,nms,lbs,gv,hAs⟩:=Asks.of h8.p h8.wf hre
  exact small_calls hAs (rdV_own (o1.keep C7) (few _)) (rdV_own (o2.keep hb7) (few _)) (rdV_own o3 (few _)) fun w9 hb9=>hK w9 (btr B3 B3.size (btr B7 B7.size hb9))
 ·have ho:canS ws=false:=by simpa using ho
  have no:canS ws=true→False:=fun e=>by rw [ho] at e;cases e
  refine All_calls hix hT4 hw4 (fun e=>(no e).elim) fun _ w5 hb5=>⟨_,_,_,_,rfl,?_⟩
  refine Smallest_calls (hix.keep hb5) (hT4.keep hb5) (hw4.keep hb5) (fun e=>(no e).elim) fun _ w6 hb6=>⟨_,_,_,_,rfl,?_⟩
  have B6:=btr hb5 hb5.size hb6
  refine Best_calls (hix.keep B6) (hT4.keep B6) (hw4.keep B6) (fun e=>(no e).elim) fun _ w7 hb7=>⟨_,_,_,_,rfl,?_⟩
  have B7:=btr B6 B6.size hb7
  refine brn (fun _=>?_) fun h=>absurd h (by decide)
  refine bre (fun _=>?_) fun h=>absurd rfl h
  refine bre (fun _=>?_) fun h=>absurd rfl h
  exact⟨inR_i64 (by decide) (by decide),inR_i64 (by decide) (by decide),hK w7 (btr B3 B3.size B7)⟩
end
end Go.Proofs.YtccplipiahdhiaaGreatDoor
namespace Go.Proofs.YtccplipiahdhiaaGreatDoor
open Go.RowKit Go.Deep Go.WideShapes Go.ChangeShapes
section
variable {H:Type}{enc:TypeId × Value→H}{P:Program}{W:World}{α:Type}
theorem cells_of_rows {L:Lay α}{w:World}{b o:Nat}:∀(xs:List α),(∀i (h:i < xs.length),∀j u,(L.cells xs[i])[j]?=some u→w.cell? ⟨b,o+i*L.n+j,none⟩=some u) →
  ∀j u,(L.all xs)[j]?=some u→w.cell? ⟨b,o+j,none⟩=some u:=by
 intro xs h j u hj
 have hlt:j < xs.length*L.n:=by rw [←L.all_length];exact (List.getElem?_eq_some_iff.1 hj).1
 have hi:j / L.n < xs.length:=(Nat.div_lt_iff_lt_mul L.pos).2 hlt
 have hr:j % L.n < L.n:=Nat.mod_lt _ L.pos
 have hd:j / L.n*L.n+j % L.n=j:=by rw [Nat.mul_comm];exact Nat.div_add_mod j L.n
 have:=h (j / L.n) hi (j % L.n) u (by rw [←L.all_at xs _ hi _ hr,hd];exact hj)
 rwa [Nat.add_assoc,hd] at this
end
end Go.Proofs.YtccplipiahdhiaaGreatDoor
namespace Go.Proofs.YtccplipiahdhiaaGreatDoor
open Go.RowKit Go.Deep Go.WideShapes Go.ChangeShapes Go.Vc
set_option linter.unusedSimpArgs false
set_option linter.unusedVariables false
set_option maxRecDepth 100000
theorem upto_one {H:Type} (d:DataW H):1≤Rows.uptoBulk d:=by
 cases d with
 | lit l=>cases l <;> simp only [Rows.uptoBulk] <;> omega
 | _=>simp only [Rows.uptoBulk];omega
theorem upto_len {H:Type}:∀(l:List (DataW H)),l.length≤Rows.uptoBulkAll l
 | []=>by simp
 | d :: l=>by
  have:=upto_len l
  have:=upto_one d
  simp only [Rows.uptoBulkAll,List.length_cons];omega
theorem upto_part {H:Type}{d:DataW H}:∀{l:List (DataW H)},d∈l→Rows.uptoBulk d≤Rows.uptoBulkAll l
 | e :: l,h=>by
  simp only [Rows.uptoBulkAll]
  rcases List.mem_cons.1 h with rfl | h
  ·omega
  ·have:=upto_part h;omega
theorem upto_small {H:Type}{d:DataW H}{l:List (DataW H)} (hk:Rows.uptoSmall H l=true) (h:d∈l):Rows.uptoBulk d≤1048576 :=
 Nat.le_trans (upto_part h) (of_decide_eq_true hk)
section
variable {H:Type}{enc:TypeId × Value→H}{P:Program}{W:World}{α:Type}
theorem trod_parts {t:TypeId}{fs:Array Field}{fuel:Nat}{cs:List Value}{x:DataW H × List MemPlace} (ht:P.underlying t=some (.struct fs)) (h:DataW.trod enc P W 0 (fun _=>true) true fuel t cs=some x) :
  cs.length=P.cellsOf t∧∀(i:Nat) (f:Field),fs[i]?=some f→∃n y,DataW.trod enc P W 0 (fun _=>true) true n f.type ((cs.drop f.offset).take (P.cellsOf f.type))=some y∧Rows.uptoBulk y.1 < Rows.uptoBulk x.1:=by
 obtain⟨xs,n,_,rfl,hl,hlen,hf⟩:=DataW.trod_struct ht h
 refine⟨hl,fun i f hi=>?_⟩
 have hlt:i < xs.length:=by rw [hlen];exact (Array.getElem?_eq_some_iff.1 hi).1
 refine⟨n,xs[i],?_,?_⟩
 ·rw [hf i f hi,List.getElem?_eq_getElem hlt]
 ·have:=upto_part (List.mem_map.2 ⟨xs[i],List.getElem_mem hlt,rfl⟩:xs[i].1∈xs.map (·.1))
  simp only [Rows.uptoBulk];omega
theorem open_bk [Inhabited α] (L:Lay α) (Q:α→Prop) {t e:TypeId}{fuel:Nat}{cs:List Value}{x:DataW H × List MemPlace} (h:DataW.trod enc P W 0 (fun _=>true) true fuel t cs=some x) (ht:P.underlying t=some (.slice e)) (hC:P.cellsOf e=L.n)
  (hel:∀(n:Nat) (cs:List Value) (y:DataW H × List MemPlace),DataW.trod enc P W 0 (fun _=>true) true n e cs=some y→Rows.uptoBulk y.1 < Rows.uptoBulk x.1→∃z:α,cs=L.cells z∧Q z) :
  ∃A c xs,cs=[.slice A xs.length c]∧Rd L W A c xs∧(∀y∈xs,Q y)∧xs.length≤Rows.uptoBulk x.1:=by
 rcases open_slice ht h with ⟨hcs,_⟩ | ⟨a,len,cap,m,n,D,Pl,hcs,_,hl,hm,hmm,hx,hi⟩
 ·exact⟨none,0,[],hcs,Rd.nil _ _,by simp,by simp⟩
 ·have hlm:len≤m:=by rw [hmm];simp;exact hl
  have hx1:=(Prod.mk.inj hx).1
  rw [hx1] at hel ⊢
  have hbulk:∀i,i < len→Rows.uptoBulk (D i) < Rows.uptoBulk (.slice ((List.range len).map D) ((List.range (m-len)).map fun j=>D (len+j))):=fun i hi=>by
   have:=upto_part (List.mem_map.2 ⟨i,List.mem_range.2 hi,rfl⟩:D i∈(List.range len).map D)
   simp only [Rows.uptoBulk];omega
  obtain⟨f,hfx⟩:=choose_lt (α:=α) (n:=len) (p:=fun i y=>(∀j u,(L.cells y)[j]?=some u→W.cell? ((a.add (i*L.n)).add j)=some u)∧Q y) (fun i hil=>by
   obtain⟨cs',h1,h2⟩:=hi i (by omega)
   obtain⟨y,rfl,hq⟩:=hel _ _ _ h2 (hbulk i hil)
   obtain⟨_,hlen,hat⟩:=World.cells?_some h1
   refine⟨y,fun j u hj=>?_,hq⟩
   rw [hC] at hat hlen
   rw [hat j (by rw [←L.len y];exact (List.getElem?_eq_some_iff.1 hj).1)]
   exact hj)
  refine⟨some a,cap,(List.range len).map f,by simpa using hcs,⟨by simpa using hl,hm,(fun h=>by cases h),fun h0=>?_⟩,fun y hy=>?_,?_⟩
  ·simp at h0
   have hspot:a.spot=Option.none:=by
    have hy:=(hfx 0 h0).1
    have hn:0 < (L.cells (f 0)).length:=by rw [L.len];exact L.pos
    have:=hy 0 _ (List.getElem?_eq_getElem hn)
    simp only [Nat.zero_mul,Addr.add,if_true] at this
    unfold World.cell? at this
    cases hs:a.spot with
    | none=>rfl
    | some q =>
     split at this
     ·rw [hs] at this;simp at this
     ·cases this
   obtain⟨b,o,s⟩:=a
   simp only at hspot
   subst hspot
   refine⟨b,o,rfl,cells_of_rows _ (fun i hi j u hj=>?_)⟩
   simp at hi hj
   have:=(hfx i hi).1 j u hj
   rw [Addr.add_lit,Addr.add_lit] at this
   exact this
  ·obtain⟨i,hi,rfl⟩:=List.mem_map.1 hy
   exact (hfx i (List.mem_range.1 hi)).2
  ·have:=upto_len ((List.range len).map D)
   simp only [Rows.uptoBulk,List.length_map,List.length_range] at this ⊢
   omega
theorem list2 {α:Type}{l:List α} (h:l.length=2):∃a b,l=[a,b]:=by
 match l,h with
 | [a,b],_=>exact⟨a,b,rfl⟩
theorem list5 {α:Type}{l:List α} (h:l.length=5):∃a b c d e,l=[a,b,c,d,e]:=by
 match l,h with
 | [a,b,c,d,e],_=>exact⟨a,b,c,d,e,rfl⟩
theorem list12 {α:Type}{l:List α} (h:l.length=12):∃a b c d e f g i j k m n,l=[a,b,c,d,e,f,g,i,j,k,m,n]:=by
 match l,h with
 | [a,b,c,d,e,f,g,i,j,k,m,n],_=>exact⟨a,b,c,d,e,f,g,i,j,k,m,n,rfl⟩
end
instance:Inhabited E5:=⟨⟨0,noB,(none,0,0),noB,(none,0,0)⟩⟩
instance:Inhabited At:=⟨⟨noB,noB⟩⟩
instance:Inhabited Ac:=⟨⟨0,0,false,0,0,noB,noB,.mk 0 noB [] noB []⟩⟩
instance:Inhabited E12:=⟨⟨default,default⟩⟩
theorem rtl_of {w:World}:∀(es:List E5),(∀e∈es,∃t,RTr w t e)→∃ts,RTl w ts es
 | [],_=>⟨[],by simp only [RTl]⟩
 | e :: es,h=>by
  obtain⟨t,ht⟩:=h e (by simp)
  obtain⟨ts,hts⟩:=rtl_of es fun x hx=>h x (by simp [hx])
  exact⟨t :: ts,by simp only [RTl];exact⟨e,es,rfl,ht,hts⟩⟩
section
variable {H:Type}{enc:TypeId × Value→H}{W:World}
theorem kStr:(Tryz.prog).cellsOf 9=1:=by kernel_rfl
theorem kInt:(Tryz.prog).cellsOf 3=1:=by kernel_rfl
theorem kBool:(Tryz.prog).cellsOf 4=1:=by kernel_rfl
theorem kHn:(Tryz.prog).cellsOf 65=1:=by kernel_rfl
theorem kAts:(Tryz.prog).cellsOf 81=1:=by kernel_rfl
theorem kTrs:(Tryz.prog).cellsOf 82=1:=by kernel_rfl
theorem kTr:(Tryz.prog).cellsOf 84=5:=by kernel_rfl
theorem kAt:(Tryz.prog).cellsOf 205=2:=by kernel_rfl
theorem at_cells (n:Nat) (cs:List Value) (x:DataW H × List MemPlace) (h:DataW.trod enc Tryz.prog W 0 (fun _=>true) true n 205 cs=some x):∃y:At,cs=LAt.cells y:=by
 obtain⟨hl,hp⟩:=trod_parts Tryz.underlying205 h
 obtain⟨a,b,rfl⟩:=list2 (hl.trans kAt)
 obtain⟨_,_,h0,-⟩:=hp 0 _ rfl
 obtain⟨_,_,h1,-⟩:=hp 1 _ rfl
 simp only [List.getElem_toArray,List.getElem_cons_zero,List.getElem_cons_succ,kStr,List.drop_zero,List.drop_succ_cons,List.take_succ_cons,List.take_zero] at h0 h1
 obtain⟨s,e0,-,-⟩:=DataW.trod_string Tryz.underlying9 h0
 obtain⟨t,e1,-,-⟩:=DataW.trod_string Tryz.underlying9 h1
 simp only [List.cons.injEq,and_true] at e0 e1
 subst e0 e1
 exact⟨⟨s,t⟩,rfl⟩
theorem ats_cells {n:Nat}{cs:List Value}{x:DataW H × List MemPlace} (h:DataW.trod enc Tryz.prog W 0 (fun _=>true) true n 81 cs=some x) (hx:Rows.uptoBulk x.1≤1048576):∃(v:Sv) (l:List At),cs=[.slice v.1 v.2.1 v.2.2]∧RR LAt W l v:=by
 obtain⟨A,c,l,e,hr,-,hlen⟩:=open_bk LAt (fun _=>True) h Tryz.underlying81 kAt fun n cs y hy _=>by
  obtain⟨z,hz⟩:=at_cells n cs y hy
  exact⟨z,hz,trivial⟩
 exact⟨(A,l.length,c),l,e,Nat.le_trans hlen hx,rfl,hr⟩
theorem tr_cells:∀(B:Nat),B≤1048576→∀(n:Nat) (cs:List Value) (x:DataW H × List MemPlace),DataW.trod enc Tryz.prog W 0 (fun _=>true) true n 84 cs=some x→Rows.uptoBulk x.1≤B →
  ∃(e:E5),cs=e.cells∧∃t,RTr W t e:=by
 intro B
 induction B using Nat.strongRecOn with
 | _ B ih =>
  intro hB n cs x h hx
  obtain⟨hl,hp⟩:=trod_parts Tryz.underlying84 h
  obtain⟨a,b,c,d,e,rfl⟩:=list5 (hl.trans kTr)
  obtain⟨_,_,h0,b0⟩:=hp 0 _ rfl
  obtain⟨_,_,h1,b1⟩:=hp 1 _ rfl
  obtain⟨_,_,h2,b2⟩:=hp 2 _ rfl
  obtain⟨_,_,h3,b3⟩:=hp 3 _ rfl
  obtain⟨_,y4,h4,b4⟩:=hp 4 _ rfl
  simp only [List.getElem_toArray,List.getElem_cons_zero,List.getElem_cons_succ,kInt,kStr,kAts,kTrs,List.drop_zero,List.drop_succ_cons,List.take_succ_cons,List.take_zero] at h0 h1 h2 h3 h4
  obtain⟨kd,e0,-,-⟩:=DataW.trod_int Tryz.underlying3 h0
  obtain⟨nm,e1,-,-⟩:=DataW.trod_string Tryz.underlying9 h1
  obtain⟨va,la,e2,ha⟩:=ats_cells h2 (by omega)
  obtain⟨tx,e3,-,-⟩:=DataW.trod_string Tryz.underlying9 h3
  obtain⟨A,c',es,e4,hr,hq,hlen⟩:=open_bk LE5 (fun e=>∃t,RTr W t e) h4 Tryz.underlying82 kTr fun n cs y hy hby=>ih (Rows.uptoBulk y.1) (by omega) (by omega) n cs y hy (Nat.le_refl _)
  simp only [List.cons.injEq,and_true] at e0 e1 e2 e3 e4
  subst e0 e1 e2 e3 e4
  obtain⟨ts,hts⟩:=rtl_of es hq
  refine⟨⟨kd,nm,va,tx,(A,es.length,c')⟩,rfl,.mk kd nm la tx ts,?_⟩
  simp only [RTr]
  exact⟨by trivial,by trivial,by trivial,ha,by rw [←hts.len];omega,es,rfl,hr,hts⟩
theorem hn_cells {n:Nat}{cs:List Value}{x:DataW H × List MemPlace} (h:DataW.trod enc Tryz.prog W 0 (fun _=>true) true n 65 cs=some x):∃k:Nat,k < 18446744073709551616∧cs=[.int .u64 (k:Nat)]:=by
 obtain⟨k,rfl,-,hw⟩:=DataW.trod_int Tryz.underlying65 h
 have hx:0≤k∧k≤18446744073709551615:=by simpa [Lit.wf,IntKind.min,IntKind.max,IntKind.signed,IntKind.bits] using hw
 exact⟨k.toNat,by omega,by rw [Int.toNat_of_nonneg hx.1]⟩
theorem ac_cells {n:Nat}{cs:List Value}{x:DataW H × List MemPlace} (h:DataW.trod enc Tryz.prog W 0 (fun _=>true) true n 143 cs=some x) (hx:Rows.uptoBulk x.1≤1048576):∃y:E12,cs=LAc.cells y∧RAc W y:=by
 obtain⟨hl,hp⟩:=trod_parts Tryz.underlying143 h
 have kAc:(Tryz.prog).cellsOf 143=12:=by kernel_rfl
 obtain⟨a,b,c,d,e,f,g,i,j,k,m,o,rfl⟩:=list12 (hl.trans kAc)
 obtain⟨_,_,h0,b0⟩:=hp 0 _ rfl
 obtain⟨_,_,h1,b1⟩:=hp 1 _ rfl
 obtain⟨_,_,h2,b2⟩:=hp 2 _ rfl
 obtain⟨_,_,h3,b3⟩:=hp 3 _ rfl
 obtain⟨_,_,h4,b4⟩:=hp 4 _ rfl
 obtain⟨_,_,h5,b5⟩:=hp 5 _ rfl
 obtain⟨_,_,h6,b6⟩:=hp 6 _ rfl
 obtain⟨_,_,h7,b7⟩:=hp 7 _ rfl
 simp only [List.getElem_toArray,List.getElem_cons_zero,List.getElem_cons_succ,kInt,kStr,kBool,kHn,kTr,List.drop_zero,List.drop_succ_cons,List.take_succ_cons,List.take_zero] at h0 h1 h2 h3 h4 h5 h6 h7
 obtain⟨q0,e0,-,-⟩:=DataW.trod_int Tryz.underlying3 h0
 obtain⟨q1,e1,-,-⟩:=DataW.trod_int Tryz.underlying3 h1
 obtain⟨q2,e2,-⟩:=DataW.trod_bool Tryz.underlying4 h2
 obtain⟨q3,l3,e3⟩:=hn_cells h3
 obtain⟨q4,l4,e4⟩:=hn_cells h4
 obtain⟨q5,e5,-,-⟩:=DataW.trod_string Tryz.underlying9 h5
 obtain⟨q6,e6,-,-⟩:=DataW.trod_string Tryz.underlying9 h6
 obtain⟨q7,e7,t,ht⟩:=tr_cells 1048576 (Nat.le_refl _) _ _ _ h7 (by omega)
 simp only [E5.cells,List.cons.injEq,and_true] at e0 e1 e2 e3 e4 e5 e6 e7
 obtain⟨e7,e8,e9,e10,e11⟩:=e7
 subst e0 e1 e2 e3 e4 e5 e6 e7 e8 e9 e10 e11
 exact⟨⟨⟨q0,q1,q2,q3,q4,q5,q6,t⟩,q7⟩,rfl,⟨l3,l4⟩,ht⟩
theorem acs_open {n:Nat}{cs:List Value}{x:DataW H × List MemPlace} (h:DataW.trod enc Tryz.prog W 0 (fun _=>true) true n 59 cs=some x) (hx:Rows.uptoBulk x.1≤1048576) :
  ∃(A:Option Addr) (c:Nat) (xs:List E12),cs=[.slice A xs.length c]∧Rd LAc W A c xs∧(∀y∈xs,RAc W y)∧xs.length≤1048576:=by
 obtain⟨A,c,l,e,hr,hq,hlen⟩:=open_bk LAc (RAc W) h Tryz.underlying59 (by kernel_rfl) fun n cs y hy hb=>ac_cells hy (by omega)
 exact⟨A,c,l,e,hr,hq,Nat.le_trans hlen hx⟩
end
set_option maxRecDepth 100000
section
variable {H:Type}{enc:TypeId × Value→H}{W:World}
theorem strs_open {n:Nat}{cs:List Value}{x:DataW H × List MemPlace} (h:DataW.trod enc Tryz.prog W 0 (fun _=>true) true n 26 cs=some x) (hx:Rows.uptoBulk x.1≤1048576) :
  ∃(v:Sv) (l:List ByteArray),cs=[slV v]∧RdV LS W l v∧l.length≤1048576:=by
 obtain⟨A,c,l,e,hr,hq,hlen⟩:=open_bk LS (fun _=>True) h Tryz.underlying26 kStr fun n cs y hy hb=>by
  obtain⟨s,rfl,-,-⟩:=DataW.trod_string Tryz.underlying9 hy
  exact⟨s,rfl,trivial⟩
 exact⟨(A,l.length,c),l,e,⟨rfl,by omega,hr⟩,Nat.le_trans hlen hx⟩
end
end Go.Proofs.YtccplipiahdhiaaGreatDoor
/- SearchSmallest: each element with all words is one of the smallest, or around one. -/
namespace Go.Proofs.YtccplipiahdhiaaGreatDoor.searchSmallest
open Go.ChangeShapes Go.WideShapes Go.ChangeAt Go.RowKit Go.Joins Go.Lib Go.Vc
open Go.ChangeMaps (open_string shut_string)
set_option maxRecDepth 100000
set_option linter.unusedVariables false
set_option linter.unusedSimpArgs false
theorem own : ownKnob Tryz.prog.godebug = none := by kernel_rfl
theorem laidOut : laidOutB Tryz.prog = true := by kernel_rfl
/-- A world in which the tables are laid. -/
noncomputable def laidWorld (os : Os) : World :=
  let w0 := World.holding Tryz.prog os ⟨#[], #[], []⟩
  let put (h : Array Obj) (g : Nat) (cs : Array Value) : Array Obj := h.modify g fun
    | .cells _ t frozen => .cells cs t frozen
    | o => o
  let h1 := put w0.heap 1 (Lib.firstTab.map fun z => Value.int .u8 z).toArray
  let h2 := put h1 2 ((List.range 16).flatMap fun i => [Value.int .u8 (Lib.accLo i), Value.int .u8 (Lib.accHi i)]).toArray
  { w0 with heap := h2 }
theorem laid_met (os : Os) : laidMet Tryz.prog Rows.searchSmallestUptoRow.laid ((laidWorld os).forCall (fun _ _ => 0) ⟨#[], #[.slice none 0 0, .slice none 0 0], []⟩).memory :=
  (LaidIn.of_run (l := Rows.searchSmallestUptoRow.laid) [2, 1] 8 (by kernel_rfl) (by kernel_rfl) (by kernel_rfl) (by kernel_rfl)).met
theorem u8Types : U8Types Tryz.prog decRen := { decLays with }
theorem tabs_of {W : World} (h : laidMet Tryz.prog Rows.searchSmallestUptoRow.laid W) : Tabs W :=
  utf8Tabs_of_readsT (ρ := decRen) u8Types ⟨by kernel_rfl, by kernel_rfl, by kernel_rfl, by kernel_rfl, by kernel_rfl, by kernel_rfl, by kernel_rfl⟩
    (by rw [← Pinned.utf8First_eq]; exact Lib.laidMet.reads h (.tail _ (.head _))) (Lib.laidMet.reads h (.head _))
theorem reads (os : Os) {H : Type} (enc : TypeId × Value → H) : ∃ places, DataW.whole enc Tryz.prog ((laidWorld os).forCall (fun _ _ => 0) ⟨#[], #[.slice none 0 0, .slice none 0 0], []⟩).memory Tryz.f7.params.toList Rows.searchSmallestSpec.vars false (#[.slice none 0 0, .slice none 0 0] : Array Value).toList 8 = some ([.nil, .nil], [], places) :=
  ⟨[], by kernel_rfl⟩
theorem lifted (os : Os) (started : os.Started) (H : Type) (enc : TypeId × Value → H) (F : Stop.Interp) :
    ReturnsInHanded {} Tryz.checked os 7 .any ((Rows.OpenSpec.upto Rows.searchSmallestSpec).preRow enc Tryz.prog Tryz.f7 Rows.searchSmallestUptoRow.domain false Rows.searchSmallestUptoRow.laid) (((Rows.OpenSpec.upto Rows.searchSmallestSpec).at F).post enc Tryz.prog Tryz.f7 false true false false) := by
  obtain ⟨places, hx⟩ := reads os enc
  refine returnsInHanded_of_row (C := Tryz.checked) (s := Rows.OpenSpec.upto Rows.searchSmallestSpec) own started (by kernel_rfl) Tryz.func7
    (witness_row_at (enc := enc) (C := Tryz.checked) false (laidWorld os) #[.slice none 0 0, .slice none 0 0] rfl (by kernel_rfl) (by kernel_rfl) (by kernel_rfl)
      (OpenSpec.preRow_of_cond 8 hx (by kernel_rfl) (fun k hk => by cases hk; kernel_rfl) (by kernel_rfl) (laid_met os))) ?_
  intro W base args ds gs before hval0 hW _ hcond hsz0 hL _ _
  rw [MakeChecks.laidMetH_plain _ _ _ (by kernel_rfl)] at hL
  have hT : Tabs W := tabs_of hL
  have hk : Rows.uptoSmall H (ds ++ gs) = true := hcond _ rfl
  have hval : ∀ (j : Nat) t v, Tryz.f7.params[j]? = some t → args[j]? = some v → Value.okWide Tryz.prog W .any base t v := hval0
  have hWw : DataW.Whole enc Tryz.prog Tryz.f7.params.toList Rows.searchSmallestSpec.vars false W args.toList ds gs before := hW
  clear hW
  have hW := hWw
  obtain ⟨p, q, hA0, hV, rfl, hfz, hnd⟩ := hW
  have hW' := hWw
  have hA : DataW.TrodAll enc Tryz.prog W 0 (fun _ => true) true Tryz.f7.params.toList args.toList ds p := hA0
  rw [Tryz.params7] at hA hval
  obtain ⟨v0, vs0, d0, ds0, p0, q0, hargs, rfl, rfl, h0, r0⟩ := trodAll_cons hA
  obtain ⟨v1, vs1, d1, ds1, p1, q1, rfl, rfl, rfl, h1, r1⟩ := trodAll_cons r0
  obtain ⟨rfl, rfl, rfl⟩ := trodAll_nil r1
  obtain rfl : args = #[v0, v1] := by cases args; simp_all
  obtain ⟨rfl, rfl⟩ := trodVars_none hV
  have k0 := h0
  have lt0 : ∀ x ∈ p0, x.block < W.heap.size := by obtain ⟨m, hm⟩ := k0; exact DataW.trod_lt m _ _ _ hm
  have k1 := h1
  have lt1 : ∀ x ∈ p1, x.block < W.heap.size := by obtain ⟨m, hm⟩ := k1; exact DataW.trod_lt m _ _ _ hm
  clear hA0 hval0
  obtain ⟨la, ln, lc, rfl⟩ := okWide_slice Tryz.underlying59 (hval 0 59 _ rfl rfl)
  obtain ⟨lb, lm, ld, rfl⟩ := okWide_slice Tryz.underlying26 (hval 1 26 _ rfl rfl)
  obtain ⟨fl, hfl⟩ := h0
  obtain ⟨A, c, xs, hle, hR, hQ, hlen⟩ := acs_open hfl (upto_small hk (by simp))
  obtain ⟨fm, hfm⟩ := h1
  obtain ⟨vw, ws, hlf, hW2, hwl⟩ := strs_open hfm (upto_small hk (by simp))
  unfold slV at hlf
  simp [Value.cells] at hle hlf
  obtain ⟨rfl, rfl, rfl⟩ := hle
  obtain ⟨rfl, rfl, rfl⟩ := hlf
  refine (smallestS_calls (R := fun e W' => e = .returned (.bool true) ∧ Below W.heap.size W W') hT hR hQ hlen hW2 fun w' hb => ⟨rfl, hb⟩).mono fun e W' ⟨he, bel⟩ => ?_
  subst he
  exact ⟨_, rfl, _, _, _, [], _, [], hW', trodAll_mk1 (shut_bool Tryz.underlying4 _), (trodAll_cons_mk (Below.trod laidOut (by kernel_rfl) (of_decide_eq_true (by kernel_rfl)) k0 bel lt0) (trodAll_cons_mk (Below.trod laidOut (by kernel_rfl) (of_decide_eq_true (by kernel_rfl)) k1 bel lt1) trodAll_mk0)), rfl, bel.frame _, fun h => by cases h⟩
theorem said : Rows.SearchSmallestUptoSaid :=
  OpenClaim.holds_of_cond 7 Tryz.f7 rfl rfl rfl rfl rfl rfl rfl ⟨rfl, rfl, rfl, rfl, rfl⟩ rfl rfl rfl rfl rfl (by kernel_rfl) Tryz.func7 (by kernel_rfl)
    (of_decide_eq_true (by kernel_rfl)) (by unfold Func.isWrapper; first | (rw [if_neg (of_decide_eq_false (by kernel_rfl))]; exact ⟨rfl, rfl⟩) | (rw [if_pos (of_decide_eq_true (by kernel_rfl))]; kernel_rfl))
    (fun os started H enc _ F => by rw [OpenClaim.pre_eq_preRow]; exact lifted os started H enc F)
theorem plain (f : FuncId) (fn : Func) (hf : Tryz.pinned.checked.prog.funcNamed "espalier/espalierlaw26.SearchSmallest" = some f) (hfn : Tryz.pinned.checked.prog.funcs[f]? = some fn) :
    false = Tryz.pinned.checked.prog.looks [] ∧ ∀ (j : Nat) t, fn.params[j]? = some t → Tryz.pinned.checked.prog.wantsStandIn t = false := by
  obtain rfl : f = 7 := Option.some.inj ((show Tryz.prog.funcNamed "espalier/espalierlaw26.SearchSmallest" = some 7 by kernel_rfl).symm.trans hf) |>.symm
  obtain rfl : fn = Tryz.f7 := (Option.some.inj (Tryz.func7.symm.trans hfn)).symm
  refine ⟨by kernel_rfl, fun j t ht => ?_⟩
  have hm : t ∈ Tryz.f7.params.toList := by simpa using Array.mem_of_getElem? ht
  have hall : (Tryz.f7.params.toList.all fun u => !Tryz.prog.wantsStandIn u) = true := by kernel_rfl
  exact (show Tryz.prog.wantsStandIn t = false by simpa using List.all_eq_true.1 hall t hm)
end Go.Proofs.YtccplipiahdhiaaGreatDoor.searchSmallest
namespace Go.Proofs.YtccplipiahdhiaaGreatDoor
open Go.ChangeShapes Go.WideShapes Go.ChangeAt Go.RowKit Go.Joins Go.Lib
theorem searchSmallest_holds : Rows.SearchSmallestUptoCardSaid :=
  Claim7.holds_tied_plain_at .later [] _ _ _ _ searchSmallest.said (fun _ h => by cases h) (by kernel_rfl) (fun _ h => by cases h) searchSmallestUpto_row_tie rfl ⟨rfl, rfl⟩ (by kernel_rfl) rfl searchSmallest.plain (by kernel_rfl)
#print axioms searchSmallest_holds
end Go.Proofs.YtccplipiahdhiaaGreatDoor
