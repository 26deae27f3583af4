/- Search: SearchFinds, the card. -/
import Derived.Deep.Slices
import Derived.SizedLaws
import Derived.DataReads
import Derived.WideShapes
import Derived.Test.YtccplipiahdhiaaGreatDoorRows
import Derived.Lib.SmallJoins
import Derived.Test.YtccplipiahdhiaaGreatDoorCards
import Derived.Test.YtccplipiahdhiaaGreatDoorTie
import Derived.WalkKit
import Derived.RowKit3
import Derived.ProofKit
import Derived.OpenShut
import Derived.ShutString
import Derived.ChangeOld
import Derived.Below
import Derived.Carry
import Derived.LaidMore
import Derived.PinnedBridge
import Derived.Lib.LaidIn
import Derived.Lib.LaidU8T
import Derived.SevenTiedAt
import Derived.Stop.Joined
import Derived.Deep.DeepHandedRow
import Derived.JoinedCond
import Derived.Deep.CondSized
import Derived.Test.YtccplipiahdhiaaGreatDoorSf5
namespace Go.Proofs.YtccplipiahdhiaaGreatDoor
open Go.RowKit Go.Vc
set_option linter.unusedVariables false
set_option linter.unusedSimpArgs false
set_option maxRecDepth 100000
section
variable {w:World}{R:Ending→World→Prop}{B:Nat}{va vb:Sv}
theorem hit_same {a b c:Int}:(!((a == a) && ((b == b) && ((c == c) && true))))=false:=by simp
theorem nm_same {a:ByteArray}{b:Int}:(!((a == a) && ((b == b) && true)))=false:=by
 have h:(a == a)=true:=by
  show (a.data == a.data)=true
  simp
 rw [h];simp
theorem Fm.row {v:Sv}{w1 w2 w3:World} (h:Fm (fun b=>rowOf (slV v)=some b) w1 w2) (k:Fm (fun b=>rowOf (slV v)=some b) w2 w3):Fm (fun b=>rowOf (slV v)=some b) w1 w3:=h.trans k
theorem hitsL_calls {l:List Hit} (ha:Own LHt w B 67 (slV va) l) (hb:RdV LHt w l vb) (hl:l.length≤67108864) (hB:B≤w.heap.size) (hK:∀w',Fm (fun b=>rowOf (slV va)=some b) w w'→R (.returned (.bool true)) w') :
  Calls Tryz.prog 25 #[.slice va.1 va.2.1 va.2.2,.slice vb.1 vb.2.1 vb.2.2] w R:=by
 refine ok25 va.1 va.2.1 va.2.2 vb.1 vb.2.1 vb.2.2 ?_
 unfold F25
 obtain⟨a1,a2⟩:=rdO ha
 have b1:=hb.1
 refine brn (fun hne=>absurd (by rw [a1,b1]) hne) (fun _=>?_)
 refine⟨fun i w'=>∃k:Nat,i=k∧k≤l.length∧Below w.heap.size w w',fun i _=>l.length-i.toNat,⟨0,rfl,by omega,.refl _ _⟩,?_⟩
 rintro _ w1 ⟨k,rfl,hk,hb1⟩
 unfold F25_l4
 refine brd (fun hlt=>?_) (fun hge=>?_)
 ·have hk2:k < l.length:=by omega
  refine dr fun w2 hb2 _=>?_
  have B2:=btr hb1 hb1.size hb2
  refine (a2.keep B2).idx a1 (by omega) (by omega) rfl fun x1 o1 c1=>?_
  simp only [Int.toNat_natCast] at c1
  have k0:=c1 0 _ rfl
  have k1:=c1 1 _ rfl
  have k2:=c1 2 _ rfl
  simp only [Nat.add_zero] at k0
  simp only [Addr.add_mk,k0,k1,k2,lds]
  refine (hb.keep B2).2.2.idx b1 (by omega) (by omega) rfl fun x2 o2 c2=>?_
  simp only [Int.toNat_natCast] at c2
  have m0:=c2 0 _ rfl
  have m1:=c2 1 _ rfl
  have m2:=c2 2 _ rfl
  simp only [Nat.add_zero] at m0
  simp only [Addr.add_mk,m0,m1,m2,lds]
  rw [hit_same,Br_f]
  exact⟨inR_i64 (by omega) (by omega),⟨k+1,by simp,by omega,B2⟩,(by first | omega | (dsimp only;omega))⟩
 ·refine⟨fun i w'=>∃(k:Nat) (l':List Hit),i=k∧k≤l.length∧l'.length=l.length∧Own LHt w' B 67 (slV va) l'∧Fm (fun b=>rowOf (slV va)=some b) w w',fun i _=>l.length-i.toNat,⟨0,l,rfl,by omega,rfl,ha.keep hb1,.below hb1⟩,?_⟩
  rintro _ w2 ⟨k,l',rfl,hk,hl',o2,f2⟩
  unfold F25_l9
  refine brd (fun hlt=>?_) (fun hge=>?_)
  ·have hk2:k < l'.length:=by omega
   have o20:Own LHt w2 B 67 (slV va) (l'.set k l'[k]):=by rw [List.set_getElem_self];exact o2
   refine o2.elA (v:=va) rfl hk2 rfl fun b hb=>?_
   simp only [Addr.add_mk]
   refine o20.stc2 (j:=0) (a':=(4711,l'[k].2)) hk2 (by decide) rfl hb fun w3 o3 f3=>?_
   refine o3.stc2 (j:=1) (a':=(4711,0,l'[k].2.2)) hk2 (by decide) rfl hb fun w4 o4 f4=>?_
   refine o4.stc2 (j:=2) (a':=(4711,0,0)) hk2 (by decide) rfl hb fun w5 o5 f5=>?_
   exact⟨inR_i64 (by omega) (by omega),⟨k+1,_,by simp,by omega,by simpa using hl',o5,((f2.row f3).row f4).row f5⟩,(by first | omega | (dsimp only;omega))⟩
  ·refine ap1 (L:=LHt) (x:=(4712,0,0)) (base:=B) (.agg #[.int .u64 0,.int .i64 0,.int .i64 0]) 24 rfl (by kernel_rfl) (by kernel_rfl) (by kernel_rfl) (by have:=(rdO o2).1;rw [a1] at this;exact o2) (by have:=f2.size;omega) (by omega) (by unfold maxLen;omega) fun A' c' w3 o3 g3=>⟨A',_,c',rfl,?_⟩
   exact hK w3 (f2.row (Fm.grown g3.grown fun b hb=>hb))
theorem termsL_calls {l:List Nm} (ha:Own LNm w B 80 (slV va) l) (hb:RdV LNm w l vb) (hl:l.length≤67108864) (hB:B≤w.heap.size) (hK:∀w',Fm (fun b=>rowOf (slV va)=some b) w w'→R (.returned (.bool true)) w') :
  Calls Tryz.prog 22 #[.slice va.1 va.2.1 va.2.2,.slice vb.1 vb.2.1 vb.2.2] w R:=by
 refine ok22 va.1 va.2.1 va.2.2 vb.1 vb.2.1 vb.2.2 ?_
 unfold F22
 obtain⟨a1,a2⟩:=rdO ha
 have b1:=hb.1
 refine brn (fun hne=>absurd (by rw [a1,b1]) hne) (fun _=>?_)
 refine⟨fun i w'=>∃k:Nat,i=k∧k≤l.length∧Below w.heap.size w w',fun i _=>l.length-i.toNat,⟨0,rfl,by omega,.refl _ _⟩,?_⟩
 rintro _ w1 ⟨k,rfl,hk,hb1⟩
 unfold F22_l4
 refine brd (fun hlt=>?_) (fun hge=>?_)
 ·have hk2:k < l.length:=by omega
  refine dr fun w2 hb2 _=>?_
  have B2:=btr hb1 hb1.size hb2
  refine (a2.keep B2).nm a1 rfl hk2 fun x1 o1 k0 k1=>?_
  simp only [Addr.add_mk,k0,k1,lds]
  refine (hb.keep B2).2.2.nm b1 rfl hk2 fun x2 o2 m0 m1=>?_
  simp only [Addr.add_mk,m0,m1,lds]
  rw [nm_same,Br_f]
  exact⟨inR_i64 (by omega) (by omega),⟨k+1,by simp,by omega,B2⟩,(by first | omega | (dsimp only;omega))⟩
 ·refine⟨fun i w'=>∃(k:Nat) (l':List Nm),i=k∧k≤l.length∧l'.length=l.length∧Own LNm w' B 80 (slV va) l'∧Fm (fun b=>rowOf (slV va)=some b) w w',fun i _=>l.length-i.toNat,⟨0,l,rfl,by omega,rfl,ha.keep hb1,.below hb1⟩,?_⟩
  rintro _ w2 ⟨k,l',rfl,hk,hl',o2,f2⟩
  unfold F22_l9
  refine brd (fun hlt=>?_) (fun hge=>hK w2 f2)
  have hk2:k < l'.length:=by omega
  have o20:Own LNm w2 B 80 (slV va) (l'.set k l'[k]):=by rw [List.set_getElem_self];exact o2
  refine o2.elA (v:=va) rfl hk2 rfl fun b hb=>?_
  simp only [Addr.add_mk]
  refine o20.stc2 (j:=0) (a':=(ByteArray.mk #[115,112,111,105,108,116],l'[k].2)) hk2 (by decide) rfl hb fun w3 o3 f3=>?_
  refine o3.stc2 (j:=1) (a':=(ByteArray.mk #[115,112,111,105,108,116],0)) hk2 (by decide) rfl hb fun w4 o4 f4=>?_
  exact⟨inR_i64 (by omega) (by omega),⟨k+1,_,by simp,by omega,by simpa using hl',o4,(f2.row f3).row f4⟩,(by first | omega | (dsimp only;omega))⟩
end
set_option maxRecDepth 100000
def findL (D:Im) (s:ByteArray):List Hit:=if oneF s=true then hitF (stD D) s else []
def erB (b:Bool):Int:=if b=true then 0 else 1
def phrL (D:Im) (ws:List ByteArray):List Hit:=if canS ws=true then phrF (slA D.sl) (stD D) ws else []
section
variable {W w:World}{R:Ending→World→Prop}{o:Nat→Nat}{gx gd mt mh:Nat}{D:Im}{S:PS}{nv:Sv}{tv:Nat→Sv}{hv:ByteArray→Sv}{vl vs vr vw:Sv}{ws:List ByteArray}{x:Im}
theorem findL_few (hw:Wf D) (s:ByteArray):(findL D s).length≤67108864:=by
 unfold findL
 split
 ·exact hit_few hw s
 ·simp
theorem phrL_few (hw:Wf D) (ws:List ByteArray):(phrL D ws).length≤67108864:=by
 unfold phrL
 split
 ·exact Nat.le_trans (List.length_filter_le _ _) (hit_few hw _)
 ·simp
theorem Find_any (hx:IxR w gx gd mt mh D o S nv tv hv) (hT:Tabs w) (s:ByteArray) (hK:∀v w',Below w.heap.size w w'→Own LHt w' w.heap.size 67 (slV v) (findL D s)→R (.returned (.tuple #[slV v,.int .i64 (erB (oneF s))])) w') :
  Calls Tryz.prog 16 #[.pointer (some ⟨gx,0,none⟩),.string s] w R:=by
 unfold findL erB at hK
 refine Find_calls hx hT s (fun ho v w' hb h=>?_) fun ho w' hb=>?_
 ·rw [ho] at hK;exact hK v w' hb h
 ·rw [ho] at hK;exact hK (none,0,0) w' hb (Own.nil _ _ _ _)
theorem Phrase_any (hx:IxR w gx gd mt mh D o S nv tv hv) (hT:Tabs w) (hl:RdV LS w ws vw) (hK:∀v w',Below w.heap.size w w'→Own LHt w' w.heap.size 67 (slV v) (phrL D ws)→R (.returned (.tuple #[slV v,.int .i64 (erB (canS ws))])) w') :
  Calls Tryz.prog 20 #[.pointer (some ⟨gx,0,none⟩),.slice vw.1 vw.2.1 vw.2.2] w R:=by
 unfold phrL erB at hK
 refine Phrase_calls hx hT hl (fun ho v w' hb h=>?_) fun ho w' hb=>?_
 ·rw [ho] at hK;exact hK v w' hb h
 ·rw [ho] at hK;exact hK (none,0,0) w' hb (Own.nil _ _ _ _)
theorem Begins_any (hx:IxR w gx gd mt mh D o S nv tv hv) (hT:Tabs w) (head:ByteArray) (hK:∀v w' l,Below w.heap.size w w'→Own LNm w' w.heap.size 80 (slV v) l→(headB head=true→IsTm (stD D) head l)→(headB head=false→l=[])→R (.returned (.tuple #[slV v,.int .i64 (erB (headB head))])) w') :
  Calls Tryz.prog 18 #[.pointer (some ⟨gx,0,none⟩),.string head] w R:=by
 unfold erB at hK
 refine Begins_calls hx hT head (fun ho v w' l hb h ht=>?_) fun ho w' hb=>?_
 ·rw [ho] at hK;exact hK v w' l hb h (fun _=>ht) fun h=>by cases h
 ·rw [ho] at hK;exact hK (none,0,0) w' [] hb (Own.nil _ _ _ _) (fun h=>by cases h) fun _=>rfl
theorem findR_any (hw:Wf D) (hl:RdV LStd w (stD D) vl) (s:ByteArray) (hK:∀v w',Below w.heap.size w w'→Own LHt w' w.heap.size 67 (slV v) (findL D s)→R (.returned (.tuple #[slV v,.int .i64 (erB (oneF s))])) w') :
  Calls Tryz.prog 17 #[.slice vl.1 vl.2.1 vl.2.2,.string s] w R:=by
 have hfew:=findL_few hw s
 unfold findL erB at hK
 unfold findL at hfew
 refine findR_calls hl (st_few hw) s (fun ho v w' hb h=>?_) fun ho w' hb=>?_
 ·rw [ho] at hK hfew
  rw [if_pos rfl] at hfew
  rw [refP_eq _ (rootsAll_nodup hw.a),phr_one] at h
  exact hK v w' hb (by rw [if_pos rfl];exact h)
 ·rw [ho] at hK;exact hK (none,0,0) w' hb (Own.nil _ _ _ _)
theorem phraseR_any (hw:Wf D) (hl:RdV LStd w (stD D) vl) (hv:RdV LS w ws vw) (hK:∀v w',Below w.heap.size w w'→Own LHt w' w.heap.size 67 (slV v) (phrL D ws)→R (.returned (.tuple #[slV v,.int .i64 (erB (canS ws))])) w') :
  Calls Tryz.prog 21 #[.slice vl.1 vl.2.1 vl.2.2,.slice vw.1 vw.2.1 vw.2.2] w R:=by
 have hfew:=phrL_few hw ws
 unfold phrL erB at hK
 unfold phrL at hfew
 refine phraseR_calls hl hv (st_few hw) (fun ho v w' hb h=>?_) fun ho w' hb=>?_
 ·rw [ho] at hK hfew
  rw [if_pos rfl] at hfew
  have h0:=(can_len ho).1
  cases ws with
  | nil=>simp at h0
  | cons w0 ws =>
   rw [refP_eq _ (rootsAll_nodup hw.a)] at h
   exact hK v w' hb (by rw [if_pos rfl];exact h)
 ·rw [ho] at hK;exact hK (none,0,0) w' hb (Own.nil _ _ _ _)
theorem beginsR_any (hw:Wf D) (hl:RdV LStd w (stD D) vl) (head:ByteArray) (hK:∀v w' l,Below w.heap.size w w'→Own LNm w' w.heap.size 80 (slV v) l→(headB head=true→IsTm (stD D) head l)→(headB head=false→l=[])→l.length≤67108864→R (.returned (.tuple #[slV v,.int .i64 (erB (headB head))])) w') :
  Calls Tryz.prog 19 #[.slice vl.1 vl.2.1 vl.2.2,.string head] w R:=by
 unfold erB at hK
 refine beginsR_calls hl (st_few hw) head (fun ho v w' l hb h ht hlen=>?_) fun ho w' hb=>?_
 ·rw [ho] at hK;exact hK v w' l hb h (fun _=>ht) (fun h=>by cases h) hlen
 ·rw [ho] at hK;exact hK (none,0,0) w' [] hb (Own.nil _ _ _ _) (fun h=>by cases h) (fun _=>rfl) (by simp)
theorem words_copy {t:TypeId} (hv:RdV LS w ws vw) (hl:ws.length≤1048576) {K:Option Addr→Nat→Nat→World→Prop} (hK:∀A n c w',Below w.heap.size w w'→RdV LS w' ws (A,n,c)→K A n c w') :
  Al w #[] 9 fun g w1=>Raw Tryz.prog (Builtin.append_ #[26,26] 26 #[.slice (some g) 0 0,.slice vw.1 vw.2.1 vw.2.2]) w1 fun v w2=>∃(x:Option Addr) (n c:Nat),v=.slice x n c∧K x n c w2:=by
 refine al fun g w1 hb1 b1 hge1=>?_
 have o1:Own LS w1 w.heap.size 9 (.slice (some ⟨g,0,none⟩) 0 0) []:=.inr (.inl ⟨⟨_,rfl⟩,rfl⟩)
 have hv1:=hv.keep hb1
 have hs1:=hb1.size
 refine ap (L:=LS) (base:=w.heap.size) (ys:=ws) (.string (ByteArray.mk #[])) 16 hv.1 (by kernel_rfl) (by kernel_rfl) (by kernel_rfl) o1 hv1.2.2 hs1 (by rw [List.length_nil];omega) (by unfold maxLen;rw [List.length_nil];omega) fun A c w2 o2 g2=>⟨A,_,c,rfl,?_⟩
 rw [List.nil_append] at o2
 exact hK A _ c w2 (hb1.trans g2.below) (rdV_own (v:=(A,_,c)) o2 (by omega))
theorem newNil_calls (hK:R (.returned (.tuple #[.pointer none,.int .i64 1])) w):Calls Tryz.prog 26 #[.pointer none] w R:=by
 refine ok26 none ?_
 unfold F26
 simp only [Option.isNone_none,Br_t]
 exact hK
theorem own_thru {α:Type}{L:Lay α}{w1 w2 w3:World}{B:Nat}{e:TypeId}{v:Sv}{l:List α}{M:Nat→Prop} (h:Own L w1 B e (slV v) l) (hb:Below w1.heap.size w1 w2) (hf:Fm M w2 w3) (hM:∀b,M b→b < B∨w1.heap.size≤b):Own L w3 B e (slV v) l :=
 own_fm (h.keep hb) hf fun b hb e=>by have:=hM b e;have:=h.lt b hb;omega
theorem beq_no {a:Int}:(a != a)=false:=by simp
theorem findsS_calls (hT:Tabs W) (hX:RIm W x vs vr) (hv:RdV LS W ws vw) (hvl:ws.length≤1048576) (word head:ByteArray) (hK:∀w',Below W.heap.size W w'→R (.returned (.bool true)) w') :
  Calls Tryz.prog 4 #[.agg #[.slice vs.1 vs.2.1 vs.2.2,.slice vr.1 vr.2.1 vr.2.2],.string word,.string head,.slice vw.1 vw.2.1 vw.2.2] W R:=by
 refine ok4 vs.1 vs.2.1 vs.2.2 vr.1 vr.2.1 vr.2.2 word head vw.1 vw.2.1 vw.2.2 ?_
 unfold F4
 refine al fun g1 w1 hb1 b1 hge1=>?_
 have b1:Blk w1 g1 #[slV vs,slV vr] 25:=b1
 simp only [Addr.add_mk,Nat.zero_add,b1.cell,slV,lds]
 refine begins_calls (hX.keep hb1) (hT.keep hb1) fun gx gd w2 D vs' vr' es hw hb2 hix hR=>⟨_,_,_,rfl,?_⟩
 have B2:=btr hb1 hb1.size hb2
 rw [show (!true)=false from rfl,Br_f]
 refine All26_calls hR hw fun vl w3 hb3 ol=>⟨_,_,_,rfl,?_⟩
 have B3:=btr B2 B2.size hb3
 have hix3:=hix.keep hb3
 have hfw:=st_few hw
 have rl:RdV LStd w3 (stD D) vl:=rdV_own ol (by omega)
 refine⟨fun i w'=>∃k:Nat,i=k∧k≤2∧Below w3.heap.size w3 w',fun i _=>2-i.toNat,⟨0,rfl,by omega,.refl _ _⟩,?_⟩
 rintro _ w4 ⟨k,rfl,hk,hb4⟩
 have B4:=btr B3 B3.size hb4
 have hT4:=hT.keep B4
 have hv4:=hv.keep B4
 have rl4:=rl.keep hb4
 obtain⟨gd',mt,mh,o',S,nv,tv,hv',hx4⟩:=hix3.keep hb4
 unfold F4_l6
 refine brd (fun hlt=>?_) (fun hge=>newNil_calls ⟨_,_,rfl,hK w4 B4⟩)
 refine⟨fun w'=>Below w4.heap.size w4 w',?_,?_⟩
 ·intro w' hb
  exact⟨inR_i64 (by omega) (by omega),⟨k+1,by simp,by omega,btr hb4 hb4.size hb⟩,(by first | omega | (dsimp only;omega))⟩
 refine Find_any hx4 hT4 word fun va w5 hb5 oa=>⟨_,_,_,_,rfl,?_⟩
 refine findR_any hw (rl4.keep hb5) word fun vb w6 hb6 ob=>⟨_,_,_,_,rfl,?_⟩
 have C6:=btr hb5 hb5.size hb6
 refine Begins_any (hx4.keep C6) (hT4.keep C6) head fun vc w7 lc hb7 oc hc1 hc0=>⟨_,_,_,_,rfl,?_⟩
 have C7:=btr C6 C6.size hb7
 refine beginsR_any hw (rl4.keep C7) head fun vk w8 lk hb8 ok_ hk1 hk0 hkl=>⟨_,_,_,_,rfl,?_⟩
 have C8:=btr C7 C7.size hb8
 have elk:lc=lk:=by
  cases hh:headB head with
  | true=>exact tm_unique (hc1 hh) (hk1 hh)
  | false=>rw [hc0 hh,hk0 hh]
 subst elk
 refine words_copy (t:=26) (hv4.keep C8) hvl fun A9 n9 c9 w9 hb9 rq=>?_
 have C9:=btr C8 C8.size hb9
 refine Phrase_any (vw:=(A9,n9,c9)) (hx4.keep C9) (hT4.keep C9) rq fun vp w10 hb10 op=>⟨_,_,_,_,rfl,?_⟩
 have C10:=btr C9 C9.size hb10
 refine phraseR_any hw (rl4.keep C10) (hv4.keep C10) fun vm w11 hb11 om=>⟨_,_,_,_,rfl,?_⟩
 have C11:=btr C10 C10.size hb11
 refine Terms_calls (hx4.keep C11) fun vt w12 lt hb12 ot ht=>⟨_,_,_,rfl,?_⟩
 have C12:=btr C11 C11.size hb12
 refine termsR_calls (rl4.keep C12) hfw (ByteArray.mk #[]) fun vu w13 lu hb13 ou hu hul=>⟨_,_,_,rfl,?_⟩
 have hu:IsTm (stD D) ByteArray.empty lu:=hu
 obtain rfl:=tm_unique ht hu
 have s5:=hb5.size;have s6:=hb6.size;have s7:=hb7.size;have s8:=hb8.size;have s9:=hb9.size;have s10:=hb10.size;have s11:=hb11.size;have s12:=hb12.size;have s13:=hb13.size
 have D12:=btr hb12 s12 hb13
 have D11:=btr hb11 s11 D12
 have D10:=btr hb10 s10 D11
 have D9:=btr hb9 s9 D10
 have D8:=btr hb8 s8 D9
 have D7:=btr hb7 s7 D8
 have D6:=btr hb6 s6 D7
 have D5:=btr hb5 s5 D6
 have ra:=fun b h=>oa.lt b h
 have rc:=fun b h=>oc.lt b h
 have rp:=fun b h=>op.lt b h
 have rt:=fun b h=>ot.lt b h
 refine termsL_calls (ot.keep hb13) (rdV_own ou (by omega)) hul (by omega) fun w14 f14=>⟨_,rfl,?_⟩
 rw [show (!true)=false from rfl,Br_f]
 refine hitsL_calls (own_thru oa D6 f14 fun b h=>by have:=rt b h;omega) (rdV_own (own_thru ob D7 f14 fun b h=>by have:=rt b h;omega) (by have:=findL_few hw word;omega)) (findL_few hw word) (by have:=f14.size;omega) fun w15 f15=>⟨_,rfl,?_⟩
 rw [show (!true)=false from rfl,Br_f,beq_no,Br_f]
 have G15:Fm (fun b=>rowOf (slV vt)=some b∨rowOf (slV va)=some b) w13 w15:=(f14.mono fun b _ h=>.inl h).trans (f15.mono fun b _ h=>.inr h)
 refine termsL_calls (own_thru oc D8 G15 fun b h=>by rcases h with h | h;(have:=rt b h;omega);(have:=ra b h;omega)) (rdV_own (own_thru ok_ D9 G15 fun b h=>by rcases h with h | h;(have:=rt b h;omega);(have:=ra b h;omega)) (by omega)) hkl (by have:=G15.size;omega) fun w16 f16=>⟨_,rfl,?_⟩
 rw [show (!true)=false from rfl,Br_f,beq_no,Br_f]
 have G16:Fm (fun b=>(rowOf (slV vt)=some b∨rowOf (slV va)=some b)∨rowOf (slV vc)=some b) w13 w16:=(G15.mono fun b _ h=>.inl h).trans (f16.mono fun b _ h=>.inr h)
 have m16:∀b,((rowOf (slV vt)=some b∨rowOf (slV va)=some b)∨rowOf (slV vc)=some b)→w4.heap.size≤b∧(b < w7.heap.size∨w11.heap.size≤b):=fun b h=>by
  rcases h with (h | h) | h
  ·have:=rt b h;omega
  ·have:=ra b h;omega
  ·have:=rc b h;omega
 refine hitsL_calls (own_thru op D11 G16 fun b h=>by have:=m16 b h;omega) (rdV_own (own_thru om D12 G16 fun b h=>by have:=m16 b h;omega) (by have:=phrL_few hw ws;omega)) (phrL_few hw ws) (by have:=G16.size;omega) fun w17 f17=>⟨_,rfl,?_⟩
 rw [show (!true)=false from rfl,Br_f,beq_no,Br_f]
 have G17:Fm (fun b=>((rowOf (slV vt)=some b∨rowOf (slV va)=some b)∨rowOf (slV vc)=some b)∨rowOf (slV vp)=some b) w13 w17:=(G16.mono fun b _ h=>.inl h).trans (f17.mono fun b _ h=>.inr h)
 refine (btr hb5 s5 D6).trans (G17.toBelow (by omega) fun b hb h=>?_)
 rcases h with h | h
 ·have:=m16 b h;omega
 ·have:=rp b h;omega
end
end Go.Proofs.YtccplipiahdhiaaGreatDoor
namespace Go.Proofs.YtccplipiahdhiaaGreatDoor
open Go.RowKit Go.Deep Go.WideShapes Go.ChangeShapes
section
variable {H:Type}{enc:TypeId × Value→H}{P:Program}{W:World}{α:Type}
theorem cells_of_rows {L:Lay α}{w:World}{b o:Nat}:∀(xs:List α),(∀i (h:i < xs.length),∀j u,(L.cells xs[i])[j]?=some u→w.cell? ⟨b,o+i*L.n+j,none⟩=some u) →
  ∀j u,(L.all xs)[j]?=some u→w.cell? ⟨b,o+j,none⟩=some u:=by
 intro xs h j u hj
 have hlt:j < xs.length*L.n:=by rw [←L.all_length];exact (List.getElem?_eq_some_iff.1 hj).1
 have hi:j / L.n < xs.length:=(Nat.div_lt_iff_lt_mul L.pos).2 hlt
 have hr:j % L.n < L.n:=Nat.mod_lt _ L.pos
 have hd:j / L.n*L.n+j % L.n=j:=by rw [Nat.mul_comm];exact Nat.div_add_mod j L.n
 have:=h (j / L.n) hi (j % L.n) u (by rw [←L.all_at xs _ hi _ hr,hd];exact hj)
 rwa [Nat.add_assoc,hd] at this
end
end Go.Proofs.YtccplipiahdhiaaGreatDoor
namespace Go.Proofs.YtccplipiahdhiaaGreatDoor
open Go.RowKit Go.Deep Go.WideShapes Go.ChangeShapes Go.Vc
set_option linter.unusedSimpArgs false
set_option linter.unusedVariables false
set_option maxRecDepth 100000
theorem upto_one {H:Type} (d:DataW H):1≤Rows.uptoBulk d:=by
 cases d with
 | lit l=>cases l <;> simp only [Rows.uptoBulk] <;> omega
 | _=>simp only [Rows.uptoBulk];omega
theorem upto_len {H:Type}:∀(l:List (DataW H)),l.length≤Rows.uptoBulkAll l
 | []=>by simp
 | d :: l=>by
  have:=upto_len l
  have:=upto_one d
  simp only [Rows.uptoBulkAll,List.length_cons];omega
theorem upto_part {H:Type}{d:DataW H}:∀{l:List (DataW H)},d∈l→Rows.uptoBulk d≤Rows.uptoBulkAll l
 | e :: l,h=>by
  simp only [Rows.uptoBulkAll]
  rcases List.mem_cons.1 h with rfl | h
  ·omega
  ·have:=upto_part h;omega
theorem upto_small {H:Type}{d:DataW H}{l:List (DataW H)} (hk:Rows.uptoSmall H l=true) (h:d∈l):Rows.uptoBulk d≤1048576 :=
 Nat.le_trans (upto_part h) (of_decide_eq_true hk)
section
variable {H:Type}{enc:TypeId × Value→H}{P:Program}{W:World}{α:Type}
theorem trod_parts {t:TypeId}{fs:Array Field}{fuel:Nat}{cs:List Value}{x:DataW H × List MemPlace} (ht:P.underlying t=some (.struct fs)) (h:DataW.trod enc P W 0 (fun _=>true) true fuel t cs=some x) :
  cs.length=P.cellsOf t∧∀(i:Nat) (f:Field),fs[i]?=some f→∃n y,DataW.trod enc P W 0 (fun _=>true) true n f.type ((cs.drop f.offset).take (P.cellsOf f.type))=some y∧Rows.uptoBulk y.1 < Rows.uptoBulk x.1:=by
 obtain⟨xs,n,_,rfl,hl,hlen,hf⟩:=DataW.trod_struct ht h
 refine⟨hl,fun i f hi=>?_⟩
 have hlt:i < xs.length:=by rw [hlen];exact (Array.getElem?_eq_some_iff.1 hi).1
 refine⟨n,xs[i],?_,?_⟩
 ·rw [hf i f hi,List.getElem?_eq_getElem hlt]
 ·have:=upto_part (List.mem_map.2 ⟨xs[i],List.getElem_mem hlt,rfl⟩:xs[i].1∈xs.map (·.1))
  simp only [Rows.uptoBulk];omega
theorem open_bk [Inhabited α] (L:Lay α) (Q:α→Prop) {t e:TypeId}{fuel:Nat}{cs:List Value}{x:DataW H × List MemPlace} (h:DataW.trod enc P W 0 (fun _=>true) true fuel t cs=some x) (ht:P.underlying t=some (.slice e)) (hC:P.cellsOf e=L.n)
  (hel:∀(n:Nat) (cs:List Value) (y:DataW H × List MemPlace),DataW.trod enc P W 0 (fun _=>true) true n e cs=some y→Rows.uptoBulk y.1 < Rows.uptoBulk x.1→∃z:α,cs=L.cells z∧Q z) :
  ∃A c xs,cs=[.slice A xs.length c]∧Rd L W A c xs∧(∀y∈xs,Q y)∧xs.length≤Rows.uptoBulk x.1:=by
 rcases open_slice ht h with ⟨hcs,_⟩ | ⟨a,len,cap,m,n,D,Pl,hcs,_,hl,hm,hmm,hx,hi⟩
 ·exact⟨none,0,[],hcs,Rd.nil _ _,by simp,by simp⟩
 ·have hlm:len≤m:=by rw [hmm];simp;exact hl
  have hx1:=(Prod.mk.inj hx).1
  rw [hx1] at hel ⊢
  have hbulk:∀i,i < len→Rows.uptoBulk (D i) < Rows.uptoBulk (.slice ((List.range len).map D) ((List.range (m-len)).map fun j=>D (len+j))):=fun i hi=>by
   have:=upto_part (List.mem_map.2 ⟨i,List.mem_range.2 hi,rfl⟩:D i∈(List.range len).map D)
   simp only [Rows.uptoBulk];omega
  obtain⟨f,hfx⟩:=choose_lt (α:=α) (n:=len) (p:=fun i y=>(∀j u,(L.cells y)[j]?=some u→W.cell? ((a.add (i*L.n)).add j)=some u)∧Q y) (fun i hil=>by
   obtain⟨cs',h1,h2⟩:=hi i (by omega)
   obtain⟨y,rfl,hq⟩:=hel _ _ _ h2 (hbulk i hil)
   obtain⟨_,hlen,hat⟩:=World.cells?_some h1
   refine⟨y,fun j u hj=>?_,hq⟩
   rw [hC] at hat hlen
   rw [hat j (by rw [←L.len y];exact (List.getElem?_eq_some_iff.1 hj).1)]
   exact hj)
  refine⟨some a,cap,(List.range len).map f,by simpa using hcs,⟨by simpa using hl,hm,(fun h=>by cases h),fun h0=>?_⟩,fun y hy=>?_,?_⟩
  ·simp at h0
   have hspot:a.spot=Option.none:=by
    have hy:=(hfx 0 h0).1
    have hn:0 < (L.cells (f 0)).length:=by rw [L.len];exact L.pos
    have:=hy 0 _ (List.getElem?_eq_getElem hn)
    simp only [Nat.zero_mul,Addr.add,if_true] at this
    unfold World.cell? at this
    cases hs:a.spot with
    | none=>rfl
    | some q =>
     split at this
     ·rw [hs] at this;simp at this
     ·cases this
   obtain⟨b,o,s⟩:=a
   simp only at hspot
   subst hspot
   refine⟨b,o,rfl,cells_of_rows _ (fun i hi j u hj=>?_)⟩
   simp at hi hj
   have:=(hfx i hi).1 j u hj
   rw [Addr.add_lit,Addr.add_lit] at this
   exact this
  ·obtain⟨i,hi,rfl⟩:=List.mem_map.1 hy
   exact (hfx i (List.mem_range.1 hi)).2
  ·have:=upto_len ((List.range len).map D)
   simp only [Rows.uptoBulk,List.length_map,List.length_range] at this ⊢
   omega
theorem list2 {α:Type}{l:List α} (h:l.length=2):∃a b,l=[a,b]:=by
 match l,h with
 | [a,b],_=>exact⟨a,b,rfl⟩
end
instance:Inhabited E5:=⟨⟨0,noB,(none,0,0),noB,(none,0,0)⟩⟩
instance:Inhabited At:=⟨⟨noB,noB⟩⟩
instance:Inhabited Ac:=⟨⟨0,0,false,0,0,noB,noB,.mk 0 noB [] noB []⟩⟩
instance:Inhabited E12:=⟨⟨default,default⟩⟩
section
variable {H:Type}{enc:TypeId × Value→H}{W:World}
theorem kStr:(Tryz.prog).cellsOf 9=1:=by kernel_rfl
theorem kInt:(Tryz.prog).cellsOf 3=1:=by kernel_rfl
theorem kBool:(Tryz.prog).cellsOf 4=1:=by kernel_rfl
theorem kHn:(Tryz.prog).cellsOf 65=1:=by kernel_rfl
theorem kAts:(Tryz.prog).cellsOf 81=1:=by kernel_rfl
theorem kAt:(Tryz.prog).cellsOf 205=2:=by kernel_rfl
theorem at_cells (n:Nat) (cs:List Value) (x:DataW H × List MemPlace) (h:DataW.trod enc Tryz.prog W 0 (fun _=>true) true n 205 cs=some x):∃y:At,cs=LAt.cells y:=by
 obtain⟨hl,hp⟩:=trod_parts Tryz.underlying205 h
 obtain⟨a,b,rfl⟩:=list2 (hl.trans kAt)
 obtain⟨_,_,h0,-⟩:=hp 0 _ rfl
 obtain⟨_,_,h1,-⟩:=hp 1 _ rfl
 simp only [List.getElem_toArray,List.getElem_cons_zero,List.getElem_cons_succ,kStr,List.drop_zero,List.drop_succ_cons,List.take_succ_cons,List.take_zero] at h0 h1
 obtain⟨s,e0,-,-⟩:=DataW.trod_string Tryz.underlying9 h0
 obtain⟨t,e1,-,-⟩:=DataW.trod_string Tryz.underlying9 h1
 simp only [List.cons.injEq,and_true] at e0 e1
 subst e0 e1
 exact⟨⟨s,t⟩,rfl⟩
theorem ats_cells {n:Nat}{cs:List Value}{x:DataW H × List MemPlace} (h:DataW.trod enc Tryz.prog W 0 (fun _=>true) true n 81 cs=some x) (hx:Rows.uptoBulk x.1≤1048576):∃(v:Sv) (l:List At),cs=[.slice v.1 v.2.1 v.2.2]∧RR LAt W l v:=by
 obtain⟨A,c,l,e,hr,-,hlen⟩:=open_bk LAt (fun _=>True) h Tryz.underlying81 kAt fun n cs y hy _=>by
  obtain⟨z,hz⟩:=at_cells n cs y hy
  exact⟨z,hz,trivial⟩
 exact⟨(A,l.length,c),l,e,Nat.le_trans hlen hx,rfl,hr⟩
theorem hn_cells {n:Nat}{cs:List Value}{x:DataW H × List MemPlace} (h:DataW.trod enc Tryz.prog W 0 (fun _=>true) true n 65 cs=some x):∃k:Nat,k < 18446744073709551616∧cs=[.int .u64 (k:Nat)]:=by
 obtain⟨k,rfl,-,hw⟩:=DataW.trod_int Tryz.underlying65 h
 have hx:0≤k∧k≤18446744073709551615:=by simpa [Lit.wf,IntKind.min,IntKind.max,IntKind.signed,IntKind.bits] using hw
 exact⟨k.toNat,by omega,by rw [Int.toNat_of_nonneg hx.1]⟩
end
set_option maxRecDepth 100000
section
variable {H:Type}{enc:TypeId × Value→H}{W:World}
theorem strs_open {n:Nat}{cs:List Value}{x:DataW H × List MemPlace} (h:DataW.trod enc Tryz.prog W 0 (fun _=>true) true n 26 cs=some x) (hx:Rows.uptoBulk x.1≤1048576) :
  ∃(v:Sv) (l:List ByteArray),cs=[slV v]∧RdV LS W l v∧l.length≤1048576:=by
 obtain⟨A,c,l,e,hr,hq,hlen⟩:=open_bk LS (fun _=>True) h Tryz.underlying26 kStr fun n cs y hy hb=>by
  obtain⟨s,rfl,-,-⟩:=DataW.trod_string Tryz.underlying9 hy
  exact⟨s,rfl,trivial⟩
 exact⟨(A,l.length,c),l,e,⟨rfl,by omega,hr⟩,Nat.le_trans hlen hx⟩
end
set_option maxRecDepth 100000
instance:Inhabited S8:=⟨⟨0,false,0,noB,(none,0,0),noB,0,(none,0,0)⟩⟩
theorem list8 {α:Type}{l:List α} (h:l.length=8):∃a b c d e f g i,l=[a,b,c,d,e,f,g,i]:=by
 match l,h with
 | [a,b,c,d,e,f,g,i],_=>exact⟨a,b,c,d,e,f,g,i,rfl⟩
theorem z2_of {w:World}:∀(es:List S8),(∀e∈es,∃s,RSl w s e∧SlOk s)→∃l:List Sl,Z2 (RSl w) l es∧∀s∈l,SlOk s
 | [],_=>⟨[],rfl,by simp⟩
 | e :: es,h=>by
  obtain⟨s,h1,h2⟩:=h e (by simp)
  obtain⟨l,h3,h4⟩:=z2_of es fun x hx=>h x (by simp [hx])
  exact⟨s :: l,⟨e,es,rfl,h1,h3⟩,fun x hx=>by
   rcases List.mem_cons.1 hx with rfl | hx
   ·exact h2
   ·exact h4 x hx⟩
section
variable {H:Type}{enc:TypeId × Value→H}{W:World}
theorem kU32:(Tryz.prog).cellsOf 160=1:=by kernel_rfl
theorem kHns:(Tryz.prog).cellsOf 23=1:=by kernel_rfl
theorem kSls:(Tryz.prog).cellsOf 22=1:=by kernel_rfl
theorem kSl:(Tryz.prog).cellsOf 162=8:=by kernel_rfl
theorem kIm:(Tryz.prog).cellsOf 25=2:=by kernel_rfl
theorem hns_cells {n:Nat}{cs:List Value}{x:DataW H × List MemPlace} (h:DataW.trod enc Tryz.prog W 0 (fun _=>true) true n 23 cs=some x) (hx:Rows.uptoBulk x.1≤1048576):∃(v:Sv) (l:List Nat),cs=[.slice v.1 v.2.1 v.2.2]∧RR LHn W l v∧∀k∈l,k < 18446744073709551616:=by
 obtain⟨A,c,l,e,hr,hq,hlen⟩:=open_bk LHn (fun k=>k < 18446744073709551616) h Tryz.underlying23 kHn fun n cs y hy _=>by
  obtain⟨k,hk,rfl⟩:=hn_cells hy
  exact⟨k,rfl,hk⟩
 exact⟨(A,l.length,c),l,e,⟨Nat.le_trans hlen hx,rfl,hr⟩,hq⟩
theorem sl_cells {n:Nat}{cs:List Value}{x:DataW H × List MemPlace} (h:DataW.trod enc Tryz.prog W 0 (fun _=>true) true n 162 cs=some x) (hx:Rows.uptoBulk x.1≤1048576):∃e:S8,cs=LS8.cells e∧∃s,RSl W s e∧SlOk s:=by
 obtain⟨hl,hp⟩:=trod_parts Tryz.underlying162 h
 obtain⟨a,b,c,d,e,f,g,i,rfl⟩:=list8 (hl.trans kSl)
 obtain⟨_,_,h0,b0⟩:=hp 0 _ rfl
 obtain⟨_,_,h1,b1⟩:=hp 1 _ rfl
 obtain⟨_,_,h2,b2⟩:=hp 2 _ rfl
 obtain⟨_,_,h3,b3⟩:=hp 3 _ rfl
 obtain⟨_,_,h4,b4⟩:=hp 4 _ rfl
 obtain⟨_,_,h5,b5⟩:=hp 5 _ rfl
 obtain⟨_,_,h6,b6⟩:=hp 6 _ rfl
 obtain⟨_,_,h7,b7⟩:=hp 7 _ rfl
 simp only [List.getElem_toArray,List.getElem_cons_zero,List.getElem_cons_succ,kInt,kStr,kBool,kHn,kU32,kAts,kHns,List.drop_zero,List.drop_succ_cons,List.take_succ_cons,List.take_zero] at h0 h1 h2 h3 h4 h5 h6 h7
 obtain⟨q0,e0,-,hw⟩:=DataW.trod_int Tryz.underlying160 h0
 have hw:0≤q0∧q0≤4294967295:=by simpa [Lit.wf,IntKind.min,IntKind.max,IntKind.signed,IntKind.bits] using hw
 obtain⟨q1,e1,-⟩:=DataW.trod_bool Tryz.underlying4 h1
 obtain⟨q2,e2,-,-⟩:=DataW.trod_int Tryz.underlying3 h2
 obtain⟨q3,e3,-,-⟩:=DataW.trod_string Tryz.underlying9 h3
 obtain⟨q4,l4,e4,r4⟩:=ats_cells h4 (by omega)
 obtain⟨q5,e5,-,-⟩:=DataW.trod_string Tryz.underlying9 h5
 obtain⟨q6,l6,e6⟩:=hn_cells h6
 obtain⟨q7,l7,e7,r7,k7⟩:=hns_cells h7 (by omega)
 simp only [List.cons.injEq,and_true] at e0 e1 e2 e3 e4 e5 e6 e7
 subst e0 e1 e2 e3 e4 e5 e6 e7
 obtain⟨n0,rfl⟩:∃n0:Nat,q0=n0:=⟨q0.toNat,by omega⟩
 exact⟨⟨n0,q1,q2,q3,q4,q5,q6,q7⟩,rfl,⟨n0,q1,q2,q3,l4,q5,q6,l7⟩,⟨rfl,rfl,rfl,rfl,rfl,rfl,r4,r7⟩,⟨by show n0 < _;omega,l6,k7⟩⟩
theorem im_open {n:Nat}{cs:List Value}{x:DataW H × List MemPlace} (h:DataW.trod enc Tryz.prog W 0 (fun _=>true) true n 25 cs=some x) (hx:Rows.uptoBulk x.1≤1048576):∃(X:Im) (vs vr:Sv),cs=[.slice vs.1 vs.2.1 vs.2.2,.slice vr.1 vr.2.1 vr.2.2]∧RIm W X vs vr:=by
 obtain⟨hl,hp⟩:=trod_parts Tryz.underlying25 h
 obtain⟨a,b,rfl⟩:=list2 (hl.trans kIm)
 obtain⟨_,_,h0,b0⟩:=hp 0 _ rfl
 obtain⟨_,_,h1,b1⟩:=hp 1 _ rfl
 simp only [List.getElem_toArray,List.getElem_cons_zero,List.getElem_cons_succ,kSls,kHns,List.drop_zero,List.drop_succ_cons,List.take_succ_cons,List.take_zero] at h0 h1
 obtain⟨A,c,es,e0,hr,hq,hlen⟩:=open_bk LS8 (fun e=>∃s,RSl W s e∧SlOk s) h0 Tryz.underlying22 kSl fun n cs y hy hb=>sl_cells hy (by omega)
 obtain⟨vr,l,e1,r1,k1⟩:=hns_cells h1 (by omega)
 obtain⟨sl,z1,z2⟩:=z2_of es hq
 simp only [List.cons.injEq,and_true] at e0 e1
 subst e0 e1
 have:=z1.len
 exact⟨⟨sl,l⟩,(A,es.length,c),vr,rfl,⟨by show sl.length≤_;omega,⟨es,rfl,hr,z1⟩,r1,z2,k1⟩⟩
end
end Go.Proofs.YtccplipiahdhiaaGreatDoor
/- Search: SearchFinds, the card. -/
namespace Go.Proofs.YtccplipiahdhiaaGreatDoor.searchFinds
open Go.ChangeShapes Go.WideShapes Go.ChangeAt Go.RowKit Go.Joins Go.Lib Go.Vc
open Go.ChangeMaps (open_string shut_string)
set_option maxRecDepth 100000
set_option linter.unusedVariables false
set_option linter.unusedSimpArgs false
theorem own : ownKnob Tryz.prog.godebug = none := by kernel_rfl
theorem laidOut : laidOutB Tryz.prog = true := by kernel_rfl
/-- A world in which the tables are laid. -/
noncomputable def laidWorld (os : Os) : World :=
  let w0 := World.holding Tryz.prog os ⟨#[], #[], []⟩
  let put (h : Array Obj) (g : Nat) (cs : Array Value) : Array Obj := h.modify g fun
    | .cells _ t frozen => .cells cs t frozen
    | o => o
  let h1 := put w0.heap 1 (Lib.firstTab.map fun z => Value.int .u8 z).toArray
  let h2 := put h1 2 ((List.range 16).flatMap fun i => [Value.int .u8 (Lib.accLo i), Value.int .u8 (Lib.accHi i)]).toArray
  { w0 with heap := h2 }
theorem laid_met (os : Os) : laidMet Tryz.prog Rows.searchFindsUptoRow.laid ((laidWorld os).forCall (fun _ _ => 0) ⟨#[], #[.agg #[.slice none 0 0, .slice none 0 0], .string ⟨#[]⟩, .string ⟨#[]⟩, .slice none 0 0], []⟩).memory :=
  (LaidIn.of_run (l := Rows.searchFindsUptoRow.laid) [2, 1] 8 (by kernel_rfl) (by kernel_rfl) (by kernel_rfl) (by kernel_rfl)).met
theorem u8Types : U8Types Tryz.prog decRen := { decLays with }
theorem tabs_of {W : World} (h : laidMet Tryz.prog Rows.searchFindsUptoRow.laid W) : Tabs W :=
  utf8Tabs_of_readsT (ρ := decRen) u8Types ⟨by kernel_rfl, by kernel_rfl, by kernel_rfl, by kernel_rfl, by kernel_rfl, by kernel_rfl, by kernel_rfl⟩
    (by rw [← Pinned.utf8First_eq]; exact Lib.laidMet.reads h (.tail _ (.head _))) (Lib.laidMet.reads h (.head _))
theorem reads (os : Os) {H : Type} (enc : TypeId × Value → H) : ∃ places, DataW.whole enc Tryz.prog ((laidWorld os).forCall (fun _ _ => 0) ⟨#[], #[.agg #[.slice none 0 0, .slice none 0 0], .string ⟨#[]⟩, .string ⟨#[]⟩, .slice none 0 0], []⟩).memory Tryz.f4.params.toList Rows.searchFindsSpec.vars false (#[.agg #[.slice none 0 0, .slice none 0 0], .string ⟨#[]⟩, .string ⟨#[]⟩, .slice none 0 0] : Array Value).toList 8 = some ([.agg [.nil, .nil], .lit (.string []), .lit (.string []), .nil], [], places) :=
  ⟨[], by kernel_rfl⟩
theorem lifted (os : Os) (started : os.Started) (H : Type) (enc : TypeId × Value → H) (F : Stop.Interp) :
    ReturnsInHanded {} Tryz.checked os 4 .any ((Rows.OpenSpec.upto Rows.searchFindsSpec).preRow enc Tryz.prog Tryz.f4 Rows.searchFindsUptoRow.domain false Rows.searchFindsUptoRow.laid) (((Rows.OpenSpec.upto Rows.searchFindsSpec).at F).post enc Tryz.prog Tryz.f4 false true false false) := by
  obtain ⟨places, hx⟩ := reads os enc
  refine returnsInHanded_of_row (C := Tryz.checked) (s := Rows.OpenSpec.upto Rows.searchFindsSpec) own started (by kernel_rfl) Tryz.func4
    (witness_row_at (enc := enc) (C := Tryz.checked) false (laidWorld os) #[.agg #[.slice none 0 0, .slice none 0 0], .string ⟨#[]⟩, .string ⟨#[]⟩, .slice none 0 0] rfl (by kernel_rfl) (by kernel_rfl) (by kernel_rfl)
      (OpenSpec.preRow_of_cond 8 hx (by kernel_rfl) (fun k hk => by cases hk; kernel_rfl) (by kernel_rfl) (laid_met os))) ?_
  intro W base args ds gs before hval0 hW _ hcond hsz0 hL _ _
  rw [MakeChecks.laidMetH_plain _ _ _ (by kernel_rfl)] at hL
  have hT : Tabs W := tabs_of hL
  have hk : Rows.uptoSmall H (ds ++ gs) = true := hcond _ rfl
  have hval : ∀ (j : Nat) t v, Tryz.f4.params[j]? = some t → args[j]? = some v → Value.okWide Tryz.prog W .any base t v := hval0
  have hWw : DataW.Whole enc Tryz.prog Tryz.f4.params.toList Rows.searchFindsSpec.vars false W args.toList ds gs before := hW
  clear hW
  have hW := hWw
  obtain ⟨p, q, hA0, hV, rfl, hfz, hnd⟩ := hW
  have hW' := hWw
  have hA : DataW.TrodAll enc Tryz.prog W 0 (fun _ => true) true Tryz.f4.params.toList args.toList ds p := hA0
  rw [Tryz.params4] at hA hval
  obtain ⟨v0, vs0, d0, ds0, p0, q0, hargs, rfl, rfl, h0, r0⟩ := trodAll_cons hA
  obtain ⟨v1, vs1, d1, ds1, p1, q1, rfl, rfl, rfl, h1, r1⟩ := trodAll_cons r0
  obtain ⟨v2, vs2, d2, ds2, p2, q2, rfl, rfl, rfl, h2, r2⟩ := trodAll_cons r1
  obtain ⟨v3, vs3, d3, ds3, p3, q3, rfl, rfl, rfl, h3, r3⟩ := trodAll_cons r2
  obtain ⟨rfl, rfl, rfl⟩ := trodAll_nil r3
  obtain rfl : args = #[v0, v1, v2, v3] := by cases args; simp_all
  obtain ⟨rfl, rfl⟩ := trodVars_none hV
  have k0 := h0
  have lt0 : ∀ x ∈ p0, x.block < W.heap.size := by obtain ⟨m, hm⟩ := k0; exact DataW.trod_lt m _ _ _ hm
  have k1 := h1
  have lt1 : ∀ x ∈ p1, x.block < W.heap.size := by obtain ⟨m, hm⟩ := k1; exact DataW.trod_lt m _ _ _ hm
  have k2 := h2
  have lt2 : ∀ x ∈ p2, x.block < W.heap.size := by obtain ⟨m, hm⟩ := k2; exact DataW.trod_lt m _ _ _ hm
  have k3 := h3
  have lt3 : ∀ x ∈ p3, x.block < W.heap.size := by obtain ⟨m, hm⟩ := k3; exact DataW.trod_lt m _ _ _ hm
  clear hA0 hval0
  obtain ⟨cs0, rfl, -⟩ := okWide_struct Tryz.underlying25 (hval 0 25 _ rfl rfl)
  obtain ⟨wd, rfl, rfl, rfl, hwd⟩ := open_string Tryz.underlying9 (hval 1 9 _ rfl rfl) h1
  obtain ⟨hd, rfl, rfl, rfl, hhd⟩ := open_string Tryz.underlying9 (hval 2 9 _ rfl rfl) h2
  obtain ⟨lb, lm, ld, rfl⟩ := okWide_slice Tryz.underlying26 (hval 3 26 _ rfl rfl)
  obtain ⟨fl, hfl⟩ := h0
  obtain ⟨X, vs, vr, hle, hX⟩ := im_open hfl (upto_small hk (by simp))
  obtain ⟨fm, hfm⟩ := h3
  obtain ⟨vw, ws, hlf, hW2, hwl⟩ := strs_open hfm (upto_small hk (by simp))
  unfold slV at hlf
  simp [Value.cells] at hlf
  obtain ⟨rfl, rfl, rfl⟩ := hlf
  obtain rfl : cs0 = #[.slice vs.1 vs.2.1 vs.2.2, .slice vr.1 vr.2.1 vr.2.2] := by
    apply Array.ext'
    simpa [Value.cells] using hle
  refine (findsS_calls (R := fun e W' => e = .returned (.bool true) ∧ Below W.heap.size W W') hT hX hW2 hwl wd hd fun w' hb => ⟨rfl, hb⟩).mono fun e W' ⟨he, bel⟩ => ?_
  subst he
  exact ⟨_, rfl, _, _, _, [], _, [], hW', trodAll_mk1 (shut_bool Tryz.underlying4 _), (trodAll_cons_mk (Below.trod laidOut (by kernel_rfl) (of_decide_eq_true (by kernel_rfl)) k0 bel lt0) (trodAll_cons_mk (Below.trod laidOut (by kernel_rfl) (of_decide_eq_true (by kernel_rfl)) k1 bel lt1) (trodAll_cons_mk (Below.trod laidOut (by kernel_rfl) (of_decide_eq_true (by kernel_rfl)) k2 bel lt2) (trodAll_cons_mk (Below.trod laidOut (by kernel_rfl) (of_decide_eq_true (by kernel_rfl)) k3 bel lt3) trodAll_mk0)))), rfl, bel.frame _, fun h => by cases h⟩
theorem said : Rows.SearchFindsUptoSaid :=
  OpenClaim.holds_of_cond 4 Tryz.f4 rfl rfl rfl rfl rfl rfl rfl ⟨rfl, rfl, rfl, rfl, rfl⟩ rfl rfl rfl rfl rfl (by kernel_rfl) Tryz.func4 (by kernel_rfl)
    (of_decide_eq_true (by kernel_rfl)) (by unfold Func.isWrapper; first | (rw [if_neg (of_decide_eq_false (by kernel_rfl))]; exact ⟨rfl, rfl⟩) | (rw [if_pos (of_decide_eq_true (by kernel_rfl))]; kernel_rfl))
    (fun os started H enc _ F => by rw [OpenClaim.pre_eq_preRow]; exact lifted os started H enc F)
theorem plain (f : FuncId) (fn : Func) (hf : Tryz.pinned.checked.prog.funcNamed "espalier/espalierlaw26.SearchFinds" = some f) (hfn : Tryz.pinned.checked.prog.funcs[f]? = some fn) :
    false = Tryz.pinned.checked.prog.looks [] ∧ ∀ (j : Nat) t, fn.params[j]? = some t → Tryz.pinned.checked.prog.wantsStandIn t = false := by
  obtain rfl : f = 4 := Option.some.inj ((show Tryz.prog.funcNamed "espalier/espalierlaw26.SearchFinds" = some 4 by kernel_rfl).symm.trans hf) |>.symm
  obtain rfl : fn = Tryz.f4 := (Option.some.inj (Tryz.func4.symm.trans hfn)).symm
  refine ⟨by kernel_rfl, fun j t ht => ?_⟩
  have hm : t ∈ Tryz.f4.params.toList := by simpa using Array.mem_of_getElem? ht
  have hall : (Tryz.f4.params.toList.all fun u => !Tryz.prog.wantsStandIn u) = true := by kernel_rfl
  exact (show Tryz.prog.wantsStandIn t = false by simpa using List.all_eq_true.1 hall t hm)
end Go.Proofs.YtccplipiahdhiaaGreatDoor.searchFinds
namespace Go.Proofs.YtccplipiahdhiaaGreatDoor
open Go.ChangeShapes Go.WideShapes Go.ChangeAt Go.RowKit Go.Joins Go.Lib
theorem searchFinds_holds : Rows.SearchFindsUptoCardSaid :=
  Claim7.holds_tied_plain_at .later [] _ _ _ _ searchFinds.said (fun _ h => by cases h) (by kernel_rfl) (fun _ h => by cases h) searchFindsUpto_row_tie rfl ⟨rfl, rfl⟩ (by kernel_rfl) rfl searchFinds.plain (by kernel_rfl)
#print axioms searchFinds_holds
end Go.Proofs.YtccplipiahdhiaaGreatDoor
