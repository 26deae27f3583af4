import Derived.Test.YtbocfedmdjkccaaProg
import Derived.Shelf.SlSortCmp.NoneTotal
import Derived.Laws.CopyRow
import Derived.Shelf.Bits.Mul64
import Derived.Laws.Externs
import Derived.Test.YtbocfedmdjkccaaTt3
/- Twigs: crossed, of the document's answer. -/
namespace Go.Proofs.Ytbocfedmdjkccaa
open Go.RowKit Go.Vc
set_option linter.unusedVariables false
set_option linter.unusedSimpArgs false
set_option maxRecDepth 100000
theorem mergeAll_len_go : ∀ (ls : List (List Pl)) (acc : List Sp), (ls.foldl (fun acc l => mergeS acc (l.map (·.s))) acc).length = acc.length + (spansAll ls).length
  | [], acc => by simp [spansAll]
  | l :: ls, acc => by
    rw [List.foldl_cons, mergeAll_len_go ls, mergeS_len, spansAll, spansAll, List.flatMap_cons, List.length_append]; omega
theorem mergeAll_len (ls : List (List Pl)) : (mergeAll ls).length = (spansAll ls).length := by rw [mergeAll, mergeAll_len_go]; simp
theorem mergeAll_snoc (ls : List (List Pl)) (l : List Pl) : mergeAll (ls ++ [l]) = mergeS (mergeAll ls) (l.map (·.s)) := by
  rw [mergeAll, mergeAll, List.foldl_append]; rfl
theorem spansAll_take (ls : List (List Pl)) (k : Nat) : (spansAll (ls.take k)).length ≤ (spansAll ls).length := by
  have : spansAll ls = spansAll (ls.take k) ++ spansAll (ls.drop k) := by rw [spansAll, spansAll, spansAll, ← List.flatMap_append, List.take_append_drop]
  rw [this, List.length_append]; omega
theorem Rd.spH {w : World} {A : Option Addr} {c : Nat} {xs : List Sp} {S : World → Prop} (h : Rd LSp w A c xs) (hS : ∀ w1, S w1 → Below w.heap.size w w1) {n : Nat} (hn : n = xs.length) {i : Int} {k : Nat} (hi : i = k) (hk : k < xs.length) {K : Addr → Prop}
    (hK : ∀ b o, Held S ⟨b, o, none⟩ (.int .u64 xs[k].b) → Held S ⟨b, o + 1, none⟩ (.int .u64 xs[k].e) → Held S ⟨b, o + 2, none⟩ (.int .i64 xs[k].l) → K ⟨b, o, none⟩) : IdxA A n i 3 K := by
  subst hi
  refine h.held hS hn (by omega) (by omega) rfl fun b o hc => ?_
  simp only [Int.toNat_natCast] at hc
  exact hK b o (hc 0 _ rfl) (hc 1 _ rfl) (hc 2 _ rfl)
theorem crossedR_calls (ls : List (List Pl)) (v : Sv) {w : World} (hl : RLs w ls v) (hz : (spansAll ls).length ≤ 16777215) {R : Ending → World → Prop}
    (h : ∀ w', Below w.heap.size w w' → R (.returned (.bool (crossF [] (mergeAll ls)))) w') :
    Calls Try.prog 56 #[slv v] w R := by
  obtain ⟨hlen, vs, hn, hr, hks⟩ := hl
  have hel := hks.len
  refine ok56 v.1 v.2.1 v.2.2 ?_
  unfold F56
  refine ⟨fun l lN lC i w1 => ∃ k : Nat, i = k ∧ k ≤ ls.length ∧ Below w.heap.size w w1 ∧ Own LSp w1 w.heap.size 77 (.slice l lN lC) (mergeAll (ls.take k)), fun _ _ _ i _ => ls.length - i.toNat, ⟨0, rfl, by omega, Below.refl _ _, by simpa [mergeAll] using Own.nil _ _ _ _⟩, ?_⟩
  rintro l lN lC i w1 ⟨k, rfl, hk, hb1, ho⟩
  unfold F56_l3
  refine brd (fun hlt => ?_) (fun hge => ?_)
  · have hk2 : k < ls.length := by omega
    refine (hr.keep hb1).sv hn rfl (k := k) (by omega) fun b o c0 => ?_
    simp only [c0, Addr.add_mk, List.getElem?_toArray, List.getElem?_cons_zero, List.getElem?_cons_succ, LdI_some, LdB_some, LdStr_some, LdP_some, LdSl_some, LdM_some, Nat.zero_add, Br_t, Br_f]
    refine spans_calls ls[k] vs[k] ((hks.keep hb1).get k hk2 (by omega)) fun u w2 hb2 ho2 => ⟨_, _, _, rfl, ?_⟩
    have B2 := btr hb1 hb1.size hb2
    obtain ⟨n1, r1⟩ := (ho.keep hb2).rd
    obtain ⟨n2, r2⟩ := ho2.rd
    have hT := spansAll_take ls (k + 1)
    rw [List.take_succ_eq_append_getElem hk2] at hT
    have hL := mergeAll_len (ls.take k ++ [ls[k]])
    rw [mergeAll_snoc, mergeS_len] at hL
    refine merged_calls _ _ (l, lN, lC) u n1 n2 r1 r2 (by omega) fun x w3 hb3 ho3 => ⟨_, _, _, rfl, inR_i64 (by omega) (by omega), ⟨k + 1, by simp, by omega, btr B2 B2.size hb3, ?_⟩, by omega⟩
    rw [List.take_succ_eq_append_getElem hk2, mergeAll_snoc]
    exact ho3.rebase fun b hb => by have := (ho3.lt b hb).1; have := B2.size; omega
  have hk2 : k = ls.length := by omega
  subst hk2
  rw [List.take_length] at ho
  have hLl := mergeAll_len ls
  generalize mergeAll ls = L at *
  obtain ⟨ln, lr⟩ := ho.rd
  refine ⟨fun O n oc x w2 => ∃ (k : Nat) (st : List Sp), x = k ∧ k ≤ L.length ∧ st.length ≤ k ∧ Below w1.heap.size w1 w2 ∧ Own LSp w2 w1.heap.size 77 (.slice O n oc) st.reverse ∧ crossF st (L.drop k) = crossF [] L, fun O n oc x w1 => L.length - x.toNat, ⟨0, [], rfl, by omega, by simp, Below.refl _ _, Own.nil _ _ _ _, by simp⟩, ?_⟩
  rintro O n oc x w2 ⟨k, st, rfl, hk, hst, hb, own, hc⟩
  unfold F56_l7
  refine brd (fun hlt => ?_) (fun hge => ?_)
  · have hk2 : k < L.length := by omega
    rw [List.drop_eq_getElem_cons hk2] at hc
    refine ⟨fun O n oc w3 => ∃ st : List Sp, st.length ≤ k + 1 ∧ Below w1.heap.size w1 w3 ∧ Own LSp w3 w1.heap.size 77 (.slice O n oc) st.reverse ∧ crossF st (L.drop (k + 1)) = crossF [] L, ?_, ?_⟩
    · rintro O n oc w3 ⟨st, hst, hb, own, hc⟩
      unfold F56_j8
      exact ⟨inR_i64 (by omega) (by omega), ⟨k + 1, st, by simp, by omega, hst, hb, own, hc⟩, by dsimp only; omega⟩
    refine ⟨fun O n oc w3 => ∃ st : List Sp, st.length ≤ k ∧ Below w1.heap.size w1 w3 ∧ Own LSp w3 w1.heap.size 77 (.slice O n oc) st.reverse ∧ (∀ t u, st = t :: u → ¬ t.e < L[k].b) ∧ crossF st (L[k] :: L.drop (k + 1)) = crossF [] L, ?_, ?_⟩
    · rintro O n oc w3 ⟨st, hst, hb3, own3, htop, hc3⟩
      unfold F56_j11
      refine ⟨fun w4 => Below w1.heap.size w1 w4 ∧ Own LSp w4 w1.heap.size 77 (.slice O n oc) st.reverse ∧ crossF (L[k] :: st) (L.drop (k + 1)) = crossF [] L, ?_, ?_⟩
      · rintro w4 ⟨hb4, own4, hc4⟩
        unfold F56_j16
        refine (lr.keep hb4).sp ln rfl hk2 fun q o c0 c1 c2 => ?_
        simp only [Addr.add_mk, c0, c1, c2, Addr.add_mk, List.getElem?_toArray, List.getElem?_cons_zero, List.getElem?_cons_succ, LdI_some, LdB_some, LdStr_some, LdP_some, LdSl_some, LdM_some, Nat.zero_add, Br_t, Br_f]
        exact push_span own4 hb4.size (by simp; omega) L[k] fun A' c' w5 ho5 hb5 => ⟨A', _, c', rfl, L[k] :: st, by simp; omega, hb4.trans hb5, by rw [List.reverse_cons]; exact ho5, hc4⟩
      · have hn3 := own3.rd.1
        rw [List.length_reverse] at hn3
        refine brd (fun hpos => ?_) (fun hneg => ?_)
        · obtain _ | ⟨t, u⟩ := st
          · simp at hn3; omega
          refine ⟨inR_i64 (by omega) (by omega), ?_⟩
          refine own3.rd.2.topSp (by simpa using hn3) fun b o c0 c1 c2 => ?_
          simp only [Addr.add_mk, c0, c1, c2, Addr.add_mk, List.getElem?_toArray, List.getElem?_cons_zero, List.getElem?_cons_succ, LdI_some, LdB_some, LdStr_some, LdP_some, LdSl_some, LdM_some, Nat.zero_add, Br_t, Br_f]
          refine al3 fun g2 w4 hb4 hg4 _ => dr fun w5 hb5 _ => ?_
          have hg5 := hg4.keep hb5
          have own5 := (own3.keep hb4).keep hb5
          have B5 := btr (btr hb3 hb3.size hb4) (Nat.le_trans hb3.size hb4.size) hb5
          simp only [Addr.add_mk, hg5.cell, List.getElem?_toArray, List.getElem?_cons_zero, List.getElem?_cons_succ, Addr.add_mk, List.getElem?_toArray, List.getElem?_cons_zero, List.getElem?_cons_succ, LdI_some, LdB_some, LdStr_some, LdP_some, LdSl_some, LdM_some, Nat.zero_add, Br_t, Br_f]
          refine (lr.keep B5).sp ln rfl hk2 fun q o c0 c1 c2 => ?_
          simp only [Addr.add_mk, c0, c1, c2, Addr.add_mk, List.getElem?_toArray, List.getElem?_cons_zero, List.getElem?_cons_succ, LdI_some, LdB_some, LdStr_some, LdP_some, LdSl_some, LdM_some, Nat.zero_add, Br_t, Br_f, SpEq]
          rw [crossF_cons (htop t u rfl)] at hc3
          refine brd (fun he => ?_) (fun he => ?_)
          · rw [if_pos he] at hc3
            exact ⟨t :: u, by omega, B5, own5, hc3⟩
          · rw [if_neg he] at hc3
            have hd : Below w5.heap.size w5 w5.drew := (Below.refl _ _).drew
            refine ⟨fun w' => Below w5.heap.size w5 w', hd, _, blk_held hg5 (fun _ h => h) rfl, _, blk_held hg5 (fun _ h => h) rfl, _, blk_held hg5 (fun _ h => h) rfl, ?_⟩
            refine (lr.keep B5).spH (fun _ h => h) ln rfl hk2 fun q o c0 c1 c2 => ?_
            simp only [Addr.add_mk]
            refine ⟨_, c0, _, c1, _, c2, ?_⟩
            refine ancR_calls t L[k] fun w6 hb6 => ⟨_, rfl, ?_⟩
            have B6 := btr B5 B5.size (hd.trans hb6)
            rw [brnot]
            refine br (fun ha => ?_) (fun ha => ?_)
            · rw [if_pos ha] at hc3
              exact ⟨B6, own5.keep (hd.trans hb6), hc3⟩
            · rw [if_neg (by rw [ha]; decide)] at hc3
              rw [← hc3] at h
              exact h w6 (btr hb1 hb1.size B6)
        · obtain rfl : st = [] := List.eq_nil_of_length_eq_zero (by omega)
          rw [crossF_nil] at hc3
          exact ⟨hb3, own3, hc3⟩
    · refine ⟨fun O n oc w3 => ∃ st : List Sp, st.length ≤ k ∧ Below w1.heap.size w1 w3 ∧ Own LSp w3 w1.heap.size 77 (.slice O n oc) st.reverse ∧ crossF st (L[k] :: L.drop (k + 1)) = crossF [] L, fun O n oc w3 => n, ⟨st, hst, hb, own, hc⟩, ?_⟩
      rintro O n oc w3 ⟨st, hst, hb3, own3, hc3⟩
      unfold F56_l9
      have hn3 := own3.rd.1
      rw [List.length_reverse] at hn3
      refine ⟨fun w4 => Below w1.heap.size w1 w4 ∧ ∃ t u, st = t :: u ∧ t.e < L[k].b ∧ Own LSp w4 w1.heap.size 77 (.slice O n oc) st.reverse, ?_, ?_⟩
      · rintro w4 ⟨hb4, t, u, rfl, hlt2, own4⟩
        unfold F56_j10
        simp only [List.length_cons] at hn3 hst
        refine ⟨inR_i64 (by omega) (by omega), by omega, by omega, by have := own4.cap; omega, ⟨u, by omega, hb4, own4.pop' (by omega), ?_⟩, by dsimp only; omega⟩
        rw [← hc3, crossF_pop hlt2]
      · refine dr fun w4 hb4 _ => ?_
        have own4 := own3.keep hb4
        have B4 := btr hb3 hb3.size hb4
        refine brd (fun hpos => ?_) (fun hneg => ?_)
        · obtain _ | ⟨t, u⟩ := st
          · simp at hn3; omega
          refine ⟨inR_i64 (by omega) (by omega), ?_⟩
          refine own4.rd.2.topSp (by simpa using hn3) fun b o c0 c1 c2 => ?_
          simp only [Addr.add_mk, c1, Addr.add_mk, List.getElem?_toArray, List.getElem?_cons_zero, List.getElem?_cons_succ, LdI_some, LdB_some, LdStr_some, LdP_some, LdSl_some, LdM_some, Nat.zero_add, Br_t, Br_f]
          refine (lr.keep B4).sp ln rfl hk2 fun q o c0 c1 c2 => ?_
          simp only [c0, Addr.add_mk, List.getElem?_toArray, List.getElem?_cons_zero, List.getElem?_cons_succ, LdI_some, LdB_some, LdStr_some, LdP_some, LdSl_some, LdM_some, Nat.zero_add, Br_t, Br_f]
          refine brd (fun hlt2 => ⟨B4, t, u, rfl, hlt2, own4⟩) (fun hge2 => ⟨t :: u, hst, B4, own4, by rintro _ _ ⟨⟩; exact hge2, hc3⟩)
        · obtain rfl : st = [] := List.eq_nil_of_length_eq_zero (by omega)
          exact ⟨[], by simp, B4, own4, by simp, hc3⟩
  · rw [← hc, List.drop_of_length_le (by omega)] at h
    have e : crossF st [] = false := by cases st <;> rw [crossF]
    rw [e] at h
    exact h w2 (btr hb1 hb1.size hb)
end Go.Proofs.Ytbocfedmdjkccaa
/- Twigs: what is wrong with a pattern and its lists: the document's answer. -/
namespace Go.Proofs.Ytbocfedmdjkccaa
open Go.RowKit Go.Vc
set_option linter.unusedVariables false
set_option linter.unusedSimpArgs false
set_option maxRecDepth 100000
def listsF : List (List Pl) → Int
  | [] => 0
  | l :: r => if listF l = 0 then listsF r else listF l
theorem listsF_all : ∀ {ls : List (List Pl)}, listsF ls = 0 → ∀ l ∈ ls, listF l = 0
  | [], _, l, hl => by simp at hl
  | x :: r, h, l, hl => by
    rw [listsF] at h
    by_cases hx : listF x = 0
    · rw [if_pos hx] at h
      rcases List.mem_cons.1 hl with rfl | hl
      · exact hx
      · exact listsF_all h l hl
    · rw [if_neg hx] at h; exact absurd h hx
theorem listF_len {l : List Pl} (h : listF l = 0) : l.length ≤ 4096 := by
  unfold listF at h
  split at h
  · cases h
  · omega
theorem listF_one {l : List Pl} (h : listF l = 0) : oneF none l = 0 := by
  have := listF_len h
  unfold listF at h
  rwa [if_neg (by omega)] at h
theorem spansAll_le : ∀ (ls : List (List Pl)), (∀ l ∈ ls, l.length ≤ 4096) → (spansAll ls).length ≤ ls.length * 4096
  | [], _ => by simp [spansAll]
  | l :: ls, h => by
    have h1 := spansAll_le ls fun x hx => h x (by simp [hx])
    have h2 := h l (by simp)
    unfold spansAll at h1 ⊢
    rw [List.flatMap_cons, List.length_append, List.length_map, List.length_cons]; omega
/-- What is wrong with a pattern and its lists. -/
def canF (t : Tw) (ls : List (List Pl)) : Int :=
  if checkF t = 0 then if ls.length = t.sz then if listsF ls = 0 then if crossF [] (mergeAll ls) then 111 else 0 else listsF ls else 1 else checkF t
theorem checkF_sz {t : Tw} (h : checkF t = 0) : t.sz ≤ 16 := by
  unfold checkF at h
  split at h
  · cases h
  · omega
theorem can_calls (t : Tw) (e : E3) (ls : List (List Pl)) (v : Sv) {w : World} {R : Ending → World → Prop} (ht : RTw w t e) (hl : RLs w ls v)
    (h : ∀ w', Below w.heap.size w w' → R (.returned (.int .i64 (canF t ls))) w') :
    Calls Try.prog 35 #[.agg #[.string e.nm, .bool e.d, .slice e.sl.1 e.sl.2.1 e.sl.2.2], slv v] w R := by
  have hl0 := hl
  obtain ⟨hlen, vs, hn, hr, hks⟩ := hl
  have hel := hks.len
  refine ok35 e.nm e.d e.sl.1 e.sl.2.1 e.sl.2.2 v.1 v.2.1 v.2.2 ?_
  unfold F35
  refine al fun gt w1 hb1 bt hge1 => ?_
  simp only [Addr.add_mk, bt.cell, List.getElem?_toArray, List.getElem?_cons_zero, List.getElem?_cons_succ, Addr.add_mk, List.getElem?_toArray, List.getElem?_cons_zero, List.getElem?_cons_succ, LdI_some, LdB_some, LdStr_some, LdP_some, LdSl_some, LdM_some, Nat.zero_add, Br_t, Br_f]
  refine checkR_calls t e (ht.keep hb1) fun w2 hb2 => ⟨_, rfl, ?_⟩
  have B2 := btr hb1 hb1.size hb2
  unfold canF at h
  refine brn (fun hne => ?_) (fun h0 => ?_)
  · rw [if_neg hne] at h
    exact h w2 B2
  rw [if_pos h0] at h
  have bt2 := bt.keep hb2
  have h16 := checkF_sz h0
  have hcap : cap17 t.sz = t.sz := by unfold cap17; rw [if_neg (by omega)]
  simp only [Addr.add_mk, bt2.cell, List.getElem?_toArray, List.getElem?_cons_zero, List.getElem?_cons_succ, Addr.add_mk, List.getElem?_toArray, List.getElem?_cons_zero, List.getElem?_cons_succ, LdI_some, LdB_some, LdStr_some, LdP_some, LdSl_some, LdM_some, Nat.zero_add, Br_t, Br_f]
  refine size_calls t e (ht.keep B2) fun w3 hb3 => ⟨_, rfl, ?_⟩
  have B3 := btr B2 B2.size hb3
  rw [hcap]
  refine brn (fun hne => ?_) (fun heq => ?_)
  · rw [if_neg (by omega)] at h
    exact h w3 B3
  rw [if_pos (by omega)] at h
  refine ⟨fun i w4 => ∃ k : Nat, i = k ∧ k ≤ ls.length ∧ Below w.heap.size w w4 ∧ listsF (ls.drop k) = listsF ls, fun i _ => ls.length - i.toNat, ⟨0, rfl, by omega, B3, by simp⟩, ?_⟩
  rintro i w4 ⟨k, rfl, hk, hb4, hc⟩
  unfold F35_l7
  refine brd (fun hlt => ?_) (fun hge => ?_)
  · have hk2 : k < ls.length := by omega
    rw [List.drop_eq_getElem_cons hk2, listsF] at hc
    refine (hr.keep hb4).sv hn rfl (k := k) (by omega) fun b o c0 => ?_
    simp only [c0, Addr.add_mk, List.getElem?_toArray, List.getElem?_cons_zero, List.getElem?_cons_succ, LdI_some, LdB_some, LdStr_some, LdP_some, LdSl_some, LdM_some, Nat.zero_add, Br_t, Br_f]
    refine listR_calls ls[k] vs[k] ((hks.keep hb4).get k hk2 (by omega)) fun w5 hb5 => ⟨_, rfl, ?_⟩
    have B5 := btr hb4 hb4.size hb5
    refine brn (fun hne => ?_) (fun h1 => ?_)
    · rw [if_neg hne] at hc
      rw [← hc, if_neg hne] at h
      exact h w5 B5
    · rw [if_pos h1] at hc
      exact ⟨inR_i64 (by omega) (by omega), ⟨k + 1, by simp, by omega, B5, hc⟩, by omega⟩
  · rw [List.drop_of_length_le (by omega), listsF] at hc
    rw [if_pos hc.symm] at h
    have hs := spansAll_le ls fun l hl => listF_len (listsF_all hc.symm l hl)
    refine crossedR_calls ls v (hl0.keep hb4) (by omega) fun w5 hb5 => ⟨_, rfl, ?_⟩
    have H := h w5 (btr hb4 hb4.size hb5)
    cases hx : crossF [] (mergeAll ls) <;> rw [hx] at H <;> exact H
end Go.Proofs.Ytbocfedmdjkccaa
/- Twigs: Nodes, of the document's answer. -/
namespace Go.Proofs.Ytbocfedmdjkccaa
open Go.RowKit Go.Vc
set_option linter.unusedVariables false
set_option linter.unusedSimpArgs false
set_option maxRecDepth 100000
structure Nd where
  up : Int
  d : Bool
  nm : ByteArray
  deriving Inhabited
def LNd : Lay Nd := ⟨3, fun x => [.int .i64 x.up, .bool x.d, .string x.nm], fun _ => rfl, fun _ => by simp [Value.oneCell'], by decide⟩
def ndOf (a : Tw × Int) : Nd := ⟨a.2, a.1.d, a.1.nm⟩
theorem RTw.d {w : World} {t : Tw} {e : E3} (h : RTw w t e) : e.d = t.d := by cases t; simp only [RTw] at h; exact h.2.1
theorem nodes_calls {w0 : World} {base : Nat} (hbase : w0.heap.size ≤ base) : ∀ (t : Tw) (e : E3) (up : Int) {acc : List Nd} {v : Sv} {w : World} {R : Ending → World → Prop}, RTw w0 t e → Below w0.heap.size w0 w → base ≤ w.heap.size →
    Own LNd w base 94 (slv v) acc → acc.length + t.sz ≤ 1048576 →
    (∀ v' w', Own LNd w' base 94 (slv v') (acc ++ (t.pre up acc.length).map ndOf) → Fm (fun b => rowOf (slv v) = some b) w w' → (∀ b, rowOf (slv v') = some b → rowOf (slv v) = some b ∨ w.heap.size ≤ b) → R (.returned (slv v')) w') →
    Calls Try.prog 46 #[.agg #[.string e.nm, .bool e.d, .slice e.sl.1 e.sl.2.1 e.sl.2.2], .int .i64 up, slv v] w R := by
  refine Tw.ind fun nm d ks ih e up acc v w R ht hB hw ho hz h => ?_
  have ht0 := ht
  have hnm := ht.nm
  have hdd := ht.d
  simp only [RTw] at ht
  obtain ⟨-, -, hlen, es0, hn, hr, hks⟩ := ht
  have hel := hks.len
  have hsz : (Tw.mk nm d ks).sz = 1 + szL ks := by rw [Tw.sz]
  refine ok46 e.nm e.d e.sl.1 e.sl.2.1 e.sl.2.2 up v.1 v.2.1 v.2.2 ?_
  unfold F46
  refine al fun gt w1 hb1 bt hge1 => ?_
  simp only [Addr.add_mk, bt.cell, List.getElem?_toArray, List.getElem?_cons_zero, List.getElem?_cons_succ, Addr.add_mk, List.getElem?_toArray, List.getElem?_cons_zero, List.getElem?_cons_succ, LdI_some, LdB_some, LdStr_some, LdP_some, LdSl_some, LdM_some, Nat.zero_add, Br_t, Br_f]
  have ho1 := ho.keep hb1
  have hn1 := ho1.rd.1
  have hs1 := hb1.size
  have hlt := ho.lt
  have hgt := bt.lt
  refine ap1 (L := LNd) (x := ⟨up, e.d, e.nm⟩) (.agg #[.int .i64 0, .bool false, .string ⟨#[]⟩]) 32 rfl rfl rfl rfl ho1 (by omega) (by omega) (by simp [maxLen]; omega) fun A' c' w3 ho3 hg => ⟨A', _, c', rfl, ?_⟩
  have bt3 : Blk w3 gt #[.string e.nm, .bool e.d, .slice e.sl.1 e.sl.2.1 e.sl.2.2] 24 := by
    unfold Blk at bt ⊢
    rw [hg.grown.block gt hgt fun hh => by have := hlt gt hh.symm; omega]; exact bt
  have hM3 : Fm (fun b => rowOf (slv v) = some b) w w3 := (Fm.below hb1).trans (.grown hg.grown fun b hb => hb)
  have hx : (⟨up, e.d, e.nm⟩ : Nd) = ndOf (Tw.mk nm d ks, up) := by rw [hnm, hdd]; rfl
  rw [hx] at ho3
  refine ⟨fun l2 lN2 lC2 i w5 => ∃ k : Nat, i = k ∧ k ≤ ks.length ∧ Blk w5 gt #[.string e.nm, .bool e.d, .slice e.sl.1 e.sl.2.1 e.sl.2.2] 24 ∧
      Own LNd w5 base 94 (.slice l2 lN2 lC2) (acc ++ ndOf (Tw.mk nm d ks, up) :: (preL acc.length (acc.length + 1) (ks.take k)).map ndOf) ∧ Fm (fun b => rowOf (slv v) = some b) w w5 ∧ w1.heap.size ≤ w5.heap.size ∧ (∀ b, rowOf (.slice l2 lN2 lC2) = some b → rowOf (slv v) = some b ∨ w1.heap.size ≤ b), fun _ _ _ i _ => ks.length - i.toNat,
    ⟨0, rfl, by omega, bt3, by rw [List.take_zero, preL]; exact ho3, hM3, hg.lt, ?_⟩, ?_⟩
  · intro b hb
    rcases hg.row with h1 | h1 | ⟨g, h1, h2⟩
    · rw [h1] at hb; exact .inl hb
    · rw [h1] at hb; cases hb
    · rw [h1] at hb; cases hb; exact .inr h2
  rintro l2 lN2 lC2 i w5 ⟨k, rfl, hk, bt5, ho5, hM5, hs5, hrow5⟩
  unfold F46_l4
  have B5 : Below w0.heap.size w0 w5 := hB.trans (hM5.toBelow hB.size fun b hb hm => by have := hlt b hm; omega)
  simp only [Addr.add_mk, bt5.cell, List.getElem?_toArray, List.getElem?_cons_zero, List.getElem?_cons_succ, Addr.add_mk, List.getElem?_toArray, List.getElem?_cons_zero, List.getElem?_cons_succ, LdI_some, LdB_some, LdStr_some, LdP_some, LdSl_some, LdM_some, Nat.zero_add, Br_t, Br_f]
  refine brd (fun hlt2 => ?_) (fun hge => ?_)
  · have hk2 : k < ks.length := by omega
    refine (hr.keep B5).e3 hn rfl (k := k) (by omega) fun b o c0 c1 c2 => ?_
    simp only [Addr.add_mk, c0, c1, c2, Addr.add_mk, List.getElem?_toArray, List.getElem?_cons_zero, List.getElem?_cons_succ, LdI_some, LdB_some, LdStr_some, LdP_some, LdSl_some, LdM_some, Nat.zero_add, Br_t, Br_f]
    have hl : (acc ++ ndOf (Tw.mk nm d ks, up) :: (preL acc.length (acc.length + 1) (ks.take k)).map ndOf).length = acc.length + 1 + szL (ks.take k) := by rw [List.length_append, List.length_cons, List.length_map, preL_len]; omega
    have hT := szL_take ks (k + 1)
    rw [List.take_succ_eq_append_getElem hk2, szL_snoc] at hT
    refine ih ks[k] (List.getElem_mem _) es0[k] _ (v := (l2, lN2, lC2)) (hks.get k hk2 (by omega)) B5 (by omega) ho5 (by rw [hl]; omega) fun v7 w7 ho7 hM7 hrow7 => ⟨_, _, _, rfl, inR_i64 (by omega) (by omega), ⟨k + 1, by simp, by omega, ?_, ?_, ?_, ?_, ?_⟩, by omega⟩
    · exact hM7.blk bt5 fun hm => by
        rcases hrow5 gt hm with h1 | h1
        · have := hlt gt h1; omega
        · omega
    · rw [hl, hn1] at ho7
      rw [List.take_succ_eq_append_getElem hk2, preL_snoc, List.map_append]
      simpa using ho7
    · refine hM5.trans2 hM7 fun b hb hm => ?_
      rcases hrow5 b hm with h1 | h1
      · exact h1
      · omega
    · have := hM7.size; omega
    · intro b hb
      rcases hrow7 b hb with h1 | h1
      · exact hrow5 b h1
      · exact .inr (by omega)
  · have hk2 : k = ks.length := by omega
    subst hk2
    rw [List.take_length] at ho5
    refine h (l2, lN2, lC2) w5 (by rw [Tw.pre]; exact ho5) hM5 fun b hb => ?_
    rcases hrow5 b hb with h1 | h1
    · exact .inl h1
    · exact .inr (by omega)
def nodesF (t : Tw) : List Nd := (t.pre (-1) 0).map ndOf
theorem nodesF_len (t : Tw) : (nodesF t).length = t.sz := by rw [nodesF, List.length_map, Tw.pre_len]
theorem Nodes_calls (t : Tw) (e : E3) {w : World} {R : Ending → World → Prop} (ht : RTw w t e) (hz : t.sz ≤ 1048576)
    (h : ∀ v' w', Below w.heap.size w w' → Own LNd w' w.heap.size 94 (slv v') (nodesF t) → R (.returned (slv v')) w') :
    Calls Try.prog 25 #[.agg #[.string e.nm, .bool e.d, .slice e.sl.1 e.sl.2.1 e.sl.2.2]] w R := by
  refine ok25 e.nm e.d e.sl.1 e.sl.2.1 e.sl.2.2 ?_
  unfold F25
  refine al fun gt w1 hb1 bt hge1 => ?_
  simp only [Addr.add_mk, bt.cell, List.getElem?_toArray, List.getElem?_cons_zero, List.getElem?_cons_succ, Addr.add_mk, List.getElem?_toArray, List.getElem?_cons_zero, List.getElem?_cons_succ, LdI_some, LdB_some, LdStr_some, LdP_some, LdSl_some, LdM_some, Nat.zero_add, Br_t, Br_f]
  refine nodes_calls (w0 := w) (base := w.heap.size) (Nat.le_refl _) t e (-1) (acc := []) (v := (none, 0, 0)) ht hb1 hb1.size (Own.nil _ _ _ _) (by simpa using hz) fun v' w' ho hf _ => ⟨_, _, _, rfl, ?_⟩
  exact h v' w' (hb1.trans (hf.toBelow hb1.size fun b _ hm => by cases hm)) (by simpa [nodesF] using ho)
end Go.Proofs.Ytbocfedmdjkccaa
/- Twigs: counts: a number, or 2^64 and more; the document's answer's words for them, by the count itself. -/
namespace Go.Proofs.Ytbocfedmdjkccaa
open Go.RowKit Go.Vc
set_option linter.unusedVariables false
set_option linter.unusedSimpArgs false
set_option maxRecDepth 100000
def mN (c : Nat) : Int := if c < 18446744073709551616 then c else 0
def mO (c : Nat) : Bool := decide (18446744073709551616 ≤ c)
abbrev mV (c : Nat) : Value := .agg #[.int .u64 (mN c), .bool (mO c)]
theorem mO_t {c : Nat} : mO c = true ↔ 18446744073709551616 ≤ c := by simp [mO]
theorem mO_f {c : Nat} : mO c = false ↔ c < 18446744073709551616 := by simp [mO]
theorem mN_lt {c : Nat} (h : c < 18446744073709551616) : mN c = c := by rw [mN, if_pos h]
theorem inR_u64 {z : Int} (h0 : 0 ≤ z) (h1 : z ≤ 18446744073709551615) : InR .u64 z := ⟨by simpa [IntKind.min, IntKind.signed, IntKind.bits] using h0, by simpa [IntKind.max, IntKind.signed, IntKind.bits] using h1⟩
theorem none_calls (c : Nat) : B1 60 #[mV c] (decide (c = 0)) := fun {w R} h => by
  refine ok60 (mN c) (mO c) ?_
  unfold F60
  refine al fun g w1 hb hg _ => ?_
  have H := h w1 hb
  simp only [Addr.add_mk, hg.cell, List.getElem?_toArray, List.getElem?_cons_zero, List.getElem?_cons_succ, Addr.add_mk, List.getElem?_toArray, List.getElem?_cons_zero, List.getElem?_cons_succ, LdI_some, LdB_some, LdStr_some, LdP_some, LdSl_some, LdM_some, Nat.zero_add, Br_t, Br_f]
  cases ho : mO c with
  | true =>
    have := mO_t.1 ho
    rw [decide_eq_false (by omega)] at H
    exact bre (fun _ => H) (fun _ => H)
  | false =>
    have hc := mO_f.1 ho
    rw [mN_lt hc]
    refine bre (fun h0 => ?_) (fun h0 => ?_)
    · rw [decide_eq_true (by omega)] at H; exact H
    · rw [decide_eq_false (by omega)] at H; exact H
theorem plus_calls (a b : Nat) {w : World} {R : Ending → World → Prop} (h : ∀ w', Below w.heap.size w w' → R (.returned (mV (a + b))) w') :
    Calls Try.prog 59 #[mV a, mV b] w R := by
  refine ok59 (mN a) (mO a) (mN b) (mO b) ?_
  unfold F59
  refine al fun ga w1 hb1 ba h1 => al fun gb w2 hb2 bb h2 => al fun g4 w3 hb3 b4 h4 => ?_
  have hs1 := hb1.size
  have hs2 := hb2.size
  have B3 := btr (btr hb1 hb1.size hb2) (by omega) hb3
  have ba3 := (ba.keep hb2).keep hb3
  have bb3 := bb.keep hb3
  have fin : ∀ (x : Int) (o : Bool), x = mN (a + b) → o = mO (a + b) → St w3 ⟨g4, 0, none⟩ (.int .u64 x) fun w4 => St w4 (Addr.add ⟨g4, 0, none⟩ 1) (.bool o) fun w5 =>
      LdI .u64 (w5.cell? ⟨g4, 0, none⟩) fun r0 => LdB (w5.cell? (Addr.add ⟨g4, 0, none⟩ 1)) fun r1 => R (.returned (.agg #[.int .u64 r0, .bool r1])) w5 := by
    rintro x o rfl rfl
    simp only [Addr.add_mk]
    refine st_blk b4 (by simp) fun w4 b44 hf4 => st_blk b44 (by simp) fun w5 b45 hf5 => ?_
    simp only [List.setIfInBounds_toArray, List.set_cons_zero, List.set_cons_succ] at b45
    simp only [b45.cell, List.getElem?_toArray, List.getElem?_cons_zero, List.getElem?_cons_succ, Addr.add_mk, List.getElem?_toArray, List.getElem?_cons_zero, List.getElem?_cons_succ, LdI_some, LdB_some, LdStr_some, LdP_some, LdSl_some, LdM_some, Nat.zero_add, Br_t, Br_f]
    exact h w5 (B3.trans ((hf4.trans hf5).toBelow B3.size fun b hb hm => by omega))
  refine ⟨fun w' => w3 = w' ∧ a + b < 18446744073709551616, ?_, ?_⟩
  · rintro _ ⟨rfl, hlt⟩
    unfold F59_j3
    have ea := mN_lt (c := a) (by omega)
    have eb := mN_lt (c := b) (by omega)
    simp only [ba3.cell, bb3.cell, List.getElem?_toArray, List.getElem?_cons_zero, Addr.add_mk, List.getElem?_toArray, List.getElem?_cons_zero, List.getElem?_cons_succ, LdI_some, LdB_some, LdStr_some, LdP_some, LdSl_some, LdM_some, Nat.zero_add, Br_t, Br_f]
    exact ⟨inR_u64 (by omega) (by omega), fin _ _ (by rw [ea, eb, mN_lt hlt]; simp) (by rw [mO_f.2 hlt])⟩
  · simp only [Addr.add_mk, ba3.cell, bb3.cell, List.getElem?_toArray, List.getElem?_cons_zero, List.getElem?_cons_succ, Addr.add_mk, List.getElem?_toArray, List.getElem?_cons_zero, List.getElem?_cons_succ, LdI_some, LdB_some, LdStr_some, LdP_some, LdSl_some, LdM_some, Nat.zero_add, Br_t, Br_f]
    have over : 18446744073709551616 ≤ a + b → (0 : Int) = mN (a + b) ∧ true = mO (a + b) := fun hh => ⟨by rw [mN, if_neg (by omega)], (mO_t.2 hh).symm⟩
    refine br (fun ho => ?_) (fun ho => ?_)
    · have := mO_t.1 ho
      obtain ⟨o1, o2⟩ := over (by omega)
      simpa only [Addr.add_mk, Nat.zero_add] using fin 0 true o1 o2
    refine br (fun ho2 => ?_) (fun ho2 => ?_)
    · have := mO_t.1 ho2
      obtain ⟨o1, o2⟩ := over (by omega)
      simpa only [Addr.add_mk, Nat.zero_add] using fin 0 true o1 o2
    have la := mO_f.1 ho
    have lb := mO_f.1 ho2
    rw [mN_lt la, mN_lt lb]
    refine ⟨inR_u64 (by omega) (by omega), ?_⟩
    refine brd (fun hgt => ?_) (fun hle => ⟨by trivial, by omega⟩)
    obtain ⟨o1, o2⟩ := over (by omega)
    simpa only [Addr.add_mk, Nat.zero_add] using fin 0 true o1 o2
theorem times_calls (a b : Nat) {w : World} {R : Ending → World → Prop} (h : ∀ w', Below w.heap.size w w' → R (.returned (mV (a * b))) w') :
    Calls Try.prog 57 #[mV a, mV b] w R := by
  refine ok57 (mN a) (mO a) (mN b) (mO b) ?_
  unfold F57
  refine al fun ga w1 hb1 ba h1 => al fun gb w2 hb2 bb h2 => al fun g4 w3 hb3 b4 h4 => ?_
  have hs1 := hb1.size
  have hs2 := hb2.size
  have B3 := btr (btr hb1 hb1.size hb2) (by omega) hb3
  have ba3 := (ba.keep hb2).keep hb3
  have bb3 := bb.keep hb3
  have fin : ∀ (w0 : World), Below w3.heap.size w3 w0 → ∀ (x : Int) (o : Bool), x = mN (a * b) → o = mO (a * b) → St w0 ⟨g4, 0, none⟩ (.int .u64 x) fun w4 => St w4 ⟨g4, 1, none⟩ (.bool o) fun w5 =>
      LdI .u64 (w5.cell? ⟨g4, 0, none⟩) fun r0 => LdB (w5.cell? ⟨g4, 1, none⟩) fun r1 => R (.returned (.agg #[.int .u64 r0, .bool r1])) w5 := by
    rintro w0 hw0 x o rfl rfl
    refine st_blk (b4.keep hw0) (by simp) fun w4 b44 hf4 => st_blk b44 (by simp) fun w5 b45 hf5 => ?_
    simp only [List.setIfInBounds_toArray, List.set_cons_zero, List.set_cons_succ] at b45
    simp only [b45.cell, List.getElem?_toArray, List.getElem?_cons_zero, List.getElem?_cons_succ, Addr.add_mk, List.getElem?_toArray, List.getElem?_cons_zero, List.getElem?_cons_succ, LdI_some, LdB_some, LdStr_some, LdP_some, LdSl_some, LdM_some, Nat.zero_add, Br_t, Br_f]
    have hs0 := hw0.size
    exact h w5 ((btr B3 B3.size hw0).trans ((hf4.trans hf5).toBelow (by have := B3.size; omega) fun b hb hm => by omega))
  have over : 18446744073709551616 ≤ a * b → (0 : Int) = mN (a * b) ∧ true = mO (a * b) := fun hh => ⟨by rw [mN, if_neg (by omega)], (mO_t.2 hh).symm⟩
  refine ⟨fun w' => Below w3.heap.size w3 w' ∧ a < 18446744073709551616 ∧ b < 18446744073709551616 ∧ a * b < 18446744073709551616, ?_, ?_⟩
  · rintro w0 ⟨hw0, la, lb, hlt⟩
    unfold F57_j5
    simp only [Addr.add_mk, Nat.zero_add, (ba3.keep hw0).cell, (bb3.keep hw0).cell, List.getElem?_toArray, List.getElem?_cons_zero, Addr.add_mk, List.getElem?_toArray, List.getElem?_cons_zero, List.getElem?_cons_succ, LdI_some, LdB_some, LdStr_some, LdP_some, LdSl_some, LdM_some, Nat.zero_add, Br_t, Br_f]
    have ee : mN a * mN b = ((a * b : Nat) : Int) := by rw [mN_lt la, mN_lt lb]; simp
    rw [ee]
    exact ⟨inR_u64 (by omega) (by omega), fin w0 hw0 _ _ (by rw [mN_lt hlt]) (by rw [mO_f.2 hlt])⟩
  · simp only [Addr.add_mk, Nat.zero_add, ba3.cell, List.getElem?_toArray, List.getElem?_cons_zero, List.getElem?_cons_succ, Addr.add_mk, List.getElem?_toArray, List.getElem?_cons_zero, List.getElem?_cons_succ, LdI_some, LdB_some, LdStr_some, LdP_some, LdSl_some, LdM_some, Nat.zero_add, Br_t, Br_f]
    refine none_calls a fun w4 hb4 => ⟨_, rfl, ?_⟩
    have zero : a * b = 0 → (0 : Int) = mN (a * b) ∧ false = mO (a * b) := fun hh => by rw [hh]; exact ⟨rfl, rfl⟩
    refine brd (fun h0 => ?_) (fun h0 => ?_)
    · obtain ⟨z1, z2⟩ := zero (by rw [h0]; simp)
      exact fin w4 hb4 0 false z1 z2
    have bb4 := bb3.keep hb4
    simp only [Addr.add_mk, Nat.zero_add, bb4.cell, List.getElem?_toArray, List.getElem?_cons_zero, List.getElem?_cons_succ, Addr.add_mk, List.getElem?_toArray, List.getElem?_cons_zero, List.getElem?_cons_succ, LdI_some, LdB_some, LdStr_some, LdP_some, LdSl_some, LdM_some, Nat.zero_add, Br_t, Br_f]
    refine none_calls b fun w5 hb5 => ⟨_, rfl, ?_⟩
    have B5 := btr hb4 hb4.size hb5
    refine brd (fun h0 => ?_) (fun h00 => ?_)
    · obtain ⟨z1, z2⟩ := zero (by rw [h0]; simp)
      exact fin w5 B5 0 false z1 z2
    refine dr fun w6 hb6 _ => ?_
    have B6 := btr B5 B5.size hb6
    have ba6 := ba3.keep B6
    have bb6 := bb3.keep B6
    simp only [Addr.add_mk, Nat.zero_add, ba6.cell, bb6.cell, List.getElem?_toArray, List.getElem?_cons_zero, List.getElem?_cons_succ, Addr.add_mk, List.getElem?_toArray, List.getElem?_cons_zero, List.getElem?_cons_succ, LdI_some, LdB_some, LdStr_some, LdP_some, LdSl_some, LdM_some, Nat.zero_add, Br_t, Br_f]
    have ap : 1 ≤ a := by omega
    have bp : 1 ≤ b := by omega
    have hab : a ≤ a * b := Nat.le_mul_of_pos_right a bp
    have hba : b ≤ a * b := Nat.le_mul_of_pos_left b ap
    refine br (fun ho => ?_) (fun ho => ?_)
    · have := mO_t.1 ho
      obtain ⟨o1, o2⟩ := over (by omega)
      exact fin w6 B6 0 true o1 o2
    refine br (fun ho2 => ?_) (fun ho2 => ?_)
    · have := mO_t.1 ho2
      obtain ⟨o1, o2⟩ := over (by omega)
      exact fin w6 B6 0 true o1 o2
    have la := mO_f.1 ho
    have lb := mO_f.1 ho2
    rw [mN_lt la, mN_lt lb]
    have hq : (18446744073709551615 : Int).tdiv (a : Int) = ((18446744073709551615 / a : Nat) : Int) := by
      rw [Int.tdiv_eq_ediv_of_nonneg (by omega)]; rfl
    have hq2 : 18446744073709551615 / a ≤ 18446744073709551615 := Nat.div_le_self _ _
    have hdiv : b ≤ 18446744073709551615 / a ↔ b * a ≤ 18446744073709551615 := Nat.le_div_iff_mul_le ap
    rw [Nat.mul_comm b a] at hdiv
    rw [hq]
    generalize 18446744073709551615 / a = X at *
    refine ⟨by omega, inR_u64 (by omega) (by omega), ?_⟩
    refine brd (fun hgt => ?_) (fun hle => ⟨B6, la, lb, by omega⟩)
    obtain ⟨o1, o2⟩ := over (by omega)
    exact fin w6 B6 0 true o1 o2
/-- May a node stand for one of the pattern's, under another one? -/
def fitB (d : Bool) (up x : Sp) : Bool := if d then parB up x else ancB up x
theorem fitsR_calls (n : Nd) (up x : Sp) (h0 : 0 ≤ up.l) (h1 : x.l ≤ 64) {w : World} {R : Ending → World → Prop} (h : ∀ w', Below w.heap.size w w' → R (.returned (.bool (fitB n.d up x))) w') :
    Calls Try.prog 61 #[.agg #[.int .i64 n.up, .bool n.d, .string n.nm], spv up, spv x] w R := by
  refine ok61 n.up n.d n.nm up.b up.e up.l x.b x.e x.l ?_
  unfold F61
  refine al fun ga w1 hb1 ba g1 => al fun gb w2 hb2 bb g2 => al fun g4 w3 hb3 b4 g4 => ?_
  have hs1 := hb1.size
  have hs2 := hb2.size
  have B3 := btr (btr hb1 hb1.size hb2) (by omega) hb3
  have ba3 := (ba.keep hb2).keep hb3
  have bb3 := bb.keep hb3
  simp only [Addr.add_mk, Nat.zero_add, ba3.cell, bb3.cell, b4.cell, List.getElem?_toArray, List.getElem?_cons_zero, List.getElem?_cons_succ, Addr.add_mk, List.getElem?_toArray, List.getElem?_cons_zero, List.getElem?_cons_succ, LdI_some, LdB_some, LdStr_some, LdP_some, LdSl_some, LdM_some, Nat.zero_add, Br_t, Br_f]
  unfold fitB at h
  refine br (fun hd => ?_) (fun hd => ?_)
  · rw [if_pos hd] at h
    exact parR_calls up x (by omega) (by omega) fun w4 hb4 => ⟨_, rfl, h w4 (btr B3 B3.size hb4)⟩
  · rw [if_neg (by rw [hd]; decide)] at h
    exact ancR_calls up x fun w4 hb4 => ⟨_, rfl, h w4 (btr B3 B3.size hb4)⟩
end Go.Proofs.Ytbocfedmdjkccaa
/- Twigs: the program's finder: may a node stand for a place? -/
namespace Go.Proofs.Ytbocfedmdjkccaa
open Go.RowKit Go.Vc
set_option linter.unusedVariables false
set_option linter.unusedSimpArgs false
set_option maxRecDepth 100000
theorem cell_keep {w w1 : World} (hb : Below w.heap.size w w1) {a : Addr} {v : Value} (h : w.cell? a = some v) : w1.cell? a = some v := (sub_below hb).cell h
theorem underP_calls {f : Nat} {ps : List (Tw × Int)} {pv : Sv} {k : Nat} (hk : k < ps.length) (up x : Sp) (h0 : 0 ≤ up.l) (h1 : x.l ≤ 64) {w : World} {R : Ending → World → Prop} (hc : w.cell? ⟨f, 0, none⟩ = some (slv pv)) (hp : RPs w ps pv)
    (h : ∀ w', Below w.heap.size w w' → R (.returned (.bool (fitB ps[k].1.d up x))) w') :
    Calls Try.prog 48 #[.pointer (some ⟨f, 0, none⟩), .int .i64 (k : Int), spv up, spv x] w R := by
  refine ok48 (some ⟨f, 0, none⟩) k up.b up.e up.l x.b x.e x.l ?_
  unfold F48
  refine al fun ga w1 hb1 ba g1 => al fun gb w2 hb2 bb g2 => ?_
  have B2 := btr hb1 hb1.size hb2
  have ba2 := ba.keep hb2
  obtain ⟨es, hn, hr, hrp⟩ := hp
  have hel := hrp.len
  have hd : es[k].e.d = ps[k].1.d := ((hrp.get k hk (by omega)).1).d
  rw [NonNil_some]
  simp only [cell_keep B2 hc, Addr.add_mk, List.getElem?_toArray, List.getElem?_cons_zero, List.getElem?_cons_succ, LdI_some, LdB_some, LdStr_some, LdP_some, LdSl_some, LdM_some, Nat.zero_add, Br_t, Br_f]
  refine (hr.keep B2).e4 hn rfl (k := k) (by omega) fun b o c0 c1 c2 c3 => ?_
  simp only [Addr.add_mk, Nat.zero_add, c1, ba2.cell, bb.cell, List.getElem?_toArray, List.getElem?_cons_zero, List.getElem?_cons_succ, Addr.add_mk, List.getElem?_toArray, List.getElem?_cons_zero, List.getElem?_cons_succ, LdI_some, LdB_some, LdStr_some, LdP_some, LdSl_some, LdM_some, Nat.zero_add, Br_t, Br_f]
  rw [hd]
  unfold fitB at h
  refine br (fun hd => ?_) (fun hd => ?_)
  · rw [if_pos hd] at h
    exact child_calls x up (by omega) (by omega) fun w4 hb4 => ⟨_, rfl, h w4 (btr B2 B2.size hb4)⟩
  · rw [if_neg (by rw [hd]; decide)] at h
    exact desc_calls x up fun w4 hb4 => ⟨_, rfl, h w4 (btr B2 B2.size hb4)⟩
end Go.Proofs.Ytbocfedmdjkccaa
set_option linter.unusedVariables false
set_option maxRecDepth 100000
namespace Go.Proofs.Ytbocfedmdjkccaa
open Go.Vc
-- slices.BinarySearchFunc[[]espalier/api.Placed,espalier/api.Placed,uint64]
def F83_l3 (x : Option Addr) (xN : Nat) (target : Int) (cmp : Value) (L3 : Int → Int → World → Prop) (i : Int) (j : Int) (w_2 : World) (R : Ending → World → Prop) : Prop :=
 Br (decide (i < j))
 (InR .i64 (i + j) ∧ InR .u64 ((i + j)) ∧ InR .i64 ((((i + j)).fdiv (2 ^ (min ((1 : Int)).toNat 64)))) ∧ IdxA x xN ((((i + j)).fdiv (2 ^ (min ((1 : Int)).toNat 64)))) 4 fun q27 =>
 LdI .u64 (w_2.cell? q27) fun x28_0 =>
 LdI .u64 (w_2.cell? (q27.add 1)) fun x28_1 =>
 LdI .u64 (w_2.cell? (q27.add 2)) fun x28_2 =>
 LdI .i64 (w_2.cell? (q27.add 3)) fun x28_3 =>
 CallV Try.prog cmp #[(.agg #[(.int .u64 x28_0), (.int .u64 x28_1), (.int .u64 x28_2), (.int .i64 x28_3)]), (.int .u64 target)] w_2 R (fun v w1 =>
 ∃ (x30 : Int), v = (.int .i64 x30) ∧
 Br (decide (x30 < (0 : Int)))
 (InR .i64 (((((i + j)).fdiv (2 ^ (min ((1 : Int)).toNat 64)))) + (1 : Int)) ∧ L3 (((((i + j)).fdiv (2 ^ (min ((1 : Int)).toNat 64)))) + (1 : Int)) j w1)
 (L3 i ((((i + j)).fdiv (2 ^ (min ((1 : Int)).toNat 64)))) w1)))
 (Br (decide (i < ((xN : Nat) : Int)))
 (IdxA x xN i 4 fun q43 =>
 LdI .u64 (w_2.cell? q43) fun x44_0 =>
 LdI .u64 (w_2.cell? (q43.add 1)) fun x44_1 =>
 LdI .u64 (w_2.cell? (q43.add 2)) fun x44_2 =>
 LdI .i64 (w_2.cell? (q43.add 3)) fun x44_3 =>
 CallV Try.prog cmp #[(.agg #[(.int .u64 x44_0), (.int .u64 x44_1), (.int .u64 x44_2), (.int .i64 x44_3)]), (.int .u64 target)] w_2 R (fun v w1 =>
 ∃ (x46 : Int), v = (.int .i64 x46) ∧
 R (.returned (.tuple #[(.int .i64 i), (.bool (x46 == (0 : Int)))])) w1))
 (R (.returned (.tuple #[(.int .i64 i), (.bool false)])) w_2))

def F83 (x : Option Addr) (xN : Nat) (xC : Nat) (target : Int) (cmp : Value) (w_ : World) (R : Ending → World → Prop) : Prop :=
 ∃ (I : Int → Int → World → Prop) (m : Int → Int → World → Nat), I (0 : Int) ((xN : Nat) : Int) w_ ∧
 ∀ (i : Int) (j : Int) (w1 : World), I i j w1 → F83_l3 x xN target cmp (fun i' j' w2 => I i' j' w2 ∧ m i' j' w2 < m i j w1) i j w1 R

def pl83 : Plan := ⟨49, ⟨[]⟩, [], [(3, ⟨[(9, (.s (.int .i64))), (10, (.s (.int .i64)))], [(9, 35)]⟩)]⟩

theorem eq83 (x : Option Addr) (xN : Nat) (xC : Nat) (target : Int) (cmp : Value) (w : World) (R : Ending → World → Prop) : F83 x xN xC target cmp w R = vc Try.prog Try.f83 pl83 R 100000 [.code (bodyOf Try.f83)] (argEnv 0 #[(.slice x xN xC), (.int .u64 target), cmp].toList) w := by kernel_rfl

theorem ok83 (x : Option Addr) (xN : Nat) (xC : Nat) (target : Int) (cmp : Value) {w : World} {R : Ending → World → Prop} (h : F83 x xN xC target cmp w R) : Calls Try.prog 83 #[(.slice x xN xC), (.int .u64 target), cmp] w R :=
  vc_calls (pl := pl83) Try.func83 (by kernel_rfl) (by kernel_rfl) (by kernel_rfl) (Eq.mp (eq83 x xN xC target cmp w R) h)

-- slices.Compact[[]espalier/api.Span,espalier/api.Span]
def F80_j10 (L9 : Int → Int → World → Prop) (k2_2 : Int) (k3 : Int) (w_4 : World) (R : Ending → World → Prop) : Prop :=
 InR .i64 (k2_2 + (1 : Int)) ∧ L9 k3 (k2_2 + (1 : Int)) w_4

def F80_l9 (s : Option Addr) (sN : Nat) (sC : Nat) (k : Int) (L9 : Int → Int → World → Prop) (k2 : Int) (k2_2 : Int) (w_3 : World) (R : Ending → World → Prop) : Prop :=
 Br (decide (k2_2 < ((((((sN : Nat) : Int)).toNat - (k).toNat) : Nat) : Int)))
 (∃ J10 : Int → World → Prop, (∀ (k3 : Int) (w1_2 : World), J10 k3 w1_2 → F80_j10 L9 k2_2 k3 w1_2 R) ∧
 (Dr w_3 fun w1_2 =>
 IdxA (SlA s sC (k).toNat 3) ((((sN : Nat) : Int)).toNat - (k).toNat) k2_2 3 fun q37 =>
 LdI .u64 (w1_2.cell? q37) fun x38_0 =>
 LdI .u64 (w1_2.cell? (q37.add 1)) fun x38_1 =>
 LdI .i64 (w1_2.cell? (q37.add 2)) fun x38_2 =>
 InR .i64 (k2_2 - (1 : Int)) ∧ IdxA (SlA s sC (k).toNat 3) ((((sN : Nat) : Int)).toNat - (k).toNat) (k2_2 - (1 : Int)) 3 fun q42 =>
 LdI .u64 (w1_2.cell? q42) fun x43_0 =>
 LdI .u64 (w1_2.cell? (q42.add 1)) fun x43_1 =>
 LdI .i64 (w1_2.cell? (q42.add 2)) fun x43_2 =>
 Br (!((x38_0 == x43_0) && ((x38_1 == x43_1) && ((x38_2 == x43_2) && true))))
 (IdxA (SlA s sC (k).toNat 3) ((((sN : Nat) : Int)).toNat - (k).toNat) k2_2 3 fun q49 =>
 LdI .u64 (w1_2.cell? q49) fun x50_0 =>
 LdI .u64 (w1_2.cell? (q49.add 1)) fun x50_1 =>
 LdI .i64 (w1_2.cell? (q49.add 2)) fun x50_2 =>
 IdxA s sN k2 3 fun q51 =>
 St w1_2 q51 (.int .u64 x50_0) fun w1_3 =>
 St w1_3 (q51.add 1) (.int .u64 x50_1) fun w1_4 =>
 St w1_4 (q51.add 2) (.int .i64 x50_2) fun w1_5 =>
 InR .i64 (k2 + (1 : Int)) ∧ J10 (k2 + (1 : Int)) w1_5)
 (J10 k2 w1_2)))
 (SlB k2 ((sN : Nat) : Int) ((sC : Nat) : Int)
 (Raw Try.prog (Builtin.clear_ #[119] 0 #[(.slice (SlA s sC (k2).toNat 3) ((((sN : Nat) : Int)).toNat - (k2).toNat) (sC - (k2).toNat))]) w_3 fun v w1_2 =>
 SlB 0 k2 ((sC : Nat) : Int)
 (R (.returned (.slice s (k2).toNat sC)) w1_2)))

def F80_l4 (s : Option Addr) (sN : Nat) (sC : Nat) (L4 : Int → World → Prop) (k : Int) (w_2 : World) (R : Ending → World → Prop) : Prop :=
 Br (decide (k < ((sN : Nat) : Int)))
 (Dr w_2 fun w1 =>
 IdxA s sN k 3 fun q18 =>
 LdI .u64 (w1.cell? q18) fun x19_0 =>
 LdI .u64 (w1.cell? (q18.add 1)) fun x19_1 =>
 LdI .i64 (w1.cell? (q18.add 2)) fun x19_2 =>
 InR .i64 (k - (1 : Int)) ∧ IdxA s sN (k - (1 : Int)) 3 fun q23 =>
 LdI .u64 (w1.cell? q23) fun x24_0 =>
 LdI .u64 (w1.cell? (q23.add 1)) fun x24_1 =>
 LdI .i64 (w1.cell? (q23.add 2)) fun x24_2 =>
 Br ((x19_0 == x24_0) && ((x19_1 == x24_1) && ((x19_2 == x24_2) && true)))
 (SlB k ((sN : Nat) : Int) ((sC : Nat) : Int)
 (∃ (I : Int → Int → World → Prop) (m : Int → Int → World → Nat), I k (1 : Int) w1 ∧
 ∀ (k2 : Int) (k2_2 : Int) (w1_2 : World), I k2 k2_2 w1_2 → F80_l9 s sN sC k (fun k2' k2_2' w2 => I k2' k2_2' w2 ∧ m k2' k2_2' w2 < m k2 k2_2 w1_2) k2 k2_2 w1_2 R))
 (InR .i64 (k + (1 : Int)) ∧ L4 (k + (1 : Int)) w1))
 (R (.returned (.slice s sN sC)) w_2)

def F80 (s : Option Addr) (sN : Nat) (sC : Nat) (w_ : World) (R : Ending → World → Prop) : Prop :=
 Br (decide (((sN : Nat) : Int) < (2 : Int)))
 (R (.returned (.slice s sN sC)) w_)
 (∃ (I : Int → World → Prop) (m : Int → World → Nat), I (1 : Int) w_ ∧
 ∀ (k : Int) (w1 : World), I k w1 → F80_l4 s sN sC (fun k' w2 => I k' w2 ∧ m k' w2 < m k w1) k w1 R)

def pl80 : Plan := ⟨61, ⟨[]⟩, [(10, ⟨[(3, (.s (.int .i64)))], [(3, 4), (35, 54)]⟩)], [(9, ⟨[(3, (.s (.int .i64))), (5, (.s (.int .i64)))], [(3, 4), (5, 54)]⟩), (4, ⟨[(3, (.s (.int .i64)))], [(2, 60)]⟩)]⟩

theorem eq80 (s : Option Addr) (sN : Nat) (sC : Nat) (w : World) (R : Ending → World → Prop) : F80 s sN sC w R = vc Try.prog Try.f80 pl80 R 100000 [.code (bodyOf Try.f80)] (argEnv 0 #[(.slice s sN sC)].toList) w := by kernel_rfl

theorem ok80 (s : Option Addr) (sN : Nat) (sC : Nat) {w : World} {R : Ending → World → Prop} (h : F80 s sN sC w R) : Calls Try.prog 80 #[(.slice s sN sC)] w R :=
  vc_calls (pl := pl80) Try.func80 (by kernel_rfl) (by kernel_rfl) (by kernel_rfl) (Eq.mp (eq80 s sN sC w R) h)

end Go.Proofs.Ytbocfedmdjkccaa
/- Twigs: the first of a list that begins behind a label. -/
namespace Go.Proofs.Ytbocfedmdjkccaa
open Go.RowKit Go.Vc
set_option linter.unusedVariables false
set_option linter.unusedSimpArgs false
set_option maxRecDepth 100000
theorem mid_eq (m n : Nat) : ((m : Int) + n).fdiv (2 ^ (min ((1 : Int)).toNat 64)) = (((m + n) / 2 : Nat) : Int) := by
  rw [show (2 : Int) ^ (min ((1 : Int)).toNat 64) = 2 from rfl, Int.fdiv_eq_ediv_of_nonneg _ (by omega)]; omega
theorem cmp_callV (p : Pl) (begin_ : Int) {w : World} {R : Ending → World → Prop} {K : Value → World → Prop} (h : ∀ w', Below w.heap.size w w' → K (.int .i64 (if p.s.b ≤ begin_ then -1 else 1)) w') :
    CallV Try.prog (.func (.func 84) #[] #[]) #[.agg #[.int .u64 p.node, .int .u64 p.s.b, .int .u64 p.s.e, .int .i64 p.s.l], .int .u64 begin_] w R K := by
  refine ⟨by kernel_rfl, ?_⟩
  refine ok84 p.node p.s.b p.s.e p.s.l begin_ ?_
  unfold F84
  refine al fun g w1 hb bg _ => ?_
  have H := h w1 hb
  simp only [Addr.add_mk, Nat.zero_add, bg.cell, List.getElem?_toArray, List.getElem?_cons_zero, List.getElem?_cons_succ, Addr.add_mk, List.getElem?_toArray, List.getElem?_cons_zero, List.getElem?_cons_succ, LdI_some, LdB_some, LdStr_some, LdP_some, LdSl_some, LdM_some, Nat.zero_add, Br_t, Br_f]
  refine brd (fun hle => ?_) (fun hle => ?_)
  · rw [if_pos hle] at H; exact H
  · rw [if_neg hle] at H; exact H
theorem first_calls (l : List Pl) (v : Sv) (begin_ : Int) {w : World} {R : Ending → World → Prop} (hl : RLv w l v) (hs : l.Pairwise (fun x y => x.s.b < y.s.b))
    (h : ∀ (n : Nat) w', Below w.heap.size w w' → n ≤ l.length → (∀ j (hj : j < l.length), l[j].s.b ≤ begin_ ↔ j < n) → R (.returned (.int .i64 (n : Int))) w') :
    Calls Try.prog 71 #[slv v, .int .u64 begin_] w R := by
  obtain ⟨hz, hn, hr⟩ := hl
  have mono : ∀ i j (hi : i < l.length) (hj : j < l.length), i ≤ j → l[i].s.b ≤ l[j].s.b := fun i j hi hj hij => by
    rcases Nat.lt_or_eq_of_le hij with h1 | h1
    · exact Int.le_of_lt (List.pairwise_iff_getElem.1 hs i j hi hj h1)
    · subst h1; exact Int.le_refl _
  refine ok71 v.1 v.2.1 v.2.2 begin_ ?_
  unfold F71
  refine ok83 v.1 v.2.1 v.2.2 begin_ _ ?_
  unfold F83
  refine ⟨fun i j w1 => ∃ m n : Nat, i = m ∧ j = n ∧ m ≤ n ∧ n ≤ l.length ∧ Below w.heap.size w w1 ∧ (∀ q (hq : q < l.length), q < m → l[q].s.b ≤ begin_) ∧ (∀ q (hq : q < l.length), n ≤ q → ¬ l[q].s.b ≤ begin_), fun i j _ => j.toNat - i.toNat,
    ⟨0, l.length, rfl, by rw [hn], by omega, by omega, Below.refl _ _, fun q _ h => by omega, fun q hq h => by omega⟩, ?_⟩
  rintro i j w1 ⟨m, n, rfl, rfl, hmn, hnl, hb1, hlo, hhi⟩
  unfold F83_l3
  refine brd (fun hlt => ?_) (fun hge => ?_)
  · rw [mid_eq]
    have hm1 : (m + n) / 2 < n := by omega
    have hm2 : m ≤ (m + n) / 2 := by omega
    generalize (m + n) / 2 = d at *
    refine ⟨inR_i64 (by omega) (by omega), inR_u64 (by omega) (by omega), inR_i64 (by omega) (by omega), ?_⟩
    have hd : d < l.length := by omega
    refine (hr.keep hb1).pl hn rfl hd fun b o c0 c1 c2 c3 => ?_
    simp only [Addr.add_mk, c0, c1, c2, c3, Addr.add_mk, List.getElem?_toArray, List.getElem?_cons_zero, List.getElem?_cons_succ, LdI_some, LdB_some, LdStr_some, LdP_some, LdSl_some, LdM_some, Nat.zero_add, Br_t, Br_f]
    refine cmp_callV l[d] begin_ fun w2 hb2 => ⟨_, rfl, ?_⟩
    have B2 := btr hb1 hb1.size hb2
    refine brd (fun hneg => ?_) (fun hpos => ?_)
    · have hle : l[d].s.b ≤ begin_ := by
        by_cases hc : l[d].s.b ≤ begin_
        · exact hc
        · rw [if_neg hc] at hneg; omega
      exact ⟨inR_i64 (by omega) (by omega), ⟨d + 1, n, by simp, rfl, by omega, hnl, B2, fun q hq h => Int.le_trans (mono q d hq hd (by omega)) hle, hhi⟩, by omega⟩
    · have hle : ¬ l[d].s.b ≤ begin_ := fun hc => by rw [if_pos hc] at hpos; omega
      exact ⟨⟨m, d, rfl, rfl, hm2, by omega, B2, hlo, fun q hq h hc => hle (Int.le_trans (mono d q hd hq h) hc)⟩, by omega⟩
  · have hmn2 : m = n := by omega
    subst hmn2
    have char : ∀ j (hj : j < l.length), l[j].s.b ≤ begin_ ↔ j < m := fun j hj => ⟨fun hc => by
      by_cases hjm : j < m
      · exact hjm
      · exact absurd hc (hhi j hj (by omega)), fun hjm => hlo j hj hjm⟩
    refine brd (fun hlt => ?_) (fun hge2 => ⟨_, _, rfl, h m w1 hb1 hnl char⟩)
    refine (hr.keep hb1).pl hn rfl (k := m) (by omega) fun b o c0 c1 c2 c3 => ?_
    simp only [Addr.add_mk, c0, c1, c2, c3, Addr.add_mk, List.getElem?_toArray, List.getElem?_cons_zero, List.getElem?_cons_succ, LdI_some, LdB_some, LdStr_some, LdP_some, LdSl_some, LdM_some, Nat.zero_add, Br_t, Br_f]
    exact cmp_callV _ begin_ fun w2 hb2 => ⟨_, rfl, _, _, rfl, h m w2 (btr hb1 hb1.size hb2) hnl char⟩
end Go.Proofs.Ytbocfedmdjkccaa
set_option linter.unusedVariables false
namespace Go.Proofs
open Go.Shelf
def Try.laysSp_ren : Go.Shelf.Ren := ⟨fun | 6 => 78 | 15 => 86 | 14 => 85 | 28 => 95 | 29 => 96 | 20 => 87 | 21 => 88 | 22 => 89 | 23 => 90 | 24 => 91 | 25 => 92 | 26 => 93 | 27 => 94 | 46 => 97 | 47 => 98 | 48 => 99 | 49 => 100 | 50 => 101 | 57 => 102 | n => n, fun | 22 => 119 | 24 => 77 | 25 => 123 | 3 => 3 | 39 => 133 | 0 => 0 | 53 => 142 | 55 => 41 | 4 => 4 | 46 => 136 | 45 => 135 | 50 => 128 | 5 => 5 | 9 => 9 | 66 => 144 | 70 => 148 | 76 => 150 | 77 => 151 | n => n, fun | n => n⟩
theorem Try.laysSp : Go.Proofs.SlLaysF0.n6 Try.prog Try.laysSp_ren := {
  mixed := by kernel_rfl
  f6 := ⟨"slices.SortFunc[[]espalier/api.Span,espalier/api.Span]", by decide, Try.func78.trans (congrArg some (by kernel_rfl))⟩
  f14 := ⟨"slices.pdqsortCmpFunc[espalier/api.Span]", by decide, Try.func85.trans (congrArg some (by kernel_rfl))⟩
  f15 := Try.func86.trans (congrArg some (by kernel_rfl))
  f20 := ⟨"slices.insertionSortCmpFunc[espalier/api.Span]", by decide, Try.func87.trans (congrArg some (by kernel_rfl))⟩
  f21 := ⟨"slices.heapSortCmpFunc[espalier/api.Span]", by decide, Try.func88.trans (congrArg some (by kernel_rfl))⟩
  f22 := ⟨"slices.breakPatternsCmpFunc[espalier/api.Span]", by decide, Try.func89.trans (congrArg some (by kernel_rfl))⟩
  f23 := ⟨"slices.choosePivotCmpFunc[espalier/api.Span]", by decide, Try.func90.trans (congrArg some (by kernel_rfl))⟩
  f24 := ⟨"slices.reverseRangeCmpFunc[espalier/api.Span]", by decide, Try.func91.trans (congrArg some (by kernel_rfl))⟩
  f25 := ⟨"slices.partialInsertionSortCmpFunc[espalier/api.Span]", by decide, Try.func92.trans (congrArg some (by kernel_rfl))⟩
  f26 := ⟨"slices.partitionEqualCmpFunc[espalier/api.Span]", by decide, Try.func93.trans (congrArg some (by kernel_rfl))⟩
  f27 := ⟨"slices.partitionCmpFunc[espalier/api.Span]", by decide, Try.func94.trans (congrArg some (by kernel_rfl))⟩
  f28 := Try.func95.trans (congrArg some (by kernel_rfl))
  f29 := Try.func96.trans (congrArg some (by kernel_rfl))
  f46 := ⟨"slices.siftDownCmpFunc[espalier/api.Span]", by decide, Try.func97.trans (congrArg some (by kernel_rfl))⟩
  f47 := Try.func98.trans (congrArg some (by kernel_rfl))
  f48 := Try.func99.trans (congrArg some (by kernel_rfl))
  f49 := ⟨"slices.medianAdjacentCmpFunc[espalier/api.Span]", by decide, Try.func100.trans (congrArg some (by kernel_rfl))⟩
  f50 := ⟨"slices.medianCmpFunc[espalier/api.Span]", by decide, Try.func101.trans (congrArg some (by kernel_rfl))⟩
  f57 := ⟨"slices.order2CmpFunc[espalier/api.Span]", by decide, Try.func102.trans (congrArg some (by kernel_rfl))⟩
  t0 := Try.underlying0
  a0 := Try.isAgg0
  z0 := Try.sizeOf0
  v0 := Try.zeroValue0
  t3 := Try.underlying3
  a3 := Try.isAgg3
  z3 := Try.sizeOf3
  v3 := Try.zeroValue3
  t4 := Try.underlying4
  a4 := Try.isAgg4
  z4 := Try.sizeOf4
  v4 := Try.zeroValue4
  t5 := Try.underlying5
  a5 := Try.isAgg5
  z5 := Try.sizeOf5
  v5 := Try.zeroValue5
  t9 := Try.underlying9
  a9 := Try.isAgg9
  z9 := Try.sizeOf9
  v9 := Try.zeroValue9
  t22 := Try.underlying119
  a22 := Try.isAgg119
  z22 := Try.sizeOf119
  v22 := Try.zeroValue119
  t25 := Try.underlying123
  a25 := Try.isAgg123
  z25 := Try.sizeOf123
  v25 := Try.zeroValue123
  t39 := Try.underlying133
  a39 := Try.isAgg133
  z39 := Try.sizeOf133
  v39 := Try.zeroValue133
  t45 := Try.underlying135
  a45 := Try.isAgg135
  z45 := Try.sizeOf135
  v45 := Try.zeroValue135
  t46 := Try.underlying136
  a46 := Try.isAgg136
  z46 := Try.sizeOf136
  v46 := Try.zeroValue136
  t50 := Try.underlying128
  a50 := Try.isAgg128
  z50 := Try.sizeOf128
  v50 := Try.zeroValue128
  t53 := Try.underlying142
  a53 := Try.isAgg142
  z53 := Try.sizeOf142
  v53 := Try.zeroValue142
  t55 := Try.underlying41
  a55 := Try.isAgg41
  z55 := Try.sizeOf41
  v55 := Try.zeroValue41
  t66 := Try.underlying144
  a66 := Try.isAgg144
  z66 := Try.sizeOf144
  v66 := Try.zeroValue144
  t70 := Try.underlying148
  a70 := Try.isAgg148
  z70 := Try.sizeOf148
  v70 := Try.zeroValue148
  t76 := Try.underlying150
  a76 := Try.isAgg150
  z76 := Try.sizeOf150
  v76 := Try.zeroValue150
  t77 := Try.underlying151
  a77 := Try.isAgg151
  z77 := Try.sizeOf151
  v77 := Try.zeroValue151 }

end Go.Proofs
/- Twigs: spans sorted, by the shelf's contract of slices.SortFunc. -/
namespace Go.Proofs.Ytbocfedmdjkccaa
open Go.RowKit Go.Vc
open Go.Lib
open Go.Sort (SWO HoldsK PermIn SortedIn grow putRow putRowK flatK Holds)
set_option linter.unusedVariables false
set_option linter.unusedSimpArgs false
set_option maxRecDepth 100000
/-- Which span comes first. -/
def ltS (x y : Sp) : Prop := x.b < y.b ∨ x.b = y.b ∧ (y.e < x.e ∨ x.e = y.e ∧ x.l < y.l)
abbrev Vs := {s : Sp // 0 ≤ s.l ∧ s.l ≤ 64}
instance : Inhabited Vs := ⟨⟨⟨0, 0, 0⟩, by decide⟩⟩
def encV (x : Vs) : List Value := LSp.cells x.1
def cfV (x y : Vs) : Int := if x.1.b < y.1.b ∨ x.1.b = y.1.b ∧ y.1.e < x.1.e then -1 else if x.1.b = y.1.b ∧ x.1.e = y.1.e ∧ x.1.l = y.1.l then 0 else if x.1.b = y.1.b ∧ x.1.e = y.1.e then x.1.l - y.1.l else 1
theorem cfV_lt (x y : Vs) : cfV x y < 0 ↔ ltS x.1 y.1 := by
  unfold cfV ltS
  split
  · exact ⟨fun _ => by omega, fun _ => by decide⟩
  · split
    · exact ⟨fun h => by omega, fun _ => by omega⟩
    · split <;> constructor <;> intro h <;> omega
theorem ltOf_cf (x y : Vs) : ltOf cfV x y = true ↔ ltS x.1 y.1 := by
  rw [← cfV_lt]; simp [ltOf]
theorem swoV : SWO (ltOf cfV) where
  irrefl x := by
    rw [← Bool.not_eq_true, ltOf_cf]; unfold ltS; omega
  trans x y z h1 h2 := by
    rw [ltOf_cf] at *; unfold ltS at *; omega
  ntrans x y z h1 h2 := by
    rw [← Bool.not_eq_true, ltOf_cf] at *; unfold ltS at *; omega
theorem al' {w : World} {c : Array Value} {t : TypeId} {K : Addr → World → Prop} (h : ∀ g w1, w1 = w.alloc (.cells c t) → Below w.heap.size w w1 → Blk w1 g c t → w.heap.size ≤ g → K ⟨g, 0, none⟩ w1) : Al w c t K :=
  h _ _ rfl ((Below.refl _ _).alloc (Nat.le_refl _) _) (Blk.alloc_new w c t) (Nat.le_refl _)
theorem cmpS_calls (x y : Vs) (W : World) : Calls Try.prog 79 #[.agg (encV x).toArray, .agg (encV y).toArray] W fun e w' => e = .returned (.int .i64 (cfV x y)) ∧ ∃ q os', w' = grow (W.drewN q) os' := by
  obtain ⟨⟨xb, xe, xl⟩, hx⟩ := x
  obtain ⟨⟨yb, ye, yl⟩, hy⟩ := y
  dsimp only at hx hy
  refine ok79 xb xe xl yb ye yl ?_
  unfold F79
  refine al' fun ga w1 e1 hb1 ba g1 => al' fun gb w2 e2 hb2 bb g2 => ?_
  have ba2 := ba.keep hb2
  have fin : ∀ v : Int, v = cfV ⟨⟨xb, xe, xl⟩, hx⟩ ⟨⟨yb, ye, yl⟩, hy⟩ → (Ending.returned (.int .i64 v) = .returned (.int .i64 (cfV ⟨⟨xb, xe, xl⟩, hx⟩ ⟨⟨yb, ye, yl⟩, hy⟩)) ∧ ∃ q os', w2 = grow (W.drewN q) os') := by
    rintro v rfl
    refine ⟨rfl, 0, #[.cells #[.int .u64 xb, .int .u64 xe, .int .i64 xl] 77] ++ #[.cells #[.int .u64 yb, .int .u64 ye, .int .i64 yl] 77], ?_⟩
    rw [e2, e1, Go.Sort.alloc_eq_grow, Go.Sort.alloc_eq_grow, Go.Sort.grow_grow]; rfl
  unfold cfV at fin
  dsimp only at fin
  refine ⟨fun w' => w2 = w' ∧ ¬ (xb < yb ∨ xb = yb ∧ ye < xe) ∧ ¬ (xb = yb ∧ xe = ye), ?_, ?_⟩
  · rintro _ ⟨rfl, h1, h2⟩
    unfold F79_j7
    exact fin 1 (by rw [if_neg h1, if_neg (by omega), if_neg (by omega)])
  simp only [Addr.add_mk, Nat.zero_add, ba2.cell, bb.cell, List.getElem?_toArray, List.getElem?_cons_zero, List.getElem?_cons_succ, Addr.add_mk, List.getElem?_toArray, List.getElem?_cons_zero, List.getElem?_cons_succ, LdI_some, LdB_some, LdStr_some, LdP_some, LdSl_some, LdM_some, Nat.zero_add, Br_t, Br_f]
  refine brd (fun hlt => fin (-1) (by rw [if_pos (.inl hlt)])) (fun hlt => ?_)
  refine bre (fun hb => brd (fun he => fin (-1) (by rw [if_pos (.inr ⟨hb, he⟩)])) (fun he => ?_)) (fun hb => ?_)
  · (refine br (fun h => ?_) (fun h => ?_)) <;> simp at h
    · exact fin 0 (by rw [if_neg (by omega), if_pos (by omega)])
    · refine bre (fun hb => bre (fun he => ⟨inR_i64 (by omega) (by omega), fin _ (by rw [if_neg (by omega), if_neg (by omega), if_pos (by omega)])⟩) (fun he => ⟨trivial, by omega, by omega⟩)) (fun hb => ⟨trivial, by omega, by omega⟩)
  · (refine br (fun h => ?_) (fun h => ?_)) <;> simp at h
    · exact fin 0 (by rw [if_neg (by omega), if_pos (by omega)])
    · refine bre (fun hb => bre (fun he => ⟨inR_i64 (by omega) (by omega), fin _ (by rw [if_neg (by omega), if_neg (by omega), if_pos (by omega)])⟩) (fun he => ⟨trivial, by omega, by omega⟩)) (fun hb => ⟨trivial, by omega, by omega⟩)
theorem cmpLaysS (blk off size : Nat) (w : World) : CmpLays Try.prog 79 #[] encV 3 cfV blk off size w := fun _ _ _ _ x y => cmpS_calls x y _
theorem flat_get (d : Array Vs) (t : Nat) (h : t < d.size * 3) : (flatK encV 3 d)[t]? = (LSp.all (d.toList.map (·.1)))[t]? := by
  have h3 : t / 3 < d.size := by omega
  have hm : t % 3 < 3 := Nat.mod_lt _ (by decide)
  have e : t = t / 3 * 3 + t % 3 := by omega
  have h1 := LSp.all_at (d.toList.map (·.1)) (t / 3) (by simpa using h3) (t % 3) hm
  rw [show LSp.n = 3 from rfl, ← e] at h1
  rw [h1, Array.getElem?_eq_getElem (by simpa using h), ← getElem!_pos (flatK encV 3 d) t (by simpa using h), Go.Sort.get_flatK _ _ _ _ h]
  have hl : t % 3 < (encV d[t / 3]).length := by rw [show (encV d[t / 3]).length = 3 from rfl]; exact hm
  rw [getElem!_pos d _ h3, getElem!_pos (encV d[t / 3]) _ hl]
  simp only [List.getElem_map, Array.getElem_toList]
  rw [List.getElem?_eq_getElem (by exact hl)]; rfl
theorem flat_all (d : Array Vs) : (flatK encV 3 d).toList = LSp.all (d.toList.map (·.1)) := by
  refine List.ext_getElem? fun t => ?_
  by_cases h : t < d.size * 3
  · rw [← flat_get d t h]; simp
  · rw [List.getElem?_eq_none (by simp; omega), List.getElem?_eq_none (by rw [LSp.all_length, show LSp.n = 3 from rfl]; simp; omega)]
/-- The world behind a sort, of a row of the call's own. -/
theorem sorted_own {w : World} {g c : Nat} {cur : Array Value} {e : TypeId} {n : Nat} {os : Array Obj} {d : Array Vs} {base : Nat} (hb : base ≤ g) (hh : Blk w g cur e) (hn : d.size ≤ c + 1) (hm : c + 1 ≤ maxLen) (hs : cur.size = (c + 1) * 3) :
    Own LSp (sortWorldK encV 3 w g 0 n d os) base e (.slice (some ⟨g, 0, none⟩) d.size (c + 1)) (d.toList.map (·.1)) ∧ Below base w (sortWorldK encV 3 w g 0 n d os) := by
  have hlt := hh.lt
  have hlt2 : g < (putRowK encV 3 (Go.Sort.ahead w n) g 0 d).heap.size := by unfold putRowK; rw [Go.Sort.size_putRow]; exact hlt
  have hblk : (sortWorldK encV 3 w g 0 n d os).heap[g]? = some (.cells (Go.Sort.putCells id 0 (flatK encV 3 d) cur) e (0, 0)) := by
    unfold sortWorldK
    rw [Go.Sort.heap_grow_old _ _ hlt2]
    unfold putRowK putRow Go.Sort.mapBlock
    show (w.heap.modify g _)[g]? = _
    unfold Blk at hh
    rw [Array.getElem?_modify, if_pos rfl, hh]; rfl
  refine ⟨.inr (.inr ⟨g, c, _, by simp, hb, hblk, by simpa using hn, hm, by rw [show LSp.n = 3 from rfl, ← hs]; simp [Go.Sort.putCells], ?_⟩), ⟨rfl, rfl, rfl, ?_, fun b hb2 => ?_⟩⟩
  · refine List.ext_getElem? fun t => ?_
    rw [List.length_map, Array.length_toList, show LSp.n = 3 from rfl]
    by_cases h : t < d.size * 3
    · rw [List.getElem?_take_of_lt h, ← flat_get d t h]
      have h2 : t < cur.size := by omega
      simp only [Go.Sort.putCells, Array.getElem?_toList, Array.getElem?_mapIdx, Array.getElem?_eq_getElem h2, Option.map_some, Nat.zero_le, Nat.zero_add, Go.Sort.size_flatK, h, and_self, if_true, Nat.sub_zero, id]
      rw [getElem!_pos _ _ (by simpa using h), Array.getElem?_eq_getElem (by simpa using h)]
    · rw [List.getElem?_eq_none (by rw [List.length_take]; omega), List.getElem?_eq_none (by rw [LSp.all_length, show LSp.n = 3 from rfl]; simp; omega)]
  · unfold sortWorldK
    rw [Go.Sort.size_grow]; unfold putRowK; rw [Go.Sort.size_putRow]; exact Nat.le_add_right _ _
  · unfold sortWorldK
    rw [Go.Sort.heap_grow_old _ _ (by omega)]
    unfold putRowK putRow Go.Sort.mapBlock
    show (w.heap.modify g _)[b]? = _
    rw [Array.getElem?_modify, if_neg (by omega)]
theorem own_holds {w : World} {g c : Nat} {cur : Array Value} {e : TypeId} {d : Array Vs} (hh : Blk w g cur e) (hs : cur.size = (c + 1) * 3) (ht : cur.toList.take (d.size * 3) = LSp.all (d.toList.map (·.1))) : HoldsK encV 3 w g 0 d := by
  intro j hj
  have hj2 : j < d.size * 3 := by simpa using hj
  refine ⟨?_, hh.frozen _⟩
  rw [hh.cell, Nat.zero_add, getElem!_pos (flatK encV 3 d) _ hj, id, ← Array.getElem?_eq_getElem hj, flat_get d j hj2, ← ht, List.getElem?_take_of_lt hj2]
  simp
def leS (x y : Sp) : Prop := ¬ ltS y x
theorem sort_calls (l : List Sp) (hl : ∀ s ∈ l, 0 ≤ s.l ∧ s.l ≤ 64) (hz : l.length ≤ 16777216) {A : Option Addr} {n c base : Nat} {w : World} {R : Ending → World → Prop} (ho : Own LSp w base 77 (.slice A n c) l)
    (h : ∀ l' w', Below base w w' → l'.Perm l → l'.Pairwise leS → Own LSp w' base 77 (.slice A n c) l' → R (.returned (.tuple #[])) w') :
    Calls Try.prog 78 #[.slice A n c, .func (.func 79) #[] #[]] w R := by
  have ho0 := ho
  have none : n = 0 → Calls Try.prog 78 #[.slice A n c, .func (.func 79) #[] #[]] w R := by
    rintro rfl
    have hc := AnyF.slices_SortFunc_none Try.laysSp A c (.func (.func 79) #[] #[]) w
    change Calls Try.prog 78 _ _ _ at hc
    refine hc.mono ?_
    rintro e w' ⟨rfl, rfl⟩
    obtain ⟨hn, -⟩ := ho0.rd
    have : l = [] := List.eq_nil_of_length_eq_zero hn.symm
    subst this
    exact h [] w' (Below.refl _ _) (List.Perm.refl _) .nil ho0
  rcases ho with ⟨he, rfl⟩ | ⟨⟨a, he⟩, rfl⟩ | ⟨g, c', cur, he, hb, hh, hn, hm, hs, ht⟩
  · simp only [Value.slice.injEq] at he; exact none he.2.1
  · simp only [Value.slice.injEq] at he; exact none he.2.1
  · simp only [Value.slice.injEq] at he
    obtain ⟨rfl, rfl, rfl⟩ := he
    have hd : ((l.pmap (fun s hs => (⟨s, hs⟩ : Vs)) hl).toArray.toList.map (·.1)) = l := by simp [List.map_pmap]
    generalize hdd : (l.pmap (fun s hs => (⟨s, hs⟩ : Vs)) hl).toArray = d at hd
    have hsz : d.size = l.length := by rw [← hd]; simp
    rw [← hsz] at hn ht
    have hbk : Blk w g cur 77 := hh
    have eg : ∀ args w, (callFunc 79 args).run Try.prog w = .ok (.enter 79 args) w := enters_of Try.func79 (by kernel_rfl) rfl
    have hc := AnyQ.slices_SortFunc Try.laysSp 3 Try.isAgg77 Try.sizeOf77 encV (fun _ => rfl) (fun x v hv => LSp.one x.1 v hv) cfV swoV 79 #[] g 0 (c' + 1) d w eg (cmpLaysS g 0 d.size w) (own_holds hbk hs (by rw [show (3 : Nat) = LSp.n from rfl, ht, hd])) hbk.lt (by omega)
    change Calls Try.prog 78 _ _ _ at hc
    rw [← hsz]
    refine hc.mono ?_
    rintro e w' ⟨rfl, d', q, os, hp, hso, rfl⟩
    obtain ⟨hp1, -, hp3⟩ := hp
    have htk : d'.toList.take d.size = d'.toList := List.take_of_length_le (by simp [hp1])
    have hperm : d'.toList.Perm d.toList := by rw [← htk]; simpa using hp3
    obtain ⟨h1, h2⟩ := sorted_own (n := q) (os := os) (d := d') hb hbk (by omega) hm hs
    rw [hp1] at h1
    refine h _ _ h2 ?_ ?_ (by rw [← hsz]; exact h1)
    · have := hperm.map (·.1); rw [hd] at this; exact this
    · rw [List.pairwise_map]
      refine List.pairwise_iff_getElem.2 fun i j hi hj hij => ?_
      have hi2 : i < d'.size := by simpa using hi
      have hj2 : j < d'.size := by simpa using hj
      have := hso i j (by omega) hij (by omega)
      rw [getElem!_pos d' j hj2, getElem!_pos d' i hi2, ← Bool.not_eq_true, ltOf_cf] at this
      exact this
end Go.Proofs.Ytbocfedmdjkccaa
/- Twigs: of spans that are the same and stand beside each other, one is left. -/
namespace Go.Proofs.Ytbocfedmdjkccaa
open Go.RowKit Go.Vc
set_option linter.unusedVariables false
set_option linter.unusedSimpArgs false
set_option maxRecDepth 100000
def compStep (acc : List Sp) (y : Sp) : List Sp := if acc.getLast? = some y then acc else acc ++ [y]
def compS (l : List Sp) : List Sp := l.foldl compStep []
theorem compS_snoc (l : List Sp) (y : Sp) : compS (l ++ [y]) = compStep (compS l) y := by simp [compS]
theorem snoc_ind {α : Type} {P : List α → Prop} (h0 : P []) (h1 : ∀ l x, P l → P (l ++ [x])) (l : List α) : P l := by
  have : ∀ k, k ≤ l.length → P (l.take k) := by
    intro k
    induction k with
    | zero => intro _; simpa using h0
    | succ k ih => intro hk; rw [List.take_succ_eq_append_getElem (by omega)]; exact h1 _ _ (ih (by omega))
  simpa using this l.length (Nat.le_refl _)
theorem compS_last (l : List Sp) : (compS l).getLast? = l.getLast? := by
  refine snoc_ind (P := fun l => (compS l).getLast? = l.getLast?) rfl (fun l x ih => ?_) l
  rw [compS_snoc, compStep]
  split
  · rename_i h; rw [h]; simp
  · simp
theorem compS_mem (l : List Sp) : ∀ s, s ∈ compS l ↔ s ∈ l := by
  refine snoc_ind (P := fun l => ∀ s, s ∈ compS l ↔ s ∈ l) (by simp [compS]) (fun l x ih s => ?_) l
  rw [compS_snoc, compStep]
  split
  · rename_i h
    have hx : x ∈ l := (ih x).1 (List.mem_of_getLast? h)
    rw [ih, List.mem_append, List.mem_singleton]
    exact ⟨.inl, fun h => h.elim id fun h => h ▸ hx⟩
  · rw [List.mem_append, List.mem_append, ih]
theorem compS_len (l : List Sp) : (compS l).length ≤ l.length := by
  refine snoc_ind (P := fun l => (compS l).length ≤ l.length) (by simp [compS]) (fun l x ih => ?_) l
  rw [compS_snoc, compStep]
  split
  · rw [List.length_append]; omega
  · rw [List.length_append, List.length_append]; simpa using ih
theorem ltS_of {x y z : Sp} (h1 : leS x y) (h2 : ltS y z) : ltS x z := by unfold leS ltS at *; omega
theorem ltS_ne {x y : Sp} (h1 : leS x y) (h2 : x ≠ y) : ltS x y := by
  unfold leS ltS at *
  cases x; cases y
  simp only [Sp.mk.injEq, ne_eq] at *
  omega
theorem compS_sorted (l : List Sp) : l.Pairwise leS → (compS l).Pairwise ltS := by
  refine snoc_ind (P := fun l => l.Pairwise leS → (compS l).Pairwise ltS) (fun _ => .nil) (fun l x ih h => ?_) l
  have h2 := List.pairwise_append.1 h
  rw [compS_snoc, compStep]
  split
  · exact ih h2.1
  · rename_i hne
    have hs := ih h2.1
    refine List.pairwise_append.2 ⟨hs, List.pairwise_singleton _ _, fun a ha b hb => ?_⟩
    rw [List.mem_singleton] at hb; subst hb
    have hal := (compS_mem l a).1 ha
    -- the last one
    have hnl : compS l ≠ [] := List.ne_nil_of_mem ha
    obtain ⟨z, hz⟩ : ∃ z, (compS l).getLast? = some z := ⟨_, List.getLast?_eq_some_getLast hnl⟩
    have hzl : z ∈ l := (compS_mem l z).1 (List.mem_of_getLast? hz)
    have hzx : ltS z b := ltS_ne (h2.2.2 z hzl b (by simp)) fun e => hne (by rw [hz, e])
    have hor : a = z ∨ ltS a z := by
      have e : compS l = (compS l).dropLast ++ [z] := by
        have := List.dropLast_concat_getLast hnl
        rw [List.getLast?_eq_some_getLast hnl] at hz
        rw [Option.some.injEq] at hz
        rw [hz] at this; exact this.symm
      rw [e] at ha hs
      have h4 := List.pairwise_append.1 hs
      rcases List.mem_append.1 ha with h5 | h5
      · exact .inr (h4.2.2 a h5 z (by simp))
      · exact .inl (by simpa using h5)
    rcases hor with rfl | h3
    · exact hzx
    · unfold ltS at *; omega
theorem compS_nodup {l : List Sp} (h : l.Pairwise leS) : (compS l).Nodup := (compS_sorted l h).imp fun {a b} h e => by subst e; unfold ltS at h; omega
theorem set3 {α : Type} (F : List α) (a : Nat) (u v z : α) (h : a + 3 ≤ F.length) : ((F.set a u).set (a + 1) v).set (a + 2) z = F.take a ++ ([u, v, z] ++ F.drop (a + 3)) := by
  obtain ⟨p, q, rfl, hp⟩ : ∃ p q, F = p ++ q ∧ p.length = a := ⟨F.take a, F.drop a, (List.take_append_drop _ _).symm, by simp; omega⟩
  subst hp
  rw [List.length_append] at h
  match q, h with
  | x :: y :: w :: t, _ =>
    rw [List.set_append_right _ _ (by omega), List.set_append_right _ _ (by omega), List.set_append_right _ _ (by omega), List.take_left, List.drop_append]
    simp [Nat.sub_self, show p.length + 1 - p.length = 1 by omega, show p.length + 2 - p.length = 2 by omega, show p.length + 3 - p.length = 3 by omega]
  | [], h => simp at h; omega
  | [_], h => simp at h
  | [_, _], h => simp at h
theorem Own.stSp {w : World} {base : Nat} {e : TypeId} {A : Option Addr} {n c : Nat} {xs : List Sp} (h : Own LSp w base e (.slice A n c) xs) {i : Int} {k : Nat} (hi : i = k) (hk : k < xs.length) (x : Sp) {K : World → Prop}
    (hK : ∀ w1, Own LSp w1 base e (.slice A n c) (xs.set k x) → Fm (fun b => rowOf (.slice A n c) = some b) w w1 → K w1) :
    IdxA A n i 3 fun q => St w q (.int .u64 x.b) fun w1 => St w1 (q.add 1) (.int .u64 x.e) fun w2 => St w2 (q.add 2) (.int .i64 x.l) K := by
  subst hi
  rcases h with ⟨_, rfl⟩ | ⟨_, rfl⟩ | ⟨g, c', cur, hsl, hb, hh, hn, hm, hs, ht⟩
  · simp at hk
  · simp at hk
  · simp only [Value.slice.injEq] at hsl
    obtain ⟨rfl, rfl, rfl⟩ := hsl
    rw [IdxA_some (by omega) (by omega)]
    simp only [Addr.add_mk, Int.toNat_natCast, Nat.zero_add]
    have hbk : Blk w g cur e := hh
    have h3 : LSp.n = 3 := rfl
    rw [h3] at hs ht
    have hsz : k * 3 + 3 ≤ cur.size := by omega
    refine st_blk hbk (by omega) fun w1 b1 hf1 => st_blk b1 (by simp; omega) fun w2 b2 hf2 => st_blk b2 (by simp; omega) fun w3 b3 hf3 => hK w3 ?_ ?_
    · refine .inr (.inr ⟨g, c', _, by simp, hb, b3, by simpa using hn, hm, by simpa [h3] using hs, ?_⟩)
      simp only [List.length_set, Array.toList_setIfInBounds]
      rw [List.take_set, List.take_set, List.take_set, h3, set3 _ _ _ _ _ (by rw [List.length_take]; simp; omega), LSp.all_set _ _ _ hk, ← ht, h3, show k * 3 + 3 = (k + 1) * 3 by omega]
      rfl
    · exact ((hf1.trans hf2).trans hf3).mono fun b _ hb => by subst hb; rfl
theorem clear_own {w : World} {base : Nat} {A : Option Addr} {n c : Nat} {xs : List Sp} (h : Own LSp w base 77 (.slice A n c) xs) (k : Nat) (hk : k ≤ xs.length) {K : Value → World → Prop}
    (hK : ∀ w1, Own LSp w1 base 77 (.slice A k c) (xs.take k) → Below base w w1 → K (.tuple #[]) w1) :
    Raw Try.prog (Builtin.clear_ #[119] 0 #[.slice (SlA A c k 3) (n - k) (c - k)]) w K := by
  have hlen : (xs.take k).length = k := by simp; omega
  have cutOwn : ∀ w1, (∀ g c' cur, A = some ⟨g, 0, none⟩ → c = c' + 1 → base ≤ g → w.heap[g]? = some (.cells cur 77 (0, 0)) → cur.size = (c' + 1) * 3 → c' + 1 ≤ maxLen → xs.length ≤ c' + 1 → cur.toList.take (xs.length * 3) = LSp.all xs → ∃ cur', w1.heap[g]? = some (.cells cur' 77 (0, 0)) ∧ cur'.size = cur.size ∧ cur'.toList.take (k * 3) = cur.toList.take (k * 3)) → Own LSp w1 base 77 (.slice A k c) (xs.take k) := by
    intro w1 hw
    rcases h with ⟨he, rfl⟩ | ⟨⟨a, he⟩, rfl⟩ | ⟨g, c', cur, hsl, hb, hh, hn, hm, hs, ht⟩
    · simp only [Value.slice.injEq] at he; obtain ⟨rfl, rfl, rfl⟩ := he
      obtain rfl : k = 0 := by simpa using hk
      exact .inl ⟨rfl, by simp⟩
    · simp only [Value.slice.injEq] at he; obtain ⟨rfl, rfl, rfl⟩ := he
      obtain rfl : k = 0 := by simpa using hk
      exact .inr (.inl ⟨⟨_, rfl⟩, by simp⟩)
    · simp only [Value.slice.injEq] at hsl
      obtain ⟨rfl, rfl, rfl⟩ := hsl
      obtain ⟨cur', h1, h2, h3⟩ := hw g c' cur rfl rfl hb hh hs hm hn ht
      refine .inr (.inr ⟨g, c', cur', by rw [hlen], hb, h1, by omega, hm, by rw [h2]; exact hs, ?_⟩)
      rw [hlen, show LSp.n = 3 from rfl, h3, LSp.all_take, ← ht, show LSp.n = 3 from rfl, List.take_take, Nat.min_eq_left (by omega)]
  obtain ⟨hn, -⟩ := h.rd
  by_cases h0 : n - k = 0
  · refine ⟨.tuple #[], w, ?_, hK w (cutOwn w fun g c' cur _ _ _ hh _ _ _ _ => ⟨cur, hh, rfl, rfl⟩) (Below.refl _ _)⟩
    rw [h0]
    unfold Builtin.clear_
    cases SlA A c k 3 <;> simp [run_underlying Try.underlying119]
  · rcases h with ⟨he, rfl⟩ | ⟨⟨a, he⟩, rfl⟩ | ⟨g, c', cur, hsl, hb, hh, hn', hm, hs, ht⟩
    · simp only [Value.slice.injEq] at he; omega
    · simp only [Value.slice.injEq] at he; omega
    · simp only [Value.slice.injEq] at hsl
      obtain ⟨rfl, hnn, rfl⟩ := hsl
      have h3 : LSp.n = 3 := rfl
      rw [h3] at hs ht
      have hA : SlA (some ⟨g, 0, none⟩) (c' + 1) k 3 = some ⟨g, k * 3, none⟩ := by
        unfold SlA; rw [if_neg (by omega)]; simp [Addr.add_mk]
      obtain ⟨m, hm2⟩ : ∃ m, n - k = m + 1 := ⟨n - k - 1, by omega⟩
      have hz : (Builtin.zeroCells (Value.agg #[.int .u64 0, .int .u64 0, .int .i64 0]).cells (m + 1)).toList.length = (m + 1) * 3 := by simp [Builtin.zeroCells, Value.cells]
      have h1 : ∀ v ∈ (Builtin.zeroCells (Value.agg #[.int .u64 0, .int .u64 0, .int .i64 0]).cells (m + 1)).toList, v.oneCell' = true := by
        intro v hv
        simp only [Builtin.zeroCells, Value.cells, Array.toList_map, List.mem_map] at hv
        obtain ⟨i, -, rfl⟩ := hv
        have : i % 3 < 3 := Nat.mod_lt _ (by decide)
        show (#[Value.int .u64 0, .int .u64 0, .int .i64 0][i % 3]!).oneCell' = true
        obtain h | h | h : i % 3 = 0 ∨ i % 3 = 1 ∨ i % 3 = 2 := by omega
        all_goals rw [h]; rfl
      have hst := run_storeCells_at (P := Try.prog) g (k * 3) 77 _ 0 cur w hh (by rw [hz]; omega) h1
      obtain ⟨W, hst, hrow, hbel⟩ : ∃ W, (storeCells ⟨g, k * 3, none⟩ (Builtin.zeroCells (Value.agg #[.int .u64 0, .int .u64 0, .int .i64 0]).cells (m + 1)).toList 0).run Try.prog w = .ok () W ∧ (∃ cur', W.heap[g]? = some (.cells cur' 77 (0, 0)) ∧ cur'.size = cur.size ∧ cur'.toList.take (k * 3) = cur.toList.take (k * 3)) ∧ Below base w W := by
        refine ⟨_, hst, ⟨_, setRow_heap w g cur _ 77 _ hh, by simp [hz]; omega, ?_⟩, ⟨rfl, rfl, rfl, by simp [World.setRow], fun b hb2 => by simp [World.setRow, Array.getElem?_modify]; omega⟩⟩
        simp only [Nat.add_zero, List.append_assoc]
        rw [List.take_append_of_le_length (by rw [List.length_take]; simp; omega), List.take_take, Nat.min_self]
      refine ⟨.tuple #[], W, ?_, hK W (cutOwn W fun g2 c2 cur2 e1 e2 _ hh2 _ _ _ _ => ?_) hbel⟩
      · rw [hA, hm2]
        unfold Builtin.clear_
        simp [run_underlying Try.underlying119, Try.zeroValue77, hst]
      · simp only [Option.some.injEq, Addr.mk.injEq, and_true] at e1
        subst e1
        rw [hh] at hh2
        cases hh2
        exact hrow
theorem getLast_take {l : List Sp} {k : Nat} (h0 : 0 < k) (hk : k ≤ l.length) : (l.take k).getLast? = some (l[k - 1]'(by omega)) := by
  obtain ⟨j, rfl⟩ : ∃ j, k = j + 1 := ⟨k - 1, by omega⟩
  rw [List.take_succ_eq_append_getElem (by omega), List.getLast?_concat]; rfl
theorem compS_step {l : List Sp} {k : Nat} (h0 : 0 < k) (hk : k < l.length) : compS (l.take (k + 1)) = if l[k - 1] = l[k] then compS (l.take k) else compS (l.take k) ++ [l[k]] := by
  rw [List.take_succ_eq_append_getElem hk, compS_snoc, compStep, compS_last, getLast_take h0 (by omega)]
  simp only [Option.some.injEq]
theorem drop_get {l ys : List Sp} {j : Nat} (h : ys.drop j = l.drop j) {t : Nat} (ht : j ≤ t) (h1 : t < ys.length) (h2 : t < l.length) : ys[t] = l[t] := by
  have h3 : (ys.drop j)[t - j]? = (l.drop j)[t - j]? := by rw [h]
  rw [List.getElem?_drop, List.getElem?_drop, show j + (t - j) = t by omega, List.getElem?_eq_getElem h1, List.getElem?_eq_getElem h2] at h3
  exact Option.some.inj h3
theorem Rd.sliceA {α : Type} {L : Lay α} {w : World} {A : Option Addr} {n c : Nat} {xs : List α} (h : Rd L w A c xs) {k : Nat} (hk : k ≤ xs.length) (hn : n = xs.length) : Rd L w (SlA A c k L.n) (c - k) (xs.drop k) := Rd.slice h hk
theorem compact_calls (l : List Sp) (hz : l.length ≤ 16777216) {A : Option Addr} {n c base : Nat} {w : World} {R : Ending → World → Prop} (hbase : base ≤ w.heap.size) (ho : Own LSp w base 77 (.slice A n c) l)
    (h : ∀ m w', Below base w w' → Own LSp w' base 77 (.slice A m c) (compS l) → R (.returned (.slice A m c)) w') :
    Calls Try.prog 80 #[.slice A n c] w R := by
  refine ok80 A n c ?_
  unfold F80
  obtain ⟨hn, hr⟩ := ho.rd
  subst hn
  have hcap := ho.cap
  refine brd (fun hlt => ?_) (fun hge => ?_)
  · refine h _ w (Below.refl _ _) ?_
    have : compS l = l := by
      match l, hlt with
      | [], _ => rfl
      | [x], _ => rfl
      | x :: y :: r, hlt => simp at hlt; omega
    rw [this]; exact ho
  refine ⟨fun k w1 => ∃ j : Nat, k = j ∧ 1 ≤ j ∧ j ≤ l.length ∧ Below w.heap.size w w1 ∧ compS (l.take j) = l.take j, fun k _ => l.length - k.toNat,
    ⟨1, rfl, by omega, by omega, Below.refl _ _, ?_⟩, ?_⟩
  · obtain ⟨x, r, rfl⟩ : ∃ x r, l = x :: r := by cases l with | nil => simp at hge | cons x r => exact ⟨x, r, rfl⟩
    rfl
  rintro k w1 ⟨j, rfl, hj1, hj, hb1, hcp⟩
  unfold F80_l4
  refine brd (fun hlt => ?_) (fun hge2 => ?_)
  · have hj2 : j < l.length := by omega
    refine dr fun w2 hb2 _ => ?_
    have B2 := btr hb1 hb1.size hb2
    have ho2 := ho.keep B2
    refine (hr.keep B2).sp rfl rfl (k := j) hj2 fun b o c0 c1 c2 => ?_
    simp only [Addr.add_mk, c0, c1, c2, Addr.add_mk, List.getElem?_toArray, List.getElem?_cons_zero, List.getElem?_cons_succ, LdI_some, LdB_some, LdStr_some, LdP_some, LdSl_some, LdM_some, Nat.zero_add, Br_t, Br_f]
    refine ⟨inR_i64 (by omega) (by omega), ?_⟩
    refine (hr.keep B2).sp rfl (show ((j : Int) - 1) = ((j - 1 : Nat) : Int) by omega) (k := j - 1) (by omega) fun b o d0 d1 d2 => ?_
    simp only [Addr.add_mk, d0, d1, d2, Addr.add_mk, List.getElem?_toArray, List.getElem?_cons_zero, List.getElem?_cons_succ, LdI_some, LdB_some, LdStr_some, LdP_some, LdSl_some, LdM_some, Nat.zero_add, Br_t, Br_f]
    rw [SpEq]
    refine brd (fun heq => ?_) (fun hne => ?_)
    · refine ⟨by omega, by omega, by omega, ?_⟩
      refine ⟨fun a b w3 => ∃ (p q : Nat) (ys : List Sp), a = p ∧ b = q ∧ 1 ≤ q ∧ j + q ≤ l.length ∧ p < j + q ∧ ys.length = l.length ∧ Below base w w3 ∧ Own LSp w3 base 77 (.slice A l.length c) ys ∧ ys.take p = compS (l.take (j + q)) ∧ ys.drop (j + q - 1) = l.drop (j + q - 1) ∧ w.heap.size ≤ w3.heap.size, fun _ b _ => l.length - b.toNat,
        ⟨j, 1, l, rfl, rfl, by omega, by omega, by omega, rfl, B2.mono hbase, ho2, ?_, rfl, B2.size⟩, ?_⟩
      · rw [compS_step (by omega) hj2, if_pos heq.symm, hcp]
      rintro a b w3 ⟨p, q, ys, rfl, rfl, hq1, hjq, hp, hyl, hb3, ho3, htk, hdr, hs3⟩
      unfold F80_l9
      have hpl : p = (compS (l.take (j + q))).length := by rw [← htk, List.length_take]; omega
      obtain ⟨hn3, hr3⟩ := ho3.rd
      have hs2 : (((((l.length : Nat) : Int)).toNat - ((j : Nat) : Int).toNat : Nat) : Int) = ((l.length - j : Nat) : Int) := by simp
      have hs2' : (((l.length : Nat) : Int)).toNat - ((j : Nat) : Int).toNat = l.length - j := by simp
      have hjj : ((j : Nat) : Int).toNat = j := by simp
      rw [hs2', hjj]
      refine brd (fun hlt2 => ?_) (fun hge3 => ?_)
      · have hjq2 : j + q < l.length := by omega
        refine ⟨fun a w4 => ∃ (p : Nat) (ys : List Sp), a = p ∧ p < j + q + 1 ∧ ys.length = l.length ∧ Below base w w4 ∧ Own LSp w4 base 77 (.slice A l.length c) ys ∧ ys.take p = compS (l.take (j + q + 1)) ∧ ys.drop (j + q) = l.drop (j + q) ∧ w.heap.size ≤ w4.heap.size, ?_, ?_⟩
        · rintro a w4 ⟨p, ys, rfl, g1, g2, g3, g4, g5, g6, g7⟩
          unfold F80_j10
          exact ⟨inR_i64 (by omega) (by omega), ⟨p, q + 1, ys, rfl, by simp, by omega, by omega, by omega, g2, g3, g4, g5, g6, g7⟩, by dsimp only; omega⟩
        refine dr fun w4 hb4 _ => ?_
        have ho4 := ho3.keep hb4
        have hs4 := hb4.size
        have B4 : Below base w w4 := hb3.trans (hb4.mono (by omega))
        have hdl : (ys.drop j).length = l.length - j := by simp; omega
        have hsl := Rd.slice (hr3.keep hb4) (k := j) (by omega)
        have e1 : (ys.drop j)[q]'(by omega) = l[j + q] := by rw [List.getElem_drop]; exact drop_get hdr (by omega) (by omega) (by omega)
        have e2 : (ys.drop j)[q - 1]'(by omega) = l[j + q - 1] := by rw [List.getElem_drop]; rw [show l[j + q - 1] = l[j + (q - 1)] by congr 1; omega]; exact drop_get hdr (by omega) (by omega) (by omega)
        have hdr2 : ys.drop (j + q) = l.drop (j + q) := by
          have : ∀ z : List Sp, z.drop (j + q) = (z.drop (j + q - 1)).drop 1 := fun z => by rw [List.drop_drop]; congr 1; omega
          rw [this ys, this l, hdr]
        refine hsl.sp hdl.symm rfl (k := q) (by omega) fun b o c0 c1 c2 => ?_
        simp only [Addr.add_mk, c0, c1, c2, Addr.add_mk, List.getElem?_toArray, List.getElem?_cons_zero, List.getElem?_cons_succ, LdI_some, LdB_some, LdStr_some, LdP_some, LdSl_some, LdM_some, Nat.zero_add, Br_t, Br_f]
        refine ⟨inR_i64 (by omega) (by omega), ?_⟩
        refine hsl.sp hdl.symm (show ((q : Int) - 1) = ((q - 1 : Nat) : Int) by omega) (k := q - 1) (by omega) fun b o d0 d1 d2 => ?_
        simp only [Addr.add_mk, d0, d1, d2, Addr.add_mk, List.getElem?_toArray, List.getElem?_cons_zero, List.getElem?_cons_succ, LdI_some, LdB_some, LdStr_some, LdP_some, LdSl_some, LdM_some, Nat.zero_add, Br_t, Br_f]
        rw [SpEq, e1, e2]
        have hst := compS_step (l := l) (k := j + q) (by omega) hjq2
        by_cases hee : l[j + q] = l[j + q - 1]
        · rw [decide_eq_true hee]
          rw [if_pos hee.symm] at hst
          exact ⟨p, ys, rfl, by omega, hyl, B4, ho4, by rw [htk, hst], hdr2, by omega⟩
        · rw [decide_eq_false hee]
          rw [if_neg (fun e => hee e.symm)] at hst
          rw [Bool.not_false, Br_t]
          refine hsl.sp hdl.symm rfl (k := q) (by omega) fun b o c0 c1 c2 => ?_
          simp only [Addr.add_mk, c0, c1, c2, Addr.add_mk, List.getElem?_toArray, List.getElem?_cons_zero, List.getElem?_cons_succ, LdI_some, LdB_some, LdStr_some, LdP_some, LdSl_some, LdM_some, Nat.zero_add, Br_t, Br_f]
          rw [e1]
          refine ho4.stSp rfl (k := p) (by omega) l[j + q] fun w5 ho5 hf5 => ?_
          have hpy : p < ys.length := by omega
          refine ⟨inR_i64 (by omega) (by omega), p + 1, ys.set p l[j + q], by simp, by omega, by simpa using hyl, B4.trans (hf5.toBelow (by omega) fun b hb hm => by have := (ho4.lt b hm).1; omega), ho5, ?_, ?_, by have := hf5.size; omega⟩
          · rw [List.take_succ_eq_append_getElem (by simpa using hpy), List.take_set_of_le (Nat.le_refl _), htk, hst]; simp
          · rw [List.drop_set_of_lt (by omega), hdr2]
      · have hq : j + q = l.length := by omega
        rw [hq, List.take_length] at htk
        refine ⟨by omega, by omega, by omega, ?_⟩
        rw [show ((p : Nat) : Int).toNat = p by simp, show ((l.length : Nat) : Int).toNat = l.length by simp]
        refine clear_own ho3 p (by omega) fun w5 ho5 hb5 => ⟨by omega, by omega, by omega, ?_⟩
        rw [htk] at ho5
        exact h p w5 (hb3.trans hb5) ho5
    · refine ⟨inR_i64 (by omega) (by omega), ⟨j + 1, by simp, by omega, by omega, B2, ?_⟩, by omega⟩
      rw [compS_step (by omega) hj2, if_neg (fun e => hne e.symm), hcp, ← List.take_succ_eq_append_getElem hj2]
  · have : j = l.length := by omega
    subst this
    rw [List.take_length] at hcp
    exact h _ w1 (hb1.mono hbase) (by rw [hcp]; exact ho.keep hb1)
end Go.Proofs.Ytbocfedmdjkccaa
/- Twigs: what is wrong with the lists of a pattern, by the program. -/
namespace Go.Proofs.Ytbocfedmdjkccaa
open Go.RowKit Go.Vc
set_option linter.unusedVariables false
set_option linter.unusedSimpArgs false
set_option maxRecDepth 100000
theorem spansAll_snoc (ls : List (List Pl)) (l : List Pl) : spansAll (ls ++ [l]) = spansAll ls ++ l.map (·.s) := by simp [spansAll]
theorem spansAll_mem {ls : List (List Pl)} {s : Sp} : s ∈ spansAll ls ↔ ∃ l ∈ ls, ∃ p ∈ l, p.s = s := by simp [spansAll]
theorem listsF_can {ls : List (List Pl)} (h : listsF ls = 0) : ∀ s ∈ spansAll ls, canB s = true := by
  intro s hs
  obtain ⟨l, hl, p, hp, rfl⟩ := spansAll_mem.1 hs
  exact ((oneF_law _ _ (listF_one (listsF_all h l hl))).1 p hp).1
theorem canB_lt {s : Sp} (h : canB s = true) : s.b < s.e := by simp [canB] at h; omega
theorem listsF_sorted {ls : List (List Pl)} (h : listsF ls = 0) : ∀ l ∈ ls, l.Pairwise (fun x y => x.s.b < y.s.b) := fun l hl => (oneF_law _ _ (listF_one (listsF_all h l hl))).2
/-- What is wrong with the lists of so many nodes. -/
def fitsF (n : Nat) (ls : List (List Pl)) : Int := if ls.length = n then if listsF ls = 0 then if crossF [] (mergeAll ls) then 111 else 0 else listsF ls else 1
theorem fitsP_calls (n : Nat) (ls : List (List Pl)) (pv v : Sv) {w : World} {R : Ending → World → Prop} (hp : pv.2.1 = n) (h16 : n ≤ 16) (hl : RLs w ls v)
    (h : ∀ w', Below w.heap.size w w' → R (.returned (.int .i64 (fitsF n ls))) w') :
    Calls Try.prog 63 #[slv pv, slv v] w R := by
  have hl0 := hl
  obtain ⟨hlen, vs, hn, hr, hks⟩ := hl
  have hel := hks.len
  refine ok63 pv.1 pv.2.1 pv.2.2 v.1 v.2.1 v.2.2 ?_
  unfold F63
  unfold fitsF at h
  refine brn (fun hne => ?_) (fun heq => ?_)
  · rw [if_neg (by omega)] at h; exact h w (Below.refl _ _)
  rw [if_pos (by omega)] at h
  have hz16 : ls.length ≤ 16 := by omega
  refine ⟨fun l lN lC i w1 => ∃ k : Nat, i = k ∧ k ≤ ls.length ∧ Below w.heap.size w w1 ∧ Own LSp w1 w.heap.size 77 (.slice l lN lC) (spansAll (ls.take k)) ∧ listsF (ls.drop k) = listsF ls ∧ (spansAll (ls.take k)).length ≤ k * 4096, fun _ _ _ i _ => ls.length - i.toNat,
    ⟨0, rfl, by omega, Below.refl _ _, by simpa [spansAll] using Own.nil _ _ _ _, by simp, by simp [spansAll]⟩, ?_⟩
  rintro l lN lC i w1 ⟨k, rfl, hk, hb1, ho, hc, hsz⟩
  unfold F63_l5
  refine brd (fun hlt => ?_) (fun hge => ?_)
  · have hk2 : k < ls.length := by omega
    have hkv : k < vs.length := by omega
    rw [List.drop_eq_getElem_cons hk2, listsF] at hc
    refine (hr.keep hb1).sv hn rfl (k := k) hkv fun b o c0 => ?_
    simp only [c0, Addr.add_mk, List.getElem?_toArray, List.getElem?_cons_zero, List.getElem?_cons_succ, LdI_some, LdB_some, LdStr_some, LdP_some, LdSl_some, LdM_some, Nat.zero_add, Br_t, Br_f]
    obtain ⟨z0, z1, z2⟩ := (hks.keep hb1).get k hk2 hkv
    refine oneP_calls ls[k] vs[k] ((hks.keep hb1).get k hk2 hkv) fun w2 hb2 => ⟨_, rfl, ?_⟩
    have B2 := btr hb1 hb1.size hb2
    refine brn (fun hne => ?_) (fun h0 => ?_)
    · rw [if_neg hne] at hc
      rw [← hc, if_neg hne] at h
      exact h w2 B2
    rw [if_pos h0] at hc
    have hlen4 := listF_len h0
    refine ⟨fun l lN lC i w3 => ∃ j : Nat, i = j ∧ j ≤ ls[k].length ∧ Below w.heap.size w w3 ∧ Own LSp w3 w.heap.size 77 (.slice l lN lC) (spansAll (ls.take k) ++ (ls[k].take j).map (·.s)), fun _ _ _ i _ => ls[k].length - i.toNat,
      ⟨0, rfl, by omega, B2, by simpa using ho.keep hb2⟩, ?_⟩
    rintro l lN lC i w3 ⟨j, rfl, hj, hb3, ho3⟩
    unfold F63_l11
    refine brd (fun hlt2 => ?_) (fun hge2 => ?_)
    · have hj2 : j < ls[k].length := by omega
      have hrv := ((hks.keep hb3).get k hk2 hkv).2.2
      refine hrv.pl z1 rfl (k := j) hj2 fun b o c0 c1 c2 c3 => ?_
      simp only [Addr.add_mk, c0, c1, c2, c3, Addr.add_mk, List.getElem?_toArray, List.getElem?_cons_zero, List.getElem?_cons_succ, LdI_some, LdB_some, LdStr_some, LdP_some, LdSl_some, LdM_some, Nat.zero_add, Br_t, Br_f]
      refine al4 fun gp w4 hb4 bp hge4 => ?_
      simp only [Addr.add_mk, Nat.reduceAdd, Nat.zero_add, bp.cell, List.getElem?_toArray, List.getElem?_cons_zero, List.getElem?_cons_succ, Addr.add_mk, List.getElem?_toArray, List.getElem?_cons_zero, List.getElem?_cons_succ, LdI_some, LdB_some, LdStr_some, LdP_some, LdSl_some, LdM_some, Nat.zero_add, Br_t, Br_f]
      have B4 := btr hb3 hb3.size hb4
      have hln : (spansAll (ls.take k) ++ (ls[k].take j).map (·.s)).length ≤ 16777216 := by simp; omega
      refine push_span (ho3.keep hb4) (Nat.le_trans hb3.size hb4.size) hln ls[k][j].s fun A' c' w5 ho5 hb5 => ⟨A', _, c', rfl, inR_i64 (by omega) (by omega), ⟨j + 1, by simp, by omega, B4.trans hb5, ?_⟩, by omega⟩
      rw [List.take_succ_eq_append_getElem hj2, List.map_append, ← List.append_assoc]
      exact ho5
    · have hj2 : j = ls[k].length := by omega
      subst hj2
      rw [List.take_length] at ho3
      refine ⟨inR_i64 (by omega) (by omega), ⟨k + 1, by simp, by omega, hb3, ?_, hc, ?_⟩, by omega⟩
      · rw [List.take_succ_eq_append_getElem hk2, spansAll_snoc]; exact ho3
      · rw [List.take_succ_eq_append_getElem hk2, spansAll_snoc]; simp; omega
  have hk2 : k = ls.length := by omega
  subst hk2
  rw [List.take_length] at ho hsz
  rw [List.drop_length, listsF] at hc
  rw [if_pos hc.symm] at h
  have hcan := listsF_can hc.symm
  refine sort_calls (spansAll ls) (fun s hs => by have := canB_l (hcan s hs); omega) (by omega) ho fun l' w2 hb2 hperm hsort ho2 => ⟨rfl, ?_⟩
  have B2 := hb1.trans hb2
  refine compact_calls l' (by rw [hperm.length_eq]; omega) B2.size ho2 fun m w3 hb3 ho3 => ⟨_, _, _, rfl, ?_⟩
  have B3 := B2.trans hb3
  have hmem : ∀ s, s ∈ compS l' ↔ s ∈ spansAll ls := fun s => (compS_mem l' s).trans hperm.mem_iff
  have hsorted : (compS l').Pairwise (fun s t => s.b ≤ t.b) := (compS_sorted l' hsort).imp fun {a b} h => by unfold ltS at h; omega
  have hcross := cross_same ls (compS l') (listsF_sorted hc.symm) (fun s hs => canB_lt (hcan s hs)) hmem hsorted (compS_nodup hsort)
  rw [← hcross] at h
  have hLl : (compS l').length ≤ 65536 := by have := compS_len l'; rw [hperm.length_eq] at this; omega
  generalize compS l' = L at *
  obtain ⟨ln, lr⟩ := ho3.rd
  clear hmem hsorted hcross hsort ho2 ho
  refine ⟨fun O n oc x w4 => ∃ (k : Nat) (st : List Sp), x = k ∧ k ≤ L.length ∧ st.length ≤ k ∧ Below w3.heap.size w3 w4 ∧ Own LSp w4 w3.heap.size 77 (.slice O n oc) st.reverse ∧ crossG st (L.drop k) = crossG [] L, fun O n oc x w1 => L.length - x.toNat, ⟨0, [], rfl, by omega, by simp, Below.refl _ _, Own.nil _ _ _ _, by simp⟩, ?_⟩
  rintro O n oc x w4 ⟨k, st, rfl, hk, hst, hb4, own, hc⟩
  unfold F63_l19
  have BB : ∀ w', Below w3.heap.size w3 w' → Below w.heap.size w w' := fun w' hb => btr B3 B3.size hb
  refine brd (fun hlt => ?_) (fun hge => ?_)
  · have hk2 : k < L.length := by omega
    refine (lr.keep hb4).sp ln rfl hk2 fun q o c0 c1 c2 => ?_
    simp only [Addr.add_mk, c0, c1, c2, Addr.add_mk, List.getElem?_toArray, List.getElem?_cons_zero, List.getElem?_cons_succ, LdI_some, LdB_some, LdStr_some, LdP_some, LdSl_some, LdM_some, Nat.zero_add, Br_t, Br_f]
    refine al3 fun gs w5 hb5 bs hges => ?_
    rw [List.drop_eq_getElem_cons hk2] at hc
    have own5 := own.keep hb5
    have B5 := btr hb4 hb4.size hb5
    have hs5 := hb5.size
    have hgl := bs.lt
    refine ⟨fun O n oc w6 => ∃ st : List Sp, st.length ≤ k ∧ Below w5.heap.size w5 w6 ∧ Own LSp w6 w3.heap.size 77 (.slice O n oc) st.reverse ∧ (∀ t u, st = t :: u → ¬ t.e < L[k].b) ∧ crossG st (L[k] :: L.drop (k + 1)) = crossG [] L, ?_, ?_⟩
    · rintro O n oc w6 ⟨st, hst, hb6, own6, htop, hc6⟩
      unfold F63_j23
      have B6 := btr B5 B5.size hb6
      have bs6 := bs.keep hb6
      refine ⟨fun w7 => Below w3.heap.size w3 w7 ∧ Blk w7 gs #[.int .u64 L[k].b, .int .u64 L[k].e, .int .i64 L[k].l] 77 ∧ Own LSp w7 w3.heap.size 77 (.slice O n oc) st.reverse ∧ crossG (L[k] :: st) (L.drop (k + 1)) = crossG [] L, ?_, ?_⟩
      · rintro w7 ⟨hb7, bs7, own7, hc7⟩
        unfold F63_j25
        simp only [Addr.add_mk, Nat.zero_add, bs7.cell, List.getElem?_toArray, List.getElem?_cons_zero, List.getElem?_cons_succ, Addr.add_mk, List.getElem?_toArray, List.getElem?_cons_zero, List.getElem?_cons_succ, LdI_some, LdB_some, LdStr_some, LdP_some, LdSl_some, LdM_some, Nat.zero_add, Br_t, Br_f]
        exact push_span own7 hb7.size (by simp; omega) L[k] fun A' c' w8 ho8 hb8 => ⟨A', _, c', rfl, inR_i64 (by omega) (by omega), ⟨k + 1, L[k] :: st, by simp, by omega, by simp; omega, hb7.trans hb8, by rw [List.reverse_cons]; exact ho8, hc7⟩, by omega⟩
      · have hn6 := own6.rd.1
        rw [List.length_reverse] at hn6
        have hd : Below w6.heap.size w6 w6.drew := (Below.refl _ _).drew
        refine ⟨fun w' => Below w6.heap.size w6 w', hd, ?_⟩
        refine brd (fun hpos => ?_) (fun hneg => ?_)
        · obtain _ | ⟨t, u⟩ := st
          · simp at hn6; omega
          simp only [List.length_cons] at hn6 hst
          refine ⟨inR_i64 (by omega) (by omega), ?_⟩
          refine own6.rd.2.spH (fun _ h => h) (by simp; omega) (show (((n : Nat) : Int) - 1) = (u.length : Nat) by omega) (by simp) fun b o c0 c1 c2 => ?_
          have e : (t :: u).reverse[u.length]'(by simp) = t := by simp
          rw [e] at c0 c1 c2
          simp only [Addr.add_mk, Nat.zero_add]
          refine ⟨_, c0, _, c1, _, c2, _, blk_held bs6 (fun _ h => h) rfl, _, blk_held bs6 (fun _ h => h) rfl, _, blk_held bs6 (fun _ h => h) rfl, ?_⟩
          refine anc_calls t L[k] fun w7 hb7 => ⟨_, rfl, ?_⟩
          have B7 := btr B6 B6.size (hd.trans hb7)
          rw [crossG_cons (htop t u rfl)] at hc6
          rw [brnot]
          refine br (fun ha => ?_) (fun ha => ?_)
          · rw [if_pos ha] at hc6
            exact ⟨B7, bs6.keep (hd.trans hb7), own6.keep (hd.trans hb7), hc6⟩
          · rw [if_neg (by rw [ha]; decide)] at hc6
            rw [← hc6] at h
            exact h w7 (BB w7 B7)
        · obtain rfl : st = [] := List.eq_nil_of_length_eq_zero (by omega)
          rw [crossG_nil] at hc6
          exact ⟨btr B6 B6.size hd, bs6.keep hd, own6.keep hd, hc6⟩
    · refine ⟨fun O n oc w6 => ∃ st : List Sp, st.length ≤ k ∧ Below w5.heap.size w5 w6 ∧ Own LSp w6 w3.heap.size 77 (.slice O n oc) st.reverse ∧ crossG st (L[k] :: L.drop (k + 1)) = crossG [] L, fun O n oc w3 => n, ⟨st, hst, Below.refl _ _, own5, hc⟩, ?_⟩
      rintro O n oc w6 ⟨st, hst, hb6, own6, hc6⟩
      unfold F63_l21
      have hn6 := own6.rd.1
      rw [List.length_reverse] at hn6
      refine ⟨fun w7 => Below w5.heap.size w5 w7 ∧ ∃ t u, st = t :: u ∧ t.e < L[k].b ∧ Own LSp w7 w3.heap.size 77 (.slice O n oc) st.reverse, ?_, ?_⟩
      · rintro w7 ⟨hb7, t, u, rfl, hlt2, own7⟩
        unfold F63_j22
        simp only [List.length_cons] at hn6 hst
        refine ⟨inR_i64 (by omega) (by omega), by omega, by omega, by have := own7.cap; omega, ⟨u, by omega, hb7, own7.pop' (by omega), ?_⟩, by dsimp only; omega⟩
        rw [← hc6, crossG_pop hlt2]
      · refine dr fun w7 hb7 _ => ?_
        have own7 := own6.keep hb7
        have B7 := btr hb6 hb6.size hb7
        have bs7 := bs.keep B7
        refine brd (fun hpos => ?_) (fun hneg => ?_)
        · obtain _ | ⟨t, u⟩ := st
          · simp at hn6; omega
          refine ⟨inR_i64 (by omega) (by omega), ?_⟩
          refine own7.rd.2.topSp (by simpa using hn6) fun b o c0 c1 c2 => ?_
          simp only [Addr.add_mk, c1, bs7.cell, List.getElem?_toArray, List.getElem?_cons_zero, Addr.add_mk, List.getElem?_toArray, List.getElem?_cons_zero, List.getElem?_cons_succ, LdI_some, LdB_some, LdStr_some, LdP_some, LdSl_some, LdM_some, Nat.zero_add, Br_t, Br_f]
          refine brd (fun hlt2 => ⟨B7, t, u, rfl, hlt2, own7⟩) (fun hge2 => ⟨t :: u, hst, B7, own7, by rintro _ _ ⟨⟩; exact hge2, hc6⟩)
        · obtain rfl : st = [] := List.eq_nil_of_length_eq_zero (by omega)
          exact ⟨[], by simp, B7, own7, by simp, hc6⟩
  · rw [← hc, List.drop_of_length_le (by omega)] at h
    have e : crossG st [] = false := by cases st <;> rw [crossG]
    rw [e] at h
    exact h w4 (BB w4 hb4)
end Go.Proofs.Ytbocfedmdjkccaa
/- Twigs: how many matches; all matches: plain. -/
namespace Go.Proofs.Ytbocfedmdjkccaa
open Go.RowKit Go.Vc
set_option linter.unusedVariables false
set_option linter.unusedSimpArgs false
set_option maxRecDepth 100000
def prodL : List Nat → Nat
  | [] => 1
  | x :: l => x * prodL l
theorem prodL_append (a b : List Nat) : prodL (a ++ b) = prodL a * prodL b := by
  induction a with
  | nil => simp [prodL]
  | cons x a ih => rw [List.cons_append, prodL, prodL, ih, Nat.mul_assoc]
theorem prodL_snoc (a : List Nat) (x : Nat) : prodL (a ++ [x]) = prodL a * x := by rw [prodL_append]; simp [prodL]
theorem prodL_mul {α : Type} (f g : α → Nat) (l : List α) : prodL (l.map fun x => f x * g x) = prodL (l.map f) * prodL (l.map g) := by
  induction l with
  | nil => rfl
  | cons x l ih => simp only [List.map_cons, prodL, ih]; rw [Nat.mul_mul_mul_comm]
theorem prodL_one {α : Type} (f : α → Nat) (l : List α) (h : ∀ x ∈ l, f x = 1) : prodL (l.map f) = 1 := by
  induction l with
  | nil => rfl
  | cons x l ih => simp only [List.map_cons, prodL, h x (by simp), ih fun y hy => h y (by simp [hy])]
theorem prodL_pos (l : List Nat) (h : ∀ x ∈ l, 0 < x) : 0 < prodL l := by
  induction l with
  | nil => simp [prodL]
  | cons x l ih => exact Nat.mul_pos (h x (by simp)) (ih fun y hy => h y (by simp [hy]))
theorem prodL_of_pos (l : List Nat) (h : 0 < prodL l) : ∀ x ∈ l, 0 < x := by
  induction l with
  | nil => simp
  | cons x l ih =>
    rw [prodL] at h
    intro y hy
    rcases List.mem_cons.1 hy with rfl | hy
    · exact Nat.pos_of_mul_pos_right h
    · exact ih (Nat.pos_of_mul_pos_left h) y hy
def sumL : List Nat → Nat
  | [] => 0
  | x :: l => x + sumL l
theorem sumL_append (a b : List Nat) : sumL (a ++ b) = sumL a + sumL b := by
  induction a with
  | nil => simp [sumL]
  | cons x a ih => rw [List.cons_append, sumL, sumL, ih, Nat.add_assoc]
theorem sumL_snoc (a : List Nat) (x : Nat) : sumL (a ++ [x]) = sumL a + x := by rw [sumL_append]; simp [sumL]
theorem sumL_mul {α : Type} (f : α → Nat) (c : Nat) (l : List α) : sumL (l.map fun x => f x * c) = sumL (l.map f) * c := by
  induction l with
  | nil => simp [sumL]
  | cons x l ih => simp only [List.map_cons, sumL, ih, Nat.add_mul]
theorem sumL_pos {l : List Nat} : 0 < sumL l ↔ ∃ x ∈ l, 0 < x := by
  induction l with
  | nil => simp [sumL]
  | cons x l ih =>
    rw [sumL]
    constructor
    · intro h
      by_cases hx : 0 < x
      · exact ⟨x, by simp, hx⟩
      · obtain ⟨y, hy, h2⟩ := ih.1 (by omega)
        exact ⟨y, by simp [hy], h2⟩
    · rintro ⟨y, hy, h2⟩
      rcases List.mem_cons.1 hy with rfl | hy
      · omega
      · have := ih.2 ⟨y, hy, h2⟩; omega
theorem flat_len {α β : Type} (l : List α) (f : α → List β) : (l.flatMap f).length = sumL (l.map fun x => (f x).length) := by
  induction l with
  | nil => rfl
  | cons x l ih => simp only [List.flatMap_cons, List.length_append, List.map_cons, sumL, ih]
abbrev Pt := List (Tw × Int)
def upN (ps : Pt) (j : Nat) : Int := match ps[j]? with | some a => a.2 | none => -1
def dN (ps : Pt) (j : Nat) : Bool := match ps[j]? with | some a => a.1.d | none => false
def lsN (ls : List (List Pl)) (j : Nat) : List Pl := match ls[j]? with | some l => l | none => []
theorem upN_get {ps : Pt} {j : Nat} (h : j < ps.length) : upN ps j = ps[j].2 := by rw [upN, List.getElem?_eq_getElem h]
theorem dN_get {ps : Pt} {j : Nat} (h : j < ps.length) : dN ps j = ps[j].1.d := by rw [dN, List.getElem?_eq_getElem h]
theorem lsN_get {ls : List (List Pl)} {j : Nat} (h : j < ls.length) : lsN ls j = ls[j] := by rw [lsN, List.getElem?_eq_getElem h]
/-- Each node's number of the one above is one before it; none of the first one. -/
def UpOk (ps : Pt) : Prop := ∀ j, j < ps.length → upN ps j < j ∧ -1 ≤ upN ps j ∧ (0 < j → 0 ≤ upN ps j) ∧ (j = 0 → upN ps j = -1)
/-- How many matches there are of what lies under a node. -/
def wayF (ps : Pt) (ls : List (List Pl)) : Nat → Nat → Sp → Nat
  | 0, _, _ => 1
  | f + 1, i, s => prodL ((List.range' (i + 1) (ps.length - (i + 1))).map fun j => if upN ps j = i then sumL (((lsN ls j).filter fun x => fitB (dN ps j) s x.s).map fun x => wayF ps ls f j x.s) else 1)
theorem wayF_fuel (ps : Pt) (ls : List (List Pl)) : ∀ f i s, ps.length - i ≤ f → wayF ps ls f i s = wayF ps ls (ps.length - i) i s := by
  intro f
  induction f using Nat.strongRecOn with
  | _ f ih =>
    intro i s h
    cases hm : ps.length - i with
    | zero =>
      cases f with
      | zero => rfl
      | succ f =>
        rw [wayF, wayF, show ps.length - (i + 1) = 0 by omega]; rfl
    | succ m =>
      cases f with
      | zero => omega
      | succ f =>
        rw [wayF, wayF]
        congr 1
        refine List.map_congr_left fun j hj => ?_
        have hj2 := List.mem_range'_1.1 hj
        split
        · congr 1
          refine List.map_congr_left fun x _ => ?_
          rw [ih f (by omega) j x.s (by omega)]
          rcases Nat.lt_or_ge m (f + 1) with h3 | h3
          · rw [ih m (by omega) j x.s (by omega)]
          · omega
        · rfl
def way (ps : Pt) (ls : List (List Pl)) (i : Nat) (s : Sp) : Nat := wayF ps ls (ps.length - i) i s
/-- How many matches there are of a node and what lies under it, under a node. -/
def under (ps : Pt) (ls : List (List Pl)) (j : Nat) (s : Sp) : Nat := sumL (((lsN ls j).filter fun x => fitB (dN ps j) s x.s).map fun x => way ps ls j x.s)
def wayT (ps : Pt) (ls : List (List Pl)) (i : Nat) (s : Sp) (j : Nat) : Nat := if upN ps j = i then under ps ls j s else 1
theorem way_eq (ps : Pt) (ls : List (List Pl)) (i : Nat) (s : Sp) (hi : i < ps.length) : way ps ls i s = prodL ((List.range' (i + 1) (ps.length - (i + 1))).map (wayT ps ls i s)) := by
  rw [way]
  obtain ⟨f, hf⟩ : ∃ f, ps.length - i = f + 1 := ⟨ps.length - i - 1, by omega⟩
  rw [hf, wayF]
  congr 1
  refine List.map_congr_left fun j hj => ?_
  have hj2 := List.mem_range'_1.1 hj
  unfold wayT under
  split
  · congr 1
    refine List.map_congr_left fun x _ => ?_
    rw [way, wayF_fuel ps ls f j x.s (by omega)]
  · rfl
def rootsN (ps : Pt) (ls : List (List Pl)) : Nat := sumL ((lsN ls 0).map fun x => way ps ls 0 x.s)
/-- May a node be the next one of a match? -/
def fitsAt (ps : Pt) (ch : List Pl) (j : Nat) (x : Pl) : Bool := if upN ps j < 0 then true else match ch[(upN ps j).toNat]? with | some a => fitB (dN ps j) a.s x.s | none => false
/-- All that goes on behind a beginning. -/
def allF (ps : Pt) (ls : List (List Pl)) : Nat → List Pl → List (List Pl)
  | 0, ch => [ch]
  | m + 1, ch => ((lsN ls ch.length).filter (fitsAt ps ch ch.length)).flatMap fun x => allF ps ls m (ch ++ [x])
def termF (ps : Pt) (ls : List (List Pl)) (ch : List Pl) (j : Nat) : Nat := if upN ps j < ch.length then sumL (((lsN ls j).filter (fitsAt ps ch j)).map fun x => way ps ls j x.s) else 1
theorem fitsAt_snoc_lt {ps : Pt} {ch : List Pl} {x : Pl} {j : Nat} (h : upN ps j < ch.length) (y : Pl) : fitsAt ps (ch ++ [x]) j y = fitsAt ps ch j y := by
  unfold fitsAt
  split
  · rfl
  · rw [List.getElem?_append_left (by omega)]
theorem fitsAt_snoc_eq {ps : Pt} {ch : List Pl} {x : Pl} {j : Nat} (h : upN ps j = ch.length) (y : Pl) : fitsAt ps (ch ++ [x]) j y = fitB (dN ps j) x.s y.s := by
  unfold fitsAt
  rw [if_neg (by omega), h]
  simp
theorem termF_snoc (ps : Pt) (ls : List (List Pl)) (ch : List Pl) (x : Pl) (j : Nat) : termF ps ls (ch ++ [x]) j = wayT ps ls ch.length x.s j * termF ps ls ch j := by
  unfold termF wayT
  rw [List.length_append, List.length_singleton]
  by_cases h1 : upN ps j = ch.length
  · rw [if_pos h1, if_neg (show ¬ upN ps j < (ch.length : Int) by omega), if_pos (by omega), Nat.mul_one]
    unfold under
    congr 2
    exact List.filter_congr fun y _ => fitsAt_snoc_eq h1 y
  · rw [if_neg h1, Nat.one_mul]
    by_cases h2 : upN ps j < ch.length
    · rw [if_pos h2, if_pos (by omega)]
      congr 2
      exact List.filter_congr fun y _ => fitsAt_snoc_lt h2 y
    · rw [if_neg h2, if_neg (by omega)]
theorem allF_len {ps : Pt} (hu : UpOk ps) (ls : List (List Pl)) : ∀ m ch, ch.length + m = ps.length → (allF ps ls m ch).length = prodL ((List.range' ch.length m).map (termF ps ls ch))
  | 0, ch, _ => rfl
  | m + 1, ch, h => by
    rw [allF, flat_len]
    have e : ((lsN ls ch.length).filter (fitsAt ps ch ch.length)).map (fun x => (allF ps ls m (ch ++ [x])).length) = ((lsN ls ch.length).filter (fitsAt ps ch ch.length)).map (fun x => way ps ls ch.length x.s * prodL ((List.range' (ch.length + 1) m).map (termF ps ls ch))) := by
      refine List.map_congr_left fun x _ => ?_
      rw [allF_len hu ls m (ch ++ [x]) (by simp; omega), way_eq _ _ _ _ (by omega), show ps.length - (ch.length + 1) = m by omega, ← prodL_mul, List.length_append, List.length_singleton]
      congr 1
      exact List.map_congr_left fun j _ => termF_snoc ps ls ch x j
    rw [e, sumL_mul, List.range'_succ, List.map_cons, prodL]
    congr 1
    unfold termF
    rw [if_pos (hu _ (by omega)).1]
theorem allF_dead {ps : Pt} (hu : UpOk ps) (ls : List (List Pl)) (m : Nat) (ch : List Pl) (x : Pl) (h : ch.length + (m + 1) = ps.length) (hw : way ps ls ch.length x.s = 0) : allF ps ls m (ch ++ [x]) = [] := by
  refine List.eq_nil_of_length_eq_zero ?_
  rw [allF_len hu ls m _ (by simp; omega)]
  have e : (List.range' (ch ++ [x]).length m).map (termF ps ls (ch ++ [x])) = (List.range' (ch.length + 1) m).map (fun j => wayT ps ls ch.length x.s j * termF ps ls ch j) := by
    rw [List.length_append, List.length_singleton]
    exact List.map_congr_left fun j _ => termF_snoc ps ls ch x j
  rw [e, prodL_mul]
  rw [way_eq _ _ _ _ (by omega), show ps.length - (ch.length + 1) = m by omega] at hw
  rw [hw, Nat.zero_mul]
theorem flat_prune {α β : Type} {f : α → List β} {p q : α → Bool} : ∀ l : List α, (∀ x ∈ l, p x = true → q x = false → f x = []) → (l.filter fun x => q x && p x).flatMap f = (l.filter p).flatMap f
  | [], _ => rfl
  | x :: l, h => by
    have ih := flat_prune l fun y hy => h y (by simp [hy])
    rw [List.filter_cons, List.filter_cons]
    cases hp : p x <;> cases hq : q x
    · simpa using ih
    · simpa using ih
    · simp only [Bool.false_and, Bool.false_eq_true, if_false, if_true, List.flatMap_cons]
      rw [h x (by simp) hp hq, ih]; rfl
    · simp only [Bool.and_self, if_true, List.flatMap_cons, ih]
theorem allF_prune {ps : Pt} (hu : UpOk ps) (ls : List (List Pl)) (m : Nat) (ch : List Pl) (h : ch.length + (m + 1) = ps.length) :
    allF ps ls (m + 1) ch = ((lsN ls ch.length).filter fun x => (way ps ls ch.length x.s != 0) && fitsAt ps ch ch.length x).flatMap fun x => allF ps ls m (ch ++ [x]) := by
  rw [allF]
  refine (flat_prune _ fun x _ _ hq => allF_dead hu ls m ch x h ?_).symm
  simpa using hq
theorem allF_count {ps : Pt} (hu : UpOk ps) (ls : List (List Pl)) (h : 0 < ps.length) : (allF ps ls ps.length []).length = rootsN ps ls := by
  rw [allF_len hu ls ps.length [] (by simp)]
  obtain ⟨n, hn⟩ : ∃ n, ps.length = n + 1 := ⟨ps.length - 1, by omega⟩
  have h0 := (hu 0 h).2.2.2 rfl
  rw [hn, List.length_nil, List.range'_succ, List.map_cons, prodL, prodL_one]
  · unfold termF rootsN
    rw [if_pos (by rw [h0]; decide), Nat.mul_one]
    congr 2
    refine List.filter_eq_self.2 fun x _ => ?_
    unfold fitsAt; rw [if_pos (by omega)]
  · intro j hj
    have hj2 := List.mem_range'_1.1 hj
    have := (hu j (by omega)).2.2.1 (by omega)
    unfold termF
    rw [if_neg (by simp; omega)]
/-- The pattern's own numbers. -/
theorem pre_up : (∀ (t : Tw) (up : Int) (at_ : Nat), ∀ j, j < (t.pre up at_).length → ((t.pre up at_)[j]?.map (·.2)) = some up ∧ j = 0 ∨ 0 < j ∧ ∃ u : Nat, ((t.pre up at_)[j]?.map (·.2)) = some (u : Int) ∧ at_ ≤ u ∧ u < at_ + j) := by
  refine Tw.ind fun nm d ks ih => ?_
  intro up at_ j hj
  rw [Tw.pre] at hj ⊢
  cases j with
  | zero => exact .inl ⟨rfl, rfl⟩
  | succ j =>
    refine .inr ⟨by omega, ?_⟩
    simp only [List.getElem?_cons_succ]
    have key : ∀ (l : List Tw) (nx : Nat), (∀ k ∈ l, k ∈ ks) → at_ < nx → ∀ j, j < (preL at_ nx l).length → ∃ u : Nat, ((preL at_ nx l)[j]?.map (·.2)) = some (u : Int) ∧ at_ ≤ u ∧ u < nx + j := by
      intro l
      induction l with
      | nil => intro nx _ _ j hj; simp [preL] at hj
      | cons k l ihl =>
        intro nx hk hnx j hj
        rw [preL] at hj ⊢
        rcases Nat.lt_or_ge j (k.pre at_ nx).length with h1 | h1
        · rw [List.getElem?_append_left h1]
          rcases ih k (hk k (by simp)) at_ nx j h1 with ⟨h2, rfl⟩ | ⟨h2, u, h3, h4, h5⟩
          · exact ⟨at_, h2, by omega, by omega⟩
          · exact ⟨u, h3, by omega, by omega⟩
        · rw [List.getElem?_append_right h1]
          rw [List.length_append] at hj
          obtain ⟨u, h3, h4, h5⟩ := ihl (nx + k.sz) (fun x hx => hk x (by simp [hx])) (by omega) (j - (k.pre at_ nx).length) (by omega)
          have := k.pre_len at_ nx
          exact ⟨u, h3, h4, by omega⟩
    obtain ⟨u, h1, h2, h3⟩ := key ks (at_ + 1) (fun k h => h) (by omega) j (by simpa using hj)
    exact ⟨u, h1, h2, by omega⟩
def ptOf (t : Tw) : Pt := t.pre (-1) 0
theorem ptOf_len (t : Tw) : (ptOf t).length = t.sz := Tw.pre_len _ _ _
theorem upOk (t : Tw) : UpOk (ptOf t) := by
  intro j hj
  have h := pre_up t (-1) 0 j hj
  have e : ∀ z, ((t.pre (-1) 0)[j]?.map (·.2)) = some z → upN (ptOf t) j = z := by
    intro z hz
    unfold upN ptOf
    cases h2 : (t.pre (-1) 0)[j]? with
    | none => rw [h2] at hz; cases hz
    | some a => rw [h2] at hz; simpa using hz
  rcases h with ⟨h1, rfl⟩ | ⟨h0, u, h1, h2, h3⟩
  · rw [e _ h1]; omega
  · rw [e _ h1]; omega
end Go.Proofs.Ytbocfedmdjkccaa
set_option linter.unusedVariables false
namespace Go.Proofs
open Go.Shelf
def Try.lays264_ren : Go.Shelf.Ren := ⟨fun | 264 => 82 | n => n, fun | 53 => 41 | 46 => 133 | n => n, fun | n => n⟩
theorem Try.lays264 : Go.Proofs.Lays.n264 Try.prog Try.lays264_ren := {
  mixed := by kernel_rfl
  f264 := Try.func82.trans (congrArg some (by kernel_rfl))
  t46 := Try.underlying133
  a46 := Try.isAgg133
  z46 := Try.sizeOf133
  v46 := Try.zeroValue133
  t53 := Try.underlying41
  a53 := Try.isAgg41
  z53 := Try.sizeOf41
  v53 := Try.zeroValue41 }

end Go.Proofs
/- Twigs: the program's finder: how many matches there are below a node. -/
namespace Go.Proofs.Ytbocfedmdjkccaa
open Go.RowKit Go.Vc
set_option linter.unusedVariables false
set_option linter.unusedSimpArgs false
set_option maxRecDepth 100000
def LBo : Lay Bool := ⟨1, fun n => [.bool n], fun _ => rfl, fun _ => by simp [Value.oneCell'], by decide⟩
theorem Rd.boo {w : World} {A : Option Addr} {c : Nat} {xs : List Bool} (h : Rd LBo w A c xs) {n : Nat} (hn : n = xs.length) {i : Int} {k : Nat} (hi : i = k) (hk : k < xs.length) {K : Addr → Prop}
    (hK : ∀ b o, w.cell? ⟨b, o, none⟩ = some (.bool xs[k]) → K ⟨b, o, none⟩) : IdxA A n i 1 K := by
  subst hi
  refine h.idx hn (by omega) (by omega) rfl fun b o hc => ?_
  simp only [Int.toNat_natCast] at hc
  exact hK b o (hc 0 _ rfl)
theorem Rd.plH {w : World} {A : Option Addr} {c : Nat} {xs : List Pl} {S : World → Prop} (h : Rd LPl w A c xs) (hS : ∀ w1, S w1 → Below w.heap.size w w1) {n : Nat} (hn : n = xs.length) {i : Int} {k : Nat} (hi : i = k) (hk : k < xs.length) {K : Addr → Prop}
    (hK : ∀ b o, Held S ⟨b, o, none⟩ (.int .u64 xs[k].node) → Held S ⟨b, o + 1, none⟩ (.int .u64 xs[k].s.b) → Held S ⟨b, o + 2, none⟩ (.int .u64 xs[k].s.e) → Held S ⟨b, o + 3, none⟩ (.int .i64 xs[k].s.l) → K ⟨b, o, none⟩) : IdxA A n i 4 K := by
  subst hi
  refine h.held hS hn (by omega) (by omega) rfl fun b o hc => ?_
  simp only [Int.toNat_natCast] at hc
  exact hK b o (hc 0 _ rfl) (hc 1 _ rfl) (hc 2 _ rfl) (hc 3 _ rfl)
/-- A count as the program keeps it. -/
def Cn (c : Nat) (n : Int) (full : Bool) : Prop := full = mO c ∧ (full = false → n = c) ∧ 0 ≤ n ∧ n < 18446744073709551616
theorem Cn.zero : Cn 0 0 false := ⟨rfl, fun _ => rfl, by decide, by decide⟩
theorem Cn.one : Cn 1 1 false := ⟨rfl, fun _ => rfl, by decide, by decide⟩
theorem Cn.full {c : Nat} {n : Int} (h : Cn c n true) : 18446744073709551616 ≤ c := mO_t.1 h.1.symm
theorem Cn.small {c : Nat} {n : Int} (h : Cn c n false) : n = c ∧ c < 18446744073709551616 := ⟨h.2.1 rfl, mO_f.1 h.1.symm⟩
theorem Cn.add {c d : Nat} {n m : Int} {a b : Bool} (h : Cn c n a) (k : Cn d m b) : Cn (c + d) ((n + m + 0) % 18446744073709551616) (bif a then true else bif b then true else decide ((n + m + 0) / 18446744073709551616 > 0)) := by
  have h0 := h.2.2; have k0 := k.2.2
  cases a with
  | true => exact ⟨(mO_t.2 (by have := h.full; omega)).symm, (by intro e; cases e), by omega, by omega⟩
  | false =>
    cases b with
    | true => exact ⟨(mO_t.2 (by have := k.full; omega)).symm, (by intro e; cases e), by omega, by omega⟩
    | false =>
      obtain ⟨rfl, h2⟩ := h.small
      obtain ⟨rfl, k2⟩ := k.small
      refine ⟨?_, ?_, by omega, by omega⟩
      · simp only [cond_false, mO]
        rw [Bool.eq_iff_iff]; simp only [decide_eq_true_eq]; omega
      · intro e
        simp only [cond_false, decide_eq_false_iff_not] at e
        omega
theorem add64_row {n m : Int} (hn : 0 ≤ n) (hm : 0 ≤ m) {w : World} {K : Value → World → Prop} (h : K (.tuple #[.int .u64 ((n + m + 0) % 18446744073709551616), .int .u64 ((n + m + 0) / 18446744073709551616)]) w) :
    ByRow Try.prog 43 #[.int .u64 n, .int .u64 m, .int .u64 0] w K := by
  refine ⟨_, w, ?_, h⟩
  rw [run_callFunc_extern Try.func43 (by kernel_rfl) (by kernel_rfl) (by kernel_rfl) (e := add64Entry) (by kernel_rfl), run_add64 n m 0 hn hm (by omega) (by omega)]
  rfl
theorem mul64_calls (x y : Int) (hx : 0 ≤ x ∧ x < 18446744073709551616) (hy : 0 ≤ y ∧ y < 18446744073709551616) {w : World} {R : Ending → World → Prop}
    (h : R (.returned (.tuple #[.int .u64 (x * y / 18446744073709551616), .int .u64 (x * y % 18446744073709551616)])) w) : Calls Try.prog 82 #[.int .u64 x, .int .u64 y] w R := by
  obtain ⟨X, rfl⟩ := Int.eq_ofNat_of_zero_le hx.1
  obtain ⟨Y, rfl⟩ := Int.eq_ofNat_of_zero_le hy.1
  have hc := Any.bits_Mul64 Try.lays264 X Y (by omega) (by omega) w
  change Calls Try.prog 82 _ _ _ at hc
  refine hc.mono ?_
  rintro e w' ⟨rfl, rfl⟩
  rw [Int.natCast_ediv, Int.natCast_emod, Int.natCast_mul]
  exact h
/-- The counts of a node of the pattern, read. -/
def RW (w : World) (ps : Pt) (ls : List (List Pl)) (q : Nat) (u v : Sv) : Prop := ∃ (ns : List Int) (fs : List Bool), u.2.1 = ns.length ∧ Rd LH w u.1 u.2.2 ns ∧ v.2.1 = fs.length ∧ Rd LBo w v.1 v.2.2 fs ∧ ns.length = (lsN ls q).length ∧ fs.length = (lsN ls q).length ∧
  ∀ (i : Nat) (h : i < (lsN ls q).length) (h1 : i < ns.length) (h2 : i < fs.length), Cn (way ps ls q (lsN ls q)[i].s) ns[i] fs[i]
theorem RW.sub {w w1 : World} (h : Sub w w1) {ps : Pt} {ls : List (List Pl)} {q : Nat} {u v : Sv} (k : RW w ps ls q u v) : RW w1 ps ls q u v := by
  obtain ⟨ns, fs, h1, h2, h3, h4, h5⟩ := k
  exact ⟨ns, fs, h1, h.rd h2, h3, h.rd h4, h5⟩
/-- A finder, whose counts are known from a node on. -/
structure FdR (w : World) (f : Nat) (ps : Pt) (ls : List (List Pl)) (j : Nat) (pv lv kv wv fv : Sv) (ty : TypeId) (wvs fvs : List Sv) : Prop where
  blk : Blk w f #[slv pv, slv lv, slv kv, slv wv, slv fv] ty
  rp : RPs w ps pv
  rl : RLs w ls lv
  wn : wv.2.1 = wvs.length
  wr : Rd LSv w wv.1 wv.2.2 wvs
  wl : wvs.length = ps.length
  fn : fv.2.1 = fvs.length
  fr : Rd LSv w fv.1 fv.2.2 fvs
  fl : fvs.length = ps.length
  ll : ls.length = ps.length
  rows : ∀ (q : Nat) (h1 : q < wvs.length) (h2 : q < fvs.length), j ≤ q → RW w ps ls q wvs[q] fvs[q]
def Fd (w : World) (f : Nat) (ps : Pt) (ls : List (List Pl)) (j : Nat) : Prop := ∃ pv lv kv wv fv ty wvs fvs, FdR w f ps ls j pv lv kv wv fv ty wvs fvs
theorem FdR.keep {w w1 : World} {f : Nat} {ps : Pt} {ls : List (List Pl)} {j : Nat} {pv lv kv wv fv : Sv} {ty : TypeId} {wvs fvs : List Sv} (h : FdR w f ps ls j pv lv kv wv fv ty wvs fvs) (hb : Below w.heap.size w w1) : FdR w1 f ps ls j pv lv kv wv fv ty wvs fvs :=
  ⟨h.blk.keep hb, h.rp.keep hb, h.rl.keep hb, h.wn, h.wr.keep hb, h.wl, h.fn, h.fr.keep hb, h.fl, h.ll, fun q h1 h2 hj => (h.rows q h1 h2 hj).sub (sub_below hb)⟩
theorem Fd.keep {w w1 : World} {f : Nat} {ps : Pt} {ls : List (List Pl)} {j : Nat} (h : Fd w f ps ls j) (hb : Below w.heap.size w w1) : Fd w1 f ps ls j := by
  obtain ⟨pv, lv, kv, wv, fv, ty, wvs, fvs, h⟩ := h
  exact ⟨pv, lv, kv, wv, fv, ty, wvs, fvs, h.keep hb⟩
/-- Lists that can be. -/
def Vd (ls : List (List Pl)) : Prop := ∀ l ∈ ls, (∀ p ∈ l, canB p.s = true) ∧ l.Pairwise (fun x y => x.s.b < y.s.b)
theorem vd_of {ls : List (List Pl)} (h : listsF ls = 0) : Vd ls := fun l hl => by
  have := oneF_law _ _ (listF_one (listsF_all h l hl))
  exact ⟨fun p hp => (this.1 p hp).1, this.2⟩
theorem fitB_anc {d : Bool} {up x : Sp} (h : fitB d up x = true) : ancB up x = true := by
  unfold fitB at h
  split at h
  · unfold parB at h; simp at h; exact h.1
  · exact h
def pS (ps : Pt) (ls : List (List Pl)) (p : Nat) (up : Sp) (k : Nat) : Nat := sumL ((((lsN ls p).take k).filter fun x => fitB (dN ps p) up x.s).map fun x => way ps ls p x.s)
theorem pS_succ {ps : Pt} {ls : List (List Pl)} {p : Nat} {up : Sp} {k : Nat} (hk : k < (lsN ls p).length) : pS ps ls p up (k + 1) = pS ps ls p up k + if fitB (dN ps p) up (lsN ls p)[k].s then way ps ls p (lsN ls p)[k].s else 0 := by
  unfold pS
  rw [List.take_succ_eq_append_getElem hk, List.filter_append, List.map_append, sumL_append, List.filter_cons]
  split <;> simp [sumL]
theorem pS_skip {ps : Pt} {ls : List (List Pl)} {p : Nat} {up : Sp} : ∀ (d k : Nat), k + d ≤ (lsN ls p).length → (∀ i (h : i < (lsN ls p).length), k ≤ i → i < k + d → fitB (dN ps p) up (lsN ls p)[i].s = false) → pS ps ls p up (k + d) = pS ps ls p up k
  | 0, k, _, _ => rfl
  | d + 1, k, h, hf => by
    rw [show k + (d + 1) = (k + d) + 1 by omega, pS_succ (by omega), hf (k + d) (by omega) (by omega) (by omega), pS_skip d k (by omega) fun i hi h1 h2 => hf i hi h1 (by omega)]
    simp
theorem pS_all (ps : Pt) (ls : List (List Pl)) (p : Nat) (up : Sp) : pS ps ls p up (lsN ls p).length = under ps ls p up := by rw [pS, List.take_length, under]
theorem below_calls {f : Nat} {ps : Pt} {ls : List (List Pl)} {j p : Nat} (hjp : j ≤ p) (hp : p < ps.length) (hv : Vd ls) (up : Sp) (h0 : 0 ≤ up.l) {w : World} {R : Ending → World → Prop} (hfd : Fd w f ps ls j)
    (h : ∀ n full w', Below w.heap.size w w' → Cn (under ps ls p up) n full → R (.returned (.tuple #[.int .u64 n, .bool full])) w') :
    Calls Try.prog 81 #[.pointer (some ⟨f, 0, none⟩), .int .i64 (p : Int), spv up] w R := by
  obtain ⟨pv, lv, kv, wv, fv, ty, wvs, fvs, hf⟩ := hfd
  obtain ⟨hlen, lvs, hln, hlr, hls⟩ := hf.rl
  have hlvs := hls.len
  have hll := hf.ll
  have hpl : p < ls.length := by omega
  have hlp : lsN ls p = ls[p] := lsN_get hpl
  have hdp : dN ps p = ps[p].1.d := dN_get hp
  have hvp := hv ls[p] (List.getElem_mem _)
  rw [← hlp] at hvp
  refine ok81 (some ⟨f, 0, none⟩) p up.b up.e up.l ?_
  unfold F81
  refine al fun ga w1 hb1 ba hga => ?_
  have hd1 : Below w1.heap.size w1 w1.drew := (Below.refl _ _).drew
  have f1 := hf.keep hb1
  refine ⟨fun w' => Below w1.heap.size w1 w', hd1, ?_⟩
  simp only [NonNil_some, Addr.add_mk, Nat.zero_add]
  refine ⟨_, _, _, blk_held f1.blk (fun _ h => h) rfl, ?_⟩
  refine (hlr.keep hb1).svH (fun _ h => h) hln rfl (k := p) (by omega) fun b o c0 => ⟨_, _, _, c0, _, blk_held ba (fun _ h => h) rfl, ?_⟩
  obtain ⟨z0, z1, z2⟩ := (hls.keep hb1).get p hpl (by omega)
  have hrl : RLv w1.drew (lsN ls p) lvs[p] := by rw [hlp]; exact ⟨z0, z1, z2.keep hd1⟩
  have B1 := btr hb1 hb1.size hd1
  have hsz : (lsN ls p).length ≤ 1048576 := by rw [hlp]; exact z0
  refine first_calls (lsN ls p) lvs[p] up.b hrl hvp.2 fun n0 w2 hb2 hn0 hchar => ⟨_, rfl, ?_⟩
  have B2 := btr B1 B1.size hb2
  have ba2 := (ba.keep hd1).keep hb2
  -- what does not fit
  have nofit : ∀ i (hi : i < (lsN ls p).length), (i < n0 ∨ up.e ≤ (lsN ls p)[i].s.b) → fitB (dN ps p) up (lsN ls p)[i].s = false := by
    intro i hi hor
    rw [← Bool.not_eq_true]
    intro hfit
    have h1 := ancB_iff.1 (fitB_anc hfit)
    have h2 := canB_lt (hvp.1 _ (List.getElem_mem hi))
    rcases hor with h3 | h3
    · have := (hchar i hi).2 h3; omega
    · omega
  refine ⟨fun n full w3 => Below w.heap.size w w3 ∧ Cn (under ps ls p up) n full, fun n full w3 hh => h n full w3 hh.1 hh.2, ?_⟩
  refine ⟨fun n full i w3 => ∃ k : Nat, i = k ∧ n0 ≤ k ∧ k ≤ (lsN ls p).length ∧ Below w2.heap.size w2 w3 ∧ Cn (pS ps ls p up k) n full, fun _ _ i _ => (lsN ls p).length - i.toNat,
    ⟨n0, rfl, Nat.le_refl _, hn0, Below.refl _ _, ?_⟩, ?_⟩
  · have := pS_skip (ps := ps) (ls := ls) (p := p) (up := up) n0 0 (by omega) fun i hi _ h2 => nofit i hi (.inl (by omega))
    rw [Nat.zero_add] at this
    rw [this]; exact Cn.zero
  rintro n full i w3 ⟨k, rfl, hk0, hk, hb3, hcn⟩
  unfold F81_l4
  have B3 := btr B2 B2.size hb3
  have f3 := hf.keep B3
  have ba3 := ba2.keep hb3
  have hl3 : ∀ {w'}, Below w.heap.size w w' → lvs[p].2.1 = (lsN ls p).length ∧ Rd LPl w' lvs[p].1 lvs[p].2.2 (lsN ls p) := fun hb => by
    obtain ⟨z0, z1, z2⟩ := (hls.keep hb).get p hpl (by omega)
    rw [hlp]; exact ⟨z1, z2⟩
  have step : ∀ (n' : Int) (full' : Bool) (w' : World), Below w3.heap.size w3 w' → k < (lsN ls p).length → Cn (pS ps ls p up (k + 1)) n' full' → F81_j5 (fun n' full' i' w2_1 => (∃ k : Nat, i' = k ∧ n0 ≤ k ∧ k ≤ (lsN ls p).length ∧ Below w2.heap.size w2 w2_1 ∧ Cn (pS ps ls p up k) n' full') ∧ (lsN ls p).length - i'.toNat < (lsN ls p).length - (k : Int).toNat) k n' full' w' R := by
    intro n' full' w' hb hk2 hc
    unfold F81_j5
    exact ⟨inR_i64 (by omega) (by omega), ⟨k + 1, by simp, by omega, by omega, btr hb3 hb3.size hb, hc⟩, by omega⟩
  refine ⟨fun w4 => Below w3.heap.size w3 w4 ∧ k < (lsN ls p).length, ?_, ?_⟩
  · rintro w4 ⟨hb4, hk2⟩
    unfold F81_j6
    have B4 := btr B3 B3.size hb4
    have f4 := hf.keep B4
    have ba4 := ba3.keep hb4
    have hd4 : Below w4.heap.size w4 w4.drew := (Below.refl _ _).drew
    obtain ⟨z1, z2⟩ := hl3 B4
    refine ⟨fun n' full' w' => Below w3.heap.size w3 w' ∧ Cn (pS ps ls p up (k + 1)) n' full', fun n' full' w' hh => step n' full' w' hh.1 hk2 hh.2, ?_⟩
    refine ⟨fun w' => Below w4.heap.size w4 w', hd4, ?_⟩
    simp only [NonNil_some, Addr.add_mk, Nat.zero_add, Nat.reduceAdd]
    refine ⟨_, blk_held ba4 (fun _ h => h) rfl, _, blk_held ba4 (fun _ h => h) rfl, _, blk_held ba4 (fun _ h => h) rfl, _, _, _, blk_held f4.blk (fun _ h => h) rfl, ?_⟩
    refine (hlr.keep B4).svH (fun _ h => h) hln rfl (k := p) (by omega) fun b o c0 => ⟨_, _, _, c0, ?_⟩
    refine z2.plH (fun _ h => h) z1 rfl (k := k) hk2 fun b o c0 c1 c2 c3 => ?_
    simp only [Addr.add_mk, Nat.add_assoc, Nat.reduceAdd]
    refine ⟨_, c1, _, c2, _, c3, ?_⟩
    have f5 := f4.keep hd4
    have hx := canB_l (hvp.1 _ (List.getElem_mem hk2))
    have hc0 : w4.drew.cell? ⟨f, 0, none⟩ = some (slv pv) := by rw [f5.blk.cell]; rfl
    refine underP_calls (pv := pv) hp up (lsN ls p)[k].s h0 (by omega) hc0 f5.rp fun w6 hb6 => ⟨_, rfl, ?_⟩
    have D6 := hd4.trans hb6
    have B6 := btr B4 B4.size D6
    have hps := pS_succ (ps := ps) (up := up) hk2
    rw [hdp] at hps
    rw [brnot]
    refine br (fun hfit => ?_) (fun hfit => ?_)
    · rw [if_pos hfit] at hps
      have f6 := hf.keep B6
      obtain ⟨ns, fs, r1, r2, r3, r4, r5, r6, r7⟩ := f6.rows p (by rw [f6.wl]; exact hp) (by rw [f6.fl]; exact hp) hjp
      simp only [f6.blk.cell, List.getElem?_toArray, List.getElem?_cons_zero, List.getElem?_cons_succ, Addr.add_mk, List.getElem?_toArray, List.getElem?_cons_zero, List.getElem?_cons_succ, LdI_some, LdB_some, LdStr_some, LdP_some, LdSl_some, LdM_some, Nat.zero_add, Br_t, Br_f]
      refine f6.wr.sv f6.wn rfl (k := p) (by rw [f6.wl]; exact hp) fun b o c0 => ?_
      simp only [c0, Addr.add_mk, List.getElem?_toArray, List.getElem?_cons_zero, List.getElem?_cons_succ, LdI_some, LdB_some, LdStr_some, LdP_some, LdSl_some, LdM_some, Nat.zero_add, Br_t, Br_f]
      have hkn : k < ns.length := by omega
      have hkf : k < fs.length := by omega
      have hcw := r7 k hk2 hkn hkf
      refine r2.han r1 rfl (k := k) hkn fun b o c0 => ?_
      simp only [c0, Addr.add_mk, List.getElem?_toArray, List.getElem?_cons_zero, List.getElem?_cons_succ, LdI_some, LdB_some, LdStr_some, LdP_some, LdSl_some, LdM_some, Nat.zero_add, Br_t, Br_f]
      refine add64_row hcn.2.2.1 hcw.2.2.1 ⟨_, _, rfl, ?_⟩
      have hadd := hcn.add hcw
      rw [← hps] at hadd
      have hB6 := btr hb4 hb4.size D6
      refine br (fun hfu => ⟨hB6, ?_⟩) (fun hfu => ?_)
      · subst hfu; exact hadd
      · subst hfu
        simp only [f6.blk.cell, List.getElem?_toArray, List.getElem?_cons_zero, List.getElem?_cons_succ, Addr.add_mk, List.getElem?_toArray, List.getElem?_cons_zero, List.getElem?_cons_succ, LdI_some, LdB_some, LdStr_some, LdP_some, LdSl_some, LdM_some, Nat.zero_add, Br_t, Br_f]
        refine f6.fr.sv f6.fn rfl (k := p) (by rw [f6.fl]; exact hp) fun b o c0 => ?_
        simp only [c0, Addr.add_mk, List.getElem?_toArray, List.getElem?_cons_zero, List.getElem?_cons_succ, LdI_some, LdB_some, LdStr_some, LdP_some, LdSl_some, LdM_some, Nat.zero_add, Br_t, Br_f]
        refine r4.boo r3 rfl (k := k) hkf fun b o c0 => ?_
        simp only [c0, Addr.add_mk, List.getElem?_toArray, List.getElem?_cons_zero, List.getElem?_cons_succ, LdI_some, LdB_some, LdStr_some, LdP_some, LdSl_some, LdM_some, Nat.zero_add, Br_t, Br_f]
        refine br (fun hfk => ⟨hB6, ?_⟩) (fun hfk => ⟨hB6, ?_⟩)
        · rw [hfk] at hadd; exact hadd
        · rw [hfk] at hadd; exact hadd
    · rw [if_neg (by rw [hfit]; decide), Nat.add_zero] at hps
      exact ⟨btr hb4 hb4.size D6, by rw [hps]; exact hcn⟩
  refine dr fun w4 hb4 _ => ?_
  have B4 := btr B3 B3.size hb4
  have f4 := hf.keep B4
  have ba4 := ba3.keep hb4
  obtain ⟨z1, z2⟩ := hl3 B4
  simp only [NonNil_some, Addr.add_mk, Nat.zero_add, Nat.reduceAdd, f4.blk.cell, ba4.cell, List.getElem?_toArray, List.getElem?_cons_zero, List.getElem?_cons_succ, Addr.add_mk, List.getElem?_toArray, List.getElem?_cons_zero, List.getElem?_cons_succ, LdI_some, LdB_some, LdStr_some, LdP_some, LdSl_some, LdM_some, Nat.zero_add, Br_t, Br_f]
  refine (hlr.keep B4).sv hln rfl (k := p) (by omega) fun b o c0 => ?_
  simp only [c0, Addr.add_mk, List.getElem?_toArray, List.getElem?_cons_zero, List.getElem?_cons_succ, LdI_some, LdB_some, LdStr_some, LdP_some, LdSl_some, LdM_some, Nat.zero_add, Br_t, Br_f]
  refine brd (fun hlt => ?_) (fun hge => ?_)
  · have hk2 : k < (lsN ls p).length := by omega
    refine (hlr.keep B4).sv hln rfl (k := p) (by omega) fun b o c0 => ?_
    simp only [c0, Addr.add_mk, List.getElem?_toArray, List.getElem?_cons_zero, List.getElem?_cons_succ, LdI_some, LdB_some, LdStr_some, LdP_some, LdSl_some, LdM_some, Nat.zero_add, Br_t, Br_f]
    refine z2.pl z1 rfl (k := k) hk2 fun b o c0 c1 c2 c3 => ?_
    simp only [Addr.add_mk, c1, Addr.add_mk, List.getElem?_toArray, List.getElem?_cons_zero, List.getElem?_cons_succ, LdI_some, LdB_some, LdStr_some, LdP_some, LdSl_some, LdM_some, Nat.zero_add, Br_t, Br_f]
    refine brd (fun hlt2 => ⟨hb4, hk2⟩) (fun hge2 => ⟨B4, ?_⟩)
    have := pS_skip (ps := ps) (ls := ls) (p := p) (up := up) ((lsN ls p).length - k) k (by omega) fun i hi h1 h2 => nofit i hi (.inr ?_)
    · rw [show k + ((lsN ls p).length - k) = (lsN ls p).length by omega, pS_all] at this
      rw [this]; exact hcn
    · rcases Nat.lt_or_eq_of_le h1 with h3 | h3
      · have := List.pairwise_iff_getElem.1 hvp.2 k i hk2 hi h3; omega
      · subst h3; omega
  · have hk2 : k = (lsN ls p).length := by omega
    subst hk2
    rw [pS_all] at hcn
    exact ⟨B4, hcn⟩
end Go.Proofs.Ytbocfedmdjkccaa
/- Twigs: the program's finder being made: words. -/
namespace Go.Proofs.Ytbocfedmdjkccaa
open Go.RowKit Go.Vc
set_option linter.unusedVariables false
set_option linter.unusedSimpArgs false
set_option maxRecDepth 100000
theorem prod_filter (ps : Pt) (ls : List (List Pl)) (i : Nat) (s : Sp) (l : List Nat) : prodL (l.map (wayT ps ls i s)) = prodL ((l.filter fun j => upN ps j == i).map fun j => under ps ls j s) := by
  induction l with
  | nil => rfl
  | cons j l ih =>
    rw [List.map_cons, prodL, ih, List.filter_cons, wayT]
    by_cases h : upN ps j = i
    · rw [if_pos h, if_pos (by simpa using h)]; rfl
    · rw [if_neg h, if_neg (by simpa using h), Nat.one_mul]
/-- The nodes right under one, from number m on. -/
def kidsN (ps : Pt) (q m : Nat) : List Nat := (List.range' m (ps.length - m)).filter fun j => upN ps j == q
theorem way_kids (ps : Pt) (ls : List (List Pl)) (i : Nat) (s : Sp) (hi : i < ps.length) : way ps ls i s = prodL ((kidsN ps i (i + 1)).map fun j => under ps ls j s) := by
  rw [way_eq _ _ _ _ hi, prod_filter]; rfl
theorem kidsN_step {ps : Pt} {q m : Nat} (hm : m < ps.length) : kidsN ps q m = if upN ps m = q then m :: kidsN ps q (m + 1) else kidsN ps q (m + 1) := by
  unfold kidsN
  rw [show ps.length - m = (ps.length - (m + 1)) + 1 by omega, List.range'_succ, List.filter_cons]
  by_cases h : upN ps m = q
  · rw [if_pos h, if_pos (by simpa using h)]
  · rw [if_neg h, if_neg (by simpa using h)]
theorem kidsN_lt {ps : Pt} {q m j : Nat} (h : j ∈ kidsN ps q m) : m ≤ j ∧ j < ps.length := by
  have := List.mem_range'_1.1 (List.mem_filter.1 h |>.1)
  omega
theorem kidsN_len (ps : Pt) (q m : Nat) : (kidsN ps q m).length ≤ ps.length := by
  have := List.length_filter_le (fun j => upN ps j == q) (List.range' m (ps.length - m))
  rw [List.length_range'] at this
  unfold kidsN; omega
/-- A row of slices. -/
def Row (w : World) (g : Nat) (vs : List Sv) (t : TypeId) : Prop := Blk w g (vs.map slv).toArray t
section
variable {w w1 : World} {g : Nat} {vs : List Sv} {t : TypeId}
theorem Row.keep (h : Row w g vs t) (hb : Below w.heap.size w w1) : Row w1 g vs t := Blk.keep h hb
theorem Row.cell (h : Row w g vs t) {k : Nat} (hk : k < vs.length) : w.cell? ⟨g, k, none⟩ = some (slv vs[k]) := by
  rw [Blk.cell h]; simp [hk]
theorem Row.idx (h : Row w g vs t) {n : Nat} (hn : n = vs.length) {i : Int} {k : Nat} (hi : i = k) (hk : k < vs.length) {K : Addr → Prop} (hK : w.cell? ⟨g, k, none⟩ = some (slv vs[k]) → K ⟨g, k, none⟩) : IdxA (some ⟨g, 0, none⟩) n i 1 K := by
  subst hi
  rw [IdxA_some (by omega) (by omega)]
  simp only [Addr.add_mk, Int.toNat_natCast, Nat.mul_one, Nat.zero_add]
  exact hK (h.cell hk)
theorem Row.st (h : Row w g vs t) {n : Nat} (hn : n = vs.length) {i : Int} {k : Nat} (hi : i = k) (hk : k < vs.length) (v : Sv) {u : Value} (hu : u = slv v) {K : World → Prop} (hK : ∀ w1, Row w1 g (vs.set k v) t → Fm (· = g) w w1 → K w1) : IdxA (some ⟨g, 0, none⟩) n i 1 fun q => St w q u K := by
  subst hi hu
  rw [IdxA_some (by omega) (by omega)]
  simp only [Addr.add_mk, Int.toNat_natCast, Nat.mul_one, Nat.zero_add]
  refine st_blk h (by simpa using hk) fun w1 b1 hf => hK w1 ?_ hf
  unfold Row
  rw [List.map_set]
  simpa using b1
theorem Row.rd (h : Row w g vs t) (hm : vs.length ≤ maxLen) : Rd LSv w (some ⟨g, 0, none⟩) vs.length vs := by
  refine ⟨Nat.le_refl _, hm, (fun h => by cases h), fun _ => ⟨g, 0, rfl, fun j u hj => ?_⟩⟩
  have e : ∀ l : List Sv, LSv.all l = l.map slv := by
    intro l
    unfold Lay.all
    induction l with
    | nil => rfl
    | cons x l ih => rw [List.flatMap_cons, List.map_cons, ih]; rfl
  rw [e] at hj
  rw [Nat.zero_add, Blk.cell h]
  simpa using hj
theorem zrow_nil (n : Nat) : zrow #[Value.slice none 0 0] (n * 1) = ((List.replicate n ((none, 0, 0) : Sv)).map slv).toArray := by
  unfold zrow
  refine Array.ext (by simp) fun i h1 h2 => ?_
  simp [Nat.mod_one]
end
/-- Numbers, read. -/
def KR (w : World) (ks : List Nat) (v : Sv) : Prop := v.2.1 = ks.length ∧ Rd LI w v.1 v.2.2 (ks.map Int.ofNat)
theorem KR.sub {w w1 : World} (h : Sub w w1) {ks : List Nat} {v : Sv} (k : KR w ks v) : KR w1 ks v := ⟨k.1, h.rd k.2⟩
theorem KR.nil (w : World) : KR w [] (none, 0, 0) := ⟨rfl, Rd.nil _ _⟩
theorem Cn.mul {c d : Nat} {n m : Int} {a b : Bool} (h : Cn c n a) (k : Cn d m b) (hc : 1 ≤ c) (hd : 1 ≤ d) : Cn (c * d) (n * m % 18446744073709551616) (bif a then true else bif b then true else decide (n * m / 18446744073709551616 > 0)) := by
  have h1 : c ≤ c * d := Nat.le_mul_of_pos_right _ hd
  have h2 : d ≤ c * d := Nat.le_mul_of_pos_left _ hc
  have hr : 0 ≤ n * m % 18446744073709551616 ∧ n * m % 18446744073709551616 < 18446744073709551616 := ⟨Int.emod_nonneg _ (by decide), Int.emod_lt_of_pos _ (by decide)⟩
  cases a with
  | true => exact ⟨(mO_t.2 (by have := h.full; omega)).symm, (by intro e; cases e), hr⟩
  | false =>
    cases b with
    | true => exact ⟨(mO_t.2 (by have := k.full; omega)).symm, (by intro e; cases e), hr⟩
    | false =>
      obtain ⟨rfl, h3⟩ := h.small
      obtain ⟨rfl, k3⟩ := k.small
      have e : (c : Int) * d = ((c * d : Nat) : Int) := by simp
      rw [e] at hr ⊢
      generalize c * d = x at *
      refine ⟨?_, ?_, hr⟩
      · simp only [cond_false, mO]
        rw [Bool.eq_iff_iff]; simp only [decide_eq_true_eq]; omega
      · intro e
        simp only [cond_false, decide_eq_false_iff_not] at e
        omega
/-- A box of one number, read. -/
theorem rd_box {α : Type} {L : Lay α} {w : World} {g : Nat} {v : Value} {t : TypeId} (h : Blk w g #[v] t) {x : α} (hx : L.cells x = [v]) : Rd L w (some ⟨g, 0, none⟩) 1 [x] := by
  refine ⟨by simp, by simp [maxLen], (fun h => by cases h), fun _ => ⟨g, 0, rfl, fun j u hj => ?_⟩⟩
  rw [L.all_one, hx] at hj
  rw [Nat.zero_add, h.cell]
  simpa using hj
theorem blk_grown {w w1 : World} {g : Nat} {c : Array Value} {t : TypeId} {r : Option Nat} (h : Blk w g c t) (hg : w.grownBy w1 r) (hr : r ≠ some g) : Blk w1 g c t := by
  have hl := h.lt
  unfold Blk at h ⊢
  rw [hg.block g hl (fun e => hr e.symm)]; exact h
/-- A finder that is being made: what stays. -/
structure Mk (w : World) (f gk gw gf hi n : Nat) (pv lv : Sv) (kvs wvs fvs : List Sv) : Prop where
  bf : Blk w f #[slv pv, slv lv, .slice (some ⟨gk, 0, none⟩) n n, .slice (some ⟨gw, 0, none⟩) n n, .slice (some ⟨gf, 0, none⟩) n n] 88
  rk : Row w gk kvs 92
  rw : Row w gw wvs 83
  rf : Row w gf fvs 91
  lk : kvs.length = n
  lw : wvs.length = n
  lf : fvs.length = n
  lt : f < hi ∧ gk < hi ∧ gw < hi ∧ gf < hi ∧ hi ≤ w.heap.size
  ne : f ≠ gk ∧ f ≠ gw ∧ f ≠ gf ∧ gk ≠ gw ∧ gk ≠ gf ∧ gw ≠ gf
section
variable {w w1 : World} {f gk gw gf hi n : Nat} {pv lv : Sv} {kvs wvs fvs : List Sv}
theorem Mk.keep (h : Mk w f gk gw gf hi n pv lv kvs wvs fvs) (hb : Below hi w w1) : Mk w1 f gk gw gf hi n pv lv kvs wvs fvs := by
  have hl := h.lt
  have hs := hb.size
  have b : ∀ {g c t}, Blk w g c t → g < hi → Blk w1 g c t := fun h1 h2 => h1.below hb h2
  exact ⟨b h.bf hl.1, b h.rk hl.2.1, b h.rw hl.2.2.1, b h.rf hl.2.2.2.1, h.lk, h.lw, h.lf, by omega, h.ne⟩
theorem Mk.setK (h : Mk w f gk gw gf hi n pv lv kvs wvs fvs) {kvs' : List Sv} (hf : Fm (· = gk) w w1) (hr : Row w1 gk kvs' 92) (hl : kvs'.length = n) : Mk w1 f gk gw gf hi n pv lv kvs' wvs fvs := by
  have hn := h.ne
  have hlt := h.lt
  have hs := hf.size
  exact ⟨hf.blk h.bf (by omega), hr, hf.blk h.rw (by omega), hf.blk h.rf (by omega), hl, h.lw, h.lf, by omega, hn⟩
theorem Mk.setW (h : Mk w f gk gw gf hi n pv lv kvs wvs fvs) {wvs' : List Sv} (hf : Fm (· = gw) w w1) (hr : Row w1 gw wvs' 83) (hl : wvs'.length = n) : Mk w1 f gk gw gf hi n pv lv kvs wvs' fvs := by
  have hn := h.ne
  have hlt := h.lt
  have hs := hf.size
  exact ⟨hf.blk h.bf (by omega), hf.blk h.rk (by omega), hr, hf.blk h.rf (by omega), h.lk, hl, h.lf, by omega, hn⟩
theorem Mk.setF (h : Mk w f gk gw gf hi n pv lv kvs wvs fvs) {fvs' : List Sv} (hf : Fm (· = gf) w w1) (hr : Row w1 gf fvs' 91) (hl : fvs'.length = n) : Mk w1 f gk gw gf hi n pv lv kvs wvs fvs' := by
  have hn := h.ne
  have hlt := h.lt
  have hs := hf.size
  exact ⟨hf.blk h.bf (by omega), hf.blk h.rk (by omega), hf.blk h.rw (by omega), hr, h.lk, h.lw, hl, by omega, hn⟩
end
end Go.Proofs.Ytbocfedmdjkccaa
/- Twigs: the program's finder being made: a count more. -/
namespace Go.Proofs.Ytbocfedmdjkccaa
open Go.RowKit Go.Vc
set_option linter.unusedVariables false
set_option linter.unusedSimpArgs false
set_option maxRecDepth 100000
theorem heldB {w : World} {base g i : Nat} {c : Array Value} {t : TypeId} {v : Value} (hg : Blk w g c t) (hl : g < base) (hi : c[i]? = some v) : Held (fun w' => Below base w w') ⟨g, i, none⟩ v := fun w1 h1 => by
  rw [(hg.below h1 hl).cell, hi]
theorem Row.heldB {w : World} {base g : Nat} {vs : List Sv} {t : TypeId} (h : Row w g vs t) (hl : g < base) {k : Nat} (hk : k < vs.length) : Held (fun w' => Below base w w') ⟨g, k, none⟩ (slv vs[k]) :=
  Go.Proofs.Ytbocfedmdjkccaa.heldB h hl (by simp [hk])
theorem row_at {g n k : Nat} (hk : k < n) {K : Addr → Prop} (h : K ⟨g, k, none⟩) : IdxA (some ⟨g, 0, none⟩) n (k : Int) 1 K := by
  rw [IdxA_some (by omega) (by omega)]
  simpa only [Addr.add_mk, Int.toNat_natCast, Nat.mul_one, Nat.zero_add] using h
theorem sure_push {f gk gw gf hi n : Nat} {pv lv : Sv} {kvs wvs fvs : List Sv} {w : World} {R : Ending → World → Prop} (hM : Mk w f gk gw gf hi n pv lv kvs wvs fvs) {p : Nat} (hp : p < n) {ns : List Int} {fs : List Bool} {base : Nat} (hb : hi ≤ base) (hbw : base ≤ w.heap.size)
    {u v : Sv} (hu : ∀ h : p < wvs.length, wvs[p] = u) (hv : ∀ h : p < fvs.length, fvs[p] = v)
    (ho : Own LH w base 41 (slv u) ns) (ho2 : Own LBo w base 4 (slv v) fs) (ha : Apart (slv u) (slv v)) (ha2 : Apart (slv v) (slv u)) (hl : ns.length ≤ 1048576) (hl2 : fs.length ≤ 1048576) {x : Int} {b : Bool} {J21 : World → Prop}
    (hJ : ∀ u1 v1 w1, Mk w1 f gk gw gf hi n pv lv kvs (wvs.set p u1) (fvs.set p v1) → Own LH w1 base 41 (slv u1) (ns ++ [x]) → Own LBo w1 base 4 (slv v1) (fs ++ [b]) → Apart (slv u1) (slv v1) → Apart (slv v1) (slv u1) → Fm (fun c => c = gw ∨ c = gf ∨ base ≤ c) w w1 → J21 w1) :
    F64_j20 (some ⟨f, 0, none⟩) (p : Int) J21 x b w R := by
  have hlt := hM.lt
  have hne := hM.ne
  have hd : Below w.heap.size w w.drew := (Below.refl _ _).drew
  have hpw : p < wvs.length := by rw [hM.lw]; exact hp
  have hpf : p < fvs.length := by rw [hM.lf]; exact hp
  have eu := hu hpw
  have ev := hv hpf
  unfold F64_j20
  refine ⟨fun w' => Below base w w', hd.mono hbw, ?_⟩
  simp only [NonNil_some, Addr.add_mk, Nat.zero_add]
  refine ⟨_, _, _, heldB hM.bf (by omega) rfl, _, _, _, heldB hM.bf (by omega) rfl, _, _, _, heldB hM.bf (by omega) rfl, row_at hp ⟨_, _, _, hM.rw.heldB (by omega) hpw, _, _, _, heldB hM.bf (by omega) rfl, row_at hp ⟨_, _, _, hM.rf.heldB (by omega) hpf, ?_⟩⟩⟩
  rw [eu, ev]
  have ho0 := ho.keep hd
  have ho20 := ho2.keep hd
  generalize w.drew = wd at *
  have hsd := hd.size
  have Bd : Below base w wd := hd.mono hbw
  have fin : ∀ (A1 : Option Addr) (c1 : Nat) (A2 : Option Addr) (c2 : Nat) (w10 : World), Below base w w10 → base ≤ w10.heap.size → w.heap.size ≤ w10.heap.size → Own LH w10 base 41 (.slice A1 (ns.length + 1) c1) (ns ++ [x]) → Own LBo w10 base 4 (.slice A2 (fs.length + 1) c2) (fs ++ [b]) →
      Apart (.slice A1 (ns.length + 1) c1) (.slice A2 (fs.length + 1) c2) → Apart (.slice A2 (fs.length + 1) c2) (.slice A1 (ns.length + 1) c1) →
      IdxA (some ⟨gw, 0, none⟩) n (p : Int) 1 fun q => St w10 q (.slice A1 (ns.length + 1) c1) fun w11 => IdxA (some ⟨gf, 0, none⟩) n (p : Int) 1 fun q => St w11 q (.slice A2 (fs.length + 1) c2) fun w12 => J21 w12 := by
    intro A1 c1 A2 c2 w10 hb10 hs10 hs10' o1 o2 a1 a2
    have hM10 := hM.keep (hb10.mono hb)
    refine hM10.rw.st hM.lw.symm rfl hpw (A1, ns.length + 1, c1) rfl fun w11 r11 f11 => ?_
    have hM11 := hM10.setW f11 r11 (by simpa using hM.lw)
    refine hM11.rf.st hM.lf.symm rfl hpf (A2, fs.length + 1, c2) rfl fun w12 r12 f12 => ?_
    have hM12 := hM11.setF f12 r12 (by simpa using hM.lf)
    refine hJ (A1, ns.length + 1, c1) (A2, fs.length + 1, c2) w12 hM12 ?_ ?_ a1 a2 ?_
    · exact own_fm (own_fm o1 f11 fun c hc hc2 => by have := (o1.lt c hc).1; omega) f12 fun c hc hc2 => by have := (o1.lt c hc).1; omega
    · exact own_fm (own_fm o2 f11 fun c hc hc2 => by have := (o2.lt c hc).1; omega) f12 fun c hc hc2 => by have := (o2.lt c hc).1; omega
    · have h1 : Fm (fun c => c = gw ∨ c = gf ∨ base ≤ c) w w10 := ⟨hb10.os, hb10.tape, hb10.output, hs10', fun c _ hm => hb10.block c (by omega)⟩
      exact (h1.trans (f11.mono fun c _ hc => .inl hc)).trans (f12.mono fun c _ hc => .inr (.inl hc))
  have rowlt : ∀ {W : World} {α : Type} {L : Lay α} {e : TypeId} {v : Value} {xs : List α} {g : Nat}, Own L W base e v xs → W.heap.size ≤ g → rowOf v ≠ some g := fun h hg e => by have := (h.lt _ e).2; omega
  constructor
  · refine al fun g1 w7 hb7 b7 hge7 => ?_
    have hs7 := hb7.size
    have B7 := Bd.trans (hb7.mono (by omega))
    refine ⟨B7, ?_, ?_⟩
    · refine ap (L := LH) (xs := ns) (ys := [x]) (base := base) (.int .u64 0) 8 rfl rfl rfl rfl (ho0.keep hb7) (rd_box b7 rfl) (by omega) (by simp; omega) (by simp [maxLen]; omega) fun A1 c1 w8 o1 gr1 => ⟨_, _, _, rfl, ?_⟩
      replace gr1 : Grew base _ _ (slv u) (.slice A1 (ns.length + 1) c1) := gr1
      have B8 := B7.trans gr1.below
      have hs8 := gr1.lt
      obtain ⟨ho28, ha28⟩ := gr1.own (ho20.keep hb7) ha2
      have ha8 : Apart (.slice A1 (ns.length + 1) c1) (slv v) := (by
        rcases gr1.row with h1 | h1 | ⟨g, h1, h2⟩
        · rcases ha with h3 | h3
          · exact .inl (h1.trans h3)
          · exact .inr (by rw [h1]; exact h3)
        · exact .inl h1
        · exact .inr (by rw [h1]; exact fun e => rowlt (ho20.keep hb7) h2 e.symm))
      refine ⟨B8, ?_⟩
      refine al fun g2 w9 hb9 b9 hge9 => ?_
      have hs9 := hb9.size
      have B9 := B8.trans (hb9.mono (by omega))
      refine ⟨B9, ?_⟩
      refine ap (L := LBo) (xs := fs) (ys := [b]) (base := base) (.bool false) 1 rfl rfl rfl rfl (ho28.keep hb9) (rd_box b9 rfl) (by omega) (by simp; omega) (by simp [maxLen]; omega) fun A2 c2 w10 o2 gr2 => ⟨_, _, _, rfl, ?_⟩
      replace gr2 : Grew base _ _ (slv v) (.slice A2 (fs.length + 1) c2) := gr2
      have B10 := B9.trans gr2.below
      have hs10 := gr2.lt
      obtain ⟨o1', ha1'⟩ := gr2.own (o1.keep hb9) ha8
      refine ⟨B10, fin A1 c1 A2 c2 w10 B10 (by omega) (by omega) o1' o2 ha1' ?_⟩
      rcases gr2.row with h1 | h1 | ⟨g, h1, h2⟩
      · rcases ha28 with h3 | h3
        · exact .inl (h1.trans h3)
        · exact .inr (by rw [h1]; exact h3)
      · exact .inl h1
      · exact .inr (by rw [h1]; exact fun e => rowlt (o1.keep hb9) h2 e.symm)
    · refine al fun g2 w8 hb8 b8 hge8 => ?_
      have hs8 := hb8.size
      have B8 := B7.trans (hb8.mono (by omega))
      have D8 := btr hb7 hb7.size hb8
      refine ⟨B8, ?_⟩
      refine ap (L := LH) (xs := ns) (ys := [x]) (base := base) (.int .u64 0) 8 rfl rfl rfl rfl (ho0.keep D8) (rd_box (b7.keep hb8) rfl) (by omega) (by simp; omega) (by simp [maxLen]; omega) fun A1 c1 w9 o1 gr1 => ⟨_, _, _, rfl, ?_⟩
      replace gr1 : Grew base _ _ (slv u) (.slice A1 (ns.length + 1) c1) := gr1
      have hs9 := gr1.lt
      have B9 := B8.trans gr1.below
      obtain ⟨ho29, ha29⟩ := gr1.own (ho20.keep D8) ha2
      have b9 := blk_grown b8 gr1.grown (rowlt ho0 (by omega))
      have ha9 : Apart (.slice A1 (ns.length + 1) c1) (slv v) := (by
        rcases gr1.row with h1 | h1 | ⟨g, h1, h2⟩
        · rcases ha with h3 | h3
          · exact .inl (h1.trans h3)
          · exact .inr (by rw [h1]; exact h3)
        · exact .inl h1
        · exact .inr (by rw [h1]; exact fun e => rowlt (ho20.keep D8) h2 e.symm))
      refine ⟨B9, ?_⟩
      refine ap (L := LBo) (xs := fs) (ys := [b]) (base := base) (.bool false) 1 rfl rfl rfl rfl ho29 (rd_box b9 rfl) (by omega) (by simp; omega) (by simp [maxLen]; omega) fun A2 c2 w10 o2 gr2 => ⟨_, _, _, rfl, ?_⟩
      replace gr2 : Grew base _ _ (slv v) (.slice A2 (fs.length + 1) c2) := gr2
      have B10 := B9.trans gr2.below
      have hs10 := gr2.lt
      obtain ⟨o1', ha1'⟩ := gr2.own o1 ha9
      refine ⟨B10, fin A1 c1 A2 c2 w10 B10 (by omega) (by omega) o1' o2 ha1' ?_⟩
      rcases gr2.row with h1 | h1 | ⟨g, h1, h2⟩
      · rcases ha29 with h3 | h3
        · exact .inl (h1.trans h3)
        · exact .inr (by rw [h1]; exact h3)
      · exact .inl h1
      · exact .inr (by rw [h1]; exact fun e => rowlt o1 h2 e.symm)
  · refine al fun g2 w7 hb7 b7 hge7 => ?_
    have hs7 := hb7.size
    have B7 := Bd.trans (hb7.mono (by omega))
    refine ⟨B7, ?_⟩
    refine al fun g1 w8 hb8 b8 hge8 => ?_
    have hs8 := hb8.size
    have B8 := B7.trans (hb8.mono (by omega))
    have D8 := btr hb7 hb7.size hb8
    refine ⟨B8, ?_⟩
    · refine ap (L := LH) (xs := ns) (ys := [x]) (base := base) (.int .u64 0) 8 rfl rfl rfl rfl (ho0.keep D8) (rd_box b8 rfl) (by omega) (by simp; omega) (by simp [maxLen]; omega) fun A1 c1 w9 o1 gr1 => ⟨_, _, _, rfl, ?_⟩
      replace gr1 : Grew base _ _ (slv u) (.slice A1 (ns.length + 1) c1) := gr1
      have hs9 := gr1.lt
      have B9 := B8.trans gr1.below
      obtain ⟨ho29, ha29⟩ := gr1.own (ho20.keep D8) ha2
      have b9 := blk_grown (b7.keep hb8) gr1.grown (rowlt ho0 (by omega))
      have ha9 : Apart (.slice A1 (ns.length + 1) c1) (slv v) := (by
        rcases gr1.row with h1 | h1 | ⟨g, h1, h2⟩
        · rcases ha with h3 | h3
          · exact .inl (h1.trans h3)
          · exact .inr (by rw [h1]; exact h3)
        · exact .inl h1
        · exact .inr (by rw [h1]; exact fun e => rowlt (ho20.keep D8) h2 e.symm))
      refine ⟨B9, ?_⟩
      refine ap (L := LBo) (xs := fs) (ys := [b]) (base := base) (.bool false) 1 rfl rfl rfl rfl ho29 (rd_box b9 rfl) (by omega) (by simp; omega) (by simp [maxLen]; omega) fun A2 c2 w10 o2 gr2 => ⟨_, _, _, rfl, ?_⟩
      replace gr2 : Grew base _ _ (slv v) (.slice A2 (fs.length + 1) c2) := gr2
      have B10 := B9.trans gr2.below
      have hs10 := gr2.lt
      obtain ⟨o1', ha1'⟩ := gr2.own o1 ha9
      refine ⟨B10, fin A1 c1 A2 c2 w10 B10 (by omega) (by omega) o1' o2 ha1' ?_⟩
      rcases gr2.row with h1 | h1 | ⟨g, h1, h2⟩
      · rcases ha29 with h3 | h3
        · exact .inl (h1.trans h3)
        · exact .inr (by rw [h1]; exact h3)
      · exact .inl h1
      · exact .inr (by rw [h1]; exact fun e => rowlt o1 h2 e.symm)
end Go.Proofs.Ytbocfedmdjkccaa
/- Twigs: the program's finder is made. -/
namespace Go.Proofs.Ytbocfedmdjkccaa
open Go.RowKit Go.Vc
set_option linter.unusedVariables false
set_option linter.unusedSimpArgs false
set_option maxRecDepth 100000
theorem Rd.e4H {w : World} {A : Option Addr} {c : Nat} {xs : List E4} {S : World → Prop} (h : Rd LE4 w A c xs) (hS : ∀ w1, S w1 → Below w.heap.size w w1) {n : Nat} (hn : n = xs.length) {i : Int} {k : Nat} (hi : i = k) (hk : k < xs.length) {K : Addr → Prop}
    (hK : ∀ b o, Held S ⟨b, o, none⟩ (.string xs[k].e.nm) → Held S ⟨b, o + 1, none⟩ (.bool xs[k].e.d) → Held S ⟨b, o + 2, none⟩ (.slice xs[k].e.sl.1 xs[k].e.sl.2.1 xs[k].e.sl.2.2) → Held S ⟨b, o + 3, none⟩ (.int .i64 xs[k].up) → K ⟨b, o, none⟩) : IdxA A n i 4 K := by
  subst hi
  refine h.held hS hn (by omega) (by omega) rfl fun b o hc => ?_
  simp only [Int.toNat_natCast] at hc
  exact hK b o (hc 0 _ rfl) (hc 1 _ rfl) (hc 2 _ rfl) (hc 3 _ rfl)
theorem RPs.up {w : World} {ps : Pt} {pv : Sv} (h : RPs w ps pv) : ∃ es, pv.2.1 = es.length ∧ Rd LE4 w pv.1 pv.2.2 es ∧ es.length = ps.length ∧ ∀ (k : Nat) (h1 : k < es.length), es[k].up = upN ps k := by
  obtain ⟨es, h1, h2, h3⟩ := h
  refine ⟨es, h1, h2, h3.len, fun k hk => ?_⟩
  have hk2 : k < ps.length := by rw [← h3.len]; exact hk
  rw [upN_get hk2]
  exact (h3.get k hk2 hk).2
theorem mk_fd {w : World} {f gk gw gf hi : Nat} {ps : Pt} {ls : List (List Pl)} {pv lv : Sv} {kvs wvs fvs : List Sv} {j : Nat} (hM : Mk w f gk gw gf hi ps.length pv lv kvs wvs fvs) (hp : RPs w ps pv) (hl : RLs w ls lv) (hll : ls.length = ps.length) (h16 : ps.length ≤ 16)
    (hr : ∀ (q : Nat) (h1 : q < wvs.length) (h2 : q < fvs.length), j ≤ q → RW w ps ls q wvs[q] fvs[q]) : Fd w f ps ls j := by
  have l1 := hM.lw
  have l2 := hM.lf
  refine ⟨pv, lv, (some ⟨gk, 0, none⟩, ps.length, ps.length), (some ⟨gw, 0, none⟩, ps.length, ps.length), (some ⟨gf, 0, none⟩, ps.length, ps.length), _, wvs, fvs, ⟨hM.bf, hp, hl, l1.symm, ?_, l1, l2.symm, ?_, l2, hll, hr⟩⟩
  · have := hM.rw.rd (by simp [maxLen]; omega)
    rw [l1] at this; exact this
  · have := hM.rf.rd (by simp [maxLen]; omega)
    rw [l2] at this; exact this
theorem sure_in {ps : Pt} (hu : UpOk ps) {ls : List (List Pl)} {pv lv : Sv} {p : Nat} (hpp : p < ps.length) (h16 : ps.length ≤ 16) (hv : Vd ls) (hll : ls.length = ps.length) {w : World} {R : Ending → World → Prop} (hp : RPs w ps pv) (hl : RLs w ls lv)
    {f gk gw gf hi : Nat} {kvs wvs fvs : List Sv} {w3 : World} {L3 : Int → World → Prop} (hhi0 : w.heap.size ≤ hi) (hg0 : w.heap.size ≤ gk ∧ w.heap.size ≤ gw ∧ w.heap.size ≤ gf) (hb3 : Below w.heap.size w w3) (hM3 : Mk w3 f gk gw gf hi ps.length pv lv kvs wvs fvs)
    (hdone : ∀ (q : Nat) (h1 : q < wvs.length) (h2 : q < fvs.length), p + 1 ≤ q → RW (above hi w3) ps ls q wvs[q] fvs[q])
    (htodo : ∀ (q : Nat) (h1 : q < wvs.length) (h2 : q < fvs.length), q < p + 1 → wvs[q] = (none, 0, 0) ∧ fvs[q] = (none, 0, 0))
    (hkids : ∀ (q : Nat) (h1 : q < kvs.length), KR (above hi w3) (kidsN ps q p) kvs[q])
    (hL : ∀ wvs' fvs' w', Below w.heap.size w w' → Mk w' f gk gw gf hi ps.length pv lv kvs wvs' fvs' → (∀ (q : Nat) (h1 : q < wvs'.length) (h2 : q < fvs'.length), p ≤ q → RW (above hi w') ps ls q wvs'[q] fvs'[q]) →
      (∀ (q : Nat) (h1 : q < wvs'.length) (h2 : q < fvs'.length), q < p → wvs'[q] = (none, 0, 0) ∧ fvs'[q] = (none, 0, 0)) → (∀ (q : Nat) (h1 : q < kvs.length), KR (above hi w') (kidsN ps q p) kvs[q]) → InR .i64 ((p : Int) - 1) ∧ L3 ((p : Int) - 1) w') :
    F64_j7 lv.1 lv.2.1 (some ⟨f, 0, none⟩) L3 (p : Int) w3 R := by
  obtain ⟨hlen, lvs, hln, hlr, hls⟩ := id hl
  have hlvs := hls.len
  have hpl : p < ls.length := by omega
  have hlp : lsN ls p = ls[p] := lsN_get hpl
  have hvp := hv ls[p] (List.getElem_mem _)
  rw [← hlp] at hvp
  have hl3 : ∀ {w'}, Below w.heap.size w w' → (lsN ls p).length ≤ 1048576 ∧ lvs[p].2.1 = (lsN ls p).length ∧ Rd LPl w' lvs[p].1 lvs[p].2.2 (lsN ls p) := fun hb => by
    obtain ⟨z0, z1, z2⟩ := (hls.keep hb).get p hpl (by omega)
    rw [hlp]; exact ⟨z0, z1, z2⟩
  have hlt3 := hM3.lt
  have hne3 := hM3.ne
  have hlk := hM3.lk
  have hlw := hM3.lw
  have hlf := hM3.lf
  have hpk : p < kvs.length := by omega
  have hpw : p < wvs.length := by omega
  have hpf : p < fvs.length := by omega
  have hs3 := hb3.size
  have hself : kidsN ps p p = kidsN ps p (p + 1) := by rw [kidsN_step hpp, if_neg (by have := hu p hpp; omega)]
  unfold F64_j7
  refine (hlr.keep hb3).sv hln rfl (k := p) (by omega) fun b o c0 => ?_
  simp only [c0, Addr.add_mk, List.getElem?_toArray, List.getElem?_cons_zero, List.getElem?_cons_succ, LdI_some, LdB_some, LdStr_some, LdP_some, LdSl_some, LdM_some, Nat.zero_add, Br_t, Br_f]
  obtain ⟨z0, z1, -⟩ := hl3 hb3
  have State : True := trivial
  refine ⟨fun i w' => ∃ (k : Nat) (u v : Sv) (ns : List Int) (fs : List Bool), i = k ∧ k ≤ (lsN ls p).length ∧ Below w.heap.size w w' ∧ Mk w' f gk gw gf hi ps.length pv lv kvs (wvs.set p u) (fvs.set p v) ∧
      Own LH w' w3.heap.size 41 (slv u) ns ∧ Own LBo w' w3.heap.size 4 (slv v) fs ∧ Apart (slv u) (slv v) ∧ Apart (slv v) (slv u) ∧ Fm (fun c => c = gw ∨ c = gf) w3 w' ∧ ns.length = k ∧ fs.length = k ∧
      ∀ (i : Nat) (h : i < (lsN ls p).length) (h1 : i < ns.length) (h2 : i < fs.length), Cn (way ps ls p (lsN ls p)[i].s) ns[i] fs[i], fun i _ => (lsN ls p).length - i.toNat,
    ⟨0, (none, 0, 0), (none, 0, 0), [], [], rfl, by omega, hb3, ?_, Own.nil _ _ _ _, Own.nil _ _ _ _, .inl rfl, .inl rfl, Fm.refl _ _, rfl, rfl, fun i _ h1 _ => by simp at h1⟩, ?_⟩
  · have e1 : wvs.set p (none, 0, 0) = wvs := by rw [← (htodo p hpw hpf (by omega)).1, List.set_getElem_self]
    have e2 : fvs.set p (none, 0, 0) = fvs := by rw [← (htodo p hpw hpf (by omega)).2, List.set_getElem_self]
    rw [e1, e2]; exact hM3
  rintro i w4 ⟨k, u, v, ns, fs, rfl, hk, hb4, hM4, ho4, ho42, ha4, ha42, hf4, hns, hfs, hcn⟩
  unfold F64_l8
  have hmv4 : Sub (above hi w3) (above hi w4) := above_fm hf4 (Nat.le_refl _) fun b hb hm => by omega
  have hs4 := hf4.size
  refine brd (fun hlt => ?_) (fun hge => ?_)
  · have hk2 : k < (lsN ls p).length := by omega
    refine ⟨fun w' => ∃ (u v : Sv) (ns : List Int) (fs : List Bool), Below w.heap.size w w' ∧ Mk w' f gk gw gf hi ps.length pv lv kvs (wvs.set p u) (fvs.set p v) ∧
      Own LH w' w3.heap.size 41 (slv u) ns ∧ Own LBo w' w3.heap.size 4 (slv v) fs ∧ Apart (slv u) (slv v) ∧ Apart (slv v) (slv u) ∧ Fm (fun c => c = gw ∨ c = gf) w3 w' ∧ ns.length = k + 1 ∧ fs.length = k + 1 ∧
      ∀ (i : Nat) (h : i < (lsN ls p).length) (h1 : i < ns.length) (h2 : i < fs.length), Cn (way ps ls p (lsN ls p)[i].s) ns[i] fs[i], ?_, ?_⟩
    · rintro w' ⟨u, v, ns, fs, q1, q2, q3, q4, q5, q6, q7, q8, q9, q10⟩
      unfold F64_j21
      exact ⟨inR_i64 (by omega) (by omega), ⟨k + 1, u, v, ns, fs, by simp, by omega, q1, q2, q3, q4, q5, q6, q7, q8, q9, q10⟩, by dsimp only; omega⟩
    obtain ⟨-, -, z2⟩ := hl3 hb4
    refine z2.pl z1 rfl (k := k) hk2 fun b o c0 c1 c2 c3 => ?_
    simp only [Addr.add_mk, c0, c1, c2, c3, Addr.add_mk, List.getElem?_toArray, List.getElem?_cons_zero, List.getElem?_cons_succ, LdI_some, LdB_some, LdStr_some, LdP_some, LdSl_some, LdM_some, Nat.zero_add, Br_t, Br_f]
    refine al4 fun g8 w5 hb5 b8 hge8 => ?_
    have B5 := btr hb4 hb4.size hb5
    have hs5 := hb5.size
    have hM5 := hM4.keep (hb5.mono hM4.lt.2.2.2.2)
    have hx := canB_l (hvp.1 _ (List.getElem_mem hk2))
    generalize hxx : (lsN ls p)[k] = x at *
    refine ⟨fun n full w' => Below w5.heap.size w5 w' ∧ Cn (way ps ls p x.s) n full, ?_, ?_⟩
    · rintro n full w6 ⟨hb6, hc6⟩
      have D6 := btr hb5 hb5.size hb6
      have hM6 := hM4.keep (D6.mono hM4.lt.2.2.2.2)
      have hs6 := hb6.size
      refine sure_push hM6 hpp (base := w3.heap.size) (u := u) (v := v) hlt3.2.2.2.2 (by omega) (fun h => by rw [List.getElem_set_self]) (fun h => by rw [List.getElem_set_self]) (ho4.keep D6) (ho42.keep D6) ha4 ha42 (by omega) (by omega) fun u1 v1 w7 hM7 o1 o2 a1 a2 hf7 => ?_
      rw [List.set_set, List.set_set] at hM7
      have hb6' := btr hb4 hb4.size D6
      refine ⟨u1, v1, ns ++ [n], fs ++ [full], ?_, hM7, o1, o2, a1, a2, ?_, by simp [hns], by simp [hfs], fun i h h1 h2 => ?_⟩
      · refine hb6'.trans (hf7.toBelow hb6'.size fun b hb hm => ?_)
        have h1 := hb3.size
        have : w.heap.size ≤ hi := hhi0
        rcases hm with hm | hm | hm
        · have := hg0.2.1; omega
        · have := hg0.2.2; omega
        · omega
      · exact (hf4.tr D6).trans2 hf7 fun b hb hm => by omega
      · rw [List.length_append, List.length_singleton] at h1
        rcases Nat.lt_or_ge i k with h3 | h3
        · rw [List.getElem_append_left (by omega), List.getElem_append_left (by omega)]; exact hcn i h (by omega) (by omega)
        · obtain rfl : i = k := by omega
          rw [List.getElem_append_right (by omega), List.getElem_append_right (by omega)]
          simp only [hns, hfs, Nat.sub_self, List.getElem_singleton, hxx]; exact hc6
    simp only [NonNil_some, Addr.add_mk, Nat.zero_add, hM5.bf.cell, List.getElem?_toArray, List.getElem?_cons_zero, List.getElem?_cons_succ, Addr.add_mk, List.getElem?_toArray, List.getElem?_cons_zero, List.getElem?_cons_succ, LdI_some, LdB_some, LdStr_some, LdP_some, LdSl_some, LdM_some, Nat.zero_add, Br_t, Br_f]
    refine hM5.rk.idx hlk.symm rfl hpk fun c0 => ?_
    simp only [c0, Addr.add_mk, List.getElem?_toArray, List.getElem?_cons_zero, List.getElem?_cons_succ, LdI_some, LdB_some, LdStr_some, LdP_some, LdSl_some, LdM_some, Nat.zero_add, Br_t, Br_f]
    obtain ⟨kn, kr⟩ := (hkids p hpk).sub (hmv4.trans (sub_of_only.trans (sub_below hb5)))
    rw [hself] at kn kr
    have hkl := kidsN_len ps p (p + 1)
    have hkm : ∀ j ∈ kidsN ps p (p + 1), p + 1 ≤ j ∧ j < ps.length := fun j hj => kidsN_lt hj
    have hway := way_kids ps ls p x.s hpp
    generalize kidsN ps p (p + 1) = K at *
    refine ⟨fun n full t w' => ∃ m : Nat, t = m ∧ m ≤ K.length ∧ Below w5.heap.size w5 w' ∧ Cn (prodL ((K.take m).map fun j => under ps ls j x.s)) n full, fun _ _ t _ => K.length - t.toNat, ⟨0, rfl, by omega, Below.refl _ _, by simpa [prodL] using Cn.one⟩, ?_⟩
    rintro n full t w6 ⟨m, rfl, hm, hb6, hc6⟩
    unfold F64_l12
    refine brd (fun hlt2 => ?_) (fun hge2 => ?_)
    · have hm2 : m < K.length := by omega
      have hnext : prodL ((K.take (m + 1)).map fun j => under ps ls j x.s) = prodL ((K.take m).map fun j => under ps ls j x.s) * under ps ls K[m] x.s := by
        rw [List.take_succ_eq_append_getElem hm2, List.map_append, prodL_append]; simp [prodL]
      have hzero : prodL ((K.take (m + 1)).map fun j => under ps ls j x.s) = 0 → way ps ls p x.s = 0 := fun hz => by
        rw [hway, ← List.take_append_drop (m + 1) K, List.map_append, prodL_append, hz, Nat.zero_mul]
      refine ⟨fun n' full' w' => Below w5.heap.size w5 w' ∧ Cn (prodL ((K.take (m + 1)).map fun j => under ps ls j x.s)) n' full', ?_, ?_⟩
      · rintro n' full' w' ⟨q1, q2⟩
        unfold F64_j19
        exact ⟨inR_i64 (by omega) (by omega), ⟨m + 1, by simp, by omega, q1, q2⟩, by dsimp only; omega⟩
      have B6 := btr B5 B5.size hb6
      have b86 := b8.keep hb6
      refine (kr.keep hb6).int (n := _) (by rw [kn]; simp) rfl (k := m) (by simpa using hm2) fun b o c0 => ?_
      simp only [Addr.add_mk, Nat.zero_add, Nat.add_assoc, Nat.reduceAdd, c0, b86.cell, List.getElem_map, List.getElem?_toArray, List.getElem?_cons_zero, List.getElem?_cons_succ, Addr.add_mk, List.getElem?_toArray, List.getElem?_cons_zero, List.getElem?_cons_succ, LdI_some, LdB_some, LdStr_some, LdP_some, LdSl_some, LdM_some, Nat.zero_add, Br_t, Br_f]
      obtain ⟨hj1, hj2⟩ := hkm K[m] (List.getElem_mem _)
      have hM6 := hM5.keep (hb6.mono hM5.lt.2.2.2.2)
      have D6 := btr hb5 hb5.size hb6
      have hfd : Fd w6 f ps ls (p + 1) := mk_fd hM6 (hp.keep B6) (hl.keep B6) hll h16 fun q h1 h2 hq => by
        rw [List.getElem_set_ne (by omega), List.getElem_set_ne (by omega)]
        exact (hdone q (by simpa using h1) (by simpa using h2) hq).sub (hmv4.trans (sub_of_only.trans (sub_below D6)))
      refine below_calls hj1 hj2 hv x.s hx.1 hfd fun d over w7 hb7 hc7 => ⟨_, _, rfl, ?_⟩
      refine mul64_calls n d hc6.2.2 hc7.2.2 ⟨_, _, rfl, ?_⟩
      have D7 := btr hb6 hb6.size hb7
      refine ⟨fun full2 w' => w7 = w' ∧ full2 = full ∧ 1 ≤ prodL ((K.take m).map fun j => under ps ls j x.s) ∧ 1 ≤ under ps ls K[m] x.s, ?_, ?_⟩
      · rintro _ _ ⟨rfl, rfl, q1, q2⟩
        unfold F64_j18
        have hmul := hc6.mul hc7 q1 q2
        rw [← hnext] at hmul
        refine br (fun e => ⟨D7, by subst e; exact hmul⟩) (fun e => ?_)
        subst e
        refine br (fun e => ⟨D7, by subst e; exact hmul⟩) (fun e => ⟨D7, by subst e; exact hmul⟩)
      · have z1 : ∀ {c : Nat} {n : Int}, Cn c n false → n = 0 → c = 0 := fun h e => by have := h.small.1; omega
        have z2 : ∀ {c : Nat} {n : Int} {b : Bool}, Cn c n b → (n ≠ 0 ∨ b = true) → 1 ≤ c := fun {c n b} h e => by
          cases b with
          | true => have := h.full; omega
          | false => have := h.small.1; rcases e with e | e; omega; cases e
        have dead : prodL ((K.take (m + 1)).map fun j => under ps ls j x.s) = 0 → Below w5.heap.size w5 w7 ∧ Cn (way ps ls p x.s) 0 false := fun e => ⟨D7, by rw [hzero e]; exact Cn.zero⟩
        refine bre (fun hd0 => ?_) (fun hd0 => ?_)
        · rw [brnot]
          refine br (fun ho0 => ?_) (fun ho0 => dead ?_)
          · (refine bre (fun hn0 => ?_) (fun hn0 => ⟨rfl, rfl, z2 hc6 (.inl hn0), z2 hc7 (.inr ho0)⟩)) <;> (rw [brnot]; refine br (fun hf0 => ⟨rfl, rfl, z2 hc6 (.inr hf0), z2 hc7 (.inr ho0)⟩) (fun hf0 => dead ?_)) <;> (subst hf0; rw [hnext, z1 hc6 hn0, Nat.zero_mul])
          · subst ho0; rw [hnext, z1 hc7 hd0, Nat.mul_zero]
        · (refine bre (fun hn0 => ?_) (fun hn0 => ⟨rfl, rfl, z2 hc6 (.inl hn0), z2 hc7 (.inl hd0)⟩)) <;> (rw [brnot]; refine br (fun hf0 => ⟨rfl, rfl, z2 hc6 (.inr hf0), z2 hc7 (.inl hd0)⟩) (fun hf0 => dead ?_)) <;> (subst hf0; rw [hnext, z1 hc6 hn0, Nat.zero_mul])
    · have hm2 : m = K.length := by omega
      subst hm2
      rw [List.take_length, ← hway] at hc6
      exact ⟨hb6, hc6⟩
  · have hk2 : k = (lsN ls p).length := by omega
    subst hk2
    refine hL (wvs.set p u) (fvs.set p v) w4 hb4 hM4 (fun q h1 h2 hq => ?_) (fun q h1 h2 hq => ?_) fun q h1 => (hkids q h1).sub hmv4
    · rcases Nat.lt_or_eq_of_le hq with h3 | h3
      · rw [List.getElem_set_ne (by omega), List.getElem_set_ne (by omega)]
        exact (hdone q (by simpa using h1) (by simpa using h2) h3).sub hmv4
      · subst h3
        rw [List.getElem_set_self, List.getElem_set_self]
        obtain ⟨e1, e2⟩ := (own_above ho4 hlt3.2.2.2.2).rd
        obtain ⟨e3, e4⟩ := (own_above ho42 hlt3.2.2.2.2).rd
        exact ⟨ns, fs, e1, e2, e3, e4, hns, hfs, hcn⟩
    · rw [List.getElem_set_ne (by omega), List.getElem_set_ne (by omega)]
      exact htodo q (by simpa using h1) (by simpa using h2) (by omega)
theorem sure_calls {ps : Pt} {ls : List (List Pl)} {pv lv : Sv} (hu : UpOk ps) (h1 : 0 < ps.length) (h16 : ps.length ≤ 16) (hv : Vd ls) (hll : ls.length = ps.length) {w : World} {R : Ending → World → Prop} (hp : RPs w ps pv) (hl : RLs w ls lv)
    (h : ∀ f w', Below w.heap.size w w' → Fd w' f ps ls 0 → R (.returned (.pointer (some ⟨f, 0, none⟩))) w') :
    Calls Try.prog 64 #[slv pv, slv lv] w R := by
  obtain ⟨es, hpn, hpr, hpl, hpu⟩ := hp.up
  have hpn2 : pv.2.1 = ps.length := by omega
  obtain ⟨pA, pN, pC⟩ := pv
  obtain rfl : pN = ps.length := hpn2
  obtain ⟨hlen, lvs, hln, hlr, hls⟩ := id hl
  have hlvs := hls.len
  refine ok64 pA ps.length pC lv.1 lv.2.1 lv.2.2 ?_
  unfold F64
  have hnil : ∀ m : Nat, (List.replicate m ((none, 0, 0) : Sv)).length = m := by simp
  refine ⟨fun fo w' => ∃ f gk gw gf, fo = some ⟨f, 0, none⟩ ∧ Below w.heap.size w w' ∧ w.heap.size ≤ f ∧ w.heap.size ≤ gk ∧ w.heap.size ≤ gw ∧ w.heap.size ≤ gf ∧ Mk w' f gk gw gf w'.heap.size ps.length (pA, ps.length, pC) lv (List.replicate ps.length (none, 0, 0)) (List.replicate ps.length (none, 0, 0)) (List.replicate ps.length (none, 0, 0)), ?_, ?_⟩
  · rintro _ w1 ⟨f, gk, gw, gf, rfl, hb1, hf0, hk0, hw0, hg0, hM1⟩
    unfold F64_j2
    generalize hhi : w1.heap.size = hi at hM1
    have hhi' : hi ≤ w1.heap.size := by omega
    have hrep : ∀ (q : Nat) (h1 : q < (List.replicate ps.length ((none, 0, 0) : Sv)).length), (List.replicate ps.length ((none, 0, 0) : Sv))[q] = (none, 0, 0) := fun q h1 => by simp
    refine ⟨inR_i64 (by omega) (by omega), ?_⟩
    refine ⟨fun pp w' => ∃ (j : Nat) (kvs wvs fvs : List Sv), pp = (j : Int) - 1 ∧ j ≤ ps.length ∧ Below w.heap.size w w' ∧ Mk w' f gk gw gf hi ps.length (pA, ps.length, pC) lv kvs wvs fvs ∧
        (∀ (q : Nat) (h1 : q < wvs.length) (h2 : q < fvs.length), j ≤ q → RW (above hi w') ps ls q wvs[q] fvs[q]) ∧
        (∀ (q : Nat) (h1 : q < wvs.length) (h2 : q < fvs.length), q < j → wvs[q] = (none, 0, 0) ∧ fvs[q] = (none, 0, 0)) ∧
        (∀ (q : Nat) (h1 : q < kvs.length), KR (above hi w') (kidsN ps q j) kvs[q]), fun pp _ => (pp + 1).toNat,
      ⟨ps.length, _, _, _, rfl, Nat.le_refl _, hb1, hM1, fun q h1 _ hq => by simp at h1; omega, fun q h1 h2 _ => ⟨hrep q h1, hrep q h2⟩, fun q h1 => ?_⟩, ?_⟩
    · rw [hrep q h1]
      have : kidsN ps q ps.length = [] := by simp [kidsN]
      rw [this]; exact KR.nil _
    rintro pp w2 ⟨j, kvs, wvs, fvs, rfl, hj, hb2, hM2, hdone, htodo, hkids⟩
    unfold F64_l3
    refine brd (fun hge => ?_) (fun hlt => ?_)
    · obtain ⟨p, rfl⟩ : ∃ p, j = p + 1 := ⟨j - 1, by omega⟩
      have ep : (((p + 1 : Nat) : Int) - 1) = (p : Int) := by omega
      rw [ep]
      have hpp : p < ps.length := by omega
      have hlt2 := hM2.lt
      have hne2 := hM2.ne
      refine ⟨fun w' => ∃ kvs', Below w.heap.size w w' ∧ Mk w' f gk gw gf hi ps.length (pA, ps.length, pC) lv kvs' wvs fvs ∧
        (∀ (q : Nat) (h1 : q < wvs.length) (h2 : q < fvs.length), p + 1 ≤ q → RW (above hi w') ps ls q wvs[q] fvs[q]) ∧
        (∀ (q : Nat) (h1 : q < kvs'.length), KR (above hi w') (kidsN ps q p) kvs'[q]), ?_, ?_⟩
      · rintro w3 ⟨kvs', hb3, hM3, hdone3, hkids3⟩
        exact sure_in hu hpp h16 hv hll hp hl (by have := hb1.size; omega) ⟨hk0, hw0, hg0⟩ hb3 hM3 hdone3 (fun q h1 h2 hq => htodo q h1 h2 (by omega)) hkids3 fun wvs' fvs' w' hb' hM' hd' ht' hk' => ⟨inR_i64 (by omega) (by omega), ⟨p, kvs', wvs', fvs', rfl, by omega, hb', hM', hd', ht', hk'⟩, by dsimp only; omega⟩
      · have hpe : p < es.length := by omega
        refine (hpr.keep hb2).e4 (n := ps.length) hpl.symm rfl (k := p) hpe fun b o c0 c1 c2 c3 => ?_
        simp only [Addr.add_mk, c3, Addr.add_mk, List.getElem?_toArray, List.getElem?_cons_zero, List.getElem?_cons_succ, LdI_some, LdB_some, LdStr_some, LdP_some, LdSl_some, LdM_some, Nat.zero_add, Br_t, Br_f]
        have hup := hu p hpp
        rw [hpu p hpe]
        have hstep : ∀ q, upN ps p ≠ (q : Nat) → kidsN ps q p = kidsN ps q (p + 1) := fun q hq => by rw [kidsN_step hpp, if_neg hq]
        refine brd (fun hge0 => ?_) (fun hneg => ?_)
        · obtain ⟨u, hu2⟩ : ∃ u : Nat, upN ps p = u := ⟨(upN ps p).toNat, by omega⟩
          have hup2 : u < p := by omega
          have hd : Below w2.heap.size w2 w2.drew := (Below.refl _ _).drew
          have hlk := hM2.lk
          have huk : u < kvs.length := by omega
          refine ⟨fun w' => Below w2.heap.size w2 w', hd, ?_⟩
          simp only [NonNil_some, Addr.add_mk, Nat.zero_add]
          refine ⟨_, _, _, blk_held hM2.bf (fun _ h => h) rfl, ?_⟩
          refine (hpr.keep hb2).e4H (fun _ h => h) (n := ps.length) hpl.symm rfl (k := p) hpe fun b o c0 c1 c2 c3 => ⟨_, c3, _, _, _, blk_held hM2.bf (fun _ h => h) rfl, ?_⟩
          refine (hpr.keep hb2).e4H (fun _ h => h) (n := ps.length) hpl.symm rfl (k := p) hpe fun b o c0 c1 c2 c3 => ⟨_, c3, ?_⟩
          rw [hpu p hpe, hu2]
          have hrowH : Held (fun w' => Below w2.heap.size w2 w') ⟨gk, u, none⟩ (slv kvs[u]) := blk_held hM2.rk (fun _ h => h) (by simp [huk])
          refine row_at (by omega) ⟨_, _, _, hrowH, ?_⟩
          refine al fun g5 w4 hb4 b4 hge4 => ⟨hd.trans hb4, ?_⟩
          have B4 := hd.trans hb4
          have hk4 := (hkids u huk).sub (sub_of_only.trans (sub_below B4))
          have hkl := kidsN_len ps u (p + 1)
          have hown4 : Own LI w4 w2.heap.size 3 (.slice (some ⟨g5, 0, none⟩) 1 1) [(p : Int)] := Own.lit' (L := LI) (xs := [(p : Int)]) b4 (Nat.le_trans hd.size hge4) rfl (by simp [maxLen])
          refine ap (L := LI) (xs := [(p : Int)]) (ys := (kidsN ps u (p + 1)).map Int.ofNat) (base := w2.heap.size) (.int .i64 0) 8 (by rw [hk4.1]; simp) rfl rfl rfl hown4 hk4.2 B4.size (by simp; omega) (by simp [maxLen]; omega) fun A5 c5 w5 o5 gr5 => ⟨_, _, _, rfl, B4.trans gr5.below, ?_⟩
          have B5 : Below w2.heap.size w2 w5 := B4.trans gr5.below
          have hM5 := hM2.keep (B5.mono hlt2.2.2.2.2)
          refine hM5.rk.st (by omega) rfl huk (A5, _, c5) rfl fun w6 r6 f6 => ?_
          have hM6 := hM5.setK f6 r6 (by simpa using hlk)
          have hmv : Sub (above hi w2) (above hi w6) := (above_fm (M := fun b => b = gk) (Fm.below B5 |>.trans f6) (Nat.le_refl _) fun b hb hm => by omega)
          refine ⟨_, hb2.trans ((B5.mono hb2.size).trans (f6.toBelow (by have := B5.size; have := hb2.size; omega) fun b hb hm => by omega)), hM6, fun q h1 h2 hq => (hdone q h1 h2 hq).sub hmv, fun q hq => ?_⟩
          rw [List.length_set] at hq
          by_cases hqu : q = u
          · subst hqu
            rw [List.getElem_set_self, kidsN_step hpp, if_pos hu2]
            have o6 := own_fm o5 f6 fun b hb hb2 => by have := (o5.lt b hb).1; omega
            obtain ⟨e1, e2⟩ := (own_above o6 (by omega : hi ≤ w2.heap.size)).rd
            exact ⟨by simp [Nat.add_comm], by simpa using e2⟩
          · rw [List.getElem_set_ne (by omega), hstep q (by omega)]
            exact (hkids q hq).sub hmv
        · refine ⟨kvs, hb2, hM2, hdone, fun q hq => ?_⟩
          rw [hstep q (by omega)]
          exact hkids q hq
    · obtain rfl : j = 0 := by omega
      refine h f w2 hb2 (mk_fd hM2 (hp.keep hb2) (hl.keep hb2) hll h16 fun q h1 h2 hq => (hdone q h1 h2 hq).sub sub_of_only)
  · refine ⟨fun _ => True, trivial, ?_⟩
    have hd : Below w.heap.size w w.drew := (Below.refl _ _).drew
    have hds : w.heap.size ≤ w.drew.heap.size := hd.size
    have en : ((ps.length : Nat) : Int).toNat = ps.length := by simp
    rw [en, zrow_nil]
    have fin : ∀ (gk gw gf : Nat) (w4 : World), Below w.heap.size w w4 → w.heap.size ≤ gk → w.heap.size ≤ gw → w.heap.size ≤ gf → gk ≠ gw → gk ≠ gf → gw ≠ gf → Row w4 gk (List.replicate ps.length (none, 0, 0)) 92 → Row w4 gw (List.replicate ps.length (none, 0, 0)) 83 → Row w4 gf (List.replicate ps.length (none, 0, 0)) 91 →
        Al w4 #[slv (pA, ps.length, pC), slv lv, .slice (some ⟨gk, 0, none⟩) ps.length ps.length, .slice (some ⟨gw, 0, none⟩) ps.length ps.length, .slice (some ⟨gf, 0, none⟩) ps.length ps.length] 88 fun g29 w1_5 =>
          ∃ f gk gw gf, some g29 = some ⟨f, 0, none⟩ ∧ Below w.heap.size w w1_5 ∧ w.heap.size ≤ f ∧ w.heap.size ≤ gk ∧ w.heap.size ≤ gw ∧ w.heap.size ≤ gf ∧ Mk w1_5 f gk gw gf w1_5.heap.size ps.length (pA, ps.length, pC) lv (List.replicate ps.length (none, 0, 0)) (List.replicate ps.length (none, 0, 0)) (List.replicate ps.length (none, 0, 0)) := by
      intro gk gw gf w4 hb4 a1 a2 a3 n1 n2 n3 r1 r2 r3
      refine al fun f w5 hb5 b5 hge5 => ?_
      have hs5 := hb5.size
      have l1 := Blk.lt r1
      have l2 := Blk.lt r2
      have l3 := Blk.lt r3
      have l5 := b5.lt
      have hs4 := hb4.size
      exact ⟨f, gk, gw, gf, rfl, btr hb4 hb4.size hb5, by omega, a1, a2, a3, ⟨b5, r1.keep hb5, r2.keep hb5, r3.keep hb5, hnil _, hnil _, hnil _, by omega, by omega⟩⟩
    refine ⟨?_, ?_, ?_⟩
    · refine ⟨by omega, by omega, by omega, ?_⟩
      refine al fun gk y1 hy1 r1 gey1 => ?_; have sy1 := hy1.size; have ly1 := Blk.lt r1
      constructor
      · refine ⟨by omega, by omega, by omega, ?_⟩
        refine al fun gw y2 hy2 r2 gey2 => ?_; have sy2 := hy2.size; have ly2 := Blk.lt r2
        refine ⟨by omega, by omega, by omega, ?_⟩
        refine al fun gf y3 hy3 r3 gey3 => ?_; have sy3 := hy3.size; have ly3 := Blk.lt r3
        have B3 := hd.trans ((hy1.mono hds).trans ((hy2.mono (by omega)).trans (hy3.mono (by omega))))
        have q1 := (r1.keep hy2).keep hy3
        have q2 := r2.keep hy3
        exact fin gk gw gf y3 B3 (by omega) (by omega) (by omega) (by omega) (by omega) (by omega) q1 q2 r3
      · refine ⟨by omega, by omega, by omega, ?_⟩
        refine al fun gf y2 hy2 r2 gey2 => ?_; have sy2 := hy2.size; have ly2 := Blk.lt r2
        refine ⟨by omega, by omega, by omega, ?_⟩
        refine al fun gw y3 hy3 r3 gey3 => ?_; have sy3 := hy3.size; have ly3 := Blk.lt r3
        have B3 := hd.trans ((hy1.mono hds).trans ((hy2.mono (by omega)).trans (hy3.mono (by omega))))
        have q1 := (r1.keep hy2).keep hy3
        have q2 := r2.keep hy3
        exact fin gk gw gf y3 B3 (by omega) (by omega) (by omega) (by omega) (by omega) (by omega) q1 r3 q2
    · refine ⟨by omega, by omega, by omega, ?_⟩
      refine al fun gw y1 hy1 r1 gey1 => ?_; have sy1 := hy1.size; have ly1 := Blk.lt r1
      constructor
      · refine ⟨by omega, by omega, by omega, ?_⟩
        refine al fun gk y2 hy2 r2 gey2 => ?_; have sy2 := hy2.size; have ly2 := Blk.lt r2
        refine ⟨by omega, by omega, by omega, ?_⟩
        refine al fun gf y3 hy3 r3 gey3 => ?_; have sy3 := hy3.size; have ly3 := Blk.lt r3
        have B3 := hd.trans ((hy1.mono hds).trans ((hy2.mono (by omega)).trans (hy3.mono (by omega))))
        have q1 := (r1.keep hy2).keep hy3
        have q2 := r2.keep hy3
        exact fin gk gw gf y3 B3 (by omega) (by omega) (by omega) (by omega) (by omega) (by omega) q2 q1 r3
      · refine ⟨by omega, by omega, by omega, ?_⟩
        refine al fun gf y2 hy2 r2 gey2 => ?_; have sy2 := hy2.size; have ly2 := Blk.lt r2
        refine ⟨by omega, by omega, by omega, ?_⟩
        refine al fun gk y3 hy3 r3 gey3 => ?_; have sy3 := hy3.size; have ly3 := Blk.lt r3
        have B3 := hd.trans ((hy1.mono hds).trans ((hy2.mono (by omega)).trans (hy3.mono (by omega))))
        have q1 := (r1.keep hy2).keep hy3
        have q2 := r2.keep hy3
        exact fin gk gw gf y3 B3 (by omega) (by omega) (by omega) (by omega) (by omega) (by omega) r3 q1 q2
    · refine ⟨by omega, by omega, by omega, ?_⟩
      refine al fun gf y1 hy1 r1 gey1 => ?_; have sy1 := hy1.size; have ly1 := Blk.lt r1
      constructor
      · refine ⟨by omega, by omega, by omega, ?_⟩
        refine al fun gk y2 hy2 r2 gey2 => ?_; have sy2 := hy2.size; have ly2 := Blk.lt r2
        refine ⟨by omega, by omega, by omega, ?_⟩
        refine al fun gw y3 hy3 r3 gey3 => ?_; have sy3 := hy3.size; have ly3 := Blk.lt r3
        have B3 := hd.trans ((hy1.mono hds).trans ((hy2.mono (by omega)).trans (hy3.mono (by omega))))
        have q1 := (r1.keep hy2).keep hy3
        have q2 := r2.keep hy3
        exact fin gk gw gf y3 B3 (by omega) (by omega) (by omega) (by omega) (by omega) (by omega) q2 r3 q1
      · refine ⟨by omega, by omega, by omega, ?_⟩
        refine al fun gw y2 hy2 r2 gey2 => ?_; have sy2 := hy2.size; have ly2 := Blk.lt r2
        refine ⟨by omega, by omega, by omega, ?_⟩
        refine al fun gk y3 hy3 r3 gey3 => ?_; have sy3 := hy3.size; have ly3 := Blk.lt r3
        have B3 := hd.trans ((hy1.mono hds).trans ((hy2.mono (by omega)).trans (hy3.mono (by omega))))
        have q1 := (r1.keep hy2).keep hy3
        have q2 := r2.keep hy3
        exact fin gk gw gf y3 B3 (by omega) (by omega) (by omega) (by omega) (by omega) (by omega) r3 q2 q1
end Go.Proofs.Ytbocfedmdjkccaa
/- Twigs: the program's matches: what is kept while they are gone through. -/
namespace Go.Proofs.Ytbocfedmdjkccaa
open Go.RowKit Go.Vc
set_option linter.unusedVariables false
set_option linter.unusedSimpArgs false
set_option maxRecDepth 100000
/-- A block that is these cells, of whatever type. -/
def Bk (w : World) (b : Nat) (c : Array Value) : Prop := ∃ t, Blk w b c t
section
variable {w w1 : World} {b : Nat} {c : Array Value}
theorem Blk.bk {t : TypeId} (h : Blk w b c t) : Bk w b c := ⟨t, h⟩
theorem Bk.cell (h : Bk w b c) (i : Nat) : w.cell? ⟨b, i, none⟩ = c[i]? := by obtain ⟨t, h⟩ := h; exact h.cell i
theorem Bk.lt (h : Bk w b c) : b < w.heap.size := by obtain ⟨t, h⟩ := h; exact h.lt
theorem Bk.keep (h : Bk w b c) (hb : Below w.heap.size w w1) : Bk w1 b c := by obtain ⟨t, h⟩ := h; exact ⟨t, h.keep hb⟩
theorem Bk.below {B : Nat} (h : Bk w b c) (hb : Below B w w1) (hl : b < B) : Bk w1 b c := by obtain ⟨t, h⟩ := h; exact ⟨t, h.below hb hl⟩
theorem Bk.fm {M : Nat → Prop} (h : Bk w b c) (hf : Fm M w w1) (hm : ¬ M b) : Bk w1 b c := by obtain ⟨t, h⟩ := h; exact ⟨t, hf.blk h hm⟩
theorem bk_held {S : World → Prop} {i : Nat} {v : Value} (hg : Bk w b c) (hS : ∀ w1, S w1 → Below w.heap.size w w1) (hi : c[i]? = some v) : Held S ⟨b, i, none⟩ v := fun w1 h1 => by
  rw [(hg.keep (hS w1 h1)).cell, hi]
theorem st_bk {i : Nat} {v : Value} {K : World → Prop} (hg : Bk w b c) (hi : i < c.size) (h : ∀ w1, Bk w1 b (c.setIfInBounds i v) → Fm (· = b) w w1 → K w1) : St w ⟨b, i, none⟩ v K := by
  obtain ⟨t, hg⟩ := hg
  exact st_blk hg hi fun w1 b1 hf => h w1 ⟨t, b1⟩ hf
end
theorem OMs.fm {w w1 : World} {lo hi : Nat} {ls : List (List Int)} {v : Sv} {vs : List Sv} (h : OMs w lo hi ls v vs) {M : Nat → Prop} (hf : Fm M w w1) (hm : ∀ b, lo ≤ b → ¬ M b) {hi' : Nat} (hh : hi ≤ hi') : OMs w1 lo hi' ls v vs :=
  ⟨own_fm h.own hf fun b hb => hm b (h.own.lt b hb).1, h.len, h.small, fun b hb => Nat.lt_of_lt_of_le (h.row b hb) hh, fun i h1 h2 => own_fm (h.each i h1 h2) hf fun b hb => hm b ((h.each i h1 h2).lt b hb).1, fun u hu b hb => Nat.lt_of_lt_of_le (h.rows u hu b hb) hh, h.pw, h.out⟩
theorem OMs.keep {w w1 : World} {lo hi : Nat} {ls : List (List Int)} {v : Sv} {vs : List Sv} (h : OMs w lo hi ls v vs) (hb : Below w.heap.size w w1) {hi' : Nat} (hh : hi ≤ hi') : OMs w1 lo hi' ls v vs :=
  ⟨h.own.keep hb, h.len, h.small, fun b hb => Nat.lt_of_lt_of_le (h.row b hb) hh, fun i h1 h2 => (h.each i h1 h2).keep hb, fun u hu b hb => Nat.lt_of_lt_of_le (h.rows u hu b hb) hh, h.pw, h.out⟩
/-- One match more. -/
theorem oms_push {w : World} {lo hi : Nat} {ls : List (List Int)} {v m : Sv} {vs : List Sv} {one : List Int} (h : OMs w lo hi ls v vs) (hlo : lo ≤ w.heap.size) (hhi : hi ≤ w.heap.size) (hm : Own LH w hi 75 (slv m) one) (hlh : lo ≤ hi) (h1 : one.length ≤ 1048576) (hl : ls.length ≤ 1048576) {K : Value → World → Prop}
    (hK : ∀ A' c' w1, OMs w1 lo w1.heap.size (ls ++ [one]) (A', ls.length + 1, c') (vs ++ [m]) → Below lo w w1 → Fm (fun b => rowOf (slv v) = some b) w w1 → (∀ b, rowOf (.slice A' (ls.length + 1) c') = some b → rowOf (slv v) = some b ∨ w.heap.size ≤ b) → K (.slice A' (ls.length + 1) c') w1) :
    Al w #[slv m] 53 fun g w1 => Raw Try.prog (Builtin.append_ #[31, 31] 31 #[slv v, .slice (some g) 1 1]) w1 K := by
  have hlen := h.len
  rw [← hlen] at hl hK
  have apart_m : ∀ (u : Value), (∀ b, rowOf u = some b → b < hi) → Apart (slv m) u := fun u hu => by
    cases hr : rowOf (slv m) with
    | none => exact .inl hr
    | some b =>
      refine .inr ?_
      rw [hr]
      intro e
      have := (hm.lt b hr).1
      have := hu b e.symm
      omega
  refine ap1 (L := LSv) (x := m) (.slice none 0 0) 24 rfl rfl rfl rfl h.own hlo (by omega) (by simp [maxLen]; omega) fun A' c' w1 ho hg => hK A' c' w1 ?_ hg.below (Fm.grown hg.grown fun b hb => hb) (fun b hb => by
    rcases hg.row with h1 | h1 | ⟨g, h1, h2⟩
    · rw [h1] at hb; exact .inl hb
    · rw [h1] at hb; cases hb
    · rw [h1] at hb; cases hb; exact .inr h2)
  have hsz := hg.lt
  have hrow1 : ∀ b, rowOf (.slice A' (vs.length + 1) c') = some b → b < w1.heap.size := fun b hb => (ho.lt b hb).2
  have key : ∀ (i : Nat) (hi' : i < ls.length) (hi2 : i < vs.length), Own LH w1 lo 75 (slv vs[i]) ls[i] ∧ Apart (slv vs[i]) (.slice A' (vs.length + 1) c') := fun i h1 h2 => hg.own (h.each i h1 h2) (h.out _ (List.getElem_mem _))
  obtain ⟨km1, km2⟩ := hg.own hm (apart_m _ h.row)
  refine ⟨ho, by simp [hlen], fun l hl => ?_, hrow1, fun i h1 h2 => ?_, fun u hu b hb => ?_, fun i j hi hj hij => ?_, fun u hu => ?_⟩
  · rcases List.mem_append.1 hl with hl | hl
    · exact h.small l hl
    · rw [List.mem_singleton] at hl; subst hl; assumption
  · rw [List.length_append, List.length_singleton] at h1
    rcases Nat.lt_or_ge i ls.length with h3 | h3
    · rw [List.getElem_append_left h3, List.getElem_append_left (by omega)]
      exact (key i h3 (by omega)).1
    · obtain rfl : i = ls.length := by omega
      rw [List.getElem_append_right (by omega), List.getElem_append_right (by omega)]
      simp only [hlen, Nat.sub_self, List.getElem_singleton]
      exact km1.rebase fun b hb => by have := (km1.lt b hb).1; omega
  · rcases List.mem_append.1 hu with hu | hu
    · exact Nat.lt_of_lt_of_le (h.rows u hu b hb) (by omega)
    · rw [List.mem_singleton] at hu; subst hu; exact (km1.lt b hb).2
  · rw [List.length_append, List.length_singleton] at hi hj
    rw [List.getElem_append_left (by omega : i < vs.length)]
    rcases Nat.lt_or_ge j vs.length with h3 | h3
    · rw [List.getElem_append_left h3]; exact h.pw i j (by omega) h3 hij
    · obtain rfl : j = vs.length := by omega
      rw [List.getElem_append_right (by omega)]
      simp only [Nat.sub_self, List.getElem_singleton]
      exact apart_m _ fun b hb => h.rows _ (List.getElem_mem _) b hb
  · rcases List.mem_append.1 hu with hu | hu
    · obtain ⟨i, hi2, rfl⟩ := List.mem_iff_getElem.1 hu
      exact (key i (by omega) hi2).2
    · rw [List.mem_singleton] at hu; subst hu; exact km2
/-- The blocks of a search. -/
structure Bx where
  gm : Nat
  gfb : Nat
  gl : Nat
  gmo : Nat
  c0 : Nat
  c1 : Nat
  g11 : Nat
  c2 : Nat
  c3 : Nat
  lo : Nat
def Bx.tell (B : Bx) : Value := .func (.func 54) #[] #[.pointer (some ⟨B.gl, 0, none⟩), .pointer (some ⟨B.gm, 0, none⟩), .pointer (some ⟨B.gmo, 0, none⟩), .pointer (some ⟨B.gfb, 0, none⟩)]
def Bx.goes (B : Bx) : Value := .func (.func 70) #[] #[.pointer (some ⟨B.c0, 0, none⟩), .pointer (some ⟨B.c1, 0, none⟩), .pointer (some ⟨B.c2, 0, none⟩), .pointer (some ⟨B.c3, 0, none⟩)]
/-- What is kept while the matches are gone through. -/
structure FI (wL : World) (f : Nat) (ps : Pt) (ls : List (List Pl)) (most : Int) (B : Bx) (w : World) (ch : List Nat) (out : List (List Int)) (more : Bool) : Prop where
  below : Below wL.heap.size wL w
  fd : Fd wL f ps ls 0
  ord : wL.heap.size ≤ B.gfb ∧ B.gm < B.gfb ∧ B.gfb < B.gl ∧ B.gl < B.gmo ∧ B.gmo < B.c0 ∧ B.c0 < B.c1 ∧ B.c1 < B.g11 ∧ B.g11 < B.c2 ∧ B.c2 < B.c3 ∧ B.c3 < B.lo ∧ B.lo ≤ w.heap.size
  bm : Bk w B.gm #[.int .i64 most]
  bfb : Bk w B.gfb #[.pointer (some ⟨f, 0, none⟩)]
  bmo : Bk w B.gmo #[.bool more]
  b0 : Bk w B.c0 #[.pointer (some ⟨f, 0, none⟩)]
  b1 : Bk w B.c1 #[B.tell]
  b2 : Bk w B.c2 #[.slice (some ⟨B.g11, 0, none⟩) ps.length ps.length]
  b3 : Bk w B.c3 #[B.goes]
  b11 : ∃ arr : List Int, arr.length = ps.length ∧ Bk w B.g11 (arr.map (Value.int .i64)).toArray ∧ ∀ (i : Nat) (h : i < ch.length), arr[i]? = some ((ch[i] : Nat) : Int)
  bl : ∃ (v : Sv) (vs : List Sv), Bk w B.gl #[slv v] ∧ OMs w B.lo w.heap.size out v vs
section
variable {wL w w1 : World} {f : Nat} {ps : Pt} {ls : List (List Pl)} {most : Int} {B : Bx} {ch : List Nat} {out : List (List Int)} {more : Bool}
theorem FI.keep (h : FI wL f ps ls most B w ch out more) (hb : Below w.heap.size w w1) : FI wL f ps ls most B w1 ch out more := by
  have ho := h.ord
  have hs := hb.size
  obtain ⟨arr, a1, a2, a3⟩ := h.b11
  obtain ⟨v, vs, v1, v2⟩ := h.bl
  exact ⟨btr h.below h.below.size hb, h.fd, by omega, h.bm.keep hb, h.bfb.keep hb, h.bmo.keep hb, h.b0.keep hb, h.b1.keep hb, h.b2.keep hb, h.b3.keep hb, ⟨arr, a1, a2.keep hb, a3⟩, v, vs, v1.keep hb, v2.keep hb hs⟩
theorem FI.fin (h : FI wL f ps ls most B w ch out more) : Fd w f ps ls 0 := h.fd.keep h.below
theorem FI.less {k : Nat} (h : FI wL f ps ls most B w (ch ++ [k]) out more) : FI wL f ps ls most B w ch out more := by
  obtain ⟨arr, a1, a2, a3⟩ := h.b11
  exact ⟨h.below, h.fd, h.ord, h.bm, h.bfb, h.bmo, h.b0, h.b1, h.b2, h.b3, ⟨arr, a1, a2, fun i hi => by
    have := a3 i (by simp; omega)
    rw [List.getElem_append_left hi] at this; exact this⟩, h.bl⟩
/-- A choice more. -/
theorem FI.pick (h : FI wL f ps ls most B w ch out more) {p : Nat} (hp : p = ch.length) (hl : p < ps.length) {k : Nat} {K : World → Prop} (hK : ∀ w1, FI wL f ps ls most B w1 (ch ++ [k]) out more → K w1) : IdxA (some ⟨B.g11, 0, none⟩) ps.length (p : Int) 1 fun q => St w q (.int .i64 (k : Int)) K := by
  subst hp
  have ho := h.ord
  obtain ⟨arr, a1, a2, a3⟩ := h.b11
  obtain ⟨v, vs, v1, v2⟩ := h.bl
  refine row_at hl (st_bk a2 (by simp; omega) fun w1 b1 hf => hK w1 ?_)
  have hs := hf.size
  have hh : ∀ {b c}, Bk w b c → b ≠ B.g11 → Bk w1 b c := fun h1 h2 => h1.fm hf h2
  refine ⟨h.below.trans (hf.toBelow h.below.size fun b hb hm => by omega), h.fd, by omega, hh h.bm (by omega), hh h.bfb (by omega), hh h.bmo (by omega), hh h.b0 (by omega), hh h.b1 (by omega), hh h.b2 (by omega), hh h.b3 (by omega), ⟨arr.set ch.length k, by simpa using a1, ?_, fun i hi => ?_⟩, v, vs, hh v1 (by omega), v2.fm hf (fun b hb hm => by omega) hs⟩
  · rw [List.map_set]; simpa using b1
  · rw [List.length_append, List.length_singleton] at hi
    rcases Nat.lt_or_ge i ch.length with h3 | h3
    · rw [List.getElem?_set_ne (by omega), List.getElem_append_left h3]; exact a3 i h3
    · obtain rfl : i = ch.length := by omega
      rw [List.getElem?_set_self (by omega)]; simp
theorem FI.at (h : FI wL f ps ls most B w ch out more) {u : Nat} (hu : u < ch.length) (hl : u < ps.length) {K : Addr → Prop} (hK : w.cell? ⟨B.g11, u, none⟩ = some (.int .i64 ((ch[u] : Nat) : Int)) → K ⟨B.g11, u, none⟩) : IdxA (some ⟨B.g11, 0, none⟩) ps.length (u : Int) 1 K := by
  obtain ⟨arr, a1, a2, a3⟩ := h.b11
  refine row_at hl (hK ?_)
  rw [a2.cell]
  simp [a3 u hu]
theorem FI.atH (h : FI wL f ps ls most B w ch out more) {S : World → Prop} (hS : ∀ w1, S w1 → Below w.heap.size w w1) {u : Nat} (hu : u < ch.length) (hl : u < ps.length) {K : Addr → Prop} (hK : Held S ⟨B.g11, u, none⟩ (.int .i64 ((ch[u] : Nat) : Int)) → K ⟨B.g11, u, none⟩) : IdxA (some ⟨B.g11, 0, none⟩) ps.length (u : Int) 1 K := by
  obtain ⟨arr, a1, a2, a3⟩ := h.b11
  refine row_at hl (hK (bk_held a2 hS ?_))
  simp [a3 u hu]
end
end Go.Proofs.Ytbocfedmdjkccaa
/- Twigs: a match is told. -/
namespace Go.Proofs.Ytbocfedmdjkccaa
open Go.RowKit Go.Vc
set_option linter.unusedVariables false
set_option linter.unusedSimpArgs false
set_option maxRecDepth 100000
/-- The nodes that are chosen. -/
def Cho (ls : List (List Pl)) (ch : List Nat) (chP : List Pl) : Prop := ch.length = chP.length ∧ ∀ (i : Nat) (h : i < ch.length) (h2 : i < chP.length), (lsN ls i)[ch[i]]? = some chP[i]
theorem Cho.snoc {ls : List (List Pl)} {ch : List Nat} {chP : List Pl} (h : Cho ls ch chP) {k : Nat} (hk : k < (lsN ls ch.length).length) : Cho ls (ch ++ [k]) (chP ++ [(lsN ls ch.length)[k]]) := by
  refine ⟨by simp [h.1], fun i h1 h2 => ?_⟩
  rw [List.length_append, List.length_singleton] at h1
  rcases Nat.lt_or_ge i ch.length with h3 | h3
  · rw [List.getElem_append_left h3, List.getElem_append_left (by rw [← h.1]; exact h3)]; exact h.2 i h3 (by rw [← h.1]; exact h3)
  · obtain rfl : i = ch.length := by omega
    rw [List.getElem_append_right (by omega), List.getElem_append_right (by rw [← h.1]; exact Nat.le_refl _)]
    simp [h.1.symm]
def hanF (m : List Pl) : List Int := m.map (·.node)
def limN (most : Int) : Nat := if 16384 < most then 16384 else most.toNat
/-- What a finder reads of its lists. -/
theorem fd_list {w : World} {f : Nat} {ps : Pt} {ls : List (List Pl)} {j p : Nat} (h : Fd w f ps ls j) (hp : p < ps.length) {K : Option Addr → Nat → Nat → Prop} (hK : ∀ v : Sv, RLv w (lsN ls p) v → K v.1 v.2.1 v.2.2) :
    LdSl (w.cell? ⟨f, 1, none⟩) fun x xN xC => IdxA x xN (p : Int) 1 fun q => LdSl (w.cell? q) K := by
  obtain ⟨pv, lv, kv, wv, fv, ty, wvs, fvs, hf⟩ := h
  obtain ⟨hlen, lvs, hln, hlr, hls⟩ := hf.rl
  have hlvs := hls.len
  have hpl : p < ls.length := by rw [hf.ll]; exact hp
  rw [hf.blk.cell]
  simp only [List.getElem?_toArray, List.getElem?_cons_zero, List.getElem?_cons_succ, Addr.add_mk, List.getElem?_toArray, List.getElem?_cons_zero, List.getElem?_cons_succ, LdI_some, LdB_some, LdStr_some, LdP_some, LdSl_some, LdM_some, Nat.zero_add, Br_t, Br_f]
  refine hlr.sv hln rfl (k := p) (by omega) fun b o c0 => ?_
  simp only [c0, Addr.add_mk, List.getElem?_toArray, List.getElem?_cons_zero, List.getElem?_cons_succ, LdI_some, LdB_some, LdStr_some, LdP_some, LdSl_some, LdM_some, Nat.zero_add, Br_t, Br_f]
  have := hls.get p hpl (by omega)
  rw [lsN_get hpl] at hK
  exact hK _ this
theorem tell_calls {wL : World} {f : Nat} {ps : Pt} {ls : List (List Pl)} {most : Int} {B : Bx} {w : World} {ch : List Nat} {chP : List Pl} {out : List (List Int)} (hn : ps.length ≤ 16) (hm0 : 0 ≤ most) (h : FI wL f ps ls most B w ch out false) (hcl : ch.length = ps.length) (hch : Cho ls ch chP) (hol : out.length ≤ limN most) {R : Ending → World → Prop}
    (hR : ∀ w', FI wL f ps ls most B w' ch ((out ++ [hanF chP]).take (limN most)) (decide (limN most < (out ++ [hanF chP]).length)) → R (.returned (.bool (decide ((out ++ [hanF chP]).length ≤ limN most)))) w') :
    Calls Try.prog 54 #[.slice (some ⟨B.g11, 0, none⟩) ps.length ps.length, .pointer (some ⟨B.gl, 0, none⟩), .pointer (some ⟨B.gm, 0, none⟩), .pointer (some ⟨B.gmo, 0, none⟩), .pointer (some ⟨B.gfb, 0, none⟩)] w R := by
  have ho := h.ord
  refine ok54 (some ⟨B.g11, 0, none⟩) ps.length ps.length _ _ _ _ ?_
  unfold F54
  obtain ⟨v, vs, v1, v2⟩ := h.bl
  have hvn : v.2.1 = out.length := by rw [v2.own.rd.1, v2.len]
  simp only [v1.cell, h.bm.cell, List.getElem?_toArray, List.getElem?_cons_zero, Addr.add_mk, List.getElem?_toArray, List.getElem?_cons_zero, List.getElem?_cons_succ, LdI_some, LdB_some, LdStr_some, LdP_some, LdSl_some, LdM_some, Nat.zero_add, Br_t, Br_f]
  have e : decide (((v.2.1 : Nat) : Int) ≥ if (16384 : Int) < most then (16384 : Int) else most) = decide (limN most < (out ++ [hanF chP]).length) := by
    rw [hvn, List.length_append, List.length_singleton, decide_eq_decide]
    unfold limN; split <;> omega
  have hlim : limN most ≤ 16384 := by unfold limN; split <;> omega
  have hle : (out ++ [hanF chP]).length = out.length + 1 := by simp
  rw [hle] at hR e
  rw [e]
  refine st_bk h.bmo (by simp) fun w1 b1 hf1 => ?_
  simp only [List.setIfInBounds_toArray, List.set_cons_zero] at b1
  have hs1 := hf1.size
  have h1 : FI wL f ps ls most B w1 ch out (decide (limN most < out.length + 1)) := by
    have hh : ∀ {b c}, Bk w b c → b ≠ B.gmo → Bk w1 b c := fun h1 h2 => h1.fm hf1 h2
    obtain ⟨arr, a1, a2, a3⟩ := h.b11
    exact ⟨h.below.trans (hf1.toBelow h.below.size fun b hb hm => by omega), h.fd, by omega, hh h.bm (by omega), hh h.bfb (by omega), b1, hh h.b0 (by omega), hh h.b1 (by omega), hh h.b2 (by omega), hh h.b3 (by omega), ⟨arr, a1, hh a2 (by omega), a3⟩, v, vs, hh v1 (by omega), v2.fm hf1 (fun b hb hm => by omega) hs1⟩
  simp only [b1.cell, List.getElem?_toArray, List.getElem?_cons_zero, Addr.add_mk, List.getElem?_toArray, List.getElem?_cons_zero, List.getElem?_cons_succ, LdI_some, LdB_some, LdStr_some, LdP_some, LdSl_some, LdM_some, Nat.zero_add, Br_t, Br_f]
  refine brd (fun hfull => ?_) (fun hroom => ?_)
  · have e1 : out.length = limN most := by omega
    have H := hR w1
    rw [decide_eq_false (show ¬ (out.length + 1 ≤ limN most) by omega)] at H
    have e2 : (out ++ [hanF chP]).take (limN most) = out := by rw [List.take_append_of_le_length (by omega), ← e1, List.take_length]
    rw [e2] at H
    exact H h1
  · rw [decide_eq_false hroom] at h1
    have ho1 := h1.ord
    obtain ⟨v', vs', v1', v2'⟩ := h1.bl
    refine ⟨fun m mN mC t w2 => ∃ k : Nat, t = k ∧ k ≤ ps.length ∧ Below w1.heap.size w1 w2 ∧ Own LH w2 w1.heap.size 75 (.slice m mN mC) ((chP.take k).map (·.node)), fun _ _ _ t _ => ps.length - t.toNat, ⟨0, rfl, by omega, Below.refl _ _, Own.nil _ _ _ _⟩, ?_⟩
    rintro m mN mC t w2 ⟨k, rfl, hk, hb2, hm⟩
    unfold F54_l6
    have h2 := h1.keep hb2
    have hcp : chP.length = ps.length := by rw [← hch.1, hcl]
    refine brd (fun hlt => ?_) (fun hge => ?_)
    · have hk2 : k < ps.length := by omega
      refine h2.at (by omega) hk2 fun c0 => ?_
      have hc := hch.2 k (by omega) (by omega)
      obtain ⟨hci, hcx⟩ := List.getElem?_eq_some_iff.1 hc
      simp only [c0, h2.bfb.cell, NonNil_some, Addr.add_mk, Nat.zero_add, List.getElem?_toArray, List.getElem?_cons_zero, Addr.add_mk, List.getElem?_toArray, List.getElem?_cons_zero, List.getElem?_cons_succ, LdI_some, LdB_some, LdStr_some, LdP_some, LdSl_some, LdM_some, Nat.zero_add, Br_t, Br_f]
      refine fd_list h2.fin hk2 fun u hu => ?_
      obtain ⟨u0, u1, u2⟩ := hu
      refine u2.pl u1 rfl (k := ch[k]) hci fun b o d0 d1 d2 d3 => ?_
      simp only [d0, Addr.add_mk, List.getElem?_toArray, List.getElem?_cons_zero, List.getElem?_cons_succ, LdI_some, LdB_some, LdStr_some, LdP_some, LdSl_some, LdM_some, Nat.zero_add, Br_t, Br_f]
      rw [hcx]
      have hs2 := hb2.size
      refine ap1 (L := LH) (x := chP[k].node) (.int .u64 0) 8 rfl rfl rfl rfl hm (by omega) (by simp; omega) (by simp [maxLen]; omega) fun A' c' w3 ho3 hg => ⟨_, _, _, rfl, inR_i64 (by omega) (by omega), ⟨k + 1, by simp, by omega, hb2.trans hg.below, ?_⟩, by omega⟩
      rw [List.take_succ_eq_append_getElem (by omega), List.map_append]; exact ho3
    · have hk2 : k = ps.length := by omega
      rw [List.take_of_length_le (by omega)] at hm
      have v22 := v2'.keep hb2 (Nat.le_refl _)
      simp only [(v1'.keep hb2).cell, List.getElem?_toArray, List.getElem?_cons_zero, Addr.add_mk, List.getElem?_toArray, List.getElem?_cons_zero, List.getElem?_cons_succ, LdI_some, LdB_some, LdStr_some, LdP_some, LdSl_some, LdM_some, Nat.zero_add, Br_t, Br_f]
      have hs2 := hb2.size
      refine oms_push (m := (m, mN, mC)) v22 (by omega) hs2 hm (by omega) (by simp; omega) (by omega) fun A' c' w3 o3 hb3 hf3 _ => ⟨_, _, _, rfl, ?_⟩
      have hs3 := hf3.size
      have hb3' : Below B.lo w1 w3 := (hb2.mono (by omega)).trans hb3
      have hh : ∀ {b c}, Bk w1 b c → b < B.lo → Bk w3 b c := fun h1 h2 => h1.below hb3' h2
      obtain ⟨arr, a1, a2, a3⟩ := h1.b11
      refine st_bk (hh v1' (by omega)) (by simp) fun w4 b4 hf4 => ?_
      simp only [List.setIfInBounds_toArray, List.set_cons_zero] at b4
      have hs4 := hf4.size
      have gg : ∀ {b c}, Bk w1 b c → b < B.lo → b ≠ B.gl → Bk w4 b c := fun h1 h2 h3 => (hh h1 h2).fm hf4 h3
      have H := hR w4
      rw [decide_eq_true (show out.length + 1 ≤ limN most by omega), decide_eq_false hroom, List.take_of_length_le (by simp; omega)] at H
      refine H ⟨(h1.below.trans (hb3'.mono (by omega))).trans (hf4.toBelow (by have := h1.below.size; omega) fun b hb hm => by omega), h1.fd, by omega, gg h1.bm (by omega) (by omega), gg h1.bfb (by omega) (by omega), gg h1.bmo (by omega) (by omega), gg h1.b0 (by omega) (by omega), gg h1.b1 (by omega) (by omega), gg h1.b2 (by omega) (by omega), gg h1.b3 (by omega) (by omega), ⟨arr, a1, gg a2 (by omega) (by omega), a3⟩, (A', out.length + 1, c'), _, b4, o3.fm hf4 (fun b hb hm => by omega) hs4⟩
end Go.Proofs.Ytbocfedmdjkccaa
/- Twigs: the program goes through the matches. -/
namespace Go.Proofs.Ytbocfedmdjkccaa
open Go.RowKit Go.Vc
set_option linter.unusedVariables false
set_option linter.unusedSimpArgs false
set_option maxRecDepth 100000
theorem some_calls {f : Nat} {ps : Pt} {ls : List (List Pl)} {j p : Nat} (hjp : j ≤ p) (hp : p < ps.length) {i : Nat} (hi : i < (lsN ls p).length) {w : World} {R : Ending → World → Prop} (hfd : Fd w f ps ls j)
    (h : R (.returned (.bool (way ps ls p (lsN ls p)[i].s != 0))) w) :
    Calls Try.prog 47 #[.pointer (some ⟨f, 0, none⟩), .int .i64 (p : Int), .int .i64 (i : Int)] w R := by
  obtain ⟨pv, lv, kv, wv, fv, ty, wvs, fvs, hf⟩ := hfd
  refine ok47 (some ⟨f, 0, none⟩) p i ?_
  unfold F47
  obtain ⟨ns, fs, r1, r2, r3, r4, r5, r6, r7⟩ := hf.rows p (by rw [hf.wl]; exact hp) (by rw [hf.fl]; exact hp) hjp
  have hc := r7 i hi (by omega) (by omega)
  simp only [NonNil_some, Addr.add_mk, Nat.zero_add, hf.blk.cell, List.getElem?_toArray, List.getElem?_cons_zero, List.getElem?_cons_succ, Addr.add_mk, List.getElem?_toArray, List.getElem?_cons_zero, List.getElem?_cons_succ, LdI_some, LdB_some, LdStr_some, LdP_some, LdSl_some, LdM_some, Nat.zero_add, Br_t, Br_f]
  refine hf.wr.sv hf.wn rfl (k := p) (by rw [hf.wl]; exact hp) fun b o c0 => ?_
  simp only [c0, Addr.add_mk, List.getElem?_toArray, List.getElem?_cons_zero, List.getElem?_cons_succ, LdI_some, LdB_some, LdStr_some, LdP_some, LdSl_some, LdM_some, Nat.zero_add, Br_t, Br_f]
  refine r2.han r1 rfl (k := i) (by omega) fun b o c0 => ?_
  simp only [c0, Addr.add_mk, List.getElem?_toArray, List.getElem?_cons_zero, List.getElem?_cons_succ, LdI_some, LdB_some, LdStr_some, LdP_some, LdSl_some, LdM_some, Nat.zero_add, Br_t, Br_f]
  refine brd (fun hpos => ?_) (fun hz => ?_)
  · have : (way ps ls p (lsN ls p)[i].s != 0) = true := by
      rw [bne_iff_ne]
      cases hb : fs[i] with
      | true => rw [hb] at hc; have := hc.full; omega
      | false => rw [hb] at hc; have := hc.small.1; omega
    rw [this] at h; exact h
  · refine hf.fr.sv hf.fn rfl (k := p) (by rw [hf.fl]; exact hp) fun b o c0 => ?_
    simp only [c0, Addr.add_mk, List.getElem?_toArray, List.getElem?_cons_zero, List.getElem?_cons_succ, LdI_some, LdB_some, LdStr_some, LdP_some, LdSl_some, LdM_some, Nat.zero_add, Br_t, Br_f]
    refine r4.boo r3 rfl (k := i) (by omega) fun b o c0 => ?_
    simp only [c0, Addr.add_mk, List.getElem?_toArray, List.getElem?_cons_zero, List.getElem?_cons_succ, LdI_some, LdB_some, LdStr_some, LdP_some, LdSl_some, LdM_some, Nat.zero_add, Br_t, Br_f]
    have : (way ps ls p (lsN ls p)[i].s != 0) = fs[i] := by
      cases hb : fs[i] with
      | true => rw [bne_iff_ne]; rw [hb] at hc; have := hc.full; omega
      | false => rw [bne_eq_false_iff_eq]; rw [hb] at hc; have := hc.small.1; have := hc.2.2; omega
    rw [this] at h; exact h
theorem fd_up {w : World} {f : Nat} {ps : Pt} {ls : List (List Pl)} {j p : Nat} (h : Fd w f ps ls j) (hp : p < ps.length) {K : Int → Prop} (hK : K (upN ps p)) :
    LdSl (w.cell? ⟨f, 0, none⟩) fun x xN xC => IdxA x xN (p : Int) 4 fun q => LdI .i64 (w.cell? (q.add 3)) K := by
  obtain ⟨pv, lv, kv, wv, fv, ty, wvs, fvs, hf⟩ := h
  obtain ⟨es, hpn, hpr, hpl, hpu⟩ := hf.rp.up
  rw [hf.blk.cell]
  simp only [List.getElem?_toArray, List.getElem?_cons_zero, Addr.add_mk, List.getElem?_toArray, List.getElem?_cons_zero, List.getElem?_cons_succ, LdI_some, LdB_some, LdStr_some, LdP_some, LdSl_some, LdM_some, Nat.zero_add, Br_t, Br_f]
  refine hpr.e4 hpn rfl (k := p) (by omega) fun b o c0 c1 c2 c3 => ?_
  simp only [Addr.add_mk, c3, Addr.add_mk, List.getElem?_toArray, List.getElem?_cons_zero, List.getElem?_cons_succ, LdI_some, LdB_some, LdStr_some, LdP_some, LdSl_some, LdM_some, Nat.zero_add, Br_t, Br_f]
  rw [hpu p (by omega)]; exact hK
theorem fd_len {w : World} {f : Nat} {ps : Pt} {ls : List (List Pl)} {j : Nat} (h : Fd w f ps ls j) {K : Option Addr → Nat → Nat → Prop} (hK : ∀ a c, K a ps.length c) : LdSl (w.cell? ⟨f, 0, none⟩) K := by
  obtain ⟨pv, lv, kv, wv, fv, ty, wvs, fvs, hf⟩ := h
  obtain ⟨es, hpn, hpr, hpl, hpu⟩ := hf.rp.up
  rw [hf.blk.cell]
  simp only [List.getElem?_toArray, List.getElem?_cons_zero, Addr.add_mk, List.getElem?_toArray, List.getElem?_cons_zero, List.getElem?_cons_succ, LdI_some, LdB_some, LdStr_some, LdP_some, LdSl_some, LdM_some, Nat.zero_add, Br_t, Br_f]
  rw [hpn, hpl]; exact hK _ _
theorem fd_listH {w : World} {f : Nat} {ps : Pt} {ls : List (List Pl)} {j p : Nat} (h : Fd w f ps ls j) (hp : p < ps.length) {S : World → Prop} (hS : ∀ w1, S w1 → Below w.heap.size w w1) {K : Option Addr → Nat → Nat → Prop} (hK : ∀ v : Sv, RLv w (lsN ls p) v → K v.1 v.2.1 v.2.2) :
    ∃ (x : Option Addr) (xN : Nat) (xC : Nat), Held S ⟨f, 1, none⟩ (.slice x xN xC) ∧ IdxA x xN (p : Int) 1 fun q => ∃ (y : Option Addr) (yN : Nat) (yC : Nat), Held S q (.slice y yN yC) ∧ K y yN yC := by
  obtain ⟨pv, lv, kv, wv, fv, ty, wvs, fvs, hf⟩ := h
  obtain ⟨hlen, lvs, hln, hlr, hls⟩ := hf.rl
  have hlvs := hls.len
  have hpl : p < ls.length := by rw [hf.ll]; exact hp
  refine ⟨_, _, _, blk_held hf.blk hS rfl, hlr.svH hS hln rfl (k := p) (by omega) fun b o c0 => ⟨_, _, _, c0, ?_⟩⟩
  have := hls.get p hpl (by omega)
  rw [lsN_get hpl] at hK
  exact hK _ this
theorem fd_under {w : World} {f : Nat} {ps : Pt} {ls : List (List Pl)} {j p : Nat} (h : Fd w f ps ls j) (hp : p < ps.length) (up x : Sp) (h0 : 0 ≤ up.l) (h1 : x.l ≤ 64) {R : Ending → World → Prop} (hR : ∀ w', Below w.heap.size w w' → R (.returned (.bool (fitB (dN ps p) up x))) w') :
    Calls Try.prog 48 #[.pointer (some ⟨f, 0, none⟩), .int .i64 (p : Int), spv up, spv x] w R := by
  obtain ⟨pv, lv, kv, wv, fv, ty, wvs, fvs, hf⟩ := h
  rw [dN_get hp] at hR
  exact underP_calls (pv := pv) hp up x h0 h1 (by rw [hf.blk.cell]; rfl) hf.rp hR
theorem fd_list2 {wL w : World} {f : Nat} {ps : Pt} {ls : List (List Pl)} {j p : Nat} (h : Fd wL f ps ls j) (hb : Below wL.heap.size wL w) (hp : p < ps.length) {K : Option Addr → Nat → Nat → Prop} (hK : ∀ v : Sv, RLv wL (lsN ls p) v → K v.1 v.2.1 v.2.2) :
    LdSl (w.cell? ⟨f, 1, none⟩) fun x xN xC => IdxA x xN (p : Int) 1 fun q => LdSl (w.cell? q) K := by
  obtain ⟨pv, lv, kv, wv, fv, ty, wvs, fvs, hf⟩ := h
  obtain ⟨hlen, lvs, hln, hlr, hls⟩ := hf.rl
  have hlvs := hls.len
  have hpl : p < ls.length := by rw [hf.ll]; exact hp
  rw [(hf.blk.keep hb).cell]
  simp only [List.getElem?_toArray, List.getElem?_cons_zero, List.getElem?_cons_succ, Addr.add_mk, List.getElem?_toArray, List.getElem?_cons_zero, List.getElem?_cons_succ, LdI_some, LdB_some, LdStr_some, LdP_some, LdSl_some, LdM_some, Nat.zero_add, Br_t, Br_f]
  refine (hlr.keep hb).sv hln rfl (k := p) (by omega) fun b o c0 => ?_
  simp only [c0, Addr.add_mk, List.getElem?_toArray, List.getElem?_cons_zero, List.getElem?_cons_succ, LdI_some, LdB_some, LdStr_some, LdP_some, LdSl_some, LdM_some, Nat.zero_add, Br_t, Br_f]
  have := hls.get p hpl (by omega)
  rw [lsN_get hpl] at hK
  exact hK _ this
theorem take_more {α : Type} {a b : List α} {l : Nat} (h : l < a.length) : (a ++ b).take l = a.take l ∧ l < (a ++ b).length := ⟨List.take_append_of_le_length (by omega), by rw [List.length_append]; omega⟩
theorem goes2_calls {wL : World} {f : Nat} {ps : Pt} {ls : List (List Pl)} {most : Int} {B : Bx} (hu : UpOk ps) (hn : ps.length ≤ 16) (hm0 : 0 ≤ most) (hv : Vd ls) (hll : ls.length = ps.length) : ∀ (m : Nat) {p : Nat} {ch : List Nat} {chP : List Pl} {out : List (List Int)} {w : World} {R : Ending → World → Prop}, p + m = ps.length →
    FI wL f ps ls most B w ch out false → ch.length = p → Cho ls ch chP → out.length ≤ limN most →
    (∀ w', FI wL f ps ls most B w' ch ((out ++ (allF ps ls m chP).map hanF).take (limN most)) (decide (limN most < (out ++ (allF ps ls m chP).map hanF).length)) → R (.returned (.bool (decide ((out ++ (allF ps ls m chP).map hanF).length ≤ limN most)))) w') →
    Calls Try.prog 70 #[.int .i64 (p : Int), .pointer (some ⟨B.c0, 0, none⟩), .pointer (some ⟨B.c1, 0, none⟩), .pointer (some ⟨B.c2, 0, none⟩), .pointer (some ⟨B.c3, 0, none⟩)] w R := by
  intro m
  induction m with
  | zero =>
    intro p ch chP out w R hpm h hcl hch hol hR
    refine ok70 p _ _ _ _ ?_
    unfold F70
    simp only [h.b0.cell, h.b1.cell, h.b2.cell, NonNil_some, List.getElem?_toArray, List.getElem?_cons_zero, LdV_some, Addr.add_mk, List.getElem?_toArray, List.getElem?_cons_zero, List.getElem?_cons_succ, LdI_some, LdB_some, LdStr_some, LdP_some, LdSl_some, LdM_some, Nat.zero_add, Br_t, Br_f]
    refine fd_len h.fin fun a c => ?_
    rw [show (((p : Nat) : Int) == ((ps.length : Nat) : Int)) = true by simp; omega, Br_t]
    refine ⟨by kernel_rfl, ?_⟩
    refine tell_calls hn hm0 h (by omega) hch hol fun w' h' => ⟨_, rfl, hR w' ?_⟩
    simpa [allF] using h'
  | succ m ih =>
    intro p ch chP out w R hpm h hcl hch hol hR
    have hpl : p < ps.length := by omega
    have hpl2 : p < ls.length := by omega
    have hcp : chP.length = p := by rw [← hch.1]; exact hcl
    have hvp := hv _ (List.getElem_mem hpl2)
    rw [← lsN_get hpl2] at hvp
    refine ok70 p _ _ _ _ ?_
    unfold F70
    simp only [h.b0.cell, h.b1.cell, h.b2.cell, NonNil_some, List.getElem?_toArray, List.getElem?_cons_zero, LdV_some, Addr.add_mk, List.getElem?_toArray, List.getElem?_cons_zero, List.getElem?_cons_succ, LdI_some, LdB_some, LdStr_some, LdP_some, LdSl_some, LdM_some, Nat.zero_add, Br_t, Br_f]
    refine fd_len h.fin fun a c => ?_
    rw [show (((p : Nat) : Int) == ((ps.length : Nat) : Int)) = false by simp; omega, Br_f]
    refine fd_list2 h.fd h.below hpl fun v hv0 => ?_
    refine fd_up h.fin hpl ?_
    obtain ⟨z0, z1, z2⟩ := id hv0
    have hprune := allF_prune hu ls m chP (by omega)
    rw [hcp] at hprune
    -- who stands above
    have hup := hu p hpl
    have hupc : 0 ≤ upN ps p → ∃ (u : Nat) (a : Pl), upN ps p = u ∧ u < p ∧ u < ps.length ∧ chP[u]? = some a ∧ (∀ hh : u < ch.length, (lsN ls u)[ch[u]]? = some a) ∧ canB a.s = true ∧ ∀ x, fitsAt ps chP p x = fitB (dN ps p) a.s x.s := by
      intro h0
      obtain ⟨u, hu2⟩ : ∃ u : Nat, upN ps p = u := ⟨(upN ps p).toNat, by omega⟩
      have hup2 : u < p := by omega
      refine ⟨u, chP[u]'(by omega), hu2, hup2, by omega, List.getElem?_eq_getElem _, fun hh => hch.2 u hh (by omega), ?_, fun x => ?_⟩
      · have h3 := hch.2 u (by omega) (by omega)
        obtain ⟨h4, h5⟩ := List.getElem?_eq_some_iff.1 h3
        have hul : u < ls.length := by omega
        have h6 := List.getElem_mem h4
        rw [h5] at h6
        have h7 := (hv _ (List.getElem_mem hul)).1
        rw [← lsN_get hul] at h7
        exact h7 _ h6
      · unfold fitsAt
        rw [if_neg (by omega), hu2]
        simp only [Int.toNat_natCast]
        rw [List.getElem?_eq_getElem (by omega)]
    let q : Pl → Bool := fun x => (way ps ls p x.s != 0) && fitsAt ps chP p x
    let G : Nat → List (List Int) := fun k => out ++ (((lsN ls p).take k).filter q).flatMap fun x => (allF ps ls m (chP ++ [x])).map hanF
    have Gs : ∀ k (hk : k < (lsN ls p).length), G (k + 1) = G k ++ if q (lsN ls p)[k] then (allF ps ls m (chP ++ [(lsN ls p)[k]])).map hanF else [] := by
      intro k hk
      show out ++ _ = (out ++ _) ++ _
      rw [List.take_succ_eq_append_getElem hk, List.filter_append, List.flatMap_append, List.append_assoc, List.filter_cons]
      congr 2
      split <;> simp
    have Gend : G (lsN ls p).length = out ++ (allF ps ls (m + 1) chP).map hanF := by
      show out ++ _ = _
      rw [List.take_length, hprune, List.map_flatMap]
    have Gskip : ∀ d k, k + d ≤ (lsN ls p).length → (∀ i (h : i < (lsN ls p).length), k ≤ i → i < k + d → q (lsN ls p)[i] = false) → G (k + d) = G k := by
      intro d
      induction d with
      | zero => intro k _ _; rfl
      | succ d ihd =>
        intro k h1 h2
        rw [show k + (d + 1) = (k + d) + 1 by omega, Gs _ (by omega), h2 (k + d) (by omega) (by omega) (by omega), ihd k (by omega) fun i hi h3 h4 => h2 i hi h3 (by omega)]
        simp
    have Gmore : ∀ k, k ≤ (lsN ls p).length → ∃ t, G (lsN ls p).length = G k ++ t := by
      intro k hk
      refine ⟨(((lsN ls p).drop k).filter q).flatMap fun x => (allF ps ls m (chP ++ [x])).map hanF, ?_⟩
      show out ++ _ = (out ++ _) ++ _
      rw [List.take_length, List.append_assoc, ← List.flatMap_append, ← List.filter_append, List.take_append_drop]
    rw [← Gend] at hR
    have G0 : G 0 = out := by show out ++ _ = out; simp
    have hqf : ∀ x, fitsAt ps chP p x = false → q x = false := fun x hx => by show ((_ != _) && fitsAt ps chP p x) = false; rw [hx, Bool.and_false]
    have hqdef : ∀ x, q x = ((way ps ls p x.s != 0) && fitsAt ps chP p x) := fun _ => rfl
    clear_value q G
    refine ⟨fun from_ w1 => ∃ n0 : Nat, from_ = n0 ∧ n0 ≤ (lsN ls p).length ∧ G n0 = out ∧ FI wL f ps ls most B w1 ch out false ∧ Below w.heap.size w w1, ?_, ?_⟩
    · rintro _ w1 ⟨n0, rfl, hn0, hG0, h1, hb1⟩
      unfold F70_j7
      refine ⟨fun w' => FI wL f ps ls most B w' ch (G (lsN ls p).length) false ∧ (G (lsN ls p).length).length ≤ limN most, ?_, ?_⟩
      · rintro w' ⟨h', hl'⟩
        unfold F70_j18
        have H := hR w'
        rw [List.take_of_length_le hl', decide_eq_true hl', decide_eq_false (show ¬ limN most < (G (lsN ls p).length).length by omega)] at H
        exact H h'
      refine ⟨fun i w' => ∃ k : Nat, i = k ∧ k ≤ (lsN ls p).length ∧ FI wL f ps ls most B w' ch (G k) false ∧ (G k).length ≤ limN most ∧ Below wL.heap.size wL w', fun i _ => (lsN ls p).length - i.toNat, ⟨n0, rfl, hn0, by rw [hG0]; exact h1, by rw [hG0]; exact hol, h1.below⟩, ?_⟩
      rintro i w2 ⟨k, rfl, hk, h2, hl2, -⟩
      unfold F70_l8
      refine brd (fun hlt => ?_) (fun hge => ?_)
      · have hk2 : k < (lsN ls p).length := by omega
        have hx := canB_l (hvp.1 _ (List.getElem_mem hk2))
        have hGk := Gs k hk2
        refine ⟨fun w' => FI wL f ps ls most B w' ch (G (k + 1)) false ∧ (G (k + 1)).length ≤ limN most, ?_, ?_⟩
        · rintro w' ⟨h', hl'⟩
          unfold F70_j9
          exact ⟨inR_i64 (by omega) (by omega), ⟨k + 1, by simp, by omega, h', hl', h'.below⟩, by dsimp only; omega⟩
        have skip : ∀ w', FI wL f ps ls most B w' ch (G k) false → q (lsN ls p)[k] = false → FI wL f ps ls most B w' ch (G (k + 1)) false ∧ (G (k + 1)).length ≤ limN most := fun w' h' hq => by
          rw [hq] at hGk
          simp only [Bool.false_eq_true, if_false, List.append_nil] at hGk
          rw [hGk]; exact ⟨h', hl2⟩
        refine ⟨fun w' => FI wL f ps ls most B w' ch (G k) false ∧ fitsAt ps chP p (lsN ls p)[k] = true, ?_, ?_⟩
        · rintro w' ⟨h', hfit⟩
          unfold F70_j14
          simp only [h'.b0.cell, List.getElem?_toArray, List.getElem?_cons_zero, Addr.add_mk, List.getElem?_toArray, List.getElem?_cons_zero, List.getElem?_cons_succ, LdI_some, LdB_some, LdStr_some, LdP_some, LdSl_some, LdM_some, Nat.zero_add, Br_t, Br_f]
          refine some_calls (Nat.zero_le _) hpl hk2 h'.fin ⟨_, rfl, ?_⟩
          rw [brnot]
          have hqd := hqdef (lsN ls p)[k]
          refine br (fun hw => ?_) (fun hw => ?_)
          · rw [hw, hfit, Bool.and_self] at hqd
            rw [hqd, if_pos rfl] at hGk
            simp only [h'.b2.cell, List.getElem?_toArray, List.getElem?_cons_zero, Addr.add_mk, List.getElem?_toArray, List.getElem?_cons_zero, List.getElem?_cons_succ, LdI_some, LdB_some, LdStr_some, LdP_some, LdSl_some, LdM_some, Nat.zero_add, Br_t, Br_f]
            refine h'.pick hcl.symm hpl fun w3 h3 => ?_
            simp only [h3.b3.cell, List.getElem?_toArray, List.getElem?_cons_zero, LdV_some]
            refine ⟨inR_i64 (by omega) (by omega), by kernel_rfl, ?_⟩
            have hch2 := hch.snoc (k := k) (by rw [hcl]; exact hk2)
            simp only [hcl] at hch2
            refine ih (p := p + 1) (by omega) h3 (by simp [hcl]) hch2 hl2 fun w4 h4 => ⟨_, rfl, ?_⟩
            rw [← hGk] at h4 ⊢
            rw [brnot]
            refine brd (fun hle => ?_) (fun hgt => ?_)
            · rw [List.take_of_length_le hle, decide_eq_false (show ¬ limN most < (G (k + 1)).length by omega)] at h4
              exact ⟨h4.less, hle⟩
            · obtain ⟨t, ht⟩ := Gmore (k + 1) (by omega)
              obtain ⟨t1, t2⟩ := take_more (b := t) (show limN most < (G (k + 1)).length by omega)
              have H := hR w4
              rw [ht, t1, decide_eq_true t2, decide_eq_false (show ¬ (G (k + 1) ++ t).length ≤ limN most by omega)] at H
              rw [decide_eq_true (show limN most < (G (k + 1)).length by omega)] at h4
              exact H h4.less
          · exact skip w' h' (by rw [hqd, hw, Bool.false_and])
        · refine brd (fun hge0 => ?_) (fun hneg => ?_)
          · obtain ⟨u, a, hu2, hup2, hul, hac, hach, hacan, hfa⟩ := hupc hge0
            have hu3 : u < ch.length := by omega
            obtain ⟨hci, hcx⟩ := List.getElem?_eq_some_iff.1 (hach hu3)
            have ha := canB_l hacan
            have hd : Below w2.heap.size w2 w2.drew := (Below.refl _ _).drew
            refine ⟨fun w' => Below w2.heap.size w2 w', hd, _, bk_held h2.b0 (fun _ h => h) rfl, ?_⟩
            simp only [NonNil_some, Addr.add_mk, Nat.zero_add]
            rw [hu2]
            refine fd_listH h2.fin hul (fun _ h => h) fun x ⟨x0, x1, x2⟩ => ⟨_, _, _, bk_held h2.b2 (fun _ h => h) rfl, ?_⟩
            refine h2.atH (fun _ h => h) hu3 hul fun hel => ⟨_, hel, ?_⟩
            refine x2.plH (fun _ h => h) x1 rfl (k := ch[u]) hci fun b o c0 c1 c2 c3 => ?_
            rw [hcx] at c0 c1 c2 c3
            simp only [Addr.add_mk, Nat.zero_add, Nat.add_assoc, Nat.reduceAdd]
            refine ⟨_, c1, _, c2, _, c3, ?_⟩
            refine al fun gs w3 hb3 b3 hge3 => ⟨hd.trans hb3, ?_⟩
            refine st_blk b3 (by simp) fun w4 b4 hf4 => st_blk b4 (by simp) fun w5 b5 hf5 => st_blk b5 (by simp) fun w6 b6 hf6 => ?_
            simp only [List.setIfInBounds_toArray, List.set_cons_zero, List.set_cons_succ] at b6
            have D6 : Below w2.heap.size w2 w6 := (hd.trans hb3).trans (((hf4.trans hf5).trans hf6).toBelow (hd.trans hb3).size fun b hb hm => by have := hd.size; omega)
            refine dr fun w7 hb7 _ => ?_
            have D7 := btr D6 D6.size hb7
            have b7 := b6.keep hb7
            have h7 := h2.keep D7
            have hl7 := hv0.keep h7.below
            refine hl7.2.2.pl hl7.2.1 rfl (k := k) hk2 fun b o d0 d1 d2 d3 => ?_
            simp only [Addr.add_mk, Nat.zero_add, d1, b7.cell, List.getElem?_toArray, List.getElem?_cons_zero, List.getElem?_cons_succ, Addr.add_mk, List.getElem?_toArray, List.getElem?_cons_zero, List.getElem?_cons_succ, LdI_some, LdB_some, LdStr_some, LdP_some, LdSl_some, LdM_some, Nat.zero_add, Br_t, Br_f]
            refine brd (fun hbrk => ?_) (fun hno => ?_)
            · have hsk := Gskip ((lsN ls p).length - k) k (by omega) fun i hi h3 h4 => hqf _ (by
                rw [hfa, ← Bool.not_eq_true]
                intro hfit
                have e1 := ancB_iff.1 (fitB_anc hfit)
                have e2 := canB_lt (hvp.1 _ (List.getElem_mem hi))
                rcases Nat.lt_or_eq_of_le h3 with h5 | h5
                · have := List.pairwise_iff_getElem.1 hvp.2 k i hk2 hi h5; omega
                · subst h5; omega)
              rw [show k + ((lsN ls p).length - k) = (lsN ls p).length by omega] at hsk
              rw [hsk]; exact ⟨h7, hl2⟩
            · have hd7 : Below w7.heap.size w7 w7.drew := (Below.refl _ _).drew
              refine ⟨fun w' => Below w7.heap.size w7 w', hd7, _, bk_held h7.b0 (fun _ h => h) rfl, _, blk_held b7 (fun _ h => h) rfl, _, blk_held b7 (fun _ h => h) rfl, _, blk_held b7 (fun _ h => h) rfl, ?_⟩
              refine hl7.2.2.plH (fun _ h => h) hl7.2.1 rfl (k := k) hk2 fun b o c0 c1 c2 c3 => ?_
              simp only [Addr.add_mk, Nat.zero_add, Nat.add_assoc, Nat.reduceAdd]
              refine ⟨_, c1, _, c2, _, c3, ?_⟩
              refine fd_under (h7.keep hd7).fin hpl a.s (lsN ls p)[k].s ha.1 (by omega) fun w8 hb8 => ⟨_, rfl, ?_⟩
              have h8 := (h7.keep hd7).keep hb8
              rw [brnot]
              refine br (fun hfit => ⟨h8, by rw [hfa]; exact hfit⟩) (fun hfit => skip w8 h8 (hqf _ (by rw [hfa]; exact hfit)))
          · refine ⟨h2, ?_⟩
            unfold fitsAt; rw [if_pos (by omega)]
      · have hk2 : k = (lsN ls p).length := by omega
        subst hk2
        exact ⟨h2, hl2⟩
    · refine brd (fun hge0 => ?_) (fun hneg => ?_)
      · obtain ⟨u, a, hu2, hup2, hul, hac, hach, hacan, hfa⟩ := hupc hge0
        have hu3 : u < ch.length := by omega
        obtain ⟨hci, hcx⟩ := List.getElem?_eq_some_iff.1 (hach hu3)
        have hd : Below w.heap.size w w.drew := (Below.refl _ _).drew
        refine ⟨fun w' => Below w.heap.size w w', hd, _, bk_held h.b0 (fun _ h => h) rfl, ?_⟩
        simp only [NonNil_some, Addr.add_mk, Nat.zero_add]
        rw [hu2]
        refine fd_listH h.fin hul (fun _ h => h) fun x ⟨x0, x1, x2⟩ => ⟨_, _, _, bk_held h.b2 (fun _ h => h) rfl, ?_⟩
        refine h.atH (fun _ h => h) hu3 hul fun hel => ⟨_, hel, ?_⟩
        refine x2.plH (fun _ h => h) x1 rfl (k := ch[u]) hci fun b o c0 c1 c2 c3 => ?_
        rw [hcx] at c0 c1 c2 c3
        simp only [Addr.add_mk]
        refine ⟨_, c1, ?_⟩
        have h2 := h.keep hd
        refine first_calls (lsN ls p) v a.s.b (hv0.keep h2.below) hvp.2 fun n0 w3 hb3 hn0 hchar => ⟨_, rfl, n0, rfl, hn0, ?_, h2.keep hb3, hd.trans (hb3.mono hd.size)⟩
        have := Gskip n0 0 (by omega) fun i hi _ h4 => hqf _ (by
          rw [hfa, ← Bool.not_eq_true]
          intro hfit
          have e1 := ancB_iff.1 (fitB_anc hfit)
          have := (hchar i hi).2 (by omega)
          omega)
        rw [Nat.zero_add] at this
        rw [this, G0]
      · exact ⟨0, rfl, Nat.zero_le _, G0, h, Below.refl _ _⟩
end Go.Proofs.Ytbocfedmdjkccaa
/- Twigs: Find and Paths of the program. -/
namespace Go.Proofs.Ytbocfedmdjkccaa
open Go.RowKit Go.Vc
set_option linter.unusedVariables false
set_option linter.unusedSimpArgs false
set_option maxRecDepth 100000
theorem canF_vd {t : Tw} {ls : List (List Pl)} (h : canF t ls = 0) : t.sz ≤ 16 ∧ ls.length = t.sz ∧ Vd ls := by
  unfold canF at h
  by_cases h1 : checkF t = 0
  · rw [if_pos h1] at h
    by_cases h2 : ls.length = t.sz
    · rw [if_pos h2] at h
      by_cases h3 : listsF ls = 0
      · exact ⟨checkF_sz h1, h2, vd_of h3⟩
      · rw [if_neg h3] at h; exact absurd h h3
    · rw [if_neg h2] at h; cases h
  · rw [if_neg h1] at h; exact absurd h h1
theorem begun_calls (t : Tw) (e : E3) (ls : List (List Pl)) (v : Sv) {w : World} {R : Ending → World → Prop} (ht : RTw w t e) (hl : RLs w ls v)
    (h : ∀ fo w', Below w.heap.size w w' → (canF t ls = 0 → ∃ f, fo = some ⟨f, 0, none⟩ ∧ Fd w' f (ptOf t) ls 0) → R (.returned (.tuple #[.pointer fo, .int .i64 (canF t ls)])) w') :
    Calls Try.prog 42 #[.agg #[.string e.nm, .bool e.d, .slice e.sl.1 e.sl.2.1 e.sl.2.2], slv v] w R := by
  refine ok42 e.nm e.d e.sl.1 e.sl.2.1 e.sl.2.2 v.1 v.2.1 v.2.2 ?_
  unfold F42
  refine al fun gt w1 hb1 bt hge1 => ?_
  simp only [Addr.add_mk, bt.cell, List.getElem?_toArray, List.getElem?_cons_zero, List.getElem?_cons_succ, Addr.add_mk, List.getElem?_toArray, List.getElem?_cons_zero, List.getElem?_cons_succ, LdI_some, LdB_some, LdStr_some, LdP_some, LdSl_some, LdM_some, Nat.zero_add, Br_t, Br_f]
  refine checked_calls t e (ht.keep hb1) fun pv w2 hb2 hpv => ⟨_, _, _, _, rfl, ?_⟩
  have B2 := btr hb1 hb1.size hb2
  refine brn (fun hne => ?_) (fun h0 => ?_)
  · have H := h none w2 B2
    unfold canF at H
    rw [if_neg hne] at H
    exact H fun h0 => absurd h0 hne
  have hp2 := hpv h0
  have h16 := checkF_sz h0
  have hpn : pv.2.1 = t.sz := by
    obtain ⟨es, h1, -, h3⟩ := hp2
    rw [h1, h3.len]; exact Tw.pre_len _ _ _
  refine fitsP_calls t.sz ls pv v hpn h16 (hl.keep B2) fun w3 hb3 => ⟨_, rfl, ?_⟩
  have B3 := btr B2 B2.size hb3
  have hcan : canF t ls = fitsF t.sz ls := by unfold canF fitsF; rw [if_pos h0]
  rw [hcan] at h
  refine brn (fun hne => ?_) (fun hf0 => ?_)
  · exact h none w3 B3 fun h0 => absurd h0 hne
  have hvd := canF_vd (hcan.trans hf0)
  have hlen := ptOf_len t
  refine sure_calls (upOk t) (by rw [hlen]; exact t.sz_pos) (by omega) hvd.2.2 (by omega) (hp2.keep hb3) (hl.keep B3) fun f w4 hb4 hfd => ⟨_, rfl, ?_⟩
  have H := h (some ⟨f, 0, none⟩) w4 (btr B3 B3.size hb4) fun _ => ⟨f, rfl, hfd⟩
  rw [hf0] at H
  exact H
/-- All matches of a pattern. -/
def allOf (t : Tw) (ls : List (List Pl)) : List (List Pl) := allF (ptOf t) ls (ptOf t).length []
def findE (t : Tw) (ls : List (List Pl)) (most : Int) : Int := if canF t ls = 0 then if most < 0 then 1 else if limN most < (allOf t ls).length then 2 else 0 else canF t ls
def findL (t : Tw) (ls : List (List Pl)) (most : Int) : List (List Int) := if findE t ls most = 0 then (allOf t ls).map hanF else []
theorem OMs.nil (w : World) (lo hi : Nat) : OMs w lo hi [] (none, 0, 0) [] :=
  ⟨Own.nil _ _ _ _, rfl, (by simp), (fun b hb => by cases hb), (fun i h => by simp at h), (by simp), (fun i j hi => by simp at hi), (by simp)⟩
theorem OMs.rebase {w : World} {lo hi : Nat} {ls : List (List Int)} {v : Sv} {vs : List Sv} (h : OMs w lo hi ls v vs) {lo' : Nat} (hl : lo' ≤ lo) : OMs w lo' hi ls v vs :=
  ⟨h.own.rebase fun b hb => by have := (h.own.lt b hb).1; omega, h.len, h.small, h.row, fun i h1 h2 => (h.each i h1 h2).rebase fun b hb => by have := ((h.each i h1 h2).lt b hb).1; omega, h.rows, h.pw, h.out⟩
theorem zrow_int (n : Nat) : zrow #[Value.int .i64 0] (n * 1) = ((List.replicate n (0 : Int)).map (Value.int .i64)).toArray := by
  unfold zrow
  refine Array.ext (by simp) fun i h1 h2 => ?_
  simp [Nat.mod_one]
theorem findP_calls (t : Tw) (e : E3) (ls : List (List Pl)) (v : Sv) (most : Int) {w : World} {R : Ending → World → Prop} (ht : RTw w t e) (hl : RLs w ls v)
    (h : ∀ u us w', Below w.heap.size w w' → OMs w' w.heap.size w'.heap.size (findL t ls most) u us → R (.returned (.tuple #[slv u, .int .i64 (findE t ls most)])) w') :
    Calls Try.prog 34 #[.agg #[.string e.nm, .bool e.d, .slice e.sl.1 e.sl.2.1 e.sl.2.2], slv v, .int .i64 most] w R := by
  refine ok34 e.nm e.d e.sl.1 e.sl.2.1 e.sl.2.2 v.1 v.2.1 v.2.2 most ?_
  unfold F34
  have none : ∀ w', Below w.heap.size w w' → ∀ z, findE t ls most = z → z ≠ 0 → R (.returned (.tuple #[.slice none 0 0, .int .i64 z])) w' := fun w' hb z hz h0 => by
    have H := h (.none, 0, 0) [] w' hb
    unfold findL at H
    rw [hz, if_neg h0] at H
    exact H (OMs.nil _ _ _)
  refine al fun gt w1 hb1 bt hge1 => al fun gm w2 hb2 bm hge2 => ?_
  have B2 := btr hb1 hb1.size hb2
  have bt2 := bt.keep hb2
  simp only [Addr.add_mk, bt2.cell, List.getElem?_toArray, List.getElem?_cons_zero, List.getElem?_cons_succ, Addr.add_mk, List.getElem?_toArray, List.getElem?_cons_zero, List.getElem?_cons_succ, LdI_some, LdB_some, LdStr_some, LdP_some, LdSl_some, LdM_some, Nat.zero_add, Br_t, Br_f]
  refine begun_calls t e ls v (ht.keep B2) (hl.keep B2) fun fo w3 hb3 hfo => ⟨_, _, rfl, ?_⟩
  have B3 := btr B2 B2.size hb3
  refine al fun gfb w4 hb4 bf4 hge4 => st_blk bf4 (by simp) fun w5 bf5 hf5 => ?_
  simp only [List.setIfInBounds_toArray, List.set_cons_zero] at bf5
  have hs1 := hb1.size
  have hs2 := hb2.size
  have hs3 := hb3.size
  have hs4 := hb4.size
  have hs5 := hf5.size
  have hl2 := bm.lt
  have hl4 := bf4.lt
  have D5 : Below w3.heap.size w3 w5 := hb4.trans (hf5.toBelow hb4.size fun b hb hm => by omega)
  have B5 := btr B3 B3.size D5
  refine brn (fun hne => none w5 B5 _ (by unfold findE; rw [if_neg hne]) hne) (fun h0 => ?_)
  have bm5 := (bm.keep hb3).keep D5
  simp only [bm5.cell, List.getElem?_toArray, List.getElem?_cons_zero, Addr.add_mk, List.getElem?_toArray, List.getElem?_cons_zero, List.getElem?_cons_succ, LdI_some, LdB_some, LdStr_some, LdP_some, LdSl_some, LdM_some, Nat.zero_add, Br_t, Br_f]
  refine brd (fun hneg => none w5 B5 1 (by unfold findE; rw [if_pos h0, if_pos hneg]) (by decide)) (fun hm0 => ?_)
  obtain ⟨f, rfl, hfd⟩ := hfo h0
  obtain ⟨h16, hll, hvd⟩ := canF_vd h0
  have hlen := ptOf_len t
  refine al fun gl w6 hb6 bl6 hge6 => al fun gmo w7 hb7 bmo7 hge7 => st_blk bmo7 (by simp) fun w8 bmo8 hf8 => ?_
  simp only [List.setIfInBounds_toArray, List.set_cons_zero] at bmo8
  have hs6 := hb6.size
  have hs7 := hb7.size
  have hs8 := hf8.size
  have hl6 := bl6.lt
  have hl7 := bmo7.lt
  have D7 := btr hb6 hb6.size hb7
  have D8 : Below w5.heap.size w5 w8 := D7.trans (hf8.toBelow D7.size fun b hb hm => by omega)
  have bl8 := hf8.blk (bl6.keep hb7) (by omega)
  have bf8 := bf5.keep D8
  simp only [bf8.cell, List.getElem?_toArray, List.getElem?_cons_zero, Addr.add_mk, List.getElem?_toArray, List.getElem?_cons_zero, List.getElem?_cons_succ, LdI_some, LdB_some, LdStr_some, LdP_some, LdSl_some, LdM_some, Nat.zero_add, Br_t, Br_f]
  refine ok53 _ _ ?_
  unfold F53
  refine al fun c0 w9 hb9 b09 hge9 => al fun c1 w10 hb10 b110 hge10 => ?_
  have hs9 := hb9.size
  have hs10 := hb10.size
  have hl9 := b09.lt
  have hl10 := b110.lt
  have b010 := b09.keep hb10
  have D10 := btr D8 D8.size (btr hb9 hb9.size hb10)
  have DL := btr D5 D5.size D10
  simp only [b010.cell, NonNil_some, List.getElem?_toArray, List.getElem?_cons_zero, Addr.add_mk, List.getElem?_toArray, List.getElem?_cons_zero, List.getElem?_cons_succ, LdI_some, LdB_some, LdStr_some, LdP_some, LdSl_some, LdM_some, Nat.zero_add, Br_t, Br_f]
  refine fd_len (hfd.keep DL) fun pA pC => ⟨by omega, by omega, by omega, ?_⟩
  rw [show (((ptOf t).length : Nat) : Int).toNat = (ptOf t).length by simp, zrow_int]
  refine al fun g11 w11 hb11 b11 hge11 => al fun c2 w12 hb12 b12 hge12 => st_blk b12 (by simp) fun w13 b13 hf13 => al fun c3 w14 hb14 b14 hge14 => st_blk b14 (by simp) fun w15 b15 hf15 => ?_
  simp only [List.setIfInBounds_toArray, List.set_cons_zero] at b13 b15
  have hs11 := hb11.size
  have hs12 := hb12.size
  have hs13 := hf13.size
  have hs14 := hb14.size
  have hs15 := hf15.size
  have hl11 := b11.lt
  have hl12 := b12.lt
  have hl14 := b14.lt
  have E12 := btr hb11 hb11.size hb12
  have E13 : Below w10.heap.size w10 w13 := E12.trans (hf13.toBelow E12.size fun b hb hm => by omega)
  have E14 := btr E13 E13.size hb14
  have E15 : Below w10.heap.size w10 w15 := E14.trans (hf15.toBelow E14.size fun b hb hm => by omega)
  have D15 := btr D10 D10.size E15
  have DL15 := btr D5 D5.size D15
  have k15 : ∀ {b c t}, Blk w10 b c t → Blk w15 b c t := fun h => h.keep E15
  have k8 : ∀ {b c t}, Blk w8 b c t → Blk w10 b c t := fun h => (h.keep hb9).keep hb10
  have b13' := hf15.blk (b13.keep hb14) (by omega)
  have b11' := hf15.blk ((hf13.blk (b11.keep hb12) (by omega)).keep hb14) (by omega)
  let B : Bx := ⟨gm, gfb, gl, gmo, c0, c1, g11, c2, c3, w15.heap.size⟩
  have hFI : FI w3 f (ptOf t) ls most B w15 [] [] false := by
    refine ⟨DL15, hfd, ?_, ⟨_, bm5.keep D15⟩, ⟨_, bf5.keep D15⟩, ⟨_, k15 (k8 bmo8)⟩, ⟨_, k15 b010⟩, ⟨_, k15 b110⟩, ⟨_, b13'⟩, ⟨_, b15⟩, ⟨List.replicate (ptOf t).length 0, by simp, ⟨_, b11'⟩, fun i h => by simp at h⟩, (.none, 0, 0), [], ⟨_, k15 (k8 bl8)⟩, OMs.nil _ _ _⟩
    show w3.heap.size ≤ gfb ∧ gm < gfb ∧ gfb < gl ∧ gl < gmo ∧ gmo < c0 ∧ c0 < c1 ∧ c1 < g11 ∧ g11 < c2 ∧ c2 < c3 ∧ c3 < w15.heap.size ∧ w15.heap.size ≤ w15.heap.size
    omega
  simp only [b15.cell, List.getElem?_toArray, List.getElem?_cons_zero, LdV_some]
  refine ⟨by kernel_rfl, ?_⟩
  refine goes2_calls (B := B) (upOk t) (by omega) (by omega) hvd (by omega) (ptOf t).length (p := 0) (ch := []) (chP := []) (out := []) (by omega) hFI rfl ⟨rfl, fun i h => by simp at h⟩ (by simp) fun w16 h16' => ⟨_, rfl, rfl, ?_⟩
  have o16 := h16'.ord
  have hBw : Below w.heap.size w w16 := B3.trans (h16'.below.mono B3.size)
  rw [List.nil_append] at h16'
  have hmo := h16'.bmo
  simp only [show B.gmo = gmo from rfl] at hmo
  simp only [hmo.cell, List.getElem?_toArray, List.getElem?_cons_zero, Addr.add_mk, List.getElem?_toArray, List.getElem?_cons_zero, List.getElem?_cons_succ, LdI_some, LdB_some, LdStr_some, LdP_some, LdSl_some, LdM_some, Nat.zero_add, Br_t, Br_f]
  rw [List.length_map] at hmo ⊢
  refine brd (fun hmany => none w16 hBw 2 (by unfold findE allOf; rw [if_pos h0, if_neg hm0, if_pos hmany]) (by decide)) (fun hfew => ?_)
  obtain ⟨u, us, u1, u2⟩ := h16'.bl
  simp only [show B.gl = gl from rfl] at u1
  simp only [u1.cell, List.getElem?_toArray, List.getElem?_cons_zero, Addr.add_mk, List.getElem?_toArray, List.getElem?_cons_zero, List.getElem?_cons_succ, LdI_some, LdB_some, LdStr_some, LdP_some, LdSl_some, LdM_some, Nat.zero_add, Br_t, Br_f]
  have hE : findE t ls most = 0 := by unfold findE allOf; rw [if_pos h0, if_neg hm0, if_neg hfew]
  have H := h u us w16 hBw
  unfold findL at H
  rw [hE, if_pos rfl] at H
  refine H ?_
  rw [List.take_of_length_le (by simp; omega)] at u2
  exact u2.rebase (by have := B3.size; have := o16; simp only [B] at this; omega)
end Go.Proofs.Ytbocfedmdjkccaa
