/- Joins: the walk through two lists that fit. -/
import Derived.Test.YtaanlildniiijaaSpLaw
namespace Go.Proofs.Ytaanlildniiijaa
open Go.RowKit Go.Vc
set_option maxRecDepth 100000
set_option linter.unusedSimpArgs false
/-- Small numbers in a row. -/
def LN : Lay Nat := ⟨1, fun n => [.int .i64 n], fun _ => rfl, fun _ => by simp [Value.oneCell'], by decide⟩
section
variable {w : World} {A : Option Addr} {c : Nat}
theorem Rd.nat {xs : List Nat} (h : Rd LN w A c xs) {n : Nat} (hn : n = xs.length) {i : Int} {k : Nat} (hi : i = k) (hk : k < xs.length) {K : Addr → Prop}
    (hK : ∀ b o, w.cell? ⟨b, o, none⟩ = some (.int .i64 xs[k]) → K ⟨b, o, none⟩) : IdxA A n i 1 K := by
  subst hi
  refine h.idx hn (by omega) (by omega) rfl fun b o hc => ?_
  simp only [Int.toNat_natCast] at hc
  exact hK b o (hc 0 _ rfl)
theorem Rd.topN {n : Nat} {t : Nat} {u : List Nat} (h : Rd LN w A c (t :: u).reverse) (hn : n = u.length + 1) {K : Addr → Prop}
    (hK : ∀ b o, w.cell? ⟨b, o, none⟩ = some (.int .i64 t) → K ⟨b, o, none⟩) : IdxA A n ((n : Int) - 1) 1 K := by
  subst hn
  refine h.nat (by simp) (k := u.length) (by omega) (by simp) fun b o c0 => ?_
  have e : (t :: u).reverse[u.length]'(by simp) = t := by simp
  rw [e] at c0
  exact hK b o c0
theorem Rd.plEl {xs : List Pl} (h : Rd LPl w A c xs) {n : Nat} (hn : n = xs.length) {i : Int} {k : Nat} (hi : i = k) (hk : k < xs.length) {K : Addr → Prop}
    (hK : ∀ b o, w.cell? ⟨b, o, none⟩ = some (.int .u64 (el xs k).node) → w.cell? ⟨b, o + 1, none⟩ = some (.int .u64 (el xs k).s.b) → w.cell? ⟨b, o + 2, none⟩ = some (.int .u64 (el xs k).s.e) → w.cell? ⟨b, o + 3, none⟩ = some (.int .i64 (el xs k).s.l) → K ⟨b, o, none⟩) : IdxA A n i 4 K := by
  refine h.pl hn hi hk ?_
  rw [← (at_mem hk).2]
  exact hK
end
/-- A row that stayed as it was. -/
theorem Own.same {α : Type} {L : Lay α} {w w1 : World} {base : Nat} {e : TypeId} {v : Value} {xs : List α} (h : Own L w base e v xs) (hs : ∀ b, rowOf v = some b → w1.heap[b]? = w.heap[b]?) : Own L w1 base e v xs := by
  rcases h with h | h | ⟨g, c, cur, rfl, hb, hh, hn, hm, hsz, ht⟩
  · exact .inl h
  · exact .inr (.inl h)
  · exact .inr (.inr ⟨g, c, cur, rfl, hb, by rw [hs g rfl]; exact hh, hn, hm, hsz, ht⟩)
/-- What a walk needs of the function that it calls: Inv i r is how things are before it is called with i, where r is the row that is the walk's own. -/
structure Each (a d : List Pl) (A : Option Addr) (aC : Nat) (D : Option Addr) (dC : Nat) (f : Nat) (fst cap : Array Value) (Inv : Nat → Option Nat → World → Prop) (Stop : World → Prop) : Prop where
  ok : okF Try.prog f = true
  rd : ∀ i r w, Inv i r w → Rd LPl w A aC a ∧ Rd LPl w D dC d
  grow : ∀ i r r' w w1, Inv i r w → w.grownBy w1 r → (r' = r ∨ r' = none ∨ ∃ g, r' = some g ∧ w.heap.size ≤ g ∧ g < w1.heap.size) → Inv i r' w1
  call : ∀ (i : Nat) (_ : i < d.length) w O oc (R : Ending → World → Prop), Inv i (rowOf (.slice O (ancs a (el d i).s).length oc)) w → Rd LN w O oc (ancs a (el d i).s) →
    (∀ w', Inv (i + 1) (rowOf (.slice O (ancs a (el d i).s).length oc)) w' → w.heap.size ≤ w'.heap.size → (∀ b, rowOf (.slice O (ancs a (el d i).s).length oc) = some b → w'.heap[b]? = w.heap[b]?) → R (.returned (.bool true)) w') → (∀ w', Stop w' → R (.returned (.bool false)) w') →
    Calls Try.prog f (fst ++ #[.int .i64 i, .slice O (ancs a (el d i).s).length oc] ++ cap) w R
theorem grown_of_below {w w1 : World} (h : Below w.heap.size w w1) (r : Option Nat) : w.grownBy w1 r := ⟨h.os, h.tape, h.output, h.size, fun i hi _ => h.block i hi⟩
theorem Each.keep {a d : List Pl} {A : Option Addr} {aC : Nat} {D : Option Addr} {dC f : Nat} {fst cap : Array Value} {Inv : Nat → Option Nat → World → Prop} {Stop : World → Prop} (E : Each a d A aC D dC f fst cap Inv Stop) {i : Nat} {r : Option Nat} {w w1 : World} (h : Inv i r w) (hb : Below w.heap.size w w1) : Inv i r w1 :=
  E.grow i r r w w1 h (grown_of_below hb r) (.inl rfl)
theorem walk_calls (a d : List Pl) (L : Lam a d) {A : Option Addr} {aC : Nat} {D : Option Addr} {dC f : Nat} {fst cap : Array Value} {Inv : Nat → Option Nat → World → Prop} {Stop : World → Prop} (E : Each a d A aC D dC f fst cap Inv Stop)
    {w : World} {R : Ending → World → Prop} (h0 : Inv 0 none w) (hend : ∀ r w', Inv d.length r w' → R (.returned (.tuple #[])) w') (hstop : ∀ w', Stop w' → R (.returned (.tuple #[])) w') :
    Calls Try.prog 60 #[.slice A a.length aC, .slice D d.length dC, .func (.func f) fst cap] w R := by
  have hla := L.la
  have hld := L.ld
  refine ok60 A a.length aC D d.length dC _ ?_
  unfold F60
  refine ⟨fun O n oc k x w1 => ∃ (i k' : Nat) (st : List Nat) (T : Int), x = i ∧ k = k' ∧ i ≤ d.length ∧ k' ≤ a.length ∧ NI a k' st T ∧ (i < d.length → T ≤ (el d i).s.b) ∧ (k' < a.length → T ≤ (el a k').s.b) ∧ (∀ j, j < k' → i < d.length → (el a j).s.b < (el d i).s.b) ∧ Inv i (rowOf (.slice O n oc)) w1 ∧ Own LN w1 0 3 (.slice O n oc) st.reverse, fun O n oc k x w1 => d.length - x.toNat, ?_, ?_⟩
  · refine ⟨0, 0, [], 0, rfl, rfl, by omega, by omega, NI.nil _ _, fun hi => ?_, fun hi => ?_, by omega, h0, Own.nil _ _ _ _⟩
    · have := canB_be (L.cd _ (at_mem hi).1); omega
    · have := canB_be (L.ca _ (at_mem hi).1); omega
  rintro O n oc k x w1 ⟨i, k, st, T, rfl, rfl, hi, hk, ni, hT1, hT2, hbef, inv, own⟩
  unfold F60_l3
  refine brd (fun hlt => ?_) (fun hge => ?_)
  rotate_left
  · obtain rfl : i = d.length := by omega
    exact hend _ _ inv
  have hi2 : i < d.length := by omega
  replace hT1 := hT1 hi2
  replace hbef : ∀ j, j < k → (el a j).s.b < (el d i).s.b := fun j hj => hbef j hj hi2
  have hxm := (at_mem hi2).1
  refine (E.rd _ _ _ inv).2.plEl rfl rfl hi2 fun b o c0 c1 c2 c3 => ?_
  simp only [c0, c1, c2, c3, Addr.add_mk, List.getElem?_toArray, List.getElem?_cons_zero, List.getElem?_cons_succ, LdI_some, LdB_some, LdStr_some, LdP_some, LdSl_some, LdM_some, Nat.zero_add, Br_t, Br_f]
  refine al4 fun g w2 hb2 hg hge => ?_
  have inv2 := E.keep inv hb2
  have own2 := own.keep hb2
  have hne0 : rowOf (.slice O n oc) ≠ some g := fun h => by have := (own.lt g h).2; omega
  clear inv own c0 c1 c2 c3 hb2 hge
  generalize hx : el d i = x at *
  -- the boxes of one round
  refine ⟨fun O n oc k w3 => ∃ (k' : Nat) (st : List Nat) (T : Int), k = k' ∧ k' ≤ a.length ∧ NI a k' st T ∧ T ≤ x.s.b ∧ (∀ j, j < k' → (el a j).s.b < x.s.b) ∧ (k' < a.length → ¬ (el a k').s.b < x.s.b) ∧ Inv i (rowOf (.slice O n oc)) w3 ∧ Own LN w3 0 3 (.slice O n oc) st.reverse ∧ Blk w3 g #[.int .u64 x.node, .int .u64 x.s.b, .int .u64 x.s.e, .int .i64 x.s.l] 51 ∧ rowOf (.slice O n oc) ≠ some g, ?_, ?_⟩
  · rintro O n oc k w3 ⟨k, st, T, rfl, hk, ni, hT, hbef, hk2, inv, own, hg, hne⟩
    unfold F60_j10
    refine ⟨fun O n oc w4 => ∃ (st : List Nat), NI a k st x.s.b ∧ (∀ j u, st = j :: u → ¬ (el a j).s.e < x.s.b) ∧ Inv i (rowOf (.slice O n oc)) w4 ∧ Own LN w4 0 3 (.slice O n oc) st.reverse, ?_, ?_⟩
    · rintro O n oc w4 ⟨st, ni, htop, inv, own⟩
      unfold F60_j12
      have hst := ni.ancs L hxm hk hbef hk2 htop
      have hst' := hst
      rw [← hx] at hst'
      obtain ⟨hn, hr⟩ := own.rd
      rw [hst'] at hn hr
      subst hn
      refine ⟨E.ok, E.call i hi2 w4 O oc _ inv hr (fun w5 inv5 hsz5 hb5 => ?_) (fun w5 hs => ?_)⟩
      · refine ⟨true, rfl, ?_⟩
        simp only [Bool.not_true, Br_f]
        refine ⟨inR_i64 (by omega) (by omega), ⟨i + 1, k, st, x.s.b, by simp, rfl, by omega, hk, ni, fun h1 => ?_, fun h1 => by have := hk2 h1; omega, fun j hj h1 => ?_, inv5, own.same hb5⟩, by omega⟩
        · have := (List.pairwise_iff_getElem.1 L.sd) i (i + 1) hi2 h1 (by omega)
          rw [← (at_mem hi2).2, ← (at_mem h1).2, hx] at this
          omega
        · have := (List.pairwise_iff_getElem.1 L.sd) i (i + 1) hi2 h1 (by omega)
          rw [← (at_mem hi2).2, ← (at_mem h1).2, hx] at this
          have := hbef j hj
          omega
      · refine ⟨false, rfl, ?_⟩
        exact hstop w5 hs
    · refine ⟨fun O n oc w4 => ∃ (st : List Nat), NI a k st x.s.b ∧ Inv i (rowOf (.slice O n oc)) w4 ∧ Own LN w4 0 3 (.slice O n oc) st.reverse ∧ Blk w4 g #[.int .u64 x.node, .int .u64 x.s.b, .int .u64 x.s.e, .int .i64 x.s.l] 51 ∧ rowOf (.slice O n oc) ≠ some g, fun O n oc w4 => n, ⟨st, ni.up hT, inv, own, hg, hne⟩, ?_⟩
      rintro O n oc w4 ⟨st, ni, inv, own, hg, hne⟩
      unfold F60_l10
      have hn := own.rd.1
      rw [List.length_reverse] at hn
      have hlen := ni.len
      refine ⟨fun w5 => (∃ j u, st = j :: u ∧ (el a j).s.e < x.s.b) ∧ Inv i (rowOf (.slice O n oc)) w5 ∧ Own LN w5 0 3 (.slice O n oc) st.reverse ∧ Blk w5 g #[.int .u64 x.node, .int .u64 x.s.b, .int .u64 x.s.e, .int .i64 x.s.l] 51, ?_, ?_⟩
      · rintro w5 ⟨⟨j, u, rfl, hj⟩, inv, own, hg⟩
        unfold F60_j11
        simp only [List.length_cons] at hn hlen
        have hcap := own.cap
        have hrow : ∀ m, rowOf (.slice O m oc) = rowOf (.slice O n oc) := fun m => by cases O <;> cases oc <;> rfl
        refine ⟨inR_i64 (by omega) (by omega), by omega, by omega, by omega, ⟨u, ni.pop hj, ?_, own.pop' (by omega), hg, ?_⟩, by dsimp only; omega⟩
        · rw [hrow]; exact inv
        · rw [hrow]; exact hne
      · refine dr fun w5 hb5 _ => ?_
        have own5 := own.keep hb5
        have inv5 := E.keep inv hb5
        have hg5 := hg.keep hb5
        refine brd (fun hpos => ?_) (fun hneg => ?_)
        · obtain _ | ⟨t, u⟩ := st
          · simp at hn; omega
          refine ⟨inR_i64 (by omega) (by omega), ?_⟩
          refine own5.rd.2.topN (by simpa using hn) fun b o c0 => ?_
          simp only [c0, Addr.add_mk, List.getElem?_toArray, List.getElem?_cons_zero, List.getElem?_cons_succ, LdI_some, LdB_some, LdStr_some, LdP_some, LdSl_some, LdM_some, Nat.zero_add, Br_t, Br_f]
          refine (E.rd _ _ _ inv5).1.plEl rfl rfl (by have := ni.lt t (by simp); omega) fun b o c0 c1 c2 c3 => ?_
          simp only [c2, hg5.cell, Addr.add_mk, List.getElem?_toArray, List.getElem?_cons_zero, List.getElem?_cons_succ, LdI_some, LdB_some, LdStr_some, LdP_some, LdSl_some, LdM_some, Nat.zero_add, Br_t, Br_f]
          refine brd (fun hlt2 => ⟨⟨t, u, rfl, hlt2⟩, inv5, own5, hg5⟩) (fun hlt2 => ⟨t :: u, ni, ?_, inv5, own5⟩)
          rintro _ _ ⟨⟩
          exact hlt2
        · obtain rfl : st = [] := List.eq_nil_of_length_eq_zero (by omega)
          exact ⟨[], ni, by simp, inv5, own5⟩
  · refine ⟨fun O n oc k w3 => ∃ (k' : Nat) (st : List Nat) (T : Int), k = k' ∧ k' ≤ a.length ∧ NI a k' st T ∧ T ≤ x.s.b ∧ (∀ j, j < k' → (el a j).s.b < x.s.b) ∧ (k' < a.length → T ≤ (el a k').s.b) ∧ Inv i (rowOf (.slice O n oc)) w3 ∧ Own LN w3 0 3 (.slice O n oc) st.reverse ∧ Blk w3 g #[.int .u64 x.node, .int .u64 x.s.b, .int .u64 x.s.e, .int .i64 x.s.l] 51 ∧ rowOf (.slice O n oc) ≠ some g, fun O n oc k w3 => a.length - k.toNat, ⟨k, st, T, rfl, hk, ni, hT1, hbef, hT2, inv2, own2, hg, ?_⟩, ?_⟩
    · exact hne0
    rintro O n oc k w3 ⟨k, st, T, rfl, hk, ni, hT, hbef, hT2, inv, own, hg, hne⟩
    unfold F60_l5
    refine ⟨fun w4 => k < a.length ∧ (el a k).s.b < x.s.b ∧ Inv i (rowOf (.slice O n oc)) w4 ∧ Own LN w4 0 3 (.slice O n oc) st.reverse ∧ Blk w4 g #[.int .u64 x.node, .int .u64 x.s.b, .int .u64 x.s.e, .int .i64 x.s.l] 51, ?_, ?_⟩
    rotate_left
    · refine dr fun w4 hb4 _ => ?_
      have own4 := own.keep hb4
      have inv4 := E.keep inv hb4
      have hg4 := hg.keep hb4
      refine brd (fun hlt2 => ?_) (fun hge2 => ⟨k, st, T, rfl, hk, ni, hT, hbef, fun h1 => by omega, inv4, own4, hg4, hne⟩)
      refine (E.rd _ _ _ inv4).1.plEl rfl rfl (by omega) fun b o c0 c1 c2 c3 => ?_
      simp only [c1, hg4.cell, Addr.add_mk, List.getElem?_toArray, List.getElem?_cons_zero, List.getElem?_cons_succ, LdI_some, LdB_some, LdStr_some, LdP_some, LdSl_some, LdM_some, Nat.zero_add, Br_t, Br_f]
      exact brd (fun h1 => ⟨by omega, h1, inv4, own4, hg4⟩) (fun h1 => ⟨k, st, T, rfl, hk, ni, hT, hbef, fun _ => h1, inv4, own4, hg4, hne⟩)
    rintro w4 ⟨hk2, hkb, inv, own, hg⟩
    unfold F60_j6
    refine ⟨fun O n oc w5 => ∃ st : List Nat, NI a k st (el a k).s.b ∧ (∀ j u, st = j :: u → ¬ (el a j).s.e < (el a k).s.b) ∧ Inv i (rowOf (.slice O n oc)) w5 ∧ Own LN w5 0 3 (.slice O n oc) st.reverse ∧ Blk w5 g #[.int .u64 x.node, .int .u64 x.s.b, .int .u64 x.s.e, .int .i64 x.s.l] 51 ∧ rowOf (.slice O n oc) ≠ some g, ?_, ?_⟩
    · rintro O n oc w5 ⟨st, ni, htop, inv, own, hg, hne⟩
      unfold F60_j8
      have hlen := ni.len
      refine ap1 (L := LN) (x := k) (.int .i64 0) 8 rfl rfl rfl rfl own (Nat.zero_le _) (by simp; omega) (by simp [maxLen]; omega) fun A' c' w6 ho hgr => ?_
      refine ⟨A', _, c', rfl, inR_i64 (by omega) (by omega), ⟨k + 1, k :: st, (el a k).s.b, by simp, by omega, ni.push L hk2 rfl htop, by omega, fun j hj => ?_, fun h1 => ?_, E.grow _ _ _ _ _ inv hgr.grown (hgr.row.imp id fun h => h.imp id fun ⟨g, h1, h2⟩ => ⟨g, h1, h2, (ho.lt g h1).2⟩), by rw [List.reverse_cons]; exact ho, ?_, ?_⟩, by dsimp only; omega⟩
      · rcases Nat.lt_succ_iff_lt_or_eq.1 hj with h1 | rfl
        · exact hbef j h1
        · exact hkb
      · have h2 : (el a k).s.b < (el a (k + 1)).s.b := L.lt (Nat.lt_succ_self k) h1; omega
      · unfold Blk; rw [hgr.grown.block g hg.lt (Ne.symm hne)]; exact hg
      · rcases hgr.row with h1 | h1 | ⟨g2, h1, h2⟩
        · rw [h1]; exact hne
        · rw [h1]; simp
        · rw [h1]; intro h3; cases h3; have := hg.lt; omega
    · refine ⟨fun O n oc w5 => ∃ st : List Nat, NI a k st (el a k).s.b ∧ Inv i (rowOf (.slice O n oc)) w5 ∧ Own LN w5 0 3 (.slice O n oc) st.reverse ∧ Blk w5 g #[.int .u64 x.node, .int .u64 x.s.b, .int .u64 x.s.e, .int .i64 x.s.l] 51 ∧ rowOf (.slice O n oc) ≠ some g, fun O n oc w5 => n, ⟨st, ni.up (hT2 hk2), inv, own, hg, hne⟩, ?_⟩
      rintro O n oc w5 ⟨st, ni, inv, own, hg, hne⟩
      unfold F60_l6
      have hn := own.rd.1
      rw [List.length_reverse] at hn
      have hlen := ni.len
      refine ⟨fun w6 => (∃ j u, st = j :: u ∧ (el a j).s.e < (el a k).s.b) ∧ Inv i (rowOf (.slice O n oc)) w6 ∧ Own LN w6 0 3 (.slice O n oc) st.reverse ∧ Blk w6 g #[.int .u64 x.node, .int .u64 x.s.b, .int .u64 x.s.e, .int .i64 x.s.l] 51, ?_, ?_⟩
      · rintro w6 ⟨⟨j, u, rfl, hj⟩, inv, own, hg⟩
        unfold F60_j7
        simp only [List.length_cons] at hn hlen
        have hcap := own.cap
        have hrow : ∀ m, rowOf (.slice O m oc) = rowOf (.slice O n oc) := fun m => by cases O <;> cases oc <;> rfl
        refine ⟨inR_i64 (by omega) (by omega), by omega, by omega, by omega, ⟨u, ni.pop hj, ?_, own.pop' (by omega), hg, ?_⟩, by dsimp only; omega⟩
        · rw [hrow]; exact inv
        · rw [hrow]; exact hne
      · refine dr fun w6 hb6 _ => ?_
        have own6 := own.keep hb6
        have inv6 := E.keep inv hb6
        have hg6 := hg.keep hb6
        refine brd (fun hpos => ?_) (fun hneg => ?_)
        · obtain _ | ⟨t, u⟩ := st
          · simp at hn; omega
          refine ⟨inR_i64 (by omega) (by omega), ?_⟩
          refine own6.rd.2.topN (by simpa using hn) fun b o c0 => ?_
          simp only [c0, Addr.add_mk, List.getElem?_toArray, List.getElem?_cons_zero, List.getElem?_cons_succ, LdI_some, LdB_some, LdStr_some, LdP_some, LdSl_some, LdM_some, Nat.zero_add, Br_t, Br_f]
          refine (E.rd _ _ _ inv6).1.plEl rfl rfl (by have := ni.lt t (by simp); omega) fun b o c0 c1 c2 c3 => ?_
          simp only [c2, Addr.add_mk, List.getElem?_toArray, List.getElem?_cons_zero, List.getElem?_cons_succ, LdI_some, LdB_some, LdStr_some, LdP_some, LdSl_some, LdM_some, Nat.zero_add, Br_t, Br_f]
          refine (E.rd _ _ _ inv6).1.plEl rfl rfl hk2 fun b o c0 c1 c2 c3 => ?_
          simp only [c1, Addr.add_mk, List.getElem?_toArray, List.getElem?_cons_zero, List.getElem?_cons_succ, LdI_some, LdB_some, LdStr_some, LdP_some, LdSl_some, LdM_some, Nat.zero_add, Br_t, Br_f]
          refine brd (fun hlt2 => ⟨⟨t, u, rfl, hlt2⟩, inv6, own6, hg6⟩) (fun hlt2 => ⟨t :: u, ni, ?_, inv6, own6, hg6, hne⟩)
          rintro _ _ ⟨⟩
          exact hlt2
        · obtain rfl : st = [] := List.eq_nil_of_length_eq_zero (by omega)
          exact ⟨[], ni, by simp, inv6, own6, hg6, hne⟩
end Go.Proofs.Ytaanlildniiijaa
