/- Joins: the pairs, by the walk. -/
import Derived.Test.YtaanlildniiijaaSpPairs
namespace Go.Proofs.Ytaanlildniiijaa
open Go.RowKit Go.Vc
set_option maxRecDepth 100000
set_option linter.unusedSimpArgs false
def pairsOf (a d : List Pl) (direct : Bool) (i : Nat) : List (Int × Int) := (jn a (el d i).s direct).map fun k => ((el a k).node, (el d i).node)
def pairsTo (a d : List Pl) (direct : Bool) (n : Nat) : List (Int × Int) := (List.range n).flatMap (pairsOf a d direct)
theorem pairsTo_succ (a d : List Pl) (direct : Bool) (n : Nat) : pairsTo a d direct (n + 1) = pairsTo a d direct n ++ pairsOf a d direct n := by
  simp [pairsTo, List.range_succ, List.flatMap_append]
theorem pairsTo_le (a d : List Pl) (direct : Bool) {n m : Nat} (h : n ≤ m) : (pairsTo a d direct n).length ≤ (pairsTo a d direct m).length := by
  obtain ⟨k, rfl⟩ := Nat.exists_eq_add_of_le h
  clear h
  induction k with
  | zero => exact Nat.le_refl _
  | succ k ih => rw [← Nat.add_assoc, pairsTo_succ, List.length_append]; omega
abbrev boxes (a d : List Pl) (A : Option Addr) (aC : Nat) (D : Option Addr) (dC : Nat) (direct : Bool) (ga gd gb : Nat) : List (Nat × Array Value × TypeId) :=
  [(ga, #[.slice A a.length aC], 37), (gd, #[.slice D d.length dC], 37), (gb, #[.bool direct], 4)]
def PStop (bs : List (Nat × Array Value × TypeId)) (go : Nat) (w0 : World) (tot : Nat) (w : World) : Prop := ∃ out N, PI bs go w0 out N w ∧ 16384 < out.length ∧ 16384 < tot
theorem pairs_each {a d : List Pl} (L : Lam a d) (direct : Bool) {A : Option Addr} {aC : Nat} {D : Option Addr} {dC : Nat} {w0 : World} (hA : Rd LPl w0 A aC a) (hD : Rd LPl w0 D dC d) (ga gd gb go : Nat) :
    Each a d A aC D dC 61 #[] #[.pointer (some ⟨ga, 0, none⟩), .pointer (some ⟨gd, 0, none⟩), .pointer (some ⟨gb, 0, none⟩), .pointer (some ⟨go, 0, none⟩)]
      (fun i r w => PI (boxes a d A aC D dC direct ga gd gb) go w0 (pairsTo a d direct i) (fun b => r = some b) w ∧ (pairsTo a d direct i).length ≤ 16384) (PStop (boxes a d A aC D dC direct ga gd gb) go w0 (pairsTo a d direct d.length).length) := by
  refine ⟨by kernel_rfl, fun i r w H => ⟨hA.keep H.1.below, hD.keep H.1.below⟩, fun i r r' w w1 H hg hr => ⟨H.1.grow hg (fun b hb => hb) fun b hb => ?_, H.2⟩, ?_⟩
  · rcases hr with rfl | rfl | ⟨g, rfl, h1, h2⟩
    · exact .inl hb
    · cases hb
    · cases hb; exact .inr ⟨h1, h2⟩
  intro i hi w O oc R ⟨H, hlen⟩ hO hT hF
  have hla := L.la
  have hld := L.ld
  have e : (#[] ++ #[Value.int .i64 i, .slice O (ancs a (el d i).s).length oc] ++ #[.pointer (some ⟨ga, 0, none⟩), .pointer (some ⟨gd, 0, none⟩), .pointer (some ⟨gb, 0, none⟩), .pointer (some ⟨go, 0, none⟩)] : Array Value) =
    #[Value.int .i64 i, .slice O (ancs a (el d i).s).length oc, .pointer (some ⟨ga, 0, none⟩), .pointer (some ⟨gd, 0, none⟩), .pointer (some ⟨gb, 0, none⟩), .pointer (some ⟨go, 0, none⟩)] := by simp
  rw [e]
  refine ok61 i O _ oc ⟨ga, 0, none⟩ ⟨gd, 0, none⟩ ⟨gb, 0, none⟩ ⟨go, 0, none⟩ ?_
  unfold F61
  have hd : Below w.heap.size w w.drew := (Below.refl _ _).drew
  have bxa := H.bx (ga, #[.slice A a.length aC], 37) (by simp)
  have bxd := H.bx (gd, #[.slice D d.length dC], 37) (by simp)
  have bxb := H.bx (gb, #[.bool direct], 4) (by simp)
  refine ⟨fun w' => Below w.heap.size w w', hd, A, a.length, aC, fun w' hw => by rw [(bxa.keep hw).cell]; rfl, D, d.length, dC, fun w' hw => by rw [(bxd.keep hw).cell]; rfl, ?_⟩
  refine (hD.keep H.below).held (S := fun w' => Below w.heap.size w w') (fun _ h => h) rfl (by omega) (by omega) rfl fun b o hc => ?_
  simp only [Int.toNat_natCast] at hc
  rw [← (at_mem hi).2] at hc
  simp only [Addr.add_mk]
  refine ⟨_, hc 0 _ rfl, _, hc 1 _ rfl, _, hc 2 _ rfl, _, hc 3 _ rfl, direct, fun w' hw => by rw [(bxb.keep hw).cell]; rfl, ?_⟩
  refine joins_calls a (el d i) direct hla L.ca (L.cd _ (at_mem hi).1) ((hA.keep H.below).keep hd) (hO.keep hd) fun O' oc' w1 hb1 hjr hrow => ⟨_, _, _, rfl, ?_⟩
  have B1 := btr hd hd.size hb1
  let N' : Nat → Prop := fun b => rowOf (.slice O (ancs a (el d i).s).length oc) = some b ∨ rowOf (.slice O' (jn a (el d i).s direct).length oc') = some b
  have H1 : PI (boxes a d A aC D dC direct ga gd gb) go w0 (pairsTo a d direct i) N' w1 := H.keep B1 fun b hb => by
    rcases hb with hb | hb
    · exact .inl hb
    · rcases hrow b hb with h | h
      · exact .inl h
      · exact .inr h
  have hjl : (jn a (el d i).s direct).length ≤ a.length := jn_len _ _ _
  refine ⟨fun x w2 => ∃ k : Nat, x = k ∧ k ≤ (jn a (el d i).s direct).length ∧ PI (boxes a d A aC D dC direct ga gd gb) go w0 (pairsTo a d direct i ++ (pairsOf a d direct i).take k) N' w2 ∧ w1.heap.size ≤ w2.heap.size ∧ (∀ b, N' b → w2.heap[b]? = w1.heap[b]?) ∧ (pairsTo a d direct i ++ (pairsOf a d direct i).take k).length ≤ 16384,
    fun x w2 => (jn a (el d i).s direct).length - x.toNat, ⟨0, rfl, by omega, by simpa using H1, Nat.le_refl _, fun _ _ => rfl, by simpa using hlen⟩, ?_⟩
  rintro x w2 ⟨k, rfl, hk, H2, hsz, hN, hlen2⟩
  unfold F61_l2
  have hpl : (pairsOf a d direct i).length = (jn a (el d i).s direct).length := by simp [pairsOf]
  refine brd (fun hlt => ?_) (fun hge => ?_)
  · have hk2 : k < (jn a (el d i).s direct).length := by omega
    have hjr2 : Rd LN w2 O' oc' (jn a (el d i).s direct) := hjr.same fun b hb => hN b (.inr hb)
    have hj : (jn a (el d i).s direct)[k] < a.length := jn_lt (List.getElem_mem hk2)
    have htk : (pairsOf a d direct i).take (k + 1) = (pairsOf a d direct i).take k ++ [((el a (jn a (el d i).s direct)[k]).node, (el d i).node)] := by
      rw [List.take_succ_eq_append_getElem (by omega)]; simp [pairsOf]
    refine hjr2.nat rfl rfl hk2 fun b o c0 => ?_
    simp only [c0, Addr.add_mk, List.getElem?_toArray, List.getElem?_cons_zero, List.getElem?_cons_succ, LdI_some, LdB_some, LdStr_some, LdP_some, LdSl_some, LdM_some, Nat.zero_add, Br_t, Br_f]
    generalize (jn a (el d i).s direct)[k] = j at *
    obtain ⟨X, n, xc, h1, h2, h3⟩ := H2.out
    have bxa2 := H2.bx (ga, #[.slice A a.length aC], 37) (by simp)
    have bxd2 := H2.bx (gd, #[.slice D d.length dC], 37) (by simp)
    have hd2 : Below w2.heap.size w2 w2.drew := (Below.refl _ _).drew
    refine ⟨fun w' => Below w2.heap.size w2 w', hd2, X, n, xc, fun w' hw => by rw [(h1.keep hw).cell]; rfl, A, a.length, aC, fun w' hw => by rw [(bxa2.keep hw).cell]; rfl, ?_⟩
    refine (hA.keep H2.below).held (S := fun w' => Below w2.heap.size w2 w') (fun _ h => h) rfl (by omega) (by omega) rfl fun b o hc => ?_
    simp only [Int.toNat_natCast] at hc
    rw [← (at_mem hj).2] at hc
    refine ⟨_, hc 0 _ rfl, D, d.length, dC, fun w' hw => by rw [(bxd2.keep hw).cell]; rfl, ?_⟩
    refine (hD.keep H2.below).held (S := fun w' => Below w2.heap.size w2 w') (fun _ h => h) rfl (by omega) (by omega) rfl fun b o hc => ?_
    simp only [Int.toNat_natCast] at hc
    rw [← (at_mem hi).2] at hc
    refine ⟨_, hc 0 _ rfl, ?_⟩
    refine H2.app h1 (x := (el a j).node) (y := (el d i).node) (by omega) (S := fun w' => Below w2.heap.size w2 w') (fun w1 h => h) fun X' xc' w3 H3 h4 hsz3 hN3 => ?_
    simp only [h4.cell, Addr.add_mk, List.getElem?_toArray, List.getElem?_cons_zero, List.getElem?_cons_succ, LdI_some, LdB_some, LdStr_some, LdP_some, LdSl_some, LdM_some, Nat.zero_add, Br_t, Br_f]
    rw [List.append_assoc, ← htk] at H3
    have hlen3 : (pairsTo a d direct i ++ (pairsOf a d direct i).take (k + 1)).length = (pairsTo a d direct i ++ (pairsOf a d direct i).take k).length + 1 := by
      rw [htk, ← List.append_assoc, List.length_append]; rfl
    refine brd (fun hbig => ?_) (fun hsmall => ?_)
    · refine hF w3 ⟨_, _, H3, by omega, ?_⟩
      have h5 := pairsTo_le a d direct (n := i + 1) (m := d.length) (by omega)
      rw [pairsTo_succ, List.length_append] at h5
      rw [List.length_append, List.length_take] at hlen3
      omega
    · exact ⟨inR_i64 (by omega) (by omega), ⟨k + 1, by simp, by omega, H3, by omega, fun b hb => (hN3 b hb).trans (hN b hb), by omega⟩, by omega⟩
  · rw [List.take_of_length_le (by omega), ← pairsTo_succ] at H2 hlen2
    refine hT w2 ⟨H2.sub fun b hb => .inl hb, hlen2⟩ (Nat.le_trans B1.size hsz) fun b hb => ?_
    rw [hN b (.inl hb), B1.block b (H.nn b hb).1.2]
def pairsF (a d : List Pl) (direct : Bool) : List (Int × Int) × Int :=
  if fitsF a d ≠ 0 then ([], fitsF a d) else if 16384 < (pairsTo a d direct d.length).length then ([], 2) else (pairsTo a d direct d.length, 0)
theorem pairs_calls (a d : List Pl) (direct : Bool) (A : Option Addr) (aC : Nat) (D : Option Addr) (dC : Nat) {w : World} (hA : Rd LPl w A aC a) (hD : Rd LPl w D dC d) {R : Ending → World → Prop}
    (h : ∀ X n xc w', Below w.heap.size w w' → Own LPr w' w.heap.size 53 (.slice X n xc) (pairsF a d direct).1 → R (.returned (.tuple #[.slice X n xc, .int .i64 (pairsF a d direct).2])) w') :
    Calls Try.prog 31 #[.slice A a.length aC, .slice D d.length dC, .bool direct] w R := by
  refine ok31 A a.length aC D d.length dC direct ?_
  unfold F31
  refine al fun ga w1 hb1 hga hge1 => al fun gd w2 hb2 hgd hge2 => al fun gb w3 hb3 hgb hge3 => ?_
  have B2 := btr hb1 hb1.size hb2
  have B3 := btr B2 B2.size hb3
  have hga3 := (hga.keep hb2).keep hb3
  have hgd3 := hgd.keep hb3
  simp only [hga3.cell, hgd3.cell, Addr.add_mk, List.getElem?_toArray, List.getElem?_cons_zero, List.getElem?_cons_succ, LdI_some, LdB_some, LdStr_some, LdP_some, LdSl_some, LdM_some, Nat.zero_add, Br_t, Br_f]
  refine fits_calls a d A aC D dC (hA.keep B3) (hD.keep B3) fun w4 hb4 => ⟨_, rfl, ?_⟩
  have B4 := btr B3 B3.size hb4
  unfold pairsF at h
  refine brn (fun hf => ?_) (fun hf => ?_)
  · rw [if_pos hf] at h
    exact h none 0 0 w4 B4 (Own.nil _ _ _ _)
  rw [if_neg (by simpa using hf)] at h
  have L := fitsF_lam hf
  refine al fun go w5 hb5 hgo hge5 => ?_
  have B5 := btr B4 B4.size hb5
  have hga5 := (hga3.keep hb4).keep hb5
  have hgd5 := (hgd3.keep hb4).keep hb5
  have hgb5 := (hgb.keep hb4).keep hb5
  simp only [hga5.cell, hgd5.cell, Addr.add_mk, List.getElem?_toArray, List.getElem?_cons_zero, List.getElem?_cons_succ, LdI_some, LdB_some, LdStr_some, LdP_some, LdSl_some, LdM_some, Nat.zero_add, Br_t, Br_f]
  have lga := (hga3.keep hb4).lt
  have lgd := (hgd3.keep hb4).lt
  have lgb := (hgb.keep hb4).lt
  have P0 : PI (boxes a d A aC D dC direct ga gd gb) go w (pairsTo a d direct 0) (fun b => none = some b) w5 := by
    refine ⟨B5, ?_, ⟨Nat.le_trans B4.size hge5, ?_⟩, ⟨none, 0, 0, hgo, Own.nil _ _ _ _, fun b hb => by cases hb⟩, fun b hb => by cases hb⟩
    · intro p hp
      simp only [List.mem_cons, List.not_mem_nil, or_false] at hp
      rcases hp with rfl | rfl | rfl
      · exact hga5
      · exact hgd5
      · exact hgb5
    · intro p hp
      simp only [List.mem_cons, List.not_mem_nil, or_false] at hp
      rcases hp with rfl | rfl | rfl <;> dsimp only <;> omega
  refine walk_calls a d L (pairs_each L direct hA hD ga gd gb go) ⟨P0, by simp [pairsTo]⟩ (fun r w6 H => ?_) (fun w6 H => ?_)
  · obtain ⟨H, hlen⟩ := H
    obtain ⟨X, n, xc, h1, h2, h3⟩ := H.out
    refine ⟨rfl, ?_⟩
    simp only [h1.cell, Addr.add_mk, List.getElem?_toArray, List.getElem?_cons_zero, List.getElem?_cons_succ, LdI_some, LdB_some, LdStr_some, LdP_some, LdSl_some, LdM_some, Nat.zero_add, Br_t, Br_f]
    have hn := h2.rd.1
    rw [if_neg (by omega)] at h
    exact brd (fun hb => by omega) (fun _ => h X n xc w6 H.below h2)
  · obtain ⟨out, N, H, hl1, hl2⟩ := H
    obtain ⟨X, n, xc, h1, h2, h3⟩ := H.out
    refine ⟨rfl, ?_⟩
    simp only [h1.cell, Addr.add_mk, List.getElem?_toArray, List.getElem?_cons_zero, List.getElem?_cons_succ, LdI_some, LdB_some, LdStr_some, LdP_some, LdSl_some, LdM_some, Nat.zero_add, Br_t, Br_f]
    have hn := h2.rd.1
    rw [if_pos hl2] at h
    exact brd (fun hb => h none 0 0 w6 H.below (Own.nil _ _ _ _)) (fun hb => by omega)
/-! ### The nearest ones -/
def nearOf (a d : List Pl) (i : Nat) : List (Int × Int) := match (ancs a (el d i).s).getLast? with | none => [] | some k => [((el a k).node, (el d i).node)]
def nearTo (a d : List Pl) (n : Nat) : List (Int × Int) := (List.range n).flatMap (nearOf a d)
theorem nearTo_succ (a d : List Pl) (n : Nat) : nearTo a d (n + 1) = nearTo a d n ++ nearOf a d n := by
  simp [nearTo, List.range_succ, List.flatMap_append]
theorem nearTo_len (a d : List Pl) : ∀ n, (nearTo a d n).length ≤ n
  | 0 => by simp [nearTo]
  | n + 1 => by
    have := nearTo_len a d n
    rw [nearTo_succ, List.length_append]
    have : (nearOf a d n).length ≤ 1 := by unfold nearOf; split <;> simp
    omega
abbrev boxes2 (a d : List Pl) (A : Option Addr) (aC : Nat) (D : Option Addr) (dC : Nat) (ga gd : Nat) : List (Nat × Array Value × TypeId) :=
  [(ga, #[.slice A a.length aC], 37), (gd, #[.slice D d.length dC], 37)]
theorem near_each {a d : List Pl} (L : Lam a d) {A : Option Addr} {aC : Nat} {D : Option Addr} {dC : Nat} {w0 : World} (hA : Rd LPl w0 A aC a) (hD : Rd LPl w0 D dC d) (ga gd go : Nat) :
    Each a d A aC D dC 69 #[] #[.pointer (some ⟨go, 0, none⟩), .pointer (some ⟨ga, 0, none⟩), .pointer (some ⟨gd, 0, none⟩)]
      (fun i r w => PI (boxes2 a d A aC D dC ga gd) go w0 (nearTo a d i) (fun b => r = some b) w) (fun _ => False) := by
  refine ⟨by kernel_rfl, fun i r w H => ⟨hA.keep H.below, hD.keep H.below⟩, fun i r r' w w1 H hg hr => H.grow hg (fun b hb => hb) fun b hb => ?_, ?_⟩
  · rcases hr with rfl | rfl | ⟨g, rfl, h1, h2⟩
    · exact .inl hb
    · cases hb
    · cases hb; exact .inr ⟨h1, h2⟩
  intro i hi w O oc R H hO hT hF
  have hla := L.la
  have hld := L.ld
  have e : (#[] ++ #[Value.int .i64 i, .slice O (ancs a (el d i).s).length oc] ++ #[.pointer (some ⟨go, 0, none⟩), .pointer (some ⟨ga, 0, none⟩), .pointer (some ⟨gd, 0, none⟩)] : Array Value) =
    #[Value.int .i64 i, .slice O (ancs a (el d i).s).length oc, .pointer (some ⟨go, 0, none⟩), .pointer (some ⟨ga, 0, none⟩), .pointer (some ⟨gd, 0, none⟩)] := by simp
  rw [e]
  refine ok69 i O _ oc ⟨go, 0, none⟩ ⟨ga, 0, none⟩ ⟨gd, 0, none⟩ ?_
  unfold F69
  have hol : (ancs a (el d i).s).length ≤ a.length := by rw [← jn_false]; exact jn_len _ _ _
  have hnl := nearTo_len a d i
  refine ⟨fun w1 => PI (boxes2 a d A aC D dC ga gd) go w0 (nearTo a d (i + 1)) (fun b => rowOf (.slice O (ancs a (el d i).s).length oc) = some b) w1 ∧ w.heap.size ≤ w1.heap.size ∧ ∀ b, rowOf (.slice O (ancs a (el d i).s).length oc) = some b → w1.heap[b]? = w.heap[b]?, fun w1 h1 => hT w1 h1.1 h1.2.1 h1.2.2, ?_⟩
  refine brd (fun hpos => ?_) (fun hneg => ?_)
  · have hpos2 : 0 < (ancs a (el d i).s).length := by omega
    have hlast : (ancs a (el d i).s).getLast? = some ((ancs a (el d i).s)[(ancs a (el d i).s).length - 1]) := by rw [List.getLast?_eq_getElem?]; simp
    have hj : (ancs a (el d i).s)[(ancs a (el d i).s).length - 1] < a.length := ancs_lt (List.getElem_mem _)
    have hnear : nearOf a d i = [((el a ((ancs a (el d i).s)[(ancs a (el d i).s).length - 1])).node, (el d i).node)] := by unfold nearOf; rw [hlast]
    obtain ⟨X, n, xc, h1, h2, h3⟩ := H.out
    have bxa2 := H.bx (ga, #[.slice A a.length aC], 37) (by simp)
    have bxd2 := H.bx (gd, #[.slice D d.length dC], 37) (by simp)
    have hd2 : Below w.heap.size w w.drew := (Below.refl _ _).drew
    refine ⟨fun w' => Below w.heap.size w w', hd2, X, n, xc, fun w' hw => by rw [(h1.keep hw).cell]; rfl, A, a.length, aC, fun w' hw => by rw [(bxa2.keep hw).cell]; rfl, inR_i64 (by omega) (by omega), ?_⟩
    refine hO.held (S := fun w' => Below w.heap.size w w') (fun _ h => h) rfl (by omega) (by omega) rfl fun b o hc => ?_
    have e1 : (((ancs a (el d i).s).length : Int) - 1).toNat = (ancs a (el d i).s).length - 1 := by omega
    simp only [e1] at hc
    refine ⟨_, hc 0 _ rfl, ?_⟩
    generalize (ancs a (el d i).s)[(ancs a (el d i).s).length - 1] = j at *
    refine (hA.keep H.below).held (S := fun w' => Below w.heap.size w w') (fun _ h => h) rfl (by omega) (by omega) rfl fun b o hc => ?_
    simp only [Int.toNat_natCast] at hc
    rw [← (at_mem hj).2] at hc
    refine ⟨_, hc 0 _ rfl, D, d.length, dC, fun w' hw => by rw [(bxd2.keep hw).cell]; rfl, ?_⟩
    refine (hD.keep H.below).held (S := fun w' => Below w.heap.size w w') (fun _ h => h) rfl (by omega) (by omega) rfl fun b o hc => ?_
    simp only [Int.toNat_natCast] at hc
    rw [← (at_mem hi).2] at hc
    refine ⟨_, hc 0 _ rfl, ?_⟩
    refine H.app h1 (x := (el a j).node) (y := (el d i).node) (by omega) (S := fun w' => Below w.heap.size w w') (fun w1 h => h) fun X' xc' w3 H3 h4 hsz3 hN3 => ?_
    rw [← hnear, ← nearTo_succ] at H3
    exact ⟨H3, hsz3, hN3⟩
  · have h0 : ancs a (el d i).s = [] := List.eq_nil_of_length_eq_zero (by omega)
    have hnear : nearOf a d i = [] := by unfold nearOf; rw [h0]; rfl
    refine ⟨?_, Nat.le_refl _, fun _ _ => rfl⟩
    rw [nearTo_succ, hnear, List.append_nil]
    exact H
def nearF (a d : List Pl) : List (Int × Int) × Int := if fitsF a d ≠ 0 then ([], fitsF a d) else (nearTo a d d.length, 0)
theorem near_calls (a d : List Pl) (A : Option Addr) (aC : Nat) (D : Option Addr) (dC : Nat) {w : World} (hA : Rd LPl w A aC a) (hD : Rd LPl w D dC d) {R : Ending → World → Prop}
    (h : ∀ X n xc w', Below w.heap.size w w' → Own LPr w' w.heap.size 53 (.slice X n xc) (nearF a d).1 → R (.returned (.tuple #[.slice X n xc, .int .i64 (nearF a d).2])) w') :
    Calls Try.prog 46 #[.slice A a.length aC, .slice D d.length dC] w R := by
  refine ok46 A a.length aC D d.length dC ?_
  unfold F46
  refine al fun ga w1 hb1 hga hge1 => al fun gd w3 hb3 hgd hge2 => ?_
  have B3 := btr hb1 hb1.size hb3
  have hga3 := hga.keep hb3
  simp only [hga3.cell, hgd.cell, Addr.add_mk, List.getElem?_toArray, List.getElem?_cons_zero, List.getElem?_cons_succ, LdI_some, LdB_some, LdStr_some, LdP_some, LdSl_some, LdM_some, Nat.zero_add, Br_t, Br_f]
  refine fits_calls a d A aC D dC (hA.keep B3) (hD.keep B3) fun w4 hb4 => ⟨_, rfl, ?_⟩
  have B4 := btr B3 B3.size hb4
  unfold nearF at h
  refine brn (fun hf => ?_) (fun hf => ?_)
  · rw [if_pos hf] at h
    exact h none 0 0 w4 B4 (Own.nil _ _ _ _)
  rw [if_neg (by simpa using hf)] at h
  have L := fitsF_lam hf
  refine al fun go w5 hb5 hgo hge5 => ?_
  have B5 := btr B4 B4.size hb5
  have hga5 := (hga3.keep hb4).keep hb5
  have hgd5 := (hgd.keep hb4).keep hb5
  simp only [hga5.cell, hgd5.cell, Addr.add_mk, List.getElem?_toArray, List.getElem?_cons_zero, List.getElem?_cons_succ, LdI_some, LdB_some, LdStr_some, LdP_some, LdSl_some, LdM_some, Nat.zero_add, Br_t, Br_f]
  have lga := (hga3.keep hb4).lt
  have lgd := (hgd.keep hb4).lt
  have P0 : PI (boxes2 a d A aC D dC ga gd) go w (nearTo a d 0) (fun b => none = some b) w5 := by
    refine ⟨B5, ?_, ⟨Nat.le_trans B4.size hge5, ?_⟩, ⟨none, 0, 0, hgo, Own.nil _ _ _ _, fun b hb => by cases hb⟩, fun b hb => by cases hb⟩
    · intro p hp
      simp only [List.mem_cons, List.not_mem_nil, or_false] at hp
      rcases hp with rfl | rfl
      · exact hga5
      · exact hgd5
    · intro p hp
      simp only [List.mem_cons, List.not_mem_nil, or_false] at hp
      rcases hp with rfl | rfl <;> dsimp only <;> omega
  refine walk_calls a d L (near_each L hA hD ga gd go) P0 (fun r w6 H => ?_) (fun w6 H => H.elim)
  obtain ⟨X, n, xc, h1, h2, h3⟩ := H.out
  refine ⟨rfl, ?_⟩
  simp only [h1.cell, Addr.add_mk, List.getElem?_toArray, List.getElem?_cons_zero, List.getElem?_cons_succ, LdI_some, LdB_some, LdStr_some, LdP_some, LdSl_some, LdM_some, Nat.zero_add, Br_t, Br_f]
  exact h X n xc w6 H.below h2
end Go.Proofs.Ytaanlildniiijaa
