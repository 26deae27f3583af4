/- Joins: the counts, by the walk. -/
import Derived.Test.YtaanlildniiijaaSpCounts
namespace Go.Proofs.Ytaanlildniiijaa
open Go.RowKit Go.Vc
set_option maxRecDepth 100000
set_option linter.unusedSimpArgs false
abbrev boxes5 (a d : List Pl) (A : Option Addr) (aC : Nat) (D : Option Addr) (dC : Nat) (direct : Bool) (ga gd gb gx gy X Y : Nat) : List (Nat × Array Value × TypeId) :=
  [(ga, #[.slice A a.length aC], 37), (gd, #[.slice D d.length dC], 37), (gb, #[.bool direct], 4), (gx, #[.slice (some ⟨X, 0, none⟩) a.length a.length], 44), (gy, #[.slice (some ⟨Y, 0, none⟩) d.length d.length], 44)]
theorem counts_each {a d : List Pl} (L : Lam a d) (direct : Bool) {A : Option Addr} {aC : Nat} {D : Option Addr} {dC : Nat} {w0 : World} (hA : Rd LPl w0 A aC a) (hD : Rd LPl w0 D dC d) (ga gd gb gx gy X Y : Nat) :
    Each a d A aC D dC 82 #[] #[.pointer (some ⟨ga, 0, none⟩), .pointer (some ⟨gd, 0, none⟩), .pointer (some ⟨gb, 0, none⟩), .pointer (some ⟨gy, 0, none⟩), .pointer (some ⟨gx, 0, none⟩)]
      (fun i r w => CI (boxes5 a d A aC D dC direct ga gd gb gx gy X Y) X Y w0 (cntS a d direct i 0) (lenS a d direct i) (fun b => r = some b) w) (fun _ => False) := by
  refine ⟨by kernel_rfl, fun i r w H => ⟨hA.keep H.below, hD.keep H.below⟩, fun i r r' w w1 H hg hr => H.grow hg (fun b hb => hb) fun b hb => ?_, ?_⟩
  · rcases hr with rfl | rfl | ⟨g, rfl, h1, h2⟩
    · exact .inl hb
    · cases hb
    · cases hb; exact .inr ⟨h1, h2⟩
  intro i hi w O oc R H hO hT hF
  have hla := L.la
  have hld := L.ld
  have e : (#[] ++ #[Value.int .i64 i, .slice O (ancs a (el d i).s).length oc] ++ #[.pointer (some ⟨ga, 0, none⟩), .pointer (some ⟨gd, 0, none⟩), .pointer (some ⟨gb, 0, none⟩), .pointer (some ⟨gy, 0, none⟩), .pointer (some ⟨gx, 0, none⟩)] : Array Value) =
    #[Value.int .i64 i, .slice O (ancs a (el d i).s).length oc, .pointer (some ⟨ga, 0, none⟩), .pointer (some ⟨gd, 0, none⟩), .pointer (some ⟨gb, 0, none⟩), .pointer (some ⟨gy, 0, none⟩), .pointer (some ⟨gx, 0, none⟩)] := by simp
  rw [e]
  refine ok82 i O _ oc ⟨ga, 0, none⟩ ⟨gd, 0, none⟩ ⟨gb, 0, none⟩ ⟨gy, 0, none⟩ ⟨gx, 0, none⟩ ?_
  unfold F82
  have hd : Below w.heap.size w w.drew := (Below.refl _ _).drew
  have bxa := H.bx (ga, #[.slice A a.length aC], 37) (by simp)
  have bxd := H.bx (gd, #[.slice D d.length dC], 37) (by simp)
  have bxb := H.bx (gb, #[.bool direct], 4) (by simp)
  refine ⟨fun w' => Below w.heap.size w w', hd, A, a.length, aC, fun w' hw => by rw [(bxa.keep hw).cell]; rfl, D, d.length, dC, fun w' hw => by rw [(bxd.keep hw).cell]; rfl, ?_⟩
  refine (hD.keep H.below).held (S := fun w' => Below w.heap.size w w') (fun _ h => h) rfl (by omega) (by omega) rfl fun b o hc => ?_
  simp only [Int.toNat_natCast] at hc
  rw [← (at_mem hi).2] at hc
  simp only [Addr.add_mk]
  refine ⟨_, hc 0 _ rfl, _, hc 1 _ rfl, _, hc 2 _ rfl, _, hc 3 _ rfl, direct, fun w' hw => by rw [(bxb.keep hw).cell]; rfl, ?_⟩
  refine joins_calls a (el d i) direct hla L.ca (L.cd _ (at_mem hi).1) ((hA.keep H.below).keep hd) (hO.keep hd) fun O' oc' w1 hb1 hjr hrow => ⟨_, _, _, rfl, ?_⟩
  have B1 := btr hd hd.size hb1
  let N' : Nat → Prop := fun b => rowOf (.slice O (ancs a (el d i).s).length oc) = some b ∨ rowOf (.slice O' (jn a (el d i).s direct).length oc') = some b
  have H1 : CI (boxes5 a d A aC D dC direct ga gd gb gx gy X Y) X Y w0 (cntS a d direct i 0) (lenS a d direct i) N' w1 := H.keep B1 fun b hb => by
    rcases hb with hb | hb
    · exact .inl hb
    · rcases hrow b hb with h | h
      · exact .inl h
      · exact .inr h
  have hjl : (jn a (el d i).s direct).length ≤ a.length := jn_len _ _ _
  have bxy := H1.bx (gy, #[.slice (some ⟨Y, 0, none⟩) d.length d.length], 44) (by simp)
  simp only [bxy.cell, Addr.add_mk, List.getElem?_toArray, List.getElem?_cons_zero, List.getElem?_cons_succ, LdI_some, LdB_some, LdStr_some, LdP_some, LdSl_some, LdM_some, Nat.zero_add, Br_t, Br_f]
  rw [IdxA_some (by omega) (by omega)]
  simp only [Int.toNat_natCast, Nat.mul_one, Addr.add_mk, Nat.zero_add]
  refine ⟨⟨_, by rw [H1.ry.cell, rowN_get (by rw [lenS_len]; exact hi)]⟩, H1.ry.frozen i, ?_⟩
  have H2 := H1.setY i (jn a (el d i).s direct).length
  rw [lenS_step] at H2
  have hN2 : ∀ b, N' b → (w1.setCell ⟨Y, i, none⟩ (.int .i64 (jn a (el d i).s direct).length)).heap[b]? = w1.heap[b]? := fun b hb => Below.heap_setCell _ _ _ _ (H1.nn b hb).2.2.1
  have hs2 : w1.heap.size ≤ (w1.setCell ⟨Y, i, none⟩ (.int .i64 (jn a (el d i).s direct).length)).heap.size := by simp
  generalize w1.setCell ⟨Y, i, none⟩ (.int .i64 (jn a (el d i).s direct).length) = w2 at *
  refine ⟨fun x w3 => ∃ m : Nat, x = m ∧ m ≤ (jn a (el d i).s direct).length ∧ CI (boxes5 a d A aC D dC direct ga gd gb gx gy X Y) X Y w0 (cntS a d direct i m) (lenS a d direct (i + 1)) N' w3 ∧ w1.heap.size ≤ w3.heap.size ∧ (∀ b, N' b → w3.heap[b]? = w1.heap[b]?),
    fun x w3 => (jn a (el d i).s direct).length - x.toNat, ⟨0, rfl, by omega, H2, hs2, hN2⟩, ?_⟩
  rintro x w3 ⟨m, rfl, hm, H3, hs3, hN3⟩
  unfold F82_l4
  refine brd (fun hlt => ?_) (fun hge => ?_)
  · have hm2 : m < (jn a (el d i).s direct).length := by omega
    have hj : (jn a (el d i).s direct)[m] < a.length := jn_lt (List.getElem_mem hm2)
    have hst := cntS_step a d direct i m hm2 hj
    have hle := cntS_le a d direct i m hj
    refine (hjr.same fun b hb => hN3 b (.inr hb)).nat rfl rfl hm2 fun b o c0 => ?_
    have bxx := H3.bx (gx, #[.slice (some ⟨X, 0, none⟩) a.length a.length], 44) (by simp)
    simp only [c0, bxx.cell, Addr.add_mk, List.getElem?_toArray, List.getElem?_cons_zero, List.getElem?_cons_succ, LdI_some, LdB_some, LdStr_some, LdP_some, LdSl_some, LdM_some, Nat.zero_add, Br_t, Br_f]
    generalize (jn a (el d i).s direct)[m] = j at *
    have hg := rowN_get (xs := cntS a d direct i m) (k := j) (by rw [cntS_len]; exact hj)
    rw [IdxA_some (by omega) (by omega)]
    simp only [Int.toNat_natCast, Nat.mul_one, Addr.add_mk, Nat.zero_add, H3.rx.cell, hg, Addr.add_mk, List.getElem?_toArray, List.getElem?_cons_zero, List.getElem?_cons_succ, LdI_some, LdB_some, LdStr_some, LdP_some, LdSl_some, LdM_some, Nat.zero_add, Br_t, Br_f]
    refine ⟨inR_i64 (by omega) (by omega), ?_⟩
    rw [IdxA_some (by omega) (by omega)]
    simp only [Int.toNat_natCast, Nat.mul_one, Addr.add_mk, Nat.zero_add]
    refine ⟨⟨_, by rw [H3.rx.cell, hg]⟩, H3.rx.frozen j, inR_i64 (by omega) (by omega), ⟨m + 1, by simp, by omega, ?_, by simpa using hs3, fun b hb => ?_⟩, by omega⟩
    · have := H3.setX j ((cntS a d direct i m)[j]'(by rw [cntS_len]; exact hj) + 1)
      rw [hst] at this
      exact this
    · rw [Below.heap_setCell _ _ _ _ (H3.nn b hb).2.1]; exact hN3 b hb
  · obtain rfl : m = (jn a (el d i).s direct).length := by omega
    rw [cntS_end] at H3
    refine hT w3 (H3.sub fun b hb => .inl hb) (Nat.le_trans B1.size hs3) fun b hb => ?_
    rw [hN3 b (.inl hb), B1.block b (H.nn b hb).1.2]
/-- What counts answers. -/
def cntF (a d : List Pl) (direct : Bool) : List Nat := (List.range a.length).map fun k => (List.range d.length).countP (fun j => joinB (el a k).s (el d j).s direct)
def lenF (a d : List Pl) (direct : Bool) : List Nat := (List.range d.length).map fun j => (jn a (el d j).s direct).length
theorem cntS_fin (a d : List Pl) (direct : Bool) : cntS a d direct d.length 0 = cntF a d direct := by simp [cntS, cntF]
theorem lenS_fin (a d : List Pl) (direct : Bool) : lenS a d direct d.length = lenF a d direct := by
  unfold lenS lenF
  refine List.map_congr_left fun j hj => if_pos (List.mem_range.1 hj)
theorem cntF_len (a d : List Pl) (direct : Bool) : (cntF a d direct).length = a.length := by simp [cntF]
theorem lenF_len (a d : List Pl) (direct : Bool) : (lenF a d direct).length = d.length := by simp [lenF]
theorem counts_leaf {a d : List Pl} {A : Option Addr} {aC : Nat} {D : Option Addr} {dC : Nat} {direct : Bool} {ga gd gb : Nat} {w w4 w5 : World} {L : List (Nat × Array Value × TypeId)} (B4 : Below w.heap.size w w4)
    (hga4 : Blk w4 ga #[.slice A a.length aC] 37) (hgd4 : Blk w4 gd #[.slice D d.length dC] 37) (hgb4 : Blk w4 gb #[.bool direct] 4)
    (h : HL w4 w5 L) (gx gy X Y : Nat) (hx : (gx, #[.slice (some ⟨X, 0, none⟩) a.length a.length], 44) ∈ L) (hy : (gy, #[.slice (some ⟨Y, 0, none⟩) d.length d.length], 44) ∈ L) (hX : (X, rowN (List.replicate a.length 0), 3) ∈ L) (hY : (Y, rowN (List.replicate d.length 0), 3) ∈ L) (hne : X ≠ Y) :
    ∃ gx' gy' X Y, (⟨gx, 0, none⟩ : Addr) = ⟨gx', 0, none⟩ ∧ (⟨gy, 0, none⟩ : Addr) = ⟨gy', 0, none⟩ ∧ CI (boxes5 a d A aC D dC direct ga gd gb gx' gy' X Y) X Y w (cntS a d direct 0 0) (lenS a d direct 0) (fun b => none = some b) w5 := by
  have bx := h.blk _ hx
  have by' := h.blk _ hy
  have bX := h.blk _ hX
  have bY := h.blk _ hY
  have gX := h.ge _ hX
  have gY := h.ge _ hY
  have tn : ∀ {p q : Nat} {c c' : Array Value}, Blk w5 p c 44 → Blk w5 q c' 3 → p ≠ q := by
    intro p q c c' h1 h2 e
    subst e
    unfold Blk at h1 h2
    rw [h1] at h2
    injection h2 with h2
    injection h2 with _ h2
    exact absurd h2 (by decide)
  have la := hga4.lt
  have ld := hgd4.lt
  have lb := hgb4.lt
  refine ⟨gx, gy, X, Y, rfl, rfl, btr B4 B4.size h.below, fun p hp => ?_, ⟨Nat.le_trans B4.size gX, Nat.le_trans B4.size gY, hne, fun p hp => ?_⟩, by rw [cntS_zero]; exact bX, by rw [lenS_zero]; exact bY, fun b hb => by cases hb⟩
  · simp only [List.mem_cons, List.not_mem_nil, or_false] at hp
    rcases hp with rfl | rfl | rfl | rfl | rfl
    · exact hga4.keep h.below
    · exact hgd4.keep h.below
    · exact hgb4.keep h.below
    · exact bx
    · exact by'
  · simp only [List.mem_cons, List.not_mem_nil, or_false] at hp
    dsimp only at gX gY
    rcases hp with rfl | rfl | rfl | rfl | rfl
    · dsimp only; omega
    · dsimp only; omega
    · dsimp only; omega
    · exact ⟨tn bx bX, tn bx bY⟩
    · exact ⟨tn by' bX, tn by' bY⟩
theorem counts_calls (a d : List Pl) (direct : Bool) (A : Option Addr) (aC : Nat) (D : Option Addr) (dC : Nat) {w : World} (hA : Rd LPl w A aC a) (hD : Rd LPl w D dC d) {R : Ending → World → Prop}
    (h1 : fitsF a d ≠ 0 → ∀ w', Below w.heap.size w w' → R (.returned (.tuple #[.slice none 0 0, .slice none 0 0, .int .i64 (fitsF a d)])) w')
    (h : fitsF a d = 0 → ∀ X Y w', Below w.heap.size w w' → Rd LN w' X a.length (cntF a d direct) → Rd LN w' Y d.length (lenF a d direct) → R (.returned (.tuple #[.slice X a.length a.length, .slice Y d.length d.length, .int .i64 0])) w') :
    Calls Try.prog 63 #[.slice A a.length aC, .slice D d.length dC, .bool direct] w R := by
  refine ok63 A a.length aC D d.length dC direct ?_
  unfold F63
  refine al fun ga w1 hb1 hga hge1 => al fun gd w2 hb2 hgd hge2 => al fun gb w3 hb3 hgb hge3 => ?_
  have B2 := btr hb1 hb1.size hb2
  have B3 := btr B2 B2.size hb3
  have hga3 := (hga.keep hb2).keep hb3
  have hgd3 := hgd.keep hb3
  simp only [hga3.cell, hgd3.cell, Addr.add_mk, List.getElem?_toArray, List.getElem?_cons_zero, List.getElem?_cons_succ, LdI_some, LdB_some, LdStr_some, LdP_some, LdSl_some, LdM_some, Nat.zero_add, Br_t, Br_f]
  refine fits_calls a d A aC D dC (hA.keep B3) (hD.keep B3) fun w4 hb4 => ⟨_, rfl, ?_⟩
  have B4 := btr B3 B3.size hb4
  refine brn (fun hf => h1 hf w4 B4) (fun hf => ?_)
  have L := fitsF_lam hf
  have hla := L.la
  have hld := L.ld
  have hga4 := hga3.keep hb4
  have hgd4 := hgd3.keep hb4
  have hgb4 := hgb.keep hb4
  refine ⟨fun x y w5 => ∃ gx gy X Y, x = ⟨gx, 0, none⟩ ∧ y = ⟨gy, 0, none⟩ ∧ CI (boxes5 a d A aC D dC direct ga gd gb gx gy X Y) X Y w (cntS a d direct 0 0) (lenS a d direct 0) (fun b => none = some b) w5, ?_, ?_⟩
  · rintro x y w5 ⟨gx, gy, X, Y, rfl, rfl, P0⟩
    unfold F63_j5
    have bxa := P0.bx (ga, #[.slice A a.length aC], 37) (by simp)
    have bxd := P0.bx (gd, #[.slice D d.length dC], 37) (by simp)
    simp only [bxa.cell, bxd.cell, Addr.add_mk, List.getElem?_toArray, List.getElem?_cons_zero, List.getElem?_cons_succ, LdI_some, LdB_some, LdStr_some, LdP_some, LdSl_some, LdM_some, Nat.zero_add, Br_t, Br_f]
    refine walk_calls a d L (counts_each L direct hA hD ga gd gb gx gy X Y) P0 (fun r w6 H => ?_) (fun w6 H => H.elim)
    refine ⟨rfl, dr fun w7 hb7 _ => ?_⟩
    have bxx := (H.bx (gx, #[.slice (some ⟨X, 0, none⟩) a.length a.length], 44) (by simp)).keep hb7
    have bxy := (H.bx (gy, #[.slice (some ⟨Y, 0, none⟩) d.length d.length], 44) (by simp)).keep hb7
    simp only [bxx.cell, bxy.cell, Addr.add_mk, List.getElem?_toArray, List.getElem?_cons_zero, List.getElem?_cons_succ, LdI_some, LdB_some, LdStr_some, LdP_some, LdSl_some, LdM_some, Nat.zero_add, Br_t, Br_f]
    have rx := H.rx.keep hb7
    have ry := H.ry.keep hb7
    rw [cntS_fin] at rx
    rw [lenS_fin] at ry
    have rx2 := rx.rdN (by rw [cntF_len]; simp [maxLen]; omega)
    have ry2 := ry.rdN (by rw [lenF_len]; simp [maxLen]; omega)
    rw [cntF_len] at rx2
    rw [lenF_len] at ry2
    exact h hf _ _ w7 (btr H.below H.below.size hb7) rx2 ry2
  · refine ⟨fun w' => Below w4.heap.size w4 w', (Below.refl _ _).drew, A, a.length, aC, fun w' hw => by rw [(hga4.keep hw).cell]; rfl, D, d.length, dC, fun w' hw => by rw [(hgd4.keep hw).cell]; rfl, ?_⟩
    have H0 : HL w4 w4.drew [] := HL.nil (Below.refl _ _).drew
    simp only [Int.toNat_natCast, zrowN]
    repeat' first
      | exact H0.below
      | omega
      | (refine H0.al fun g w' H0 => ?_)
      | (refine H0.st1 0 rfl fun w' H0 => ?_; dsimp only [List.set] at H0)
      | (refine H0.st1 1 rfl fun w' H0 => ?_; dsimp only [List.set] at H0)
      | (refine H0.st1 2 rfl fun w' H0 => ?_; dsimp only [List.set] at H0)
      | (refine H0.st1 3 rfl fun w' H0 => ?_; dsimp only [List.set] at H0)
      | exact counts_leaf B4 hga4 hgd4 hgb4 H0 _ _ _ _ (by repeat (first | exact List.mem_cons_self | apply List.mem_cons_of_mem)) (by repeat (first | exact List.mem_cons_self | apply List.mem_cons_of_mem)) (by repeat (first | exact List.mem_cons_self | apply List.mem_cons_of_mem)) (by repeat (first | exact List.mem_cons_self | apply List.mem_cons_of_mem)) (by have hn := H0.nodup; simp at hn; omega)
      | (refine And.intro ?_ ?_)
end Go.Proofs.Ytaanlildniiijaa
