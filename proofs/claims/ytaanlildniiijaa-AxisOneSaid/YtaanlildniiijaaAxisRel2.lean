/- How one span lies to another one, by the document. -/
import Derived.Test.YtaanlildniiijaaAxisRel
namespace Go.Proofs.Ytaanlildniiijaa
open Go.RowKit
abbrev S2 (w0 : World) (g h : Nat) (x y : Sp) (w : World) : Prop := BoxAt w g x ∧ BoxAt w h y ∧ Below w0.heap.size w0 w
theorem S2.keep {w0 w w1 : World} {g h : Nat} {x y : Sp} (s : S2 w0 g h x y w) (hb : Below w.heap.size w w1) : S2 w0 g h x y w1 := ⟨s.1.keep hb, s.2.1.keep hb, bt1 s.2.2 hb⟩
theorem S2.drew {w0 w : World} {g h : Nat} {x y : Sp} (s : S2 w0 g h x y w) : S2 w0 g h x y w.drew := ⟨s.1, s.2.1, bdr s.2.2⟩
theorem S2.alloc {w0 w : World} {g h : Nat} {x y : Sp} (s : S2 w0 g h x y w) (o : Obj) : S2 w0 g h x y (w.alloc o) := s.keep (bl1 (Below.refl _ _) o)
def relT (x y : Sp) : List Bool := [selfB x y, parB x y, parB y x, ancB x y, ancB y x, behB x y, behB y x]
theorem relT_at (x y : Sp) : ∀ k : Nat, k < 7 → (∀ j, j < k → (relT x y).getD j false = false) → (relT x y).getD k false = true → relN x y = (k : Int) + 1 := by
  intro k hk h0 h1
  have e0 := h0 0; have e1 := h0 1; have e2 := h0 2; have e3 := h0 3; have e4 := h0 4; have e5 := h0 5; have e6 := h0 6
  simp [relT] at e0 e1 e2 e3 e4 e5 e6
  match k, hk with
  | 0, _ => simp [relT] at h1; simp [relN, h1]
  | 1, _ => simp [relT] at h1; simp at e0; simp [relN, h1, e0]
  | 2, _ => simp [relT] at h1; simp at e0 e1; simp [relN, h1, e0, e1]
  | 3, _ => simp [relT] at h1; simp at e0 e1 e2; simp [relN, h1, e0, e1, e2]
  | 4, _ => simp [relT] at h1; simp at e0 e1 e2 e3; simp [relN, h1, e0, e1, e2, e3]
  | 5, _ => simp [relT] at h1; simp at e0 e1 e2 e3 e4; simp [relN, h1, e0, e1, e2, e3, e4]
  | 6, _ => simp [relT] at h1; simp at e0 e1 e2 e3 e4 e5; simp [relN, h1, e0, e1, e2, e3, e4, e5]
theorem relT_none (x y : Sp) (h0 : ∀ j, j < 7 → (relT x y).getD j false = false) : relN x y = 0 := by
  have e0 := h0 0; have e1 := h0 1; have e2 := h0 2; have e3 := h0 3; have e4 := h0 4; have e5 := h0 5; have e6 := h0 6
  simp [relT] at e0 e1 e2 e3 e4 e5 e6
  simp [relN, *]
theorem relT_cell (w : World) (x y : Sp) (t : Nat) (k : Nat) (hk : k < 7) : (w.alloc (.cells #[.bool (selfB x y), .bool (parB x y), .bool (parB y x), .bool (ancB x y), .bool (ancB y x), .bool (behB x y), .bool (behB y x)] t)).cell? ⟨w.heap.size, k, none⟩ = some (.bool ((relT x y).getD k false)) := by
  rw [blk_cell (blk_new _ _)]
  match k, hk with
  | 0, _ => rfl
  | 1, _ => rfl
  | 2, _ => rfl
  | 3, _ => rfl
  | 4, _ => rfl
  | 5, _ => rfl
  | 6, _ => rfl
section
set_option maxHeartbeats 800000
theorem relR (x y : Sp) : CR 30 x y := by
  intro w
  have HB := Below.refl w.heap.size w
  go_enter Try.func30, Try.ntmps30
  go_wp2_with (first
    | ((with_reducible refine gate_dst (N := 2) rfl ?_); refine box_sp 29 _ rfl rfl x rfl Try.box29 ?_; intro g2 w2 hx hb; replace HB := bt1 HB hb; clear hb)
    | ((with_reducible refine gate_dst (N := 3) rfl ?_); refine box_sp 29 _ rfl rfl y rfl Try.box29 ?_; intro g3 w3 hy hb; replace hx := hx.keep hb; replace HB := bt1 HB hb; clear hb)
    | (go_at_call 53; (with_reducible refine (canR x _).mono ?_); rintro e w1 ⟨rfl, hb⟩; replace hx := hx.keep hb; replace hy := hy.keep hb; replace HB := bt1 HB hb; clear hb)
    | (go_at_call 53; (with_reducible refine (canR y _).mono ?_); rintro e w1 ⟨rfl, hb⟩; replace hx := hx.keep hb; replace hy := hy.keep hb; replace HB := bt1 HB hb; clear hb))
  · go_ret2; refine ⟨?_, HB⟩
    clear HB hx hy; simp_all [relV, relE]
  · have HS : S2 w g2 g3 x y w1 := ⟨hx, hy, HB⟩
    clear hx hy HB
    go_region_held3 (fun w' => S2 w g2 g3 x y w') (first | exact HS.drew | exact S2.keep (by assumption) (by assumption) | exact S2.alloc (by assumption) _)
      (first
       | (go_at_call 20; (with_reducible refine (selfR x y _).mono ?_); rintro e w1 ⟨rfl, hb⟩)
       | (go_at_call 23; (with_reducible refine (parR x y _).mono ?_); rintro e w1 ⟨rfl, hb⟩)
       | (go_at_call 23; (with_reducible refine (parR y x _).mono ?_); rintro e w1 ⟨rfl, hb⟩)
       | (go_at_call 21; (with_reducible refine (ancR x y _).mono ?_); rintro e w1 ⟨rfl, hb⟩)
       | (go_at_call 21; (with_reducible refine (ancR y x _).mono ?_); rintro e w1 ⟨rfl, hb⟩)
       | (go_at_call 25; (with_reducible refine (behR x y _).mono ?_); rintro e w1 ⟨rfl, hb⟩)
       | (go_at_call 25; (with_reducible refine (behR y x _).mono ?_); rintro e w1 ⟨rfl, hb⟩))
    clear HS
    have HB := (by assumption : S2 w g2 g3 x y _).2.2
    have hcan : (canB x && canB y) = true := by simp_all

    go_wp2
    go_loop [7] (fun i => ∃ k : Nat, k ≤ 7 ∧ i = .int .i64 k ∧ Hid (∀ j, j < k → (relT x y).getD j false = false)) (fun i => 7 - (intOf i).toNat)
    case atStart => exact ⟨0, by omega, rfl, Lib.hid (fun j h => by omega)⟩
    case round =>
      obtain ⟨k, hk, rfl, H⟩ := hrel
      by_cases hlt : k < 7
      · have hc := relT_cell w1 x y 4 k hlt
        go_wp2
        · have h1 : (relT x y).getD k false = true := by rw [List.getD_eq_getElem?_getD]; assumption
          have h2 := relT_at x y k hlt H.out h1
          go_ret2
          exact ⟨by simp [relV, relE, hcan, h2]; omega, HB⟩
        · have h1 : (relT x y).getD k false = false := by rw [List.getD_eq_getElem?_getD]; assumption
          go_round
          case rel => exact ⟨k + 1, by omega, by go_num, Lib.hid (fun j hj => if e : j = k then by rw [e]; exact h1 else H.out j (by omega))⟩
          case measure => simp [intOf]; omega
      · obtain rfl : k = 7 := by omega
        have h2 := relT_none x y H.out
        go_wp2
        go_ret2
        exact ⟨by simp [relV, relE, hcan, h2], HB⟩
  · go_ret2; refine ⟨?_, HB⟩
    clear HB hx hy; simp_all [relV, relE]
end
end Go.Proofs.Ytaanlildniiijaa
