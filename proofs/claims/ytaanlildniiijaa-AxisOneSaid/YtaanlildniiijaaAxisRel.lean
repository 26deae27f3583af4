/- How one span lies to another one, by the program and by the document: one number and one error. -/
import Derived.Test.YtaanlildniiijaaAxis
namespace Go.Proofs.Ytaanlildniiijaa
open Go.RowKit
def relN (x y : Sp) : Int := if selfB x y then 1 else if parB x y then 2 else if parB y x then 3 else if ancB x y then 4 else if ancB y x then 5 else if behB x y then 6 else if behB y x then 7 else 0
def relE (x y : Sp) : Int := if canB x && canB y then (if relN x y = 0 then 111 else 0) else 110
def relV (x y : Sp) : Int := if canB x && canB y then relN x y else 0
abbrev CR (f : Nat) (x y : Sp) : Prop := ∀ w : World, Calls Try.prog f #[spv x, spv y] w fun e w' => e = .returned (.tuple #[.int .i64 (relV x y), .int .i64 (relE x y)]) ∧ Below w.heap.size w w'
section
set_option maxHeartbeats 800000
theorem relA (x y : Sp) : CR 29 x y := by
  intro w
  have HB := Below.refl w.heap.size w
  go_enter Try.func29, Try.ntmps29
  go_wp2_with (first
    | ((with_reducible refine gate_dst (N := 2) rfl ?_); refine box_sp 29 _ rfl rfl x rfl Try.box29 ?_; intro g2 w2 hx hb; replace HB := bt1 HB hb; clear hb)
    | ((with_reducible refine gate_dst (N := 3) rfl ?_); refine box_sp 29 _ rfl rfl y rfl Try.box29 ?_; intro g3 w3 hy hb; replace hx := hx.keep hb; replace HB := bt1 HB hb; clear hb)
    | (go_at_call 52; (with_reducible refine (canA x _).mono ?_); rintro e w1 ⟨rfl, hb⟩; replace hx := hx.keep hb; replace hy := hy.keep hb; replace HB := bt1 HB hb; clear hb)
    | (go_at_call 52; (with_reducible refine (canA y _).mono ?_); rintro e w1 ⟨rfl, hb⟩; replace hx := hx.keep hb; replace hy := hy.keep hb; replace HB := bt1 HB hb; clear hb)
    | (go_at_call 11; (with_reducible refine (selfA x y _).mono ?_); rintro e w1 ⟨rfl, hb⟩; replace hx := hx.keep hb; replace hy := hy.keep hb; replace HB := bt1 HB hb; clear hb)
    | (go_at_call 22; (with_reducible refine (parA x y _).mono ?_); rintro e w1 ⟨rfl, hb⟩; replace hx := hx.keep hb; replace hy := hy.keep hb; replace HB := bt1 HB hb; clear hb)
    | (go_at_call 24; (with_reducible refine (chiA x y _).mono ?_); rintro e w1 ⟨rfl, hb⟩; replace hx := hx.keep hb; replace hy := hy.keep hb; replace HB := bt1 HB hb; clear hb)
    | (go_at_call 12; (with_reducible refine (ancA x y _).mono ?_); rintro e w1 ⟨rfl, hb⟩; replace hx := hx.keep hb; replace hy := hy.keep hb; replace HB := bt1 HB hb; clear hb)
    | (go_at_call 13; (with_reducible refine (desA x y _).mono ?_); rintro e w1 ⟨rfl, hb⟩; replace hx := hx.keep hb; replace hy := hy.keep hb; replace HB := bt1 HB hb; clear hb)
    | (go_at_call 14; (with_reducible refine (folA x y _).mono ?_); rintro e w1 ⟨rfl, hb⟩; replace hx := hx.keep hb; replace hy := hy.keep hb; replace HB := bt1 HB hb; clear hb)
    | (go_at_call 15; (with_reducible refine (preA x y _).mono ?_); rintro e w1 ⟨rfl, hb⟩; replace hx := hx.keep hb; replace hy := hy.keep hb; replace HB := bt1 HB hb; clear hb))
  all_goals (go_ret2; refine ⟨?_, HB⟩)
  all_goals (clear HB hx hy; simp_all [relV, relE, relN])
end
end Go.Proofs.Ytaanlildniiijaa
