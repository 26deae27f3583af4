/- AxisTests comes to true for any three spans. -/
import Derived.Test.YtaanlildniiijaaAxisRel2
namespace Go.Proofs.Ytaanlildniiijaa
open Go.RowKit
abbrev S3 (w0 : World) (g h i : Nat) (x y z : Sp) (w : World) : Prop := BoxAt w g x ∧ BoxAt w h y ∧ BoxAt w i z ∧ Below w0.heap.size w0 w
theorem S3.keep {w0 w w1 : World} {g h i : Nat} {x y z : Sp} (s : S3 w0 g h i x y z w) (hb : Below w.heap.size w w1) : S3 w0 g h i x y z w1 := ⟨s.1.keep hb, s.2.1.keep hb, s.2.2.1.keep hb, bt1 s.2.2.2 hb⟩
theorem S3.drew {w0 w : World} {g h i : Nat} {x y z : Sp} (s : S3 w0 g h i x y z w) : S3 w0 g h i x y z w.drew := ⟨s.1, s.2.1, s.2.2.1, bdr s.2.2.2⟩
section
set_option maxHeartbeats 4000000
set_option maxRecDepth 100000
theorem axisTests_calls (x y z : Sp) (w : World) : Calls Try.prog 5 #[spv x, spv y, spv z] w fun e w' => e = .returned (.bool true) ∧ Below w.heap.size w w' := by
  have HB := Below.refl w.heap.size w
  go_enter Try.func5, Try.ntmps5
  go_wp2_with (first
    | ((with_reducible refine gate_dst (N := 3) rfl ?_); refine box_sp 29 _ rfl rfl x rfl Try.box29 ?_; intro g3 w3 hx hb; replace HB := bt1 HB hb; clear hb)
    | ((with_reducible refine gate_dst (N := 4) rfl ?_); refine box_sp 29 _ rfl rfl y rfl Try.box29 ?_; intro g4 w4 hy hb; replace hx := hx.keep hb; replace HB := bt1 HB hb; clear hb)
    | ((with_reducible refine gate_dst (N := 5) rfl ?_); refine box_sp 29 _ rfl rfl z rfl Try.box29 ?_; intro g5 w5 hz hb; replace hx := hx.keep hb; replace hy := hy.keep hb; replace HB := bt1 HB hb; clear hb))
  have HS : S3 w g3 g4 g5 x y z w5 := ⟨hx, hy, hz, HB⟩
  clear hx hy hz HB
  go_region_held3 (fun w' => S3 w g3 g4 g5 x y z w') (first | exact HS.drew | exact S3.keep (by assumption) (by assumption))
      (first
       | (go_at_call 11; (with_reducible refine (selfA x y _).mono ?_); rintro e w1 ⟨rfl, hb⟩)
       | (go_at_call 20; (with_reducible refine (selfR x y _).mono ?_); rintro e w1 ⟨rfl, hb⟩)
       | (go_at_call 12; (with_reducible refine (ancA x y _).mono ?_); rintro e w1 ⟨rfl, hb⟩)
       | (go_at_call 21; (with_reducible refine (ancR x y _).mono ?_); rintro e w1 ⟨rfl, hb⟩)
       | (go_at_call 13; (with_reducible refine (desA x y _).mono ?_); rintro e w1 ⟨rfl, hb⟩)
       | (go_at_call 21; (with_reducible refine (ancR y x _).mono ?_); rintro e w1 ⟨rfl, hb⟩)
       | (go_at_call 22; (with_reducible refine (parA x y _).mono ?_); rintro e w1 ⟨rfl, hb⟩)
       | (go_at_call 23; (with_reducible refine (parR x y _).mono ?_); rintro e w1 ⟨rfl, hb⟩)
       | (go_at_call 24; (with_reducible refine (chiA x y _).mono ?_); rintro e w1 ⟨rfl, hb⟩)
       | (go_at_call 23; (with_reducible refine (parR y x _).mono ?_); rintro e w1 ⟨rfl, hb⟩))
  clear HS
  go_wp2
  have HS : S3 w g3 g4 g5 x y z w1 := by assumption
  go_region_held3 (fun w' => S3 w g3 g4 g5 x y z w') (first | exact HS.drew | exact S3.keep (by assumption) (by assumption))
      (first
       | (go_at_call 14; (with_reducible refine (folA x y _).mono ?_); rintro e w1 ⟨rfl, hb⟩)
       | (go_at_call 25; (with_reducible refine (behR x y _).mono ?_); rintro e w1 ⟨rfl, hb⟩)
       | (go_at_call 15; (with_reducible refine (preA x y _).mono ?_); rintro e w1 ⟨rfl, hb⟩)
       | (go_at_call 25; (with_reducible refine (behR y x _).mono ?_); rintro e w1 ⟨rfl, hb⟩))
  clear HS
  go_wp2
  have HS : S3 w g3 g4 g5 x y z w1 := by assumption
  go_loopw [7, 8] (fun i s wr => (i = .int .i64 0 ∨ i = .int .i64 1 ∨ i = .int .i64 2) ∧ S3 w g3 g4 g5 x y z wr) (fun i s wr => 2 - (intOf i).toNat)
  case atStart => exact ⟨.inl rfl, HS⟩
  case round =>
    obtain ⟨rfl | rfl | rfl, HS⟩ := hrel
    · go_wp2_with (first
        | (go_at_call 26; (with_reducible refine (sibR x y z false _).mono ?_); rintro e w1 ⟨rfl, hb⟩; replace HS := HS.keep hb; clear hb)
        | (go_at_call 27; (with_reducible refine (fsibA x y z false _).mono ?_); rintro e w1 ⟨rfl, hb⟩; replace HS := HS.keep hb; clear hb)
        | (go_at_call 28; (with_reducible refine (psibA x y z false _).mono ?_); rintro e w1 ⟨rfl, hb⟩; replace HS := HS.keep hb; clear hb)
        | (go_at_call 25; (with_reducible refine (behR x y _).mono ?_); rintro e w1 ⟨rfl, hb⟩; replace HS := HS.keep hb; clear hb)
        | (go_at_call 25; (with_reducible refine (behR y x _).mono ?_); rintro e w1 ⟨rfl, hb⟩; replace HS := HS.keep hb; clear hb))
      all_goals exact ⟨⟨by simp, HS⟩, by simp [intOf]⟩
    · go_wp2_with (first
        | (go_at_call 26; (with_reducible refine (sibR x y z true _).mono ?_); rintro e w1 ⟨rfl, hb⟩; replace HS := HS.keep hb; clear hb)
        | (go_at_call 27; (with_reducible refine (fsibA x y z true _).mono ?_); rintro e w1 ⟨rfl, hb⟩; replace HS := HS.keep hb; clear hb)
        | (go_at_call 28; (with_reducible refine (psibA x y z true _).mono ?_); rintro e w1 ⟨rfl, hb⟩; replace HS := HS.keep hb; clear hb)
        | (go_at_call 25; (with_reducible refine (behR x y _).mono ?_); rintro e w1 ⟨rfl, hb⟩; replace HS := HS.keep hb; clear hb)
        | (go_at_call 25; (with_reducible refine (behR y x _).mono ?_); rintro e w1 ⟨rfl, hb⟩; replace HS := HS.keep hb; clear hb))
      all_goals exact ⟨⟨by simp, HS⟩, by simp [intOf]⟩
    · have h1 : relV ⟨1, 4, 0⟩ ⟨2, 3, 1⟩ = 2 := by decide +kernel
      have h2 : relE ⟨1, 4, 0⟩ ⟨2, 3, 1⟩ = 0 := by decide +kernel
      go_wp2_with (first
        | (go_at_call 29; (with_reducible refine (relA x y _).mono ?_); rintro e w1 ⟨rfl, hb⟩; replace HS := HS.keep hb; clear hb)
        | (go_at_call 30; (with_reducible refine (relR x y _).mono ?_); rintro e w1 ⟨rfl, hb⟩; replace HS := HS.keep hb; clear hb)
        | (go_at_call 29; (with_reducible refine (relA ⟨1, 4, 0⟩ ⟨2, 3, 1⟩ _).mono ?_); rintro e w1 ⟨rfl, hb⟩; replace HS := HS.keep hb; clear hb))
      go_ret
      exact ⟨rfl, HS.2.2.2⟩
end
end Go.Proofs.Ytaanlildniiijaa
