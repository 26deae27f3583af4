/- The small living call of the model's laws. -/
import Derived.Test.YtkmoeokfgkmlhaaMdParse
import Derived.Test.YtkmoeokfgkmlhaaMdErr
namespace Go.Proofs.Ytkmoeokfgkmlhaa
open Go.RowKit Go.Vc Go.Mdl
set_option linter.unusedVariables false
set_option linter.unusedSimpArgs false
set_option maxRecDepth 100000
section
variable {w w1 : World} {R : Ending → World → Prop}
def liveRows : List (List Part) := [[.mk ⟨#[40]⟩ [[.mk ⟨#[97]⟩ [] 0, .mk ⟨#[98]⟩ [] 63]] 42, .mk ⟨#[99]⟩ [] 0]]
theorem live_parse : Mdl.parse [40, 97, 44, 32, 98, 63, 41, 42, 44, 32, 99] = .ok liveRows := by kernel_rfl
theorem live_mat : (placed liveRows).mat [⟨#[97]⟩, ⟨#[97]⟩, ⟨#[98]⟩, ⟨#[99]⟩] = (true, 4) := by kernel_rfl
theorem lives_calls (hR : ∀ w', Below w.heap.size w w' → R (.returned (.bool true)) w') : Calls Try.prog 7 #[] w R := by
  refine ok7 ?_
  unfold F7
  refine parse_calls w (fun g w1 rows hp hm hb1 => ?_) (fun pos e at_ w1 hp => ?_)
  rotate_left
  · have hl : (ByteArray.mk #[40, 97, 44, 32, 98, 63, 41, 42, 44, 32, 99]).data.toList = [40, 97, 44, 32, 98, 63, 41, 42, 44, 32, 99] := rfl
    rw [hl, live_parse] at hp
    exact absurd hp (by simp)
  have hrows : rows = liveRows := by
    have hl : (ByteArray.mk #[40, 97, 44, 32, 98, 63, 41, 42, 44, 32, 99]).data.toList = [40, 97, 44, 32, 98, 63, 41, 42, 44, 32, 99] := rfl
    rw [hl, live_parse] at hp
    exact (Except.ok.inj hp).symm
  subst hrows
  have hok : PlOk (placed liveRows) := placed_ok (Nat.le_of_ble_eq_true (by kernel_rfl))
  have hmat := live_mat
  generalize placed liveRows = pl at hm hok hmat
  refine ⟨_, _, _, rfl, ?_⟩
  refine ⟨fun w' => w' = w1, ?_, rfl⟩
  rintro w1 rfl
  unfold F7_j4
  refine al fun g22 w2 hb2 hg2 hge2 => ?_
  have hn : Rd LSt w2 (some ⟨g22, 0, none⟩) 4 [⟨#[97]⟩, ⟨#[97]⟩, ⟨#[98]⟩, ⟨#[99]⟩] := (Own.lit' (L := LSt) (xs := [⟨#[97]⟩, ⟨#[97]⟩, ⟨#[98]⟩, ⟨#[99]⟩]) (base := 0) hg2 (Nat.zero_le _) rfl (by simp [maxLen])).rd.2
  refine match_calls (names := [⟨#[97]⟩, ⟨#[97]⟩, ⟨#[98]⟩, ⟨#[99]⟩]) (hm.below hb2) hok hn fun w3 hb3 => ?_
  refine ⟨true, 4, by rw [hmat]; rfl, ?_⟩
  refine al fun g27 w4 hb4 hg4 hge4 => ?_
  have hz : RdM w4 g27 [] zeroPl := ⟨(none, 0, 0), ⟨(none, 0, 0), (none, 0, 0), (none, 0, 0), (none, 0, 0), [], hg4, ⟨rfl, Rd.nil _ _⟩, ⟨rfl, Rd.nil _ _, rfl, by simp⟩, RdI.nil _ _, rfl, Rd.nil _ _⟩, [], rfl, Rd.nil _ _, by simp only [RdL]⟩
  have ez : zeroPl.mat [] = (false, 0) := by kernel_rfl
  refine match_calls (names := []) hz zero_ok (Rd.nil LSt w4) fun w5 hb5 => ?_
  refine ⟨false, 0, by rw [ez]; rfl, ?_⟩
  have e4 : ((4 : Int) == (4 : Int)) = true := rfl
  have e0 : ((0 : Int) == (0 : Int)) = true := rfl
  simp only [e4, e0, Br_t, Bool.not_false]
  refine text_calls (hz.below hb5) (by simp only [vC]) (by simp [tC]) fun w6 hb6 => ⟨_, rfl, ?_⟩
  rw [bytes_eq, decide_eq_true (by simp [tC]), Br_t]
  refine clear0_calls ((hg4.keep hb5).keep hb6) fun w7 hb7 => ⟨_, rfl, ?_⟩
  exact hR w7 (btr (btr (btr (btr (btr (btr hb1 hb1.size hb2) (Nat.le_trans hb1.size hb2.size) hb3) (Nat.le_trans (Nat.le_trans hb1.size hb2.size) hb3.size) hb4) (Nat.le_trans (Nat.le_trans (Nat.le_trans hb1.size hb2.size) hb3.size) hb4.size) hb5) (Nat.le_trans (Nat.le_trans (Nat.le_trans (Nat.le_trans hb1.size hb2.size) hb3.size) hb4.size) hb5.size) hb6) (Nat.le_trans (Nat.le_trans (Nat.le_trans (Nat.le_trans (Nat.le_trans hb1.size hb2.size) hb3.size) hb4.size) hb5.size) hb6.size) hb7)
end
end Go.Proofs.Ytkmoeokfgkmlhaa
