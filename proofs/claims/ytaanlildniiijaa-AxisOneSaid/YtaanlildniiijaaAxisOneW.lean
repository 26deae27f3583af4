/- AxisOne comes to true for any list of spans. -/
import Derived.Test.YtaanlildniiijaaAxisOneB
import Derived.Test.YtaanlildniiijaaAxisChkR
import Derived.Test.YtaanlildniiijaaAxisRel2
namespace Go.Proofs.Ytaanlildniiijaa
open Go.RowKit
/-- A row of truths. -/
def BRow (w : World) (g : Nat) (bs : List Bool) : Prop := ∀ j, j < bs.length → w.cell? ⟨g, j, none⟩ = some (.bool (bs.getD j false))
theorem BRow.keep {w w1 : World} {g : Nat} {bs : List Bool} (h : BRow w g bs) (hb : Below w.heap.size w w1) : BRow w1 g bs := fun j hj => kcell hb (h j hj)
theorem BRow.five (w : World) (a b c d e : Bool) (t : TypeId) : BRow (w.alloc (.cells #[.bool a, .bool b, .bool c, .bool d, .bool e] t)) w.heap.size [a, b, c, d, e] := by
  intro j hj
  rw [blk_cell (blk_new _ _)]
  match j, hj with
  | 0, _ => rfl
  | 1, _ => rfl
  | 2, _ => rfl
  | 3, _ => rfl
  | 4, _ => rfl
abbrev SB (w0 : World) (g h : Nat) (x y : Sp) (g1 : Nat) (bs : List Bool) (w : World) : Prop := S2 w0 g h x y w ∧ BRow w g1 bs
theorem SB.keep {w0 w w1 : World} {g h g1 : Nat} {x y : Sp} {bs : List Bool} (s : SB w0 g h x y g1 bs w) (hb : Below w.heap.size w w1) : SB w0 g h x y g1 bs w1 := ⟨s.1.keep hb, s.2.keep hb⟩
section
set_option maxHeartbeats 8000000
set_option maxRecDepth 100000
theorem axisOne_calls (l : List Sp) (A0 : Option Addr) (c0 : Nat) (w : World) (hl : Rd LSp w A0 c0 l) (hz : l.length * 24 ≤ 140737488351232) :
    Calls Try.prog 3 #[.slice A0 l.length c0] w fun e w' => e = .returned (.bool true) ∧ Below w.heap.size w w' := by
  have hn : (l.length : Int) ≤ 9223372036854775807 := by omega
  have HL := Lib.hid hl
  clear hl
  have HB := Below.refl w.heap.size w
  by_cases h0 : (chk l).2 = 0
  · obtain ⟨hp, hv⟩ := chk_ok h0
    have HP := Lib.hid hp
    have HV := Lib.hid hv
    clear hp hv
    go_enter Try.func3, Try.ntmps3
    go_wp2_with (first
      | ((with_reducible refine gate_dst (N := 20) rfl ?_); refine ev_append (L := LSp) (base := w.heap.size) (e := 29) [] l _ A0 c0 (.tmp 18) (.tmp 19) 22 (.agg #[.int .u64 0, .int .u64 0, .int .i64 0]) 24 rfl rfl Try.underlying22 Try.infoSp rfl rfl rfl (Own.bare _ _ _ _ _) (HL.out.keep (bl1 (Below.refl _ _) _)) (by simp) (by simp; omega) (by simp [maxLen]; omega) ?_; intro v20 w20 HO20 hg20 hat20; obtain ⟨A3, c3, rfl, HR3⟩ := HO20.form; replace HB := below_row (bl1 HB _) (by simp) (Own.bare LSp _ _ 29 _) hg20; simp only [List.nil_append] at HR3 ⊢; clear HO20 hg20 hat20)
      | (go_at_call 9; (with_reducible refine (chkA l A3 c3 _ HR3).mono ?_); rintro e w1 ⟨rfl, hb⟩; replace HB := bt1 HB hb; clear hb)
      | (go_at_call 10; (with_reducible refine (chkR l A0 c0 _ (HL.out.keep HB)).mono ?_); rintro e w1 ⟨rfl, hb⟩; replace HB := bt1 HB hb; clear hb))
    clear h0 HR3 hn
    go_loopw [7] (fun i wr => ∃ k : Nat, k ≤ l.length ∧ i = .int .i64 k ∧ Below w.heap.size w wr) (fun i wr => l.length - (intOf i).toNat)
    case atStart => exact ⟨0, by omega, rfl, HB⟩
    case round =>
      clear HB
      obtain ⟨i, hi, rfl, HB⟩ := hrel
      obtain ⟨wo, rfl⟩ : ∃ wo : World, wo = wr := ⟨_, rfl⟩
      rcases (by omega : (i < l.length ∧ i < 40) ∨ ¬ i < l.length ∨ (i < l.length ∧ ¬ i < 40)) with ⟨hil, hi40⟩ | hil | ⟨hil, hi40⟩
      · have hd : decide ((i : Int) < 40) = true := by simp; omega
        go_wp2
        go_loopw [8] (fun i wr => ∃ k : Nat, k ≤ l.length ∧ i = .int .i64 k ∧ Below w.heap.size w wr) (fun i wr => l.length - (intOf i).toNat)
        case atStart => exact ⟨0, by omega, rfl, HB⟩
        case round =>
          clear HB
          obtain ⟨k, hk, rfl, HB⟩ := hrel
          obtain ⟨wq, rfl⟩ : ∃ wo : World, wo = wr := ⟨_, rfl⟩
          rcases (by omega : (k < l.length ∧ k < 40) ∨ ¬ k < l.length ∨ (k < l.length ∧ ¬ k < 40)) with ⟨hkl, hk40⟩ | hkl | ⟨hkl, hk40⟩
          · have hd' : decide ((k : Int) < 40) = true := by simp; omega
            go_wp2
            go_cut [9, 10] (fun v9 v10 wc => ∃ g h, v9 = .pointer (some ⟨g, 0, none⟩) ∧ v10 = .pointer (some ⟨h, 0, none⟩) ∧ BoxAt wc g l[i] ∧ BoxAt wc h l[k] ∧ Below w.heap.size w wc)
            case first =>
              obtain ⟨b, o, rfl, a1, a2, a3⟩ := (HL.out.keep HB).sp i hil
              obtain ⟨b', o', he, b1, b2, b3⟩ := (HL.out.keep HB).sp k hkl
              obtain ⟨rfl, rfl⟩ : b = b' ∧ o = o' := by simpa using he
              have hbl : b < wq.heap.size := World.block_lt_of_cell? wq _ a1
              go_region
              all_goals (
                go_wp2
                go_meet
                case rel => exact ⟨_, _, rfl, rfl, ⟨by go_simp, by go_simp, by go_simp⟩, ⟨by go_simp, by go_simp, by go_simp⟩, bdr (bl (bl HB (Nat.le_refl _) _) (Nat.le_refl _) _)⟩)
            case rest =>
              clear HB
              obtain ⟨g, h, rfl, rfl, hx, hy, HB⟩ := hcut
              have HS : S2 w g h l[i] l[k] wc := ⟨hx, hy, HB⟩
              clear hx hy HB
              obtain ⟨p, hp⟩ : ∃ p, p = l[i] := ⟨_, rfl⟩
              obtain ⟨q, hq⟩ : ∃ q, q = l[k] := ⟨_, rfl⟩
              have hc1 : cnt (tests p q) = 1 := by rw [hp, hq]; exact cnt_one (two_of HP.out i k hil hkl) (HV.out _ (List.getElem_mem _)) (HV.out _ (List.getElem_mem _))
              have HVq : VSp q := by rw [hq]; exact HV.out _ (List.getElem_mem _)
              rw [← hp, ← hq] at HS
              clear hp hq
              have HC := Lib.hid hc1
              clear hc1
              go_wp2
              go_region_held3 (fun w' => S2 w g h p q w') (first | exact HS.drew | exact S2.keep (by assumption) (by assumption) | exact S2.alloc (by assumption) _)
                (first
                 | (go_at_call 11; (with_reducible refine (selfA p q _).mono ?_); (try clear hb); rintro e w1 ⟨rfl, hb⟩)
                 | (go_at_call 12; (with_reducible refine (ancA p q _).mono ?_); (try clear hb); rintro e w1 ⟨rfl, hb⟩)
                 | (go_at_call 13; (with_reducible refine (desA p q _).mono ?_); (try clear hb); rintro e w1 ⟨rfl, hb⟩)
                 | (go_at_call 14; (with_reducible refine (folA p q _).mono ?_); (try clear hb); rintro e w1 ⟨rfl, hb⟩)
                 | (go_at_call 15; (with_reducible refine (preA p q _).mono ?_); (try clear hb); rintro e w1 ⟨rfl, hb⟩))
              clear HS hb
              have HS : SB w g h p q w1.heap.size (tests p q) (w1.alloc (.cells #[.bool (selfB p q), .bool (ancB p q), .bool (ancB q p), .bool (behB p q), .bool (behB q p)] 4)) := ⟨(by assumption), BRow.five w1 (selfB p q) (ancB p q) (ancB q p) (behB p q) (behB q p) 4⟩
              rename S2 _ _ _ _ _ _ => hold
              clear hold
              obtain ⟨wA, rfl⟩ : ∃ wA : World, wA = w1 := ⟨_, rfl⟩
              obtain ⟨wB, hwB⟩ : ∃ wB : World, wB = wA.alloc (.cells #[.bool (selfB p q), .bool (ancB p q), .bool (ancB q p), .bool (behB p q), .bool (behB q p)] 4) := ⟨_, rfl⟩
              rw [← hwB] at HS
              rw [← hwB]
              clear hwB
              go_wp2
              go_region_held3 (fun w' => SB w g h p q wA.heap.size (tests p q) w') (first | exact HS.keep (bdr (Below.refl _ _)) | exact SB.keep (by assumption) (by assumption) | exact SB.keep (by assumption) (bl1 (Below.refl _ _) _))
                (first
                 | (go_at_call 11; (with_reducible refine (selfA q p _).mono ?_); (try clear hb); rintro e w1 ⟨rfl, hb⟩)
                 | (go_at_call 12; (with_reducible refine (ancA q p _).mono ?_); (try clear hb); rintro e w1 ⟨rfl, hb⟩)
                 | (go_at_call 13; (with_reducible refine (desA q p _).mono ?_); (try clear hb); rintro e w1 ⟨rfl, hb⟩)
                 | (go_at_call 14; (with_reducible refine (folA q p _).mono ?_); (try clear hb); rintro e w1 ⟨rfl, hb⟩)
                 | (go_at_call 15; (with_reducible refine (preA q p _).mono ?_); (try clear hb); rintro e w1 ⟨rfl, hb⟩))
              clear HS hb
              rename SB _ _ _ _ _ _ _ _ => hold
              have HS : SB w g h p q wA.heap.size (tests p q) (w1.alloc (.cells #[.bool (selfB q p), .bool (ancB p q), .bool (ancB q p), .bool (behB p q), .bool (behB q p)] 4)) := hold
              clear hold
              have HT : BRow (w1.alloc (.cells #[.bool (selfB q p), .bool (ancB p q), .bool (ancB q p), .bool (behB p q), .bool (behB q p)] 4)) w1.heap.size (tests p q) := by
                have := BRow.five w1 (selfB q p) (ancB p q) (ancB q p) (behB p q) (behB q p) 4
                rw [self_comm] at this
                rw [self_comm]
                exact this
              obtain ⟨wD, hwD⟩ : ∃ wD : World, wD = w1.alloc (.cells #[.bool (selfB q p), .bool (ancB p q), .bool (ancB q p), .bool (behB p q), .bool (behB q p)] 4) := ⟨_, rfl⟩
              rw [← hwD] at HS HT
              rw [← hwD]
              clear hwD
              go_wp2
              go_loopw [11, 14] (fun n j wr => ∃ m : Nat, m ≤ 5 ∧ j = .int .i64 m ∧ n = .int .i64 (cnt ((tests p q).take m) : Nat) ∧ SB w g h p q wA.heap.size (tests p q) wr ∧ BRow wr w1.heap.size (tests p q)) (fun n j wr => 5 - (intOf j).toNat)
              case atStart => exact ⟨0, by omega, rfl, rfl, HS, HT⟩
              case round =>
                clear HS HT
                obtain ⟨m, hm, rfl, rfl, HS, HT⟩ := hrel
                by_cases hm5 : m < 5
                · have c1 := HS.2 m (by rw [tests_len]; exact hm5)
                  have c2 := HT m (by rw [tests_len]; exact hm5)
                  have hcnt := cnt_take (tests p q) m (by rw [tests_len]; exact hm5)
                  have hle : cnt ((tests p q).take m) ≤ 5 := by unfold cnt; exact Nat.le_trans (List.length_filter_le _ _) (by rw [List.length_take]; omega)
                  obtain ⟨b, hb⟩ : ∃ b, b = (tests p q).getD m false := ⟨_, rfl⟩
                  obtain ⟨n, hn⟩ : ∃ n, n = cnt ((tests p q).take m) := ⟨_, rfl⟩
                  rw [← hb] at c1 c2 hcnt
                  rw [← hn] at hcnt hle ⊢
                  clear hb hn
                  have HN := Lib.hid hcnt
                  clear hcnt
                  cases b
                  · go_wp2
                    go_quiet (fail)
                    go_wp2
                    exact ⟨⟨m + 1, by omega, by go_num, by rw [HN.out]; go_num, SB.keep HS (bdn (Below.refl _ _) _), HT.keep (bdn (Below.refl _ _) _)⟩, by simp [intOf]; omega⟩
                  · go_wp2
                    go_quiet (fail)
                    go_wp2
                    exact ⟨⟨m + 1, by omega, by go_num, by rw [HN.out]; go_num, SB.keep HS (bdn (Below.refl _ _) _), HT.keep (bdn (Below.refl _ _) _)⟩, by simp [intOf]; omega⟩
                · obtain rfl : m = 5 := by omega
                  have h5 : cnt ((tests p q).take 5) = 1 := HC.out
                  rw [h5]
                  replace HS := HS.1
                  clear HT h5
                  go_upto_block 6 with (fail)
                  refine body4 l A0 c0 g h p q w _ _ _ _ _ _ _ _ _ _ _ _ _ _ _ _ _ _ _ _ _ _ _ _ _ _ _ _ _ _ _ _ _ _ _ _ _ _ _ _ _ _ _ _ _ _ _ _ _ _ _ _ _ _ _ _ _ _ _ _ _ _ _ _ _ _ _ _ _ _ _ _ _ _ _ _ _ _ _ _ _ _ _ _ _ _ _ _ _ _ _ _ _ _ _ _ _ _ _ _ _ _ _ _ _ _ _ _ _ _ _ _ _ _ _ _ _ _ _ _ _ _ _ _ _ _ _ _ _ _ _ _ _ _ _ _ _ _ _ _ _ _ _ _ _ _ _ _ _ _ _ _ _ _ _ _ _ _ _ _ _ _ _ _ _ _ _ _ _ _ _ _ _ _ _ _ _ _ _ _ _ HL HS HVq (Lib.hid ?_)
                  clear HS
                  intro v2 v15 v16 v120 v121 v122 v123 v124 v125 v126 v127 v128 v129 v130 v131 v132 v133 v134 v135 v136 v137 v138 v139 v140 v141 v142 v143 v144 v145 v146 v147 v148 v149 v150 v151 v152 v153 v154 v155 v156 v157 v158 v159 v160 v161 v162 v163 v164 v165 v166 v167 v168 v169 v170 v171 v172 v173 v174 v175 v176 v177 v178 v179 wz HS
                  go_wp2
                  exact ⟨⟨k + 1, by omega, by go_num, HS.2.2⟩, by simp [intOf]; omega⟩
          · go_wp2
            exact ⟨⟨i + 1, by omega, by go_num, HB⟩, by simp [intOf]; omega⟩
          · go_wp2
            exact ⟨⟨i + 1, by omega, by go_num, HB⟩, by simp [intOf]; omega⟩
      · have hanc : ancB ⟨1, 4, 0⟩ ⟨2, 3, 0⟩ = true := by decide
        go_wp2_with (go_at_call 12; (with_reducible refine (ancA ⟨1, 4, 0⟩ ⟨2, 3, 0⟩ _).mono ?_); rintro e w1 ⟨rfl, hb⟩; replace HB := bt1 HB hb; clear hb)
        go_ret
        exact ⟨rfl, HB⟩
      · have hanc : ancB ⟨1, 4, 0⟩ ⟨2, 3, 0⟩ = true := by decide
        go_wp2_with (go_at_call 12; (with_reducible refine (ancA ⟨1, 4, 0⟩ ⟨2, 3, 0⟩ _).mono ?_); rintro e w1 ⟨rfl, hb⟩; replace HB := bt1 HB hb; clear hb)
        go_ret
        exact ⟨rfl, HB⟩
  · go_enter Try.func3, Try.ntmps3
    have hs : selfB ⟨1, 2, 0⟩ ⟨1, 2, 0⟩ = true := by decide
    go_wp2_with (first
      | ((with_reducible refine gate_dst (N := 20) rfl ?_); refine ev_append (L := LSp) (base := w.heap.size) (e := 29) [] l _ A0 c0 (.tmp 18) (.tmp 19) 22 (.agg #[.int .u64 0, .int .u64 0, .int .i64 0]) 24 rfl rfl Try.underlying22 Try.infoSp rfl rfl rfl (Own.bare _ _ _ _ _) (HL.out.keep (bl1 (Below.refl _ _) _)) (by simp) (by simp; omega) (by simp [maxLen]; omega) ?_; intro v20 w20 HO20 hg20 hat20; obtain ⟨A3, c3, rfl, HR3⟩ := HO20.form; replace HB := below_row (bl1 HB _) (by simp) (Own.bare LSp _ _ 29 _) hg20; simp only [List.nil_append] at HR3 ⊢; clear HO20 hg20 hat20)
      | (go_at_call 9; (with_reducible refine (chkA l A3 c3 _ HR3).mono ?_); rintro e w1 ⟨rfl, hb⟩; replace HB := bt1 HB hb; clear hb)
      | (go_at_call 10; (with_reducible refine (chkR l A0 c0 _ (HL.out.keep HB)).mono ?_); rintro e w1 ⟨rfl, hb⟩; replace HB := bt1 HB hb; clear hb)
      | (go_at_call 11; (with_reducible refine (selfA ⟨1, 2, 0⟩ ⟨1, 2, 0⟩ _).mono ?_); rintro e w1 ⟨rfl, hb⟩; replace HB := bt1 HB hb; clear hb))
    go_ret
    exact ⟨rfl, HB⟩
end
end Go.Proofs.Ytaanlildniiijaa
