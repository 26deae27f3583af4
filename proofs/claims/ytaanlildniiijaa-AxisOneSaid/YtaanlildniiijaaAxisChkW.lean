/- Check, by the program. -/
import Derived.Test.YtaanlildniiijaaAxisChk
import Derived.Deep.DeepCutAuto
import Derived.Deep.CutBlock
namespace Go.Proofs.Ytaanlildniiijaa
open Go.RowKit
theorem ret2 {p : Int × Int} {a b : Int} (h : p = (a, b)) : Ending.returned (.tuple #[.int .i64 a, .int .i64 b]) = Ending.returned (.tuple #[.int .i64 p.1, .int .i64 p.2]) := by rw [h]
section
set_option maxHeartbeats 4000000
set_option maxRecDepth 100000
theorem chkA (l : List Sp) (A0 : Option Addr) (c0 : Nat) (w : World) (hl : Rd LSp w A0 c0 l) :
    Calls Try.prog 9 #[.slice A0 l.length c0] w fun e w' => e = .returned (.tuple #[.int .i64 (chk l).1, .int .i64 (chk l).2]) ∧ Below w.heap.size w w' := by
  have hn : (l.length : Int) ≤ 9223372036854775807 := by have := hl.1; have := hl.2.1; simp only [maxLen] at this; omega
  have HL := Lib.hid hl
  clear hl
  by_cases hlen : 8192 < l.length
  · have h1 : chk l = (0, 2) := by simp [chk, hlen]
    go_enter Try.func9, Try.ntmps9
    go_wp2
    go_ret2
    exact ⟨ret2 h1, Below.refl _ _⟩
  · have h1 : chk l = chkF l 0 [] l := by simp [chk]; omega
    have H1 := Lib.hid h1
    clear h1
    go_enter Try.func9, Try.ntmps9
    go_wp2
    go_loopw [4, 12] (fun v i wr => ∃ (k : Nat) (st : List Sp) (A : Option Addr) (c : Nat), k ≤ l.length ∧ i = .int .i64 k ∧ v = .slice A st.length c ∧ Own LSp wr w.heap.size 29 (.slice A st.length c) st.reverse ∧ Below w.heap.size w wr ∧ st.length ≤ k ∧ Hid (chk l = chkF l k st (l.drop k))) (fun v i wr => l.length - (intOf i).toNat)
    case atStart => exact ⟨0, [], none, 0, by omega, rfl, rfl, Own.nil _ _ _ _, Below.refl _ _, by simp, H1⟩
    case round =>
      obtain ⟨k, st, A, c, hk, rfl, rfl, HO, HB, hst, H⟩ := hrel
      obtain ⟨wo, rfl⟩ : ∃ wo : World, wo = wr := ⟨_, rfl⟩
      by_cases hlt : k < l.length
      · obtain ⟨b, o, rfl, c1, c2, c3⟩ := (HL.out.keep HB).sp k hlt
        go_wp2_with (go_at_call 52; (with_reducible refine (canA l[k] _).mono ?_); rintro e w1 ⟨rfl, hb⟩; have hx := (BoxAt.new wo l[k] 29).keep hb; replace HB := bt1 (bl1 HB _) hb; replace HO := (HO.keep (bl1 (Below.refl _ _) _)).keep hb; have HR := Lib.hid (HL.out.keep HB); clear hb HL c1 c2 c3)
        · have h2 : chk l = ((k : Int), 110) := by rw [H.out, chkF_at l k st hlt, if_pos (by simpa using ‹(!canB l[k]) = true›)]
          go_ret2
          exact ⟨ret2 h2, HB⟩
        · have hcan : canB l[k] = true := by simpa using ‹(!canB l[k]) = false›
          go_cut [22] (fun v wc => v = .bool (prevS l k l[k]) ∧ BoxAt wc wo.heap.size l[k] ∧ Own LSp wc w.heap.size 29 (.slice A st.length c) st.reverse ∧ Below w.heap.size w wc ∧ Hid (Rd LSp wc (some ⟨b, o, none⟩) c0 l))
          case first =>
            rcases Nat.eq_zero_or_pos k with rfl | hk0
            · go_quiet (fail)
              go_wp2
              go_meet
              case rel => exact ⟨by simp [prevS], hx, HO, bdn HB _, Lib.hid HR.out⟩
            · obtain ⟨j, rfl⟩ : ∃ j, k = j + 1 := ⟨k - 1, by omega⟩
              obtain ⟨b', o', he, d1, d2, d3⟩ := HR.out.sp j (by omega)
              obtain ⟨rfl, rfl⟩ : b = b' ∧ o = o' := by simpa using he
              clear d2 d3 he
              go_quiet (fail)
              go_wp2
              go_meet
              case rel => exact ⟨by simp [prevS, List.getElem?_eq_getElem (show j < l.length by omega)], hx, HO, bdn HB _, Lib.hid HR.out⟩
          case rest =>
            clear hx HO HB HR
            obtain ⟨rfl, hx, HO, HB, HR⟩ := hcut
            go_upto_block 3 with (fail)
            · have h2 : chk l = ((k : Int), 71) := by rw [H.out, chkF_at l k st hlt, if_neg (by simp [hcan]), if_pos (by assumption)]
              go_wp2
              go_ret2
              exact ⟨ret2 h2, HB⟩
            · have h2 : chk l = (if badS l[k] (popS l[k] st) then ((k : Int), 111) else chkF l (k + 1) (l[k] :: popS l[k] st) (l.drop (k + 1))) := by
                rw [H.out, chkF_at l k st hlt, if_neg (by simp [hcan]), if_neg (by simpa using ‹prevS l k l[k] = false›)]
              have H2 := Lib.hid h2
              clear h2 H
              rename prevS l k l[k] = false => hp
              rename (!canB l[k]) = false => hq
              clear hp hq hcan
              go_cut [4] (fun v wd => ∃ st' A' c', Hid (popS l[k] st = st') ∧ v = .slice A' st'.length c' ∧ st'.length ≤ k ∧ BoxAt wd wo.heap.size l[k] ∧ Own LSp wd w.heap.size 29 (.slice A' st'.length c') st'.reverse ∧ Below w.heap.size w wd ∧ Hid (Rd LSp wd (some ⟨b, o, none⟩) c0 l))
              case first =>
                go_wp2
                go_loopw [4] (fun v wd => ∃ s A' c', Hid (popS l[k] st = popS l[k] s) ∧ v = .slice A' s.length c' ∧ s.length ≤ k ∧ BoxAt wd wo.heap.size l[k] ∧ Own LSp wd w.heap.size 29 (.slice A' s.length c') s.reverse ∧ Below w.heap.size w wd ∧ Hid (Rd LSp wd (some ⟨b, o, none⟩) c0 l)) (fun v wd => lenV v)
                case atStart => exact ⟨st, A, c, Lib.hid rfl, rfl, hst, hx, HO, HB, HR⟩
                case round =>
                  clear hx HO HB HR
                  obtain ⟨s, A2, c2, H3, rfl, hs, hx, HO, HB, HR⟩ := hrel
                  cases s with
                  | nil =>
                    simp only [List.length_nil] at HO hs ⊢
                    go_wp2
                    go_quiet (fail)
                    go_wp2
                    go_meet
                    case rel => exact ⟨[], A2, c2, Lib.hid (by rw [H3.out]; rfl), rfl, by simp, hx, HO, bdn HB _, Lib.hid HR.out⟩
                  | cons t r =>
                    obtain ⟨b2, o2, rfl, d1, d2, d3⟩ := HO.top
                    simp only [List.length_cons] at HO hs ⊢
                    have hr : (r.length : Int) + 1 ≤ 9223372036854775807 := by omega
                    go_wp2
                    have e1 : IntKind.i64.wrap ((r.length : Int) + 1 - 1) = (r.length : Int) := (IntWalk.i64_in _ (by omega)).trans (by omega)
                    have e2 : (0 : Int) < (r.length : Int) + 1 := by omega
                    have e3 : (0 : Int) ≤ (r.length : Int) := by omega
                    have e4 : (r.length : Int) < (r.length : Int) + 1 := by omega
                    go_quiet (fail)
                    clear e1 e2 e3 e4 d1 d2 d3 hr
                    by_cases ht : t.e < l[k].b
                    · have e5 : (r.length : Int) + 1 ≤ (c2 : Int) := by have := HO.rd.2.1; simp at this; omega
                      have e6 : (c2 : Int) ≤ 9223372036854775807 := by have := HO.rd.2.2.1; simp only [maxLen] at this; omega
                      go_wp2
                      exact ⟨⟨r, some ⟨b2, o2, none⟩, c2, Lib.hid (by rw [H3.out]; rw [popS_cons, if_pos (by omega)]), rfl, by omega, hx, HO.popS, bdn HB _, Lib.hid HR.out⟩, by simp [lenV]⟩
                    · go_wp2
                      go_meet
                      case rel => exact ⟨t :: r, _, c2, Lib.hid (by rw [H3.out]; rw [popS_cons, if_neg (by omega)]), rfl, by simpa using hs, hx, HO, bdn HB _, Lib.hid HR.out⟩
              case rest =>
                clear hx HO HB HR
                obtain ⟨s, A2, c2, H3, rfl, hs, hx, HO, HB, HR⟩ := hcut
                go_wp2
                go_cut [78] (fun v wd => v = .bool (badS l[k] s) ∧ BoxAt wd wo.heap.size l[k] ∧ Own LSp wd w.heap.size 29 (.slice A2 s.length c2) s.reverse ∧ Below w.heap.size w wd)
                case first =>
                  cases s with
                  | nil =>
                    simp only [List.length_nil] at HO hs ⊢
                    go_quiet (fail)
                    go_wp2
                    go_meet
                    case rel => exact ⟨by simp [badS], hx, HO, bdn HB _⟩
                  | cons t r =>
                    obtain ⟨b2, o2, rfl, d1, d2, d3⟩ := HO.top
                    simp only [List.length_cons] at HO hs ⊢
                    have hr : (r.length : Int) + 1 ≤ 9223372036854775807 := by omega
                    have e1 : IntKind.i64.wrap ((r.length : Int) + 1 - 1) = (r.length : Int) := (IntWalk.i64_in _ (by omega)).trans (by omega)
                    have e2 : (0 : Int) < (r.length : Int) + 1 := by omega
                    have e3 : (0 : Int) ≤ (r.length : Int) := by omega
                    have e4 : (r.length : Int) < (r.length : Int) + 1 := by omega
                    by_cases hte : t.e ≤ l[k].e
                    · go_quiet (fail)
                      clear e1 e2 e3 e4 d1 d2 d3 hr
                      go_wp2
                      go_meet
                      case rel => exact ⟨by simp [badS, hte], hx, HO, bdn HB _⟩
                    · have hte' := Int.not_le.1 hte
                      go_quiet (fail)
                      clear e1 e2 e3 e4 d1 d2 d3 hr
                      go_wp2
                      go_meet
                      case rel => exact ⟨by simp [badS, Int.not_le.2 hte'], hx, HO, bdn HB _⟩
                case rest =>
                  clear hx HO HB
                  obtain ⟨rfl, hx, HO, HB⟩ := hcut
                  have HB1 : w.heap.size ≤ wc.heap.size := HB.size
                  have HO1 := HO.keep (bl1 (Below.refl _ _) (.cells #[.int .u64 l[k].b, .int .u64 l[k].e, .int .i64 l[k].l] 29))
                  have hs8 : s.length ≤ 8192 := by omega
                  go_wp2_with ((with_reducible refine gate_dst (N := 83) rfl ?_); refine ev_append (L := LSp) (base := w.heap.size) (e := 29) s.reverse [l[k]] (.slice A2 s.length c2) (some ⟨wc.heap.size, 0, none⟩) 1 (.tmp 80) (.tmp 82) 22 (.agg #[.int .u64 0, .int .u64 0, .int .i64 0]) 24 rfl rfl Try.underlying22 Try.infoSp rfl rfl rfl HO1 (Rd.lit1 _ _ _ _ rfl) (by simp; omega) (by simp; omega) (by simp [maxLen]; omega) ?_; intro v1 w1 HO2 hg hat)
                  · have h3 : chk l = ((k : Int), 111) := by rw [H2.out, H3.out, if_pos (by assumption)]
                    go_ret2
                    exact ⟨ret2 h3, HB⟩
                  · obtain ⟨A3, c3, rfl, -⟩ := HO2.form
                    have e1 : (s.reverse ++ [l[k]]).length = (l[k] :: s).length := by simp
                    rw [e1, ← List.reverse_cons] at HO2
                    rw [e1]
                    exact ⟨⟨k + 1, l[k] :: s, A3, c3, by omega, by go_num, rfl, HO2, below_row (bl1 HB _) (by simp; omega) HO1 hg, by simp; omega, Lib.hid (by rw [H2.out, H3.out, if_neg (by simp [*])])⟩, by simp [intOf]; omega⟩
      · obtain rfl : k = l.length := by omega
        have h2 : chk l = (0, 0) := by rw [H.out, chkF_end]
        go_wp2
        go_ret2
        exact ⟨ret2 h2, HB⟩
end
end Go.Proofs.Ytaanlildniiijaa
