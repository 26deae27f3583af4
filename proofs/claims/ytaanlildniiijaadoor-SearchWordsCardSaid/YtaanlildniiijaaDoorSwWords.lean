/- The words of a text, by the program and by the reference. -/
import Derived.Test.YtaanlildniiijaaDoorGSw
import Derived.Test.YtaanlildniiijaaDoorVcAp
import Derived.Test.YtaanlildniiijaaDoorVcConv
import Derived.Test.YtaanlildniiijaaDoorSwPure
import Derived.Test.YtaanlildniiijaaDoorSwTextA
namespace Go.Proofs.YtaanlildniiijaaDoor
open Go.RowKit Go.Vc
set_option maxRecDepth 100000
theorem inR_u8 {z : Int} (h0 : 0 ≤ z) (h1 : z ≤ 255) : InR .u8 z := ⟨by simpa [IntKind.min, IntKind.signed] using h0, by simpa [IntKind.max, IntKind.signed, IntKind.bits] using h1⟩
theorem inR_i64 {z : Int} (h0 : -9223372036854775808 ≤ z) (h1 : z ≤ 9223372036854775807) : InR .i64 z := ⟨by simpa [IntKind.min, IntKind.signed, IntKind.bits] using h0, by simpa [IntKind.max, IntKind.signed, IntKind.bits] using h1⟩
theorem lower_calls (s : ByteArray) (hs : s.size ≤ 140737488351232) {w : World} {R : Ending → World → Prop} (h : ∀ w', Below w.heap.size w w' → R (.returned (.string (lowB s))) w') : Calls Tryd.prog 12 #[.string s] w R := by
  refine ok12 s ?_
  unfold F12
  refine s2b rfl Tryd.underlying34 rfl fun cap w1 hb hc hf hsz => ⟨_, _, _, rfl, ?_⟩
  refine ⟨fun i w2 => ∃ k : Nat, i = k ∧ k ≤ s.size ∧ Below w.heap.size w w2 ∧ (∀ j, j < s.size → w2.frozen? ⟨w.heap.size, j, none⟩ = false) ∧
      ∀ j (hj : j < s.size), w2.cell? ⟨w.heap.size, j, none⟩ = some (.int .u8 (if j < k then (lowU s[j]).toNat else s[j].toNat : Nat)), fun i w2 => s.size - i.toNat, ⟨0, rfl, by omega, hb, hf, fun j hj => by simpa using hc j hj⟩, ?_⟩
  rintro i w2 ⟨k, rfl, hk, hb, hf, hc⟩
  unfold F12_l3
  refine brd (fun hlt => ?_) (fun hge => ?_)
  · have hlt' : k < s.size := by omega
    have hck := hc k hlt'
    simp only [Nat.lt_irrefl, if_false] at hck
    have hbyte := s[k].toNat_lt
    refine ⟨fun w3 => Below w.heap.size w w3 ∧ (∀ j, j < s.size → w3.frozen? ⟨w.heap.size, j, none⟩ = false) ∧
      ∀ j (hj : j < s.size), w3.cell? ⟨w.heap.size, j, none⟩ = some (.int .u8 (if j < k + 1 then (lowU s[j]).toNat else s[j].toNat : Nat)), ?_, ?_⟩
    · rintro w3 ⟨h1, h2, h3⟩
      unfold F12_j7
      exact ⟨inR_i64 (by omega) (by omega), ⟨k + 1, by simp, by omega, h1, h2, h3⟩, by dsimp only; omega⟩
    · have skip : ¬ (65 ≤ s[k].toNat ∧ s[k].toNat ≤ 90) → ∀ j (hj : j < s.size), w2.cell? ⟨w.heap.size, j, none⟩ = some (.int .u8 (if j < k + 1 then (lowU s[j]).toNat else s[j].toNat : Nat)) := by
        intro hn j hj
        rw [hc j hj]
        congr 3
        by_cases hjk : j = k
        · subst hjk
          rw [if_neg (by omega), if_pos (by omega), lowU_nat]
          unfold lowW
          rw [if_neg hn]
        · by_cases hj2 : j < k
          · rw [if_pos hj2, if_pos (by omega)]
          · rw [if_neg hj2, if_neg (by omega)]
      rw [IdxA_some (by omega) (by omega), Addr.add_mk]
      simp only [Int.toNat_natCast, Nat.mul_one, Nat.zero_add, hck, LdI_some]
      refine brd (fun h65 => brd (fun h90 => ?_) (fun h90 => ?_)) (fun h65 => ?_)
      · refine ⟨inR_u8 (by omega) (by omega), inR_u8 (by omega) (by omega), ?_⟩
        rw [IdxA_some (by omega) (by omega), Addr.add_mk]
        simp only [Int.toNat_natCast, Nat.mul_one, Nat.zero_add]
        refine ⟨⟨_, hck⟩, hf k hlt', hb.setCell (by simp) _, fun j hj => by rw [World.frozen?_setCell]; exact hf j hj, fun j hj => ?_⟩
        by_cases hjk : j = k
        · subst hjk
          rw [World.cell?_setCell_same _ _ _ hck, if_pos (by omega), lowU_nat]
          unfold lowW
          rw [if_pos (by omega)]
          congr 2
          omega
        · rw [World.cell?_setCell_other _ _ _ _ (by intro e; cases e; exact hjk rfl), hc j hj]
          congr 3
          by_cases hj2 : j < k
          · rw [if_pos hj2, if_pos (by omega)]
          · rw [if_neg hj2, if_neg (by omega)]
      · exact ⟨hb, hf, skip (by omega)⟩
      · exact ⟨hb, hf, skip (by omega)⟩
  · have hk' : k = s.size := by omega
    refine b2s (s.data.toList.map lowU) (by simp) Tryd.underlying34 rfl rfl (fun j hj => ⟨_, _, rfl, ?_⟩) ⟨_, rfl, h _ hb⟩
    have hj' : j < s.size := by simpa using hj
    rw [Nat.zero_add, hc j hj', if_pos (by omega)]
    simp
    rfl

theorem part_k {c : Int} {n : Nat} (hc : c = n) {w : World} {R : Ending → World → Prop} (h : R (.returned (.bool (inW n))) w) : Calls Tryd.prog 11 #[.int .u8 c] w R := by
  subst hc; exact (part_calls n w).mono fun e w' ⟨he, hw⟩ => by rw [he, hw]; exact h
theorem in_k {c : Int} {n : Nat} (hc : c = n) {w : World} {R : Ending → World → Prop} (h : R (.returned (.bool (inW n))) w) : Calls Tryd.prog 14 #[.int .u8 c] w R := by
  subst hc; exact (inW_calls n w).mono fun e w' ⟨he, hw⟩ => by rw [he, hw]; exact h
theorem low_k {c : Int} {n : Nat} (hc : c = n) (hn : n < 256) {w : World} {R : Ending → World → Prop} (h : R (.returned (.int .u8 (lowW n))) w) : Calls Tryd.prog 15 #[.int .u8 c] w R := by
  subst hc; exact (low_calls n hn w).mono fun e w' ⟨he, hw⟩ => by rw [he, hw]; exact h
theorem idxS {s : ByteArray} {i : Int} {k : Nat} (hi : i = k) (hk : k < s.size) {K : Int → Prop} (h : K (s[k].toNat : Nat)) : IdxS s i K := by
  subst hi
  exact ⟨by omega, s[k], by simp [getElem?_pos s k hk], h⟩
/-- Two slices of a call's own: words, and where they begin. -/
structure WS (w0 : World) (v u : Value) (l : List (ByteArray × Nat)) (w : World) : Prop where
  below : Below w0.heap.size w0 w
  ws : Own LS w w0.heap.size 9 v (l.map (·.1))
  at_ : Own LI w w0.heap.size 3 u (l.map fun p => (p.2 : Int))
  ap : Apart v u
theorem WS.keep {w0 w w1 : World} {v u : Value} {l : List (ByteArray × Nat)} (h : WS w0 v u l w) (hb : Below w.heap.size w w1) : WS w0 v u l w1 := ⟨btr h.below h.below.size hb, h.ws.keep hb, h.at_.keep hb, h.ap⟩
theorem Apart.symm {v u : Value} (h : Apart v u) : Apart u v := by
  rcases h with h | h
  · cases hu : rowOf u with
    | none => exact .inl hu
    | some k => exact .inr (by rw [h, hu]; simp)
  · exact .inr fun e => h e.symm
theorem Apart.nil_r {v : Value} {n c : Nat} : Apart v (.slice none n c) := by
  cases h : rowOf v with
  | none => exact .inl h
  | some k => exact .inr (by rw [h]; intro hc; cases c <;> cases hc)
theorem words_calls (s : ByteArray) (hs : s.size ≤ 16384) {w : World} {R : Ending → World → Prop} (h : ∀ A n c A2 n2 c2 w', WS w (.slice A n c) (.slice A2 n2 c2) (wordsF s 0) w' → R (.returned (.tuple #[.slice A n c, .slice A2 n2 c2])) w') : Calls Tryd.prog 7 #[.string s] w R := by
  refine ok7 s ?_
  unfold F7
  refine ⟨fun l lN lC at_ atN atC i w1 => ∃ (k : Nat) (pre : List (ByteArray × Nat)), i = k ∧ k ≤ s.size ∧ WS w (.slice l lN lC) (.slice at_ atN atC) pre w1 ∧ pre ++ wordsF s k = wordsF s 0,
    fun l lN lC at_ atN atC i w1 => s.size - i.toNat, ⟨0, [], rfl, by omega, ⟨Below.refl _ _, Own.nil _ _ _ _, Own.nil _ _ _ _, .inl rfl⟩, rfl⟩, ?_⟩
  rintro l lN lC at_ atN atC i w1 ⟨k, pre, rfl, hk, hws, hpre⟩
  have hlen : pre.length ≤ 16384 := by
    have h1 := wordsF_len s 0
    rw [← hpre, List.length_append] at h1
    omega
  unfold F7_l4
  refine brd (fun hlt => ?_) (fun hge => ?_)
  · refine ⟨fun i2 w2 => i2 = (runE s k : Nat) ∧ WS w (.slice l lN lC) (.slice at_ atN atC) pre w2, ?_, ?_⟩
    · rintro i2 w2 ⟨rfl, hws⟩
      have hle := runE_le s k hk
      unfold F7_j8
      refine brd (fun hgt => ?_) (fun hngt => ?_)
      · have hW : isW s k = true := by
          cases hw : isW s k with
          | true => rfl
          | false => rw [runE_f hw] at hgt; omega
        refine ⟨by omega, by omega, by omega, ?_⟩
        have hx : (s.extract ((k : Int)).toNat ((runE s k : Nat) : Int).toNat) = s.extract k (runE s k) := by simp
        rw [hx]
        refine lower_calls _ (by simp; omega) fun w3 hb3 => ⟨_, rfl, ?_⟩
        have h3 := hws.keep hb3
        refine ap1 (L := LS) (base := w.heap.size) (.string .empty) 16 rfl Tryd.underlying22 rfl rfl h3.ws h3.below.size (by simp; omega) (by simp [maxLen]; omega) fun A' c' w4 ho hg => ⟨_, _, _, rfl, ?_⟩
        obtain ⟨hat, hap⟩ := hg.own h3.at_ h3.ap.symm
        refine ap1 (L := LI) (base := w.heap.size) (x := (k : Int)) (.int .i64 0) 8 rfl Tryd.underlying23 rfl rfl hat (Nat.le_trans h3.below.size hg.lt) (by simp; omega) (by simp [maxLen]; omega) fun A2' c2' w5 ho2 hg2 => ⟨_, _, _, rfl, ?_⟩
        obtain ⟨how, hap2⟩ := hg2.own ho hap.symm
        refine ⟨⟨runE s k, pre ++ [(lowB (s.extract k (runE s k)), k)], rfl, hle, ⟨(h3.below.trans hg.below).trans hg2.below, ?_, ?_, ?_⟩, ?_⟩, by dsimp only; have := runE_gt hW; omega⟩
        · simpa using how
        · simpa using ho2
        · simpa using hap2
        · rw [← hpre, wordsF_t hW]; simp
      · have hW : isW s k = false := by
          cases hw : isW s k with
          | false => rfl
          | true => have := runE_gt hw; omega
        have hk2 : runE s k = k := runE_f hW
        rw [hk2]
        exact ⟨inR_i64 (by omega) (by omega), ⟨k + 1, pre, by simp, by omega, hws, by rw [← wordsF_f hW]; exact hpre⟩, by dsimp only; omega⟩
    · refine ⟨fun i2 w2 => ∃ j : Nat, i2 = j ∧ j ≤ s.size ∧ runE s j = runE s k ∧ WS w (.slice l lN lC) (.slice at_ atN atC) pre w2, fun i2 w2 => s.size - i2.toNat, ⟨k, rfl, hk, rfl, hws⟩, ?_⟩
      rintro i2 w2 ⟨j, rfl, hj, hr, hws⟩
      unfold F7_l6
      refine ⟨fun w3 => isW s j = true ∧ WS w (.slice l lN lC) (.slice at_ atN atC) pre w3, ?_, ?_⟩
      · rintro w3 ⟨hW, hws⟩
        have := isW_lt hW
        unfold F7_j7
        exact ⟨inR_i64 (by omega) (by omega), ⟨j + 1, by simp, by omega, by rw [← runE_t hW]; exact hr, hws⟩, by dsimp only; omega⟩
      · refine brd (fun hlt2 => ?_) (fun hge2 => ?_)
        · have hj2 : j < s.size := by omega
          refine idxS rfl hj2 ?_
          refine part_k rfl ⟨_, rfl, ?_⟩
          rw [← isW_at hj2]
          refine br (fun hW => ⟨hW, hws⟩) (fun hW => ⟨by rw [← hr, runE_f hW], hws⟩)
        · have : isW s j = false := by
            cases hw : isW s j with
            | false => rfl
            | true => have := isW_lt hw; omega
          exact ⟨by rw [← hr, runE_f this], hws⟩
  · have : pre = wordsF s 0 := by rw [← hpre, wordsF_end (by omega)]; simp
    rw [this] at hws
    exact h _ _ _ _ _ _ _ hws

/-- The bytes of a word so far, as they are looked for. -/
def lowL (s : ByteArray) (i j : Nat) : List Int := ((s.extract i j).data.toList.map fun b => ((lowU b).toNat : Int))
theorem ext_snoc (s : ByteArray) (i j : Nat) (hi : i ≤ j) (hj : j < s.size) : (s.extract i (j + 1)).data.toList = (s.extract i j).data.toList ++ [s[j]] := by
  have hz : s.data.toList.length = s.size := by simp
  rw [Lib.extract_data, Lib.extract_data]
  rw [show s[j] = (s.data.toList)[j]'(by omega) from (bytes_at s j hj).symm]
  rw [show j + 1 - i = (j - i) + 1 by omega, List.take_succ_eq_append_getElem (by rw [List.length_drop]; omega), List.getElem_drop]
  congr 2
  congr 1
  omega
theorem lowL_snoc (s : ByteArray) (i j : Nat) (hi : i ≤ j) (hj : j < s.size) : lowL s i (j + 1) = lowL s i j ++ [((lowU s[j]).toNat : Int)] := by
  unfold lowL; rw [ext_snoc s i j hi hj, List.map_append]; rfl
theorem split_calls (s : ByteArray) (hs : s.size ≤ 16384) {w : World} {R : Ending → World → Prop} (h : ∀ A n c A2 n2 c2 w', WS w (.slice A n c) (.slice A2 n2 c2) (wordsF s 0) w' → R (.returned (.tuple #[.slice A n c, .slice A2 n2 c2])) w') : Calls Tryd.prog 9 #[.string s] w R := by
  refine ok9 s ?_
  unfold F9
  refine ⟨fun l lN lC at_ atN atC i w1 => ∃ (k : Nat) (pre : List (ByteArray × Nat)), i = k ∧ k ≤ s.size + 1 ∧ WS w (.slice l lN lC) (.slice at_ atN atC) pre w1 ∧ pre ++ wordsF s k = wordsF s 0,
    fun l lN lC at_ atN atC i w1 => s.size + 1 - i.toNat, ⟨0, [], rfl, by omega, ⟨Below.refl _ _, Own.nil _ _ _ _, Own.nil _ _ _ _, .inl rfl⟩, rfl⟩, ?_⟩
  rintro l lN lC at_ atN atC i w1 ⟨k, pre, rfl, hk, hws, hpre⟩
  have hlen : pre.length ≤ 16384 := by
    have h1 := wordsF_len s 0
    rw [← hpre, List.length_append] at h1
    omega
  unfold F9_l4
  refine brd (fun hlt => ?_) (fun hge => ?_)
  · have hk2 : k < s.size := by omega
    refine ⟨fun l lN lC at_ atN atC i w1 => ∃ (k' : Nat) (pre : List (ByteArray × Nat)), k ≤ k' ∧ i = k' ∧ k' ≤ s.size ∧ isW s k' = false ∧ WS w (.slice l lN lC) (.slice at_ atN atC) pre w1 ∧ pre ++ wordsF s k' = wordsF s 0, ?_, ?_⟩
    · rintro l' lN' lC' at' atN' atC' i' w2 ⟨k', pre', h1, rfl, h2, h3, h4, h5⟩
      unfold F9_j5
      exact ⟨inR_i64 (by omega) (by omega), ⟨k' + 1, pre', by simp, by omega, h4, by rw [← wordsF_f h3]; exact h5⟩, by dsimp only; omega⟩
    · refine idxS rfl hk2 (in_k rfl ⟨_, rfl, ?_⟩)
      rw [← isW_at hk2, brnot]
      refine br (fun hW => ?_) (fun hW => ?_)
      · have hle := runE_le s k (by omega)
        have hgt := runE_gt hW
        refine ⟨fun i2 b bN bC w2 => i2 = (runE s k : Nat) ∧ WS w (.slice l lN lC) (.slice at_ atN atC) pre w2 ∧ Own LU w2 w.heap.size 5 (.slice b bN bC) (lowL s k (runE s k)), ?_, ?_⟩
        · rintro i2 b bN bC w2 ⟨rfl, hws, hob⟩
          unfold F9_j12
          obtain ⟨hbn, hrd⟩ := hob.rd
          refine b2s ((s.extract k (runE s k)).data.toList.map lowU) (by rw [hbn]; simp [lowL]) Tryd.underlying34 rfl rfl (fun j hj => ?_) ⟨_, rfl, ?_⟩
          · have hj' : j < (lowL s k (runE s k)).length := by simpa [lowL] using hj
            obtain ⟨b', o', rfl, hc⟩ := hrd.at j hj'
            refine ⟨b', o', rfl, ?_⟩
            have := hc 0 _ rfl
            simp only [LU, Nat.mul_one, Nat.add_zero] at this
            rw [this]
            simp [lowL]
          · have hx : ByteArray.mk (List.map lowU (s.extract k (runE s k)).data.toList).toArray = lowB (s.extract k (runE s k)) := rfl
            rw [hx]
            refine ap1 (L := LS) (base := w.heap.size) (.string .empty) 16 rfl Tryd.underlying22 rfl rfl hws.ws hws.below.size (by simp; omega) (by simp [maxLen]; omega) fun A' c' w4 ho hg => ⟨_, _, _, rfl, ?_⟩
            obtain ⟨hat, hap⟩ := hg.own hws.at_ hws.ap.symm
            refine ap1 (L := LI) (base := w.heap.size) (x := (k : Int)) (.int .i64 0) 8 rfl Tryd.underlying23 rfl rfl hat (Nat.le_trans hws.below.size hg.lt) (by simp; omega) (by simp [maxLen]; omega) fun A2' c2' w5 ho2 hg2 => ⟨_, _, _, rfl, ?_⟩
            obtain ⟨how, hap2⟩ := hg2.own ho hap.symm
            refine ⟨runE s k, pre ++ [(lowB (s.extract k (runE s k)), k)], by omega, rfl, hle, runE_end s k, ⟨(hws.below.trans hg.below).trans hg2.below, ?_, ?_, ?_⟩, ?_⟩
            · simpa using how
            · simpa using ho2
            · simpa using hap2
            · rw [← hpre, wordsF_t hW]; simp
        · refine ⟨fun i2 b bN bC w2 => ∃ j : Nat, i2 = j ∧ k ≤ j ∧ j ≤ s.size ∧ runE s j = runE s k ∧ WS w (.slice l lN lC) (.slice at_ atN atC) pre w2 ∧ Own LU w2 w.heap.size 5 (.slice b bN bC) (lowL s k j) ∧ Apart (.slice l lN lC) (.slice b bN bC) ∧ Apart (.slice at_ atN atC) (.slice b bN bC),
            fun i2 b bN bC w2 => s.size - i2.toNat, ⟨k, rfl, Nat.le_refl _, by omega, rfl, hws, by simpa [lowL] using Own.nil LU _ _ _, Apart.nil_r, Apart.nil_r⟩, ?_⟩
          rintro i2 b bN bC w2 ⟨j, rfl, hkj, hj, hr, hws, hob, ha1, ha2⟩
          unfold F9_l9
          refine ⟨fun w3 => isW s j = true ∧ w3 = w2, ?_, ?_⟩
          · rintro w3 ⟨hW2, rfl⟩
            have hj2 := isW_lt hW2
            unfold F9_j10
            refine idxS rfl hj2 (low_k rfl s[j].toNat_lt ⟨_, rfl, ?_⟩)
            have hln : (lowL s k j).length ≤ 16384 := by simp [lowL]; omega
            refine ap1 (L := LU) (base := w.heap.size) (x := (lowW s[j].toNat : Nat)) (.int .u8 0) 1 rfl Tryd.underlying34 rfl rfl hob hws.below.size (by omega) (by simp [maxLen]; omega) fun A' c' w4 ho hg => ⟨_, _, _, rfl, ?_⟩
            obtain ⟨h1, h2⟩ := hg.own hws.ws ha1
            obtain ⟨h3, h4⟩ := hg.own hws.at_ ha2
            refine ⟨inR_i64 (by omega) (by omega), ⟨j + 1, by simp, by omega, by omega, by rw [← runE_t hW2]; exact hr, ⟨hws.below.trans hg.below, h1, h3, hws.ap⟩, ?_, h2, h4⟩, by dsimp only; omega⟩
            rw [lowL_snoc s k j hkj hj2, lowU_nat]
            exact (by simpa using ho)
          · refine brd (fun hlt2 => ?_) (fun hge2 => ?_)
            · have hj2 : j < s.size := by omega
              refine idxS rfl hj2 (in_k rfl ⟨_, rfl, ?_⟩)
              rw [← isW_at hj2]
              refine br (fun hW2 => ⟨hW2, rfl⟩) (fun hW2 => ?_)
              have hjr : runE s k = j := by rw [← hr, runE_f hW2]
              exact ⟨by rw [hjr], hws, by rw [hjr]; exact hob⟩
            · have hW2 : isW s j = false := by
                cases hw : isW s j with
                | false => rfl
                | true => have := isW_lt hw; omega
              have hjr : runE s k = j := by rw [← hr, runE_f hW2]
              exact ⟨by rw [hjr], hws, by rw [hjr]; exact hob⟩
      · exact ⟨k, pre, Nat.le_refl _, rfl, by omega, hW, hws, hpre⟩
  · have : pre = wordsF s 0 := by rw [← hpre, wordsF_end (by omega)]; simp
    rw [this] at hws
    exact h _ _ _ _ _ _ _ hws
end Go.Proofs.YtaanlildniiijaaDoor
