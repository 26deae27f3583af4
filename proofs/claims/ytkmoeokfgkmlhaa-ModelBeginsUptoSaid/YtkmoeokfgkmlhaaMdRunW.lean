/- Models: names are read along the places: run, Match. -/
import Derived.Test.YtkmoeokfgkmlhaaMdPlaced
namespace Go.Mdl
theorem hit_take (m : Pl) (may : List Nat) (x : ByteArray) (k : Nat) (hk : k < may.length) : m.hit (may.take (k + 1)) x = m.hit (may.take k) x ++ (if fits (m.atoms.getD may[k] ByteArray.empty) x then [may[k]] else []) := by
  unfold Pl.hit
  rw [List.take_add_one, List.getElem?_eq_getElem hk, Option.toList_some, List.filter_append]
  congr 1
  simp [List.filter_cons]
theorem next_snoc (m : Pl) (h : List Nat) (k : Nat) : m.next (h ++ [k]) = joined (m.next h) (m.fol.getD k []) := by
  unfold Pl.next
  rw [List.foldl_append]; rfl
theorem fol_few {m : Pl} (h : PlOk m) (k : Nat) : Few m.atoms.length (m.fol.getD k []) := by
  rw [List.getD_eq_getElem?_getD]
  cases hi : m.fol[k]? with
  | none => exact Few.nil _
  | some l => exact h.fol l (List.mem_of_getElem? hi)
theorem next_few {m : Pl} (h : PlOk m) : ∀ (l acc : List Nat), Few m.atoms.length acc → Few m.atoms.length (l.foldl (fun nx k => joined nx (m.fol.getD k [])) acc)
  | [], acc, ha => ha
  | k :: l, acc, ha => by
    rw [List.foldl_cons]
    exact next_few h l _ (ha.joined (fol_few h k).2)
theorem hit_lt {m : Pl} {may : List Nat} {x : ByteArray} (h : Few m.atoms.length may) : ∀ k ∈ m.hit may x, k < m.atoms.length := fun k hk => h.2 k (List.mem_filter.1 hk).1
end Go.Mdl
namespace Go.Proofs.Ytkmoeokfgkmlhaa
open Go.RowKit Go.Vc Go.Mdl
set_option linter.unusedVariables false
set_option linter.unusedSimpArgs false
set_option maxRecDepth 100000
section
variable {w w1 : World} {R : Ending → World → Prop} {g : Nat}
theorem lastB_at {m : Pl} {k : Nat} (hk : k < m.atoms.length) : (lastB m)[k]? = some (m.last.contains k) := by
  simp [lastB, hk]
theorem run_calls {rows : List (List Part)} {m : Pl} {names : Wd} {A : Option Addr} {c : Nat} (h : RdM w g rows m) (ok : PlOk m) (hn : Rd LSt w A c names) (hR : ∀ (v : Sv) w', RdI 0 w' v (m.run names).2.1 → Below w.heap.size w w' → R (.returned (.tuple #[.int .i64 ((m.run names).1 : Int), .slice v.1 v.2.1 v.2.2, .bool (m.run names).2.2])) w') :
    Calls Try.prog 28 #[.pointer (some ⟨g, 0, none⟩), .slice A names.length c] w R := by
  refine ok28 _ _ _ _ ?_
  unfold F28
  refine dr fun w1 hb1 _ => ?_
  have h1 := h.below hb1
  obtain ⟨sl, ⟨a, f, fs, ls, vs, q1, q3, q4, q5, q6⟩, q2⟩ := h1
  have hnl := hn.1
  have hnm := hn.2.1
  unfold maxLen at hnm
  rw [NonNil_some]
  refine lSl (by rw [Addr.add_mk]; exact q1.cell 2) ?_
  rw [NonNil_some]
  refine lB (by rw [Addr.add_mk]; exact q1.cell 5) ?_
  refine ⟨fun mA mN mC is i w' => ∃ (k : Nat) (may : List Nat), i = k ∧ k ≤ names.length ∧ RdI 0 w' (mA, mN, mC) may ∧ Few m.atoms.length may ∧ Below w.heap.size w w' ∧ m.goes (names.drop k) k may is = m.run names, fun mA mN mC is i w' => names.length - i.toNat,
    ⟨0, m.first, rfl, by omega, q5, ok.first, hb1, rfl⟩, ?_⟩
  clear q1 q2 q3 q4 q5 q6 hb1
  rintro mA mN mC is i w2 ⟨k, may, rfl, hk, hmay, hfew, hb2, hgo⟩
  unfold F28_l3
  refine brd (fun hlt => ?_) (fun hge => ?_)
  rotate_left
  · obtain rfl : k = names.length := by omega
    rw [List.drop_length] at hgo
    simp only [Pl.goes] at hgo
    rw [← hgo] at hR
    exact hR (mA, mN, mC) w2 hmay hb2
  have hk2 : k < names.length := by omega
  have hd : names.drop k = names[k] :: names.drop (k + 1) := List.drop_eq_getElem_cons hk2
  rw [hd] at hgo
  simp only [Pl.goes] at hgo
  refine (hn.keep hb2).idx rfl (by omega) (by omega) rfl fun b o hc => ?_
  simp only [Int.toNat_natCast] at hc
  refine lS (hc 0 _ rfl) ?_
  generalize names[k] = x at hgo
  have hmn := hmay.1
  have hm128 := Nat.le_trans hfew.len ok.le
  refine ⟨fun nA nN nC okv last i2 w' => ∃ j : Nat, i2 = j ∧ j ≤ may.length ∧ RdI 0 w' (nA, nN, nC) (m.next (m.hit (may.take j) x)) ∧ okv = !(m.hit (may.take j) x).isEmpty ∧ last = ((m.hit (may.take j) x).any fun k => m.last.contains k) ∧ Below w2.heap.size w2 w', fun nA nN nC okv last i2 w' => may.length - i2.toNat,
    ⟨0, rfl, by omega, RdI.nil _ _, rfl, rfl, Below.refl _ _⟩, ?_⟩
  rintro nA nN nC okv last i2 w3 ⟨j, rfl, hj, hnx, rfl, rfl, hb3⟩
  unfold F28_l8
  have hmay3 := hmay.below hb3
  have hb23 : Below w.heap.size w w3 := btr hb2 hb2.size hb3
  refine brd (fun hlt2 => ?_) (fun hge2 => ?_)
  rotate_left
  · obtain rfl : j = may.length := by dsimp only at hmn; omega
    rw [List.take_length] at hnx ⊢
    cases he : (m.hit may x).isEmpty with
    | true =>
      rw [he] at hgo
      simp only [if_true] at hgo
      rw [← hgo] at hR
      exact hR (mA, mN, mC) w3 hmay3 hb23
    | false =>
      rw [he] at hgo
      simp only [Bool.false_eq_true, if_false] at hgo
      simp only [Bool.not_false, Bool.not_true, Br_f]
      exact ⟨inR_i64 (by omega) (by omega), ⟨k + 1, _, by simp, by omega, hnx, next_few ok _ _ (Few.nil _), hb23, hgo⟩, by first | omega | (dsimp only; omega)⟩
  have hj2 : j < may.length := by dsimp only at hmn; omega
  have hjl := hfew.2 _ (List.getElem_mem hj2)
  have hht := hit_take m may x j hj2
  have h3 := h.below hb23
  obtain ⟨sl, ⟨a, f, fs, ls, vs, q1, q3, q4, q5, q6⟩, q2⟩ := h3
  have hnf := next_few ok (m.hit (may.take j) x) [] (Few.nil _)
  refine ⟨fun nA2 nN2 nC2 ok2 last2 w' => RdI 0 w' (nA2, nN2, nC2) (m.next (m.hit (may.take (j + 1)) x)) ∧ ok2 = !(m.hit (may.take (j + 1)) x).isEmpty ∧ last2 = ((m.hit (may.take (j + 1)) x).any fun k => m.last.contains k) ∧ Below w2.heap.size w2 w', ?_, ?_⟩
  · rintro nA2 nN2 nC2 ok2 last2 w4 ⟨r1, r2, r3, r4⟩
    unfold F28_j14
    exact ⟨inR_i64 (by omega) (by omega), ⟨j + 1, by simp, by omega, r1, r2, r3, r4⟩, by dsimp only; omega⟩
  refine hmay3.2.1.k hmn rfl hj2 fun b o c0 => lI c0 ?_
  rw [NonNil_some]
  refine lSl (by rw [Addr.add_mk]; exact q1.cell 1) ?_
  refine q3.2.idx q3.1 (by omega) (by rw [q3.1]; omega) rfl fun b o hc => ?_
  simp only [Int.toNat_natCast] at hc
  refine lS (hc 0 _ rfl) ?_
  refine fits_calls ⟨_, rfl, ?_⟩
  have hat : m.atoms.getD may[j] ByteArray.empty = m.atoms[may[j]] := by rw [List.getD_eq_getElem?_getD, List.getElem?_eq_getElem hjl]; rfl
  rw [hat] at hht
  cases hft : fits m.atoms[may[j]] x with
  | false =>
    rw [hft] at hht
    simp only [Bool.false_eq_true, if_false, List.append_nil] at hht
    rw [Br_f, hht]
    exact ⟨hnx, rfl, rfl, hb3⟩
  | true =>
    rw [hft] at hht
    simp only [if_true] at hht
    rw [Br_t]
    refine ⟨fun last2 w' => w' = w3 ∧ last2 = (((m.hit (may.take j) x).any fun k => m.last.contains k) || m.last.contains may[j]), ?_, ?_⟩
    · rintro last2 w4 ⟨rfl, rfl⟩
      unfold F28_j13
      rw [NonNil_some]
      refine lSl (by rw [Addr.add_mk]; exact q1.cell 3) ?_
      have hjf : may[j] < m.fol.length := by rw [← ok.len]; exact hjl
      have hjv : may[j] < vs.length := by rw [q4.2.2.1]; exact hjf
      refine q4.2.1.idx q4.1 (by omega) (by rw [q4.1]; omega) rfl fun b o hc => ?_
      simp only [Int.toNat_natCast] at hc
      refine lSl (hc 0 _ rfl) ?_
      have hr := q4.2.2.2 _ _ _ (List.getElem?_eq_getElem hjv) (List.getElem?_eq_getElem hjf)
      have hfe : m.fol[may[j]] = m.fol.getD may[j] [] := by rw [List.getD_eq_getElem?_getD, List.getElem?_eq_getElem hjf]; rfl
      have hl1 := Nat.le_trans hnf.len ok.le
      have hl2 := Nat.le_trans (fol_few ok may[j]).len ok.le
      rw [hfe] at hr
      refine joinI (B := 0) (v := (nA, nN, nC)) (Nat.zero_le _) hnx hr (by unfold Pl.next; omega) fun v w5 hv hb5 => ⟨_, _, _, rfl, ?_⟩
      rw [hht, next_snoc]
      exact ⟨hv, by simp, by simp, btr hb3 hb3.size hb5⟩
    · cases hl : ((m.hit (may.take j) x).any fun k => m.last.contains k) with
      | true => exact ⟨rfl, by simp⟩
      | false =>
        rw [Br_f, NonNil_some]
        refine lSl (by rw [Addr.add_mk]; exact q1.cell 4) ?_
        have hjb : may[j] < (lastB m).length := by simpa [lastB] using hjl
        refine q6.2.idx (by rw [q6.1]; simp [lastB]) (by omega) (by rw [q6.1]; omega) rfl fun b o hc => ?_
        simp only [Int.toNat_natCast] at hc
        refine lB (hc 0 _ rfl) ⟨rfl, ?_⟩
        have := lastB_at hjl
        rw [List.getElem?_eq_getElem hjb] at this
        have := Option.some.inj this
        rw [this, Bool.false_or]
theorem match_calls {rows : List (List Part)} {m : Pl} {names : Wd} {A : Option Addr} {c : Nat} (h : RdM w g rows m) (ok : PlOk m) (hn : Rd LSt w A c names) (hR : ∀ w', Below w.heap.size w w' → R (.returned (.tuple #[.bool (m.mat names).1, .int .i64 ((m.mat names).2 : Int)])) w') :
    Calls Try.prog 11 #[.pointer (some ⟨g, 0, none⟩), .slice A names.length c] w R := by
  refine ok11 _ _ _ _ ?_
  unfold F11
  rw [show (some (⟨g, 0, none⟩ : Addr)).isNone = false from rfl, Br_f]
  refine run_calls h ok hn fun v w1 hv hb1 => ⟨_, _, _, _, _, rfl, ?_⟩
  have hR := hR w1 hb1
  unfold Pl.mat at hR
  cases hb : (m.run names).2.2 with
  | true =>
    rw [hb] at hR
    rw [Br_t]
    have e : (((m.run names).1 : Int) == ((names.length : Nat) : Int)) = ((m.run names).1 == names.length) := by
      rw [Bool.eq_iff_iff, beq_iff_eq, beq_iff_eq]; omega
    rw [e]; simpa using hR
  | false =>
    rw [hb] at hR
    rw [Br_f]; simpa using hR
theorem clear0_calls (h : Blk w g #[.slice none 0 0, .slice none 0 0, .slice none 0 0, .slice none 0 0, .slice none 0 0, .bool false] 60) (hR : ∀ w', Below w.heap.size w w' → R (.returned (.bool true)) w') :
    Calls Try.prog 9 #[.pointer (some ⟨g, 0, none⟩)] w R := by
  refine ok9 _ ?_
  unfold F9
  rw [show (some (⟨g, 0, none⟩ : Addr)).isNone = false from rfl, Br_f]
  have hd : Below w.heap.size w w.drew := (Below.refl _ _).drew
  have HS : ∀ (i : Nat) (u : Value), w.cell? ⟨g, i, none⟩ = some u → Held (fun w' => Below w.heap.size w w') ⟨g, i, none⟩ u := fun i u hc w' hb => kcell hb hc
  simp only [NonNil_some, Addr.add_mk, Nat.zero_add]
  refine ⟨_, hd, none, 0, 0, HS 2 _ (h.cell 2), none, 0, 0, HS 3 _ (h.cell 3), al fun g2 w1 hb1 hg2 hge => ⟨btr hd hd.size hb1, ?_⟩⟩
  have hB1 := btr hd hd.size hb1
  have own1 : Own LSv w1 w.heap.size 56 (.slice (some ⟨g2, 0, none⟩) 1 1) [(none, 0, 0)] := Own.lit' (L := LSv) (xs := [((none, 0, 0) : Sv)]) hg2 hge rfl (by simp [maxLen])
  refine ap (L := LSv) (xs := [((none, 0, 0) : Sv)]) (ys := []) (base := w.heap.size) (.slice none 0 0) 24 rfl rfl rfl rfl own1 (Rd.nil _ _) hB1.size (by simp) (by simp [maxLen]) fun A' c' w2 ho hgr => ⟨_, _, _, rfl, ?_⟩
  have hB2 : Below w.heap.size w w2 := hB1.trans hgr.below
  simp only [List.append_nil] at ho
  refine ⟨fun i w' => ∃ k : Nat, i = k ∧ k ≤ 1 ∧ w' = w2, fun i _ => 1 - i.toNat, ⟨0, rfl, by omega, rfl⟩, ?_⟩
  rintro i w3 ⟨k, rfl, hk, rfl⟩
  unfold F9_l4
  refine brd (fun hlt => ?_) (fun hge => hR w3 hB2)
  have hk0 : k = 0 := by simp at hlt; omega
  subst hk0
  refine ho.rd.2.idx rfl (by omega) (by simp) rfl fun b o hc => ?_
  refine lSl (hc 0 _ rfl) ?_
  refine ⟨fun i w' => i = 0 ∧ w' = w3, fun i _ => 0, ⟨rfl, rfl⟩, ?_⟩
  rintro i w4 ⟨rfl, rfl⟩
  unfold F9_l7
  refine brd (fun hlt => ?_) (fun hge => ⟨inR_i64 (by omega) (by omega), ⟨1, rfl, by omega, rfl⟩, by first | omega | (dsimp only; omega) | simp⟩)
  simp at hlt
end
end Go.Proofs.Ytkmoeokfgkmlhaa
