/- Models: a model's rows and choices are placed. -/
import Derived.Test.YtkmoeokfgkmlhaaMdStep
import Derived.Test.YtkmoeokfgkmlhaaMdPart
namespace Go.Proofs.Ytkmoeokfgkmlhaa
open Go.RowKit Go.Vc Go.Mdl
set_option linter.unusedVariables false
set_option linter.unusedSimpArgs false
set_option maxRecDepth 100000
section
variable {w w1 : World} {R : Ending → World → Prop} {g B : Nat}
theorem uR_cons (p : Part) (ps : List Part) (gs : GS) (all : Pc) : uR (p :: ps) gs all = uR ps ((uP p gs).2.1, behind (uP p gs).2.2 all.last (uP p gs).1.first)
    ⟨if all.empty then joined all.first (uP p gs).1.first else all.first, if (uP p gs).1.empty then joined all.last (uP p gs).1.last else (uP p gs).1.last, all.empty && (uP p gs).1.empty⟩ := by rw [uR]
theorem uC_cons (p : List Part) (ps : List (List Part)) (gs : GS) (all : Pc) : uC (p :: ps) gs all = uC ps (uR p gs ⟨[], [], true⟩).2
    ⟨joined all.first (uR p gs ⟨[], [], true⟩).1.first, joined all.last (uR p gs ⟨[], [], true⟩).1.last, all.empty || (uR p gs ⟨[], [], true⟩).1.empty⟩ := by rw [uC]
theorem cP_lt (a : ByteArray) (rows : List (List Part)) (s : Nat) (h : a = Mdl.Br) : cC rows < cP (.mk a rows s) := by simp only [cP, if_pos h]; omega
theorem mrow_calls {w0 : World} {row : List Part} {v : Sv} {sl a f : Sv} {gs : GS} (H : ∀ a rows s, Part.mk a rows s ∈ row → a = Mdl.Br → CM rows) (ho : Old w0 B) (hs : Sub w0 w) (h : MI B w g sl a f gs) (hi : GI gs) (hc : gs.1.length + sR row ≤ 128) (hp : RdW w0 row v)
    (hlen : row.length ≤ 1048576) (hR : EndsM R B w g sl (uR row gs ⟨[], [], true⟩)) :
    Calls Try.prog 51 #[.pointer (some ⟨g, 0, none⟩), .slice v.1 v.2.1 v.2.2] w R := by
  refine ok51 _ _ _ _ ?_
  unfold F51
  obtain ⟨es, e1, e2, e3⟩ := hp
  have hel := e3.len
  refine al fun g4 w2 hb2 hg4 hge4 => al fun al_ w3 hb3 hgp hgep => ?_
  have hb13 : Below w.heap.size w w3 := btr hb2 hb2.size hb3
  have h3 := h.below hb13
  have f3 : Fi B w w3 := .below hb13
  have q4 : Blk w3 g4 (pB (none, 0, 0) (none, 0, 0) false) 80 := hg4.keep hb3
  have qa : Blk w3 al_ (pB (none, 0, 0) (none, 0, 0) false) 80 := hgp
  have na4 : ¬ g4 = al_ := by have := hg4.lt; omega
  have hlt4 : w.heap.size ≤ g4 := hge4
  have hlta : w.heap.size ≤ al_ := Nat.le_trans hb2.size hgep
  clear hb2 hb3 hg4 hgp hge4 hgep h
  refine stP qa rfl fun w4 f4 qa4 => ?_
  refine ⟨fun i w' => ∃ (k : Nat) (gs' : GS) (all : Pc) (x y a' f' : Sv), i = k ∧ k ≤ row.length ∧ MI B w' g sl a' f' gs' ∧ GI gs' ∧ PI gs'.1.length all ∧ gs'.1.length + sR (row.drop k) ≤ 128 ∧ Blk w' al_ (pB x y all.empty) 80 ∧ RdI B w' x all.first ∧ RdI B w' y all.last ∧ Blk w' g4 (pB (none, 0, 0) (none, 0, 0) false) 80 ∧ Fi B w w' ∧
    uR (row.drop k) gs' all = uR row gs ⟨[], [], true⟩, fun i _ => row.length - i.toNat,
    ⟨0, gs, ⟨[], [], true⟩, (none, 0, 0), (none, 0, 0), a, f, rfl, by omega, h3.box qa (by decide) f4, hi, ⟨Few.nil _, Few.nil _⟩, hc, qa4, RdI.nil _ _, RdI.nil _ _, f4.blk q4 na4, f3.new f4 fun b hb e => by omega, rfl⟩, ?_⟩
  clear h3 f3 q4 qa f4 qa4 hb13 hi hc
  rintro i w5 ⟨k, gs1, all, x, y, a1, f1, rfl, hk, h5, hi5, hpi, hc5, qa5, rx, ry, q45, fi5, hu⟩
  unfold F51_l3
  refine brd (fun hlt => ?_) (fun hge => ?_)
  · have hk2 : k < row.length := by rw [← hel]; omega
    have hk3 : k < es.length := by rw [hel]; exact hk2
    have hd : row.drop k = row[k] :: row.drop (k + 1) := List.drop_eq_getElem_cons hk2
    rw [hd] at hu hc5
    rw [uR_cons] at hu
    simp only [sR] at hc5
    obtain ⟨k1, k2⟩ := gi_P row[k] gs1 hi5
    have hge1 := k1.2.1
    have hle1 := k1.2.2
    have hcap : (uP row[k] gs1).2.1.length ≤ 128 := by omega
    have hpall := hpi.mono hge1
    have hbeh := GI.behind (first := (uP row[k] gs1).1.first) (last := all.last) k1.1 k2.1.2
    generalize hr : uP row[k] gs1 = r at hu k1 k2 hge1 hle1 hcap hpall hbeh
    refine ⟨fun w' => ∃ (x' y' a' f' : Sv), MI B w' g sl a' f' (r.2.1, behind r.2.2 all.last r.1.first) ∧ Blk w' al_ (pB x' y' (all.empty && r.1.empty)) 80 ∧ RdI B w' x' (if all.empty then joined all.first r.1.first else all.first) ∧ RdI B w' y' (if r.1.empty then joined all.last r.1.last else r.1.last) ∧ Blk w' g4 (pB (none, 0, 0) (none, 0, 0) false) 80 ∧ Fi B w w', ?_, ?_⟩
    · rintro w6 ⟨x', y', a', f', h6, qa, rx, ry, q4, fi6⟩
      unfold F51_j13
      refine ⟨inR_i64 (by omega) (by omega), ⟨k + 1, _, _, x', y', a', f', by simp, by omega, h6, hbeh, ?_, by dsimp only; omega, qa, rx, ry, q4, fi6, hu⟩, by dsimp only; omega⟩
      refine ⟨?_, ?_⟩
      · dsimp only
        split
        · exact hpall.1.joined k2.1.2
        · exact hpall.1
      · dsimp only
        split
        · exact hpall.2.joined k2.2.2
        · exact k2.2
    · -- the part
      have hsub5 : Sub w0 w5 := fi5.sub hs ho.lt
      refine (hsub5.rd e2).idx e1 (by omega) (by rw [e1]; omega) rfl fun b o hc => ?_
      simp only [Int.toNat_natCast] at hc
      refine lS (hc 0 _ rfl) (lSl (by rw [Addr.add_mk]; exact hc 1 _ rfl) (lI (by rw [Addr.add_mk]; exact hc 2 _ rfl) ?_))
      refine al3 fun g7 w6 hb6 hg7 hge7 => ?_
      refine ld3 hg7 ?_
      have hget := e3.get k hk2 hk3
      obtain ⟨pa, prows, ps, hpe⟩ : ∃ pa prows ps, row[k] = Part.mk pa prows ps := by cases row[k]; exact ⟨_, _, _, rfl⟩
      rw [hpe] at hget hr
      have hcp : gs1.1.length + cP (.mk pa prows ps) ≤ 128 := by rw [← hpe]; omega
      refine mpart_calls (H pa prows ps (hpe ▸ List.getElem_mem hk2)) ho ((Fi.below hb6).sub hsub5 ho.lt) (h5.below hb6) hi5 hcp hget ?_
      rw [hr]
      intro px py a' f' w7 h7 rpx rpy f7
      refine ⟨_, _, _, _, _, _, _, rfl, ?_⟩
      refine al3 fun p w8 hb8 hp8 hgep => ?_
      have fi8 : Fi B w w8 := ((fi5.trans (.below hb6)).trans f7).trans (.below hb8)
      have qa8 : Blk w8 al_ (pB x y all.empty) 80 := (f7.blk (qa5.keep hb6) (by decide)).keep hb8
      have q48 : Blk w8 g4 (pB (none, 0, 0) (none, 0, 0) false) 80 := (f7.blk (q45.keep hb6) (by decide)).keep hb8
      have hp8' : Blk w8 p (pB px py r.1.empty) 80 := hp8
      have h8 := h7.below hb8
      have npa : ¬ p = al_ := by have := (f7.blk (qa5.keep hb6) (by decide)).lt; omega
      have np4 : ¬ p = g4 := by have := (f7.blk (q45.keep hb6) (by decide)).lt; omega
      have hpge : w.heap.size ≤ p := by have := fi5.size; have := f7.size; have := hb6.size; omega
      have rx8 := ((rx.below hb6).fi f7).below hb8
      have ry8 := ((ry.below hb6).fi f7).below hb8
      have rpx8 := rpx.below hb8
      have rpy8 := rpy.below hb8
      refine lSl (qa8.cell 1) (lSl (hp8'.cell 0) ?_)
      have ll1 : ∀ {l : List Nat}, Few r.2.1.length l → l.length ≤ 128 := fun h => Nat.le_trans h.len hcap
      refine behind_calls h8 k1.1 hcap ry8 rpx8 hpall.2.2 k2.1 (ll1 hpall.2) fun w9 h9 f9 => ⟨rfl, ?_⟩
      have fi9 := fi8.trans f9
      have qa9 := f9.blk qa8 (by decide)
      have q49 := f9.blk q48 (by decide)
      have hp9 := f9.blk hp8' (by decide)
      have rx9 := rx8.fi f9
      have ry9 := ry8.fi f9
      have rpx9 := rpx8.fi f9
      have rpy9 := rpy8.fi f9
      clear h5 qa5 q45 rx ry h7 rpx rpy f7 hb8 hb6 h8 fi8 qa8 q48 hp8' hp8 rx8 ry8 rpx8 rpy8 f9 fi5 hg7
      refine ⟨fun w' => ∃ (x' : Sv), MI B w' g sl a' f' (r.2.1, behind r.2.2 all.last r.1.first) ∧ Blk w' al_ (pB x' y all.empty) 80 ∧ RdI B w' x' (if all.empty then joined all.first r.1.first else all.first) ∧ RdI B w' y all.last ∧ Blk w' p (pB px py r.1.empty) 80 ∧ RdI B w' px r.1.first ∧ RdI B w' py r.1.last ∧ Blk w' g4 (pB (none, 0, 0) (none, 0, 0) false) 80 ∧ Fi B w w', ?_, ?_⟩
      · rintro w10 ⟨x', h10, qa, rx, ry, qp, rpx, rpy, q4, fi10⟩
        unfold F51_j9
        refine ⟨fun w' => ∃ (x' y' : Sv), MI B w' g sl a' f' (r.2.1, behind r.2.2 all.last r.1.first) ∧ Blk w' al_ (pB x' y' all.empty) 80 ∧ RdI B w' x' (if all.empty then joined all.first r.1.first else all.first) ∧ RdI B w' y' (if r.1.empty then joined all.last r.1.last else r.1.last) ∧ Blk w' p (pB px py r.1.empty) 80 ∧ Blk w' g4 (pB (none, 0, 0) (none, 0, 0) false) 80 ∧ Fi B w w', ?_, ?_⟩
        · rintro w11 ⟨x', y', h11, qa, rx, ry, qp, q4, fi11⟩
          unfold F51_j12
          have put : ∀ e : Bool, e = (all.empty && r.1.empty) → St w11 (Addr.add ⟨al_, 0, none⟩ 2) (.bool e) fun w' => ∃ (x' y' a' f' : Sv), MI B w' g sl a' f' (r.2.1, behind r.2.2 all.last r.1.first) ∧ Blk w' al_ (pB x' y' (all.empty && r.1.empty)) 80 ∧ RdI B w' x' (if all.empty then joined all.first r.1.first else all.first) ∧ RdI B w' y' (if r.1.empty then joined all.last r.1.last else r.1.last) ∧ Blk w' g4 (pB (none, 0, 0) (none, 0, 0) false) 80 ∧ Fi B w w' := fun e he =>
            st_blk (g := al_) (i := 2) qa (by simp) fun w12 hb12 f12 => ⟨x', y', a', f', h11.box qa (by decide) f12, by rw [← he]; exact hb12, rx.box qa (by decide) f12, ry.box qa (by decide) f12, f12.blk q4 na4, fi11.new f12 fun b hb e => by omega⟩
          refine lB (qa.cell 2) ?_
          refine br (fun he => ?_) (fun he => put _ (by rw [he]; rfl))
          exact lB (qp.cell 2) (put _ (by rw [he]; rfl))
        · have put : ∀ (x2 : Sv) {w11 : World}, Below w10.heap.size w10 w11 → RdI B w11 x2 (if r.1.empty then joined all.last r.1.last else r.1.last) → St w11 (Addr.add ⟨al_, 0, none⟩ 1) (.slice x2.1 x2.2.1 x2.2.2) fun w' => ∃ (x' y' : Sv), MI B w' g sl a' f' (r.2.1, behind r.2.2 all.last r.1.first) ∧ Blk w' al_ (pB x' y' all.empty) 80 ∧ RdI B w' x' (if all.empty then joined all.first r.1.first else all.first) ∧ RdI B w' y' (if r.1.empty then joined all.last r.1.last else r.1.last) ∧ Blk w' p (pB px py r.1.empty) 80 ∧ Blk w' g4 (pB (none, 0, 0) (none, 0, 0) false) 80 ∧ Fi B w w' := fun x2 w11 hb11 hx2 =>
            st_blk (g := al_) (i := 1) (qa.keep hb11) (by simp) fun w12 hb12 f12 => ⟨x', x2, (h10.below hb11).box (qa.keep hb11) (by decide) f12, hb12, (rx.below hb11).box (qa.keep hb11) (by decide) f12, hx2.box (qa.keep hb11) (by decide) f12, f12.blk (qp.keep hb11) npa, f12.blk (q4.keep hb11) na4, (fi10.trans (.below hb11)).new f12 fun b hb e => by omega⟩
          refine lB (qp.cell 2) ?_
          refine br (fun he => ?_) (fun he => ?_)
          · refine lSl (qa.cell 1) (lSl (qp.cell 1) ?_)
            refine joinI (B := B) (by have := h10.lt; have := h10.ge; omega) ry rpy (by have := ll1 hpall.2; have := ll1 k2.2; omega) fun x2 w11 hx2 hb11 => ⟨_, _, _, rfl, ?_⟩
            exact put x2 hb11 (by rw [he]; exact hx2)
          · exact lSl (qp.cell 1) (put py (Below.refl _ _) (by rw [he]; exact rpy))
      · refine lB (qa9.cell 2) ?_
        refine br (fun he => ?_) (fun he => ⟨x, h9, qa9, by rw [he]; exact rx9, ry9, hp9, rpx9, rpy9, q49, fi9⟩)
        refine lSl (qa9.cell 0) (lSl (hp9.cell 0) ?_)
        refine joinI (B := B) (by have := h9.lt; have := h9.ge; omega) rx9 rpx9 (by have := ll1 hpall.1; have := ll1 k2.1; omega) fun x2 w11 hx2 hb11 => ⟨_, _, _, rfl, ?_⟩
        have qa11 := qa9.keep hb11
        exact st_blk (g := al_) (i := 0) qa11 (by simp) fun w12 hb12 f12 => ⟨x2, (h9.below hb11).box qa11 (by decide) f12, hb12, by rw [he]; exact hx2.box qa11 (by decide) f12, (ry9.below hb11).box qa11 (by decide) f12, f12.blk (hp9.keep hb11) npa, (rpx9.below hb11).box qa11 (by decide) f12, (rpy9.below hb11).box qa11 (by decide) f12, f12.blk (q49.keep hb11) na4, (fi9.trans (.below hb11)).new f12 fun b hb e => by omega⟩
  · obtain rfl : k = row.length := by rw [← hel] at hk ⊢; omega
    rw [List.drop_length] at hu
    simp only [uR] at hu
    rw [← hu] at hR
    refine ldP qa5 (resP q45 rfl fun w' fw _ => ?_)
    exact hR x y a1 f1 w' (h5.box q45 (by decide) fw) (rx.box q45 (by decide) fw) (ry.box q45 (by decide) fw) (fi5.new fw fun b hb e => by omega)
theorem sC_drop : ∀ (rows : List (List Part)) (k : Nat) (hk : k < rows.length), sC (rows.drop k) = sR rows[k] + sC (rows.drop (k + 1)) := fun rows k hk => by
  rw [List.drop_eq_getElem_cons hk, sC]
theorem len_c : ∀ l : List Part, l.length ≤ sR l
  | [] => by simp
  | p :: ps => by have := len_c ps; have := cP_pos p; simp only [sR, List.length_cons]; omega
theorem mchoices_calls : ∀ (N : Nat) (rows : List (List Part)), cC rows < N → CM rows
  | 0, rows, h => by omega
  | N + 1, rows, hN => by
    intro w0 B w g sl a f gs v R ho hs h hi hc hp hR
    refine ok36 _ _ _ _ ?_
    unfold F36
    obtain ⟨es, e1, e2, e3⟩ := hp
    have hel := e3.len
    have hsc := sC_le rows
    refine al fun g4 w2 hb2 hg4 hge4 => al fun al_ w3 hb3 hgp hgep => ?_
    have hb13 : Below w.heap.size w w3 := btr hb2 hb2.size hb3
    have h3 := h.below hb13
    have f3 : Fi B w w3 := .below hb13
    have q4 : Blk w3 g4 (pB (none, 0, 0) (none, 0, 0) false) 80 := hg4.keep hb3
    have qa : Blk w3 al_ (pB (none, 0, 0) (none, 0, 0) false) 80 := hgp
    have na4 : ¬ g4 = al_ := by have := hg4.lt; omega
    have hlt4 : w.heap.size ≤ g4 := hge4
    have hlta : w.heap.size ≤ al_ := Nat.le_trans hb2.size hgep
    clear hb2 hb3 hg4 hgp hge4 hgep h
    refine ⟨fun i w' => ∃ (k : Nat) (gs' : GS) (all : Pc) (x y a' f' : Sv), i = k ∧ k ≤ rows.length ∧ MI B w' g sl a' f' gs' ∧ GI gs' ∧ PI gs'.1.length all ∧ gs'.1.length + sC (rows.drop k) ≤ 128 ∧ Blk w' al_ (pB x y all.empty) 80 ∧ RdI B w' x all.first ∧ RdI B w' y all.last ∧ Blk w' g4 (pB (none, 0, 0) (none, 0, 0) false) 80 ∧ Fi B w w' ∧
      uC (rows.drop k) gs' all = uC rows gs ⟨[], [], false⟩, fun i _ => rows.length - i.toNat,
      ⟨0, gs, ⟨[], [], false⟩, (none, 0, 0), (none, 0, 0), a, f, rfl, by omega, h3, hi, ⟨Few.nil _, Few.nil _⟩, by rw [List.drop_zero]; omega, qa, RdI.nil _ _, RdI.nil _ _, q4, f3, rfl⟩, ?_⟩
    clear h3 f3 q4 qa hb13 hi hc
    rintro i w5 ⟨k, gs1, all, x, y, a1, f1, rfl, hk, h5, hi5, hpi, hc5, qa5, rx, ry, q45, fi5, hu⟩
    unfold F36_l3
    refine brd (fun hlt => ?_) (fun hge => ?_)
    · have hk2 : k < rows.length := by rw [← hel]; omega
      have hk3 : k < es.length := by rw [hel]; exact hk2
      have hd : rows.drop k = rows[k] :: rows.drop (k + 1) := List.drop_eq_getElem_cons hk2
      rw [hd] at hu
      rw [sC_drop _ _ hk2] at hc5
      rw [uC_cons] at hu
      obtain ⟨k1, k2⟩ := gi_R rows[k] gs1 ⟨[], [], true⟩ hi5 ⟨Few.nil _, Few.nil _⟩
      have hge1 := k1.2.1
      have hle1 := k1.2.2
      have hcap : (uR rows[k] gs1 ⟨[], [], true⟩).2.1.length ≤ 128 := by omega
      have hpall := hpi.mono hge1
      generalize hr : uR rows[k] gs1 ⟨[], [], true⟩ = r at hu k1 k2 hge1 hle1 hcap hpall
      have hsz : rows.length ≤ 9223372036854775807 := by have := e2.1; have := e2.2.1; unfold maxLen at this; omega
      refine ⟨fun w' => ∃ (x' y' a' f' : Sv), MI B w' g sl a' f' r.2 ∧ Blk w' al_ (pB x' y' (all.empty || r.1.empty)) 80 ∧ RdI B w' x' (joined all.first r.1.first) ∧ RdI B w' y' (joined all.last r.1.last) ∧ Blk w' g4 (pB (none, 0, 0) (none, 0, 0) false) 80 ∧ Fi B w w', ?_, ?_⟩
      · rintro w6 ⟨x', y', a', f', h6, qa, rx, ry, q4, fi6⟩
        unfold F36_j7
        refine ⟨inR_i64 (by omega) (by have := e2.1; have := e2.2.1; unfold maxLen at this; omega), ⟨k + 1, _, _, x', y', a', f', by simp, by omega, h6, k1.1, ⟨hpall.1.joined k2.1.2, hpall.2.joined k2.2.2⟩, by omega, qa, rx, ry, q4, fi6, hu⟩, by dsimp only; omega⟩
      · have hsub5 : Sub w0 w5 := fi5.sub hs ho.lt
        refine (hsub5.rd e2).idx e1 (by omega) (by rw [e1]; omega) rfl fun b o hc => ?_
        simp only [Int.toNat_natCast] at hc
        refine lSl (hc 0 _ rfl) ?_
        have hget := e3.get k hk2 hk3
        have hcr : sR rows[k] ≤ 128 := by omega
        refine mrow_calls (H := fun pa prows ps hm hbr => mchoices_calls N prows ?_) ho hsub5 h5 hi5 (by omega) hget (by have := len_c rows[k]; omega) ?_
        · have := cP_lt pa prows ps hbr
          have := mem_sR hm
          have := mem_sC (List.getElem_mem hk2)
          omega
        rw [hr]
        intro px py a' f' w7 h7 rpx rpy f7
        refine ⟨_, _, _, _, _, _, _, rfl, ?_⟩
        refine al3 fun p w8 hb8 hp8 hgep => ?_
        have fi8 : Fi B w w8 := (fi5.trans f7).trans (.below hb8)
        have qa8 : Blk w8 al_ (pB x y all.empty) 80 := (f7.blk qa5 (by decide)).keep hb8
        have q48 : Blk w8 g4 (pB (none, 0, 0) (none, 0, 0) false) 80 := (f7.blk q45 (by decide)).keep hb8
        have hp8' : Blk w8 p (pB px py r.1.empty) 80 := hp8
        have h8 := h7.below hb8
        have rx8 := (rx.fi f7).below hb8
        have ry8 := (ry.fi f7).below hb8
        have rpx8 := rpx.below hb8
        have rpy8 := rpy.below hb8
        clear h5 qa5 q45 rx ry h7 rpx rpy f7 hb8 fi5 hp8
        have ll1 : ∀ {l : List Nat}, Few r.2.1.length l → l.length ≤ 128 := fun h => Nat.le_trans h.len hcap
        have hd8 : Below w8.heap.size w8 w8.drew := (Below.refl _ _).drew
        have HS : ∀ {a : Addr} {u : Value}, w8.cell? a = some u → Held (fun w' => Below w8.heap.size w8 w') a u := fun hc w' hb => kcell hb hc
        refine ⟨fun w' => Below w8.heap.size w8 w', hd8, x.1, x.2.1, x.2.2, HS (qa8.cell 0), px.1, px.2.1, px.2.2, HS (hp8'.cell 0), y.1, y.2.1, y.2.2, HS (qa8.cell 1), py.1, py.2.1, py.2.2, HS (hp8'.cell 1), all.empty, HS (qa8.cell 2), ?_⟩
        refine joinI (B := B) (by have := h8.lt; have := h8.ge; show B ≤ w8.heap.size; omega) (rx8.below hd8) (rpx8.below hd8) (by have := ll1 hpall.1; have := ll1 k2.1; omega) fun x2 w9 hx2 hb9 => ⟨_, _, _, rfl, ?_⟩
        have hb89 := btr hd8 hd8.size hb9
        refine ⟨hb89, ?_⟩
        refine joinI (B := B) (by have := h8.lt; have := h8.ge; have := hb89.size; omega) (ry8.below hb89) (rpy8.below hb89) (by have := ll1 hpall.2; have := ll1 k2.2; omega) fun y2 w10 hy2 hb10 => ⟨_, _, _, rfl, ?_⟩
        have hb810 := btr hb89 hb89.size hb10
        refine ⟨hb810, ?_⟩
        have qa10 := qa8.keep hb810
        have hx10 := hx2.below hb10
        have fin : ∀ e, e = (all.empty || r.1.empty) → St w10 ⟨al_, 0, none⟩ (.slice x2.1 x2.2.1 x2.2.2) fun w1_11 => St w1_11 (Addr.add ⟨al_, 0, none⟩ 1) (.slice y2.1 y2.2.1 y2.2.2) fun w1_12 => St w1_12 (Addr.add ⟨al_, 0, none⟩ 2) (.bool e) fun w' => ∃ (x' y' a' f' : Sv), MI B w' g sl a' f' r.2 ∧ Blk w' al_ (pB x' y' (all.empty || r.1.empty)) 80 ∧ RdI B w' x' (joined all.first r.1.first) ∧ RdI B w' y' (joined all.last r.1.last) ∧ Blk w' g4 (pB (none, 0, 0) (none, 0, 0) false) 80 ∧ Fi B w w' := fun e he =>
          stP qa10 rfl fun w' fw hbw => ⟨x2, y2, a', f', (h8.below hb810).box qa10 (by decide) fw, by rw [← he]; exact hbw, hx10.box qa10 (by decide) fw, hy2.box qa10 (by decide) fw, fw.blk (q48.keep hb810) na4, (fi8.trans (.below hb810)).new fw fun b hb e => by omega⟩
        refine br (fun he => fin _ (by rw [he]; rfl)) (fun he => ⟨r.1.empty, HS (hp8'.cell 2), fin _ (by rw [he]; rfl)⟩)
    · obtain rfl : k = rows.length := by rw [← hel] at hk ⊢; omega
      rw [List.drop_length] at hu
      simp only [uC] at hu
      rw [← hu] at hR
      refine ldP qa5 (resP q45 rfl fun w' fw _ => ?_)
      exact hR x y a1 f1 w' (h5.box q45 (by decide) fw) (rx.box q45 (by decide) fw) (ry.box q45 (by decide) fw) (fi5.new fw fun b hb e => by omega)
end
end Go.Proofs.Ytkmoeokfgkmlhaa
