/- Models: a model is placed; its text. -/
import Derived.Test.YtkmoeokfgkmlhaaMdText
import Derived.Test.YtkmoeokfgkmlhaaMdBld
namespace Go.Mdl
/-- What is asked of places: as many as 128, each list short. -/
structure PlOk (m : Pl) : Prop where
  len : m.atoms.length = m.fol.length
  le : m.atoms.length ≤ 128
  fol : ∀ l ∈ m.fol, Few m.atoms.length l
  first : Few m.atoms.length m.first
  last : Few m.atoms.length m.last
theorem placed_ok {rows : List (List Part)} (h : cC rows ≤ 128) : PlOk (placed rows) := by
  have hi : GI (([], []) : GS) := ⟨rfl, by simp⟩
  obtain ⟨⟨h1, h2, h3⟩, h4, h5⟩ := gi_C rows ([], []) ⟨[], [], false⟩ hi ⟨Few.nil _, Few.nil _⟩
  have := sC_le rows
  exact ⟨h1.1, by simp at h3; unfold placed; dsimp only; omega, h1.2, h4, h5⟩
def lastB (m : Pl) : List Bool := (List.range m.atoms.length).map fun i => m.last.contains i
theorem mark_step (n : Nat) (l : List Nat) (k : Nat) (hk : k < l.length) : ((List.range n).map fun i => (l.take (k + 1)).contains i) = ((List.range n).map fun i => (l.take k).contains i).set l[k] true := by
  refine List.ext_getElem (by simp) fun i h1 h2 => ?_
  rw [List.getElem_set]
  simp only [List.getElem_map, List.getElem_range]
  rw [List.take_add_one, List.getElem?_eq_getElem hk, Option.toList_some]
  by_cases hi : l[k] = i
  · rw [if_pos hi, List.contains_iff_mem]
    simp [hi]
  · rw [if_neg hi, Bool.eq_iff_iff, List.contains_iff_mem, List.contains_iff_mem, List.mem_append, List.mem_singleton]
    constructor
    · rintro (h | h)
      · exact h
      · exact absurd h.symm hi
    · exact .inl
def zeroPl : Pl := ⟨[], [], [], [], false⟩
theorem zero_ok : PlOk zeroPl := ⟨rfl, by simp [zeroPl], by simp [zeroPl], Few.nil _, Few.nil _⟩
end Go.Mdl
namespace Go.Proofs.Ytkmoeokfgkmlhaa
open Go.RowKit Go.Vc Go.Mdl
set_option linter.unusedVariables false
set_option linter.unusedSimpArgs false
set_option maxRecDepth 100000
def LBo : Lay Bool := ⟨1, fun b => [.bool b], fun _ => rfl, fun _ => by simp [Value.oneCell'], by decide⟩
/-- A model in memory, but for its choices. -/
def RdN (w : World) (g : Nat) (sl : Sv) (m : Pl) : Prop := ∃ (a f fs ls : Sv) (vs : List Sv), Blk w g (mB sl a f fs ls m.empty) 60 ∧ (a.2.1 = m.atoms.length ∧ Rd LSt w a.1 a.2.2 m.atoms) ∧ (f.2.1 = vs.length ∧ Rd LSv w f.1 f.2.2 vs ∧ RdF 0 w vs m.fol) ∧ RdI 0 w fs m.first ∧
    (ls.2.1 = m.atoms.length ∧ Rd LBo w ls.1 ls.2.2 (lastB m))
/-- A model in memory. -/
def RdM (w : World) (g : Nat) (rows : List (List Part)) (m : Pl) : Prop := ∃ sl, RdN w g sl m ∧ RdC w rows sl
section
variable {w w1 : World} {R : Ending → World → Prop} {g B : Nat}
theorem sub_below (h : Below w.heap.size w w1) : Sub w w1 := fun b c t f hc => by rw [h.block b (Array.getElem?_eq_some_iff.1 hc).1]; exact hc
theorem RdN.sub {sl : Sv} {m : Pl} (h : RdN w g sl m) (hs : Sub w w1) : RdN w1 g sl m := by
  obtain ⟨a, f, fs, ls, vs, h1, h3, h4, h5, h6⟩ := h
  exact ⟨a, f, fs, ls, vs, hs _ _ _ _ h1, ⟨h3.1, hs.rd h3.2⟩, ⟨h4.1, hs.rd h4.2.1, h4.2.2.1, fun i v l q1 q2 => (h4.2.2.2 i v l q1 q2).sub hs⟩, h5.sub hs, h6.1, hs.rd h6.2⟩
theorem RdM.sub {rows : List (List Part)} {m : Pl} (h : RdM w g rows m) (hs : Sub w w1) : RdM w1 g rows m := by
  obtain ⟨sl, h1, h2⟩ := h
  exact ⟨sl, h1.sub hs, h2.sub hs⟩
theorem RdM.below {rows : List (List Part)} {m : Pl} (h : RdM w g rows m) (hb : Below w.heap.size w w1) : RdM w1 g rows m := h.sub (sub_below hb)
theorem zrowB (n : Nat) : (zrow #[.bool false] (n * 1)).toList = LBo.all (List.replicate n false) := by
  unfold zrow
  rw [Nat.mul_one]
  have e : ∀ k, LBo.all (List.replicate k false) = List.replicate k (.bool false) := by
    intro k
    induction k with
    | zero => rfl
    | succ k ih =>
      simp only [Lay.all, List.replicate_succ, List.flatMap_cons] at *
      rw [ih]; rfl
  rw [e]
  refine List.ext_getElem (by simp) fun i h1 h2 => ?_
  simp [Nat.mod_one]
theorem placed_calls {rows : List (List Part)} {v : Sv} (hp : RdC w rows v) (hc : cC rows ≤ 128) (hR : ∀ g w', RdN (above w.heap.size w') g v (placed rows) → Below w.heap.size w w' → R (.returned (.pointer (some ⟨g, 0, none⟩))) w') :
    Calls Try.prog 20 #[.slice v.1 v.2.1 v.2.2] w R := by
  refine ok20 _ _ _ ?_
  unfold F20
  refine al fun g w1 hb1 hg hge => ?_
  have hold : Old w w.heap.size := ⟨fun b c t f h => (Array.getElem?_eq_some_iff.1 h).1⟩
  have h1 : MI w.heap.size w1 g v (none, 0, 0) (none, 0, 0) (([], []) : GS) := ⟨hge, hg, Own.nil _ _ _ _, [], Own.nil _ _ _ _, rfl, by simp⟩
  have hi : GI (([], []) : GS) := ⟨rfl, by simp⟩
  refine mchoices_calls (cC rows + 1) rows (by omega) w w.heap.size w1 g v _ _ _ v _ hold (sub_below hb1) h1 hi (by simpa using hc) hp ?_
  have hok := placed_ok hc
  have hpl : placed rows = ⟨(uC rows ([], []) ⟨[], [], false⟩).2.1, (uC rows ([], []) ⟨[], [], false⟩).2.2, (uC rows ([], []) ⟨[], [], false⟩).1.first, (uC rows ([], []) ⟨[], [], false⟩).1.last, (uC rows ([], []) ⟨[], [], false⟩).1.empty⟩ := rfl
  rw [hpl] at hR hok
  clear hpl h1 hi
  generalize uC rows ([], []) ⟨[], [], false⟩ = r at hR hok ⊢
  intro x y a f w2 h2 rx ry f2
  refine ⟨_, _, _, _, _, _, _, rfl, ?_⟩
  refine al3 fun p w3 hb3 hp3 hgep => ?_
  have qp : Blk w3 p (pB x y r.1.empty) 80 := hp3
  have h3 := h2.below hb3
  have rx3 := rx.below hb3
  have ry3 := ry.below hb3
  have B2 : Below w.heap.size w w2 := hb1.trans (Fm.toBelow f2 hb1.size fun b hb hm => by have := hm.1; omega)
  have B3 : Below w.heap.size w w3 := btr B2 B2.size hb3
  have hgw3 : g < w3.heap.size := h3.lt
  have hpg : ¬ p = g := by have := h2.lt; omega
  have hlen := h3.lens
  have hd3 : Below w3.heap.size w3 w3.drew := (Below.refl _ _).drew
  have n128 : r.2.1.length ≤ 128 := hok.le
  -- the last step's world
  refine ⟨fun w' => ∃ g25, Blk w' g (mB v a f x (some ⟨g25, 0, none⟩, r.2.1.length, r.2.1.length) r.1.empty) 60 ∧ Blk w' g25 (zrow #[.bool false] (r.2.1.length * 1)) 4 ∧ Blk w' p (pB x y r.1.empty) 80 ∧ w3.heap.size ≤ g25 ∧ Fm (fun b => b = g ∨ w3.heap.size ≤ b) w3 w', ?_, ?_⟩
  · rintro w4 ⟨g25, qg, q25, qp4, hg25, f4⟩
    unfold F20_j4
    refine lSl (qp4.cell 1) ?_
    have hnot : ∀ {q : TypeId → Bool}, q 60 = false → ∀ b, (b = g ∨ w3.heap.size ≤ b) → ¬ tyAt w3 b q := by
      intro q hq b hb
      rcases hb with rfl | hb
      · exact tyAt_blk h3.blk hq
      · rintro ⟨c, t, f', h, _⟩
        have := (Array.getElem?_eq_some_iff.1 h).1
        omega
    let mk := fun (l : List Nat) => (List.range r.2.1.length).map fun i => l.contains i
    have hmk0 : mk [] = List.replicate r.2.1.length false := by
      refine List.ext_getElem (by simp [mk]) fun i h1 h2 => ?_
      simp [mk]
    have own0 : Own LBo w4 w3.heap.size 4 (.slice (some ⟨g25, 0, none⟩) r.2.1.length r.2.1.length) (mk []) := by
      have hml : (mk []).length = r.2.1.length := by simp [mk]
      have := Own.lit' (L := LBo) (xs := mk []) (base := w3.heap.size) q25 hg25 (by rw [hmk0]; exact zrowB _) (by rw [hml]; simp [maxLen]; omega)
      rw [hml] at this
      exact this
    refine ⟨fun i w' => ∃ k : Nat, i = k ∧ k ≤ r.1.last.length ∧ Own LBo w' w3.heap.size 4 (.slice (some ⟨g25, 0, none⟩) r.2.1.length r.2.1.length) (mk (r.1.last.take k)) ∧ Blk w' g (mB v a f x (some ⟨g25, 0, none⟩, r.2.1.length, r.2.1.length) r.1.empty) 60 ∧ Fm (fun b => b = g ∨ w3.heap.size ≤ b) w3 w', fun i _ => r.1.last.length - i.toNat, ⟨0, rfl, by omega, own0, qg, f4⟩, ?_⟩
    clear own0 qg q25 qp4 f4 w4
    rintro i w4 ⟨k, rfl, hk, own, qg, f4⟩
    unfold F20_l5
    have ry4 := ry3.fm f4 (hnot (by decide))
    have hyl := ry4.1
    have hll := Nat.le_trans hok.last.len n128
    dsimp only at hll
    refine brd (fun hlt => ?_) (fun hge => ?_)
    · have hk2 : k < r.1.last.length := by omega
      have hj := hok.last.2 _ (List.getElem_mem hk2)
      refine ry4.2.1.k hyl rfl hk2 fun b o c0 => lI c0 ?_
      refine lSl (by rw [Addr.add_mk]; exact qg.cell 4) ?_
      refine own.put rfl rfl (by simpa [mk] using hj) (x := true) rfl fun w5 own5 f5 => ⟨inR_i64 (by omega) (by omega), ⟨k + 1, by simp, by omega, ?_, ?_, ?_⟩, by dsimp only; omega⟩
      · have e : mk (r.1.last.take (k + 1)) = (mk (r.1.last.take k)).set r.1.last[k] true := mark_step _ _ _ hk2
        rw [e]; exact own5
      · refine f5.blk qg fun hr => ?_
        have := (own.lt g hr).1
        omega
      · exact f4.trans (f5.mono fun b hb hr => .inr (own.lt b hr).1)
    · obtain rfl : k = r.1.last.length := by omega
      rw [List.take_length] at own
      obtain ⟨vs, o1, o2, o3⟩ := h3.fol
      have own_at := h3.at_.fmT f4 (hnot (by decide))
      have own_fol := o1.fmT f4 (hnot (by decide))
      refine hR g w4 ⟨a, f, x, (some ⟨g25, 0, none⟩, r.2.1.length, r.2.1.length), vs, cells_only (ok := fun b => Nat.ble w.heap.size b) (Nat.ble_eq_true_of_le h3.ge) qg, ⟨hlen.1, (own_above own_at (Nat.le_refl _)).rd.2⟩, ⟨o1.rd.1, (own_above own_fol (Nat.le_refl _)).rd.2, o2, fun i v' l q1 q2 => ?_⟩, ?_, rfl, (own_above own B3.size).rd.2⟩ ?_
      · exact ((o3 i v' l q1 q2).fm f4 (hnot (by decide))).above.weak (Nat.zero_le _)
      · exact (rx3.fm f4 (hnot (by decide))).above.weak (Nat.zero_le _)
      · exact B3.trans (f4.toBelow B3.size fun b hb hm => by rcases hm with rfl | hm <;> omega)
  · have HS : ∀ {w' : World} {c : Array Value}, Blk w' p (pB x y r.1.empty) 80 → Blk w' g c 60 → c[1]? = some (.slice a.1 a.2.1 a.2.2) → Blk w' p (pB x y r.1.empty) 80 ∧ w'.cell? ⟨g, 1, none⟩ = some (.slice a.1 a.2.1 a.2.2) := fun h1 h2 h3 => ⟨h1, by rw [h2.cell]; exact h3⟩
    refine ⟨fun w' => Blk w' p (pB x y r.1.empty) 80 ∧ w'.cell? ⟨g, 1, none⟩ = some (.slice a.1 a.2.1 a.2.2), HS (qp.drew) h3.blk.drew rfl, x.1, x.2.1, x.2.2, fun w' h => h.1.cell 0, r.1.empty, fun w' h => h.1.cell 2, a.1, a.2.1, a.2.2, fun w' h => by rw [Addr.add_mk]; exact h.2, ?_⟩
    have hbounds : (0 : Int) ≤ ((a.2.1 : Nat) : Int) ∧ ((a.2.1 : Nat) : Int) ≤ ((a.2.1 : Nat) : Int) ∧ ((1 : Nat) : Int) * ((a.2.1 : Nat) : Int) ≤ 281474976710656 := by rw [hlen.1]; omega
    have hN : (((a.2.1 : Nat) : Int)).toNat = r.2.1.length := by rw [Int.toNat_natCast]; exact hlen.1
    simp only [hN, Addr.add_mk, Nat.zero_add]
    have D : Fm (fun b => b = g ∨ w3.heap.size ≤ b) w3 w3.drew := .below hd3
    have st : ∀ {w4 w5 : World}, Fm (fun b => b = g ∨ w3.heap.size ≤ b) w3 w4 → Fm (· = g) w4 w5 → Fm (fun b => b = g ∨ w3.heap.size ≤ b) w3 w5 := fun h k => h.trans (k.mono fun b _ e => .inl e)
    have al' : ∀ {w4 w5 : World}, Fm (fun b => b = g ∨ w3.heap.size ≤ b) w3 w4 → Below w4.heap.size w4 w5 → Fm (fun b => b = g ∨ w3.heap.size ≤ b) w3 w5 := fun h k => h.tr k
    refine ⟨?_, ?_⟩
    · refine ⟨hbounds.1, hbounds.2.1, hbounds.2.2, al fun g25 w4 hb4 hg25 hge25 => ?_⟩
      have F4 := al' D hb4
      have qp4 := qp.drew.keep hb4
      have qg4 := h3.blk.drew.keep hb4
      have n25 : ¬ g25 = g := by have : w3.heap.size ≤ g25 := hge25; omega
      refine ⟨HS qp4 qg4 rfl, st_blk (g := g) (i := 2) qg4 (by simp) fun w5 qg5 f5 => ⟨HS (f5.blk qp4 hpg) qg5 rfl, st_blk (g := g) (i := 5) qg5 (by simp) fun w6 qg6 f6 => st_blk (g := g) (i := 4) qg6 (by simp) fun w7 qg7 f7 => ?_⟩⟩
      exact ⟨g25, qg7, f7.blk (f6.blk (f5.blk hg25 n25) n25) n25, f7.blk (f6.blk (f5.blk qp4 hpg) hpg) hpg, hge25, st (st (st F4 f5) f6) f7⟩
    · refine st_blk (g := g) (i := 2) h3.blk.drew (by simp) fun w4 qg4 f4 => ?_
      have F4 := st D f4
      refine ⟨HS (f4.blk qp.drew hpg) qg4 rfl, ⟨hbounds.1, hbounds.2.1, hbounds.2.2, al fun g25 w5 hb5 hg25 hge25 => ?_⟩, st_blk (g := g) (i := 5) qg4 (by simp) fun w5 qg5 f5 => ⟨hbounds.1, hbounds.2.1, hbounds.2.2, al fun g25 w6 hb6 hg25 hge25 => ?_⟩⟩
      · have F5 := al' F4 hb5
        have qp5 := (f4.blk qp.drew hpg).keep hb5
        have qg5 := qg4.keep hb5
        have n25 : ¬ g25 = g := by have := qg4.lt; omega
        have hge25' : w3.heap.size ≤ g25 := Nat.le_trans F4.size hge25
        refine ⟨HS qp5 qg5 rfl, st_blk (g := g) (i := 5) qg5 (by simp) fun w6 qg6 f6 => st_blk (g := g) (i := 4) qg6 (by simp) fun w7 qg7 f7 => ?_⟩
        exact ⟨g25, qg7, f7.blk (f6.blk hg25 n25) n25, f7.blk (f6.blk qp5 hpg) hpg, hge25', st (st F5 f6) f7⟩
      · have F5 := st F4 f5
        have F6 := al' F5 hb6
        have qp6 := (f5.blk (f4.blk qp.drew hpg) hpg).keep hb6
        have n25 : ¬ g25 = g := by have := qg5.lt; omega
        have hge25' : w3.heap.size ≤ g25 := Nat.le_trans F5.size hge25
        refine st_blk (g := g) (i := 4) (qg5.keep hb6) (by simp) fun w7 qg7 f7 => ?_
        exact ⟨g25, qg7, f7.blk hg25 n25, f7.blk qp6 hpg, hge25', st F6 f7⟩
theorem text_calls {rows : List (List Part)} {m : Pl} (h : RdM w g rows m) (hv : vC rows) (hl : (tC rows).length ≤ 1048576) (hR : ∀ w', Below w.heap.size w w' → R (.returned (.string ⟨(tC rows).toArray⟩)) w') :
    Calls Try.prog 24 #[.pointer (some ⟨g, 0, none⟩)] w R := by
  refine ok24 _ ?_
  unfold F24
  rw [show (some (⟨g, 0, none⟩ : Addr)).isNone = false from rfl, Br_f]
  refine al fun b w1 hb1 hb hge => ?_
  obtain ⟨sl, ⟨a, f, fs, ls, vs, h1, _⟩, h2⟩ := h
  rw [NonNil_some]
  refine lSl ((h1.keep hb1).cell 0) ?_
  have hold : Old w w.heap.size := ⟨fun b c t f h => (Array.getElem?_eq_some_iff.1 h).1⟩
  have hbl : Bl w1 w.heap.size b [] := ⟨hge, _, _, hb, .inl rfl, .inl ⟨rfl, rfl⟩⟩
  refine write_calls (cC rows + 1) rows (by omega) hv w w.heap.size w1 b [] sl _ hold (sub_below hb1) h2 hbl hb1.size (by simpa using hl) fun w2 h3 f2 => ⟨rfl, ?_⟩
  rw [List.nil_append] at h3
  have B2 : Below w.heap.size w w2 := hb1.trans (Fm.toBelow f2 hb1.size fun b hb hm => by have := hm.1; omega)
  exact string_calls h3 B2.size hl fun w3 hb3 => ⟨_, rfl, hR w3 (B2.trans hb3)⟩
end
end Go.Proofs.Ytkmoeokfgkmlhaa
