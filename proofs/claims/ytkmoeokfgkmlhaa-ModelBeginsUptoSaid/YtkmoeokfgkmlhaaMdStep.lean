/- Models: a model's parts, rows and choices are placed. -/
import Derived.Test.YtkmoeokfgkmlhaaMdGrow
namespace Go.Proofs.Ytkmoeokfgkmlhaa
open Go.RowKit Go.Vc Go.Mdl
set_option linter.unusedVariables false
set_option linter.unusedSimpArgs false
set_option maxRecDepth 100000
abbrev pB (x y : Sv) (e : Bool) : Array Value := #[.slice x.1 x.2.1 x.2.2, .slice y.1 y.2.1 y.2.2, .bool e]
abbrev pV (x y : Sv) (e : Bool) : Value := .agg (pB x y e)
section
variable {w w1 : World} {R : Ending → World → Prop} {g B : Nat}
theorem sizeP {c0 : Array Value} (h0 : c0.size = 3) : ∃ x y z, c0 = #[x, y, z] := by
  obtain ⟨l⟩ := c0
  match l, h0 with
  | [x, y, z], _ => exact ⟨x, y, z, rfl⟩
/-- A piece is written. -/
theorem stP {g2 : Nat} {c0 : Array Value} (hg : Blk w g2 c0 80) (h0 : c0.size = 3) {a p : Option Addr} {b d n c : Nat} {k : Bool} {K : World → Prop}
    (h : ∀ w', Fm (· = g2) w w' → Blk w' g2 (pB (a, b, d) (p, n, c) k) 80 → K w') :
    St w ⟨g2, 0, none⟩ (.slice a b d) fun w1 => St w1 (Addr.add ⟨g2, 0, none⟩ 1) (.slice p n c) fun w2 => St w2 (Addr.add ⟨g2, 0, none⟩ 2) (.bool k) fun w3 => K w3 := by
  obtain ⟨x, y, z, rfl⟩ := sizeP h0
  simp only [Addr.add_mk, Nat.zero_add]
  refine st_blk hg (by simp) fun w1 hb1 f1 => st_blk hb1 (by simp) fun w2 hb2 f2 => st_blk hb2 (by simp) fun w3 hb3 f3 => ?_
  exact h w3 ((f1.trans f2).trans f3) hb3
theorem ldP {g2 : Nat} {x y : Sv} {e : Bool} (hb : Blk w g2 (pB x y e) 80) {K : Option Addr → Nat → Nat → Option Addr → Nat → Nat → Bool → Prop} (h : K x.1 x.2.1 x.2.2 y.1 y.2.1 y.2.2 e) :
    LdSl (w.cell? ⟨g2, 0, none⟩) fun a b c => LdSl (w.cell? (Addr.add ⟨g2, 0, none⟩ 1)) fun p n d => LdB (w.cell? (Addr.add ⟨g2, 0, none⟩ 2)) fun k => K a b c p n d k := by
  simp only [hb.cell, Addr.add_mk, List.getElem?_toArray, List.getElem?_cons_zero, List.getElem?_cons_succ, LdI_some, LdB_some, LdStr_some, LdP_some, LdSl_some, LdM_some, Nat.zero_add, Br_t, Br_f]
  exact h
theorem resP {g2 : Nat} {c0 : Array Value} (hg : Blk w g2 c0 80) (h0 : c0.size = 3) {a p : Option Addr} {b d n c : Nat} {k : Bool}
    (h : ∀ w', Fm (· = g2) w w' → Blk w' g2 (pB (a, b, d) (p, n, c) k) 80 → R (.returned (pV (a, b, d) (p, n, c) k)) w') :
    St w ⟨g2, 0, none⟩ (.slice a b d) fun w1 => St w1 (Addr.add ⟨g2, 0, none⟩ 1) (.slice p n c) fun w2 => St w2 (Addr.add ⟨g2, 0, none⟩ 2) (.bool k) fun w3 =>
      LdSl (w3.cell? ⟨g2, 0, none⟩) fun a' b' c' => LdSl (w3.cell? (Addr.add ⟨g2, 0, none⟩ 1)) fun p' n' d' => LdB (w3.cell? (Addr.add ⟨g2, 0, none⟩ 2)) fun k' =>
        R (.returned (.agg #[.slice a' b' c', .slice p' n' d', .bool k'])) w3 :=
  stP hg h0 fun w' f hb => ldP hb (h w' f hb)
/-- Those that a model is made of were there before. -/
structure Old (w0 : World) (B : Nat) : Prop where
  lt : ∀ b c t f, w0.heap[b]? = some (.cells c t f) → b < B
/-- What a part, a row, choices end in. -/
def EndsM (R : Ending → World → Prop) (B : Nat) (w : World) (g : Nat) (sl : Sv) (r : Pc × GS) : Prop := ∀ (x y a f : Sv) w', MI B w' g sl a f r.2 → RdI B w' x r.1.first → RdI B w' y r.1.last → Fi B w w' → R (.returned (pV x y r.1.empty)) w'
def CM (rows : List (List Part)) : Prop := ∀ (w0 : World) (B : Nat) (w : World) (g : Nat) (sl a f : Sv) (gs : GS) (v : Sv) (R : Ending → World → Prop), Old w0 B → Sub w0 w → MI B w g sl a f gs → GI gs → gs.1.length + cC rows ≤ 128 → RdC w0 rows v →
  EndsM R B w g sl (uC rows gs ⟨[], [], false⟩) → Calls Try.prog 36 #[.pointer (some ⟨g, 0, none⟩), .slice v.1 v.2.1 v.2.2] w R
/-- While two rows of a model grow. -/
structure RI (B g : Nat) (sl a f : Sv) (fol : List (List Nat)) (bx : List (Nat × Array Value × TypeId)) (wB : World) (va vf : Value) (xs : List ByteArray) (vs : List Sv) (w : World) : Prop where
  blk : Blk w g (mB sl a f (none, 0, 0) (none, 0, 0) false) 60
  at_ : Own LSt w B 9 va xs
  fo : Own LSv w B 56 vf vs
  rdf : ∀ (i : Nat) v l, vs[i]? = some v → fol[i]? = some l → RdI B w v l
  box : ∀ p ∈ bx, Blk w p.1 p.2.1 p.2.2
  fi : Fi B wB w
theorem Own.fmT {α : Type} {L : Lay α} {v : Value} {xs : List α} {e : TypeId} {M : Nat → Prop} (h : Own L w B e v xs) (hf : Fm M w w1) (hm : ∀ b, M b → ¬ tyAt w b (fun t => Nat.beq t e)) : Own L w1 B e v xs := by
  rcases h with h | h | ⟨g, c, cur, rfl, hb, hh, hn, hmx, hs, ht⟩
  · exact .inl h
  · exact .inr (.inl h)
  · refine .inr (.inr ⟨g, c, cur, rfl, hb, hf.blk hh (fun hM => hm g hM ⟨_, _, _, hh, ?_⟩), hn, hmx, hs, ht⟩)
    show Nat.beq e e = true
    exact Nat.beq_refl e
section
variable {sl a f : Sv} {fol : List (List Nat)} {bx : List (Nat × Array Value × TypeId)} {wB : World} {va vf : Value} {xs : List ByteArray} {vs : List Sv}
theorem RI.below (h : RI B g sl a f fol bx wB va vf xs vs w) (hb : Below w.heap.size w w1) : RI B g sl a f fol bx wB va vf xs vs w1 :=
  ⟨h.blk.keep hb, h.at_.keep hb, h.fo.keep hb, fun i v l h1 h2 => (h.rdf i v l h1 h2).below hb, fun p hp => (h.box p hp).keep hb, h.fi.trans (.below hb)⟩
theorem RI.appA (h : RI B g sl a f fol bx wB va vf xs vs w) {g17 : Nat} {x : ByteArray} (hg : Blk w g17 #[.string x] 9) (hbx : ∀ p ∈ bx, Nat.beq p.2.2 9 = false) (hB : B ≤ w.heap.size) (hl : xs.length ≤ 128) {K : Value → World → Prop}
    (hK : ∀ A c w1, RI B g sl a f fol bx wB (.slice A (xs.length + 1) c) vf (xs ++ [x]) vs w1 → Fm (fun b => rowOf va = some b) w w1 → K (.slice A (xs.length + 1) c) w1) :
    Raw Try.prog (Builtin.append_ #[33, 33] 33 #[va, .slice (some ⟨g17, 0, none⟩) 1 1]) w K := by
  have hrd : Rd LSt w (some ⟨g17, 0, none⟩) 1 [x] := (Own.lit' (L := LSt) (xs := [x]) (base := 0) hg (Nat.zero_le _) rfl (by simp [maxLen])).rd.2
  refine ap (L := LSt) (xs := xs) (ys := [x]) (base := B) (.string ByteArray.empty) 16 rfl rfl rfl rfl h.at_ hrd hB (by simp; omega) (by simp [maxLen]; omega) fun A' c' w1 ho hgr => ?_
  have hf : Fm (fun b => rowOf va = some b) w w1 := Fm.grown hgr.grown fun b e => e
  have hn : ∀ {q : TypeId → Bool}, q 9 = false → ∀ b, rowOf va = some b → ¬ tyAt w b q := fun hq => row_not h.at_ hq
  refine hK A' c' w1 ⟨hf.blk h.blk fun hr => hn (q := fun t => Nat.beq t 60) (by decide) _ hr ⟨_, _, _, h.blk, by decide⟩, ho, h.fo.fmT hf (hn (by decide)), fun i v l h1 h2 => (h.rdf i v l h1 h2).fm hf (hn (by decide)), fun p hp => hf.blk (h.box p hp) fun hr => hn (q := fun t => Nat.beq t p.2.2) (by
    have := hbx p hp
    cases hh : Nat.beq 9 p.2.2 with
    | false => rfl
    | true => rw [← Nat.eq_of_beq_eq_true hh] at this; cases this) _ hr ⟨_, _, _, h.box p hp, Nat.beq_refl _⟩, h.fi.trans (Fi.of hf fun b hb hr => ⟨(h.at_.lt b hr).1, ?_⟩)⟩ hf
  rcases h.at_ with ⟨e, _⟩ | ⟨⟨q, e⟩, _⟩ | ⟨g, c, cur, e, hb2, hh, _⟩
  · rw [e] at hr; cases hr
  · rw [e] at hr; cases hr
  · rw [e] at hr; cases hr
    exact ⟨cur, _, _, hh, rfl⟩
theorem RI.appF (h : RI B g sl a f fol bx wB va vf xs vs w) {g17 : Nat} (hg : Blk w g17 #[.slice none 0 0] 56) (hlen : vs.length = fol.length) (hbx : ∀ p ∈ bx, Nat.beq p.2.2 56 = false) (hB : B ≤ w.heap.size) (hl : vs.length ≤ 128) {K : Value → World → Prop}
    (hK : ∀ A c w1, RI B g sl a f (fol ++ [[]]) bx wB va (.slice A (vs.length + 1) c) xs (vs ++ [((none, 0, 0) : Sv)]) w1 → K (.slice A (vs.length + 1) c) w1) :
    Raw Try.prog (Builtin.append_ #[57, 57] 57 #[vf, .slice (some ⟨g17, 0, none⟩) 1 1]) w K := by
  have hrd : Rd LSv w (some ⟨g17, 0, none⟩) 1 [((none, 0, 0) : Sv)] := (Own.lit' (L := LSv) (xs := [((none, 0, 0) : Sv)]) (base := 0) hg (Nat.zero_le _) rfl (by simp [maxLen])).rd.2
  refine ap (L := LSv) (xs := vs) (ys := [((none, 0, 0) : Sv)]) (base := B) (.slice none 0 0) 24 rfl rfl rfl rfl h.fo hrd hB (by simp; omega) (by simp [maxLen]; omega) fun A' c' w1 ho hgr => ?_
  have hf : Fm (fun b => rowOf vf = some b) w w1 := Fm.grown hgr.grown fun b e => e
  have hn : ∀ {q : TypeId → Bool}, q 56 = false → ∀ b, rowOf vf = some b → ¬ tyAt w b q := fun hq => row_not h.fo hq
  refine hK A' c' w1 ⟨hf.blk h.blk fun hr => hn (q := fun t => Nat.beq t 60) (by decide) _ hr ⟨_, _, _, h.blk, by decide⟩, h.at_.fmT hf (hn (by decide)), ho, fun i v l h1 h2 => ?_, fun p hp => hf.blk (h.box p hp) fun hr => hn (q := fun t => Nat.beq t p.2.2) (by
    have := hbx p hp
    cases hh : Nat.beq 56 p.2.2 with
    | false => rfl
    | true => rw [← Nat.eq_of_beq_eq_true hh] at this; cases this) _ hr ⟨_, _, _, h.box p hp, Nat.beq_refl _⟩, h.fi.trans (Fi.of hf fun b hb hr => ⟨(h.fo.lt b hr).1, ?_⟩)⟩
  · by_cases hi : i < vs.length
    · rw [List.getElem?_append_left hi] at h1
      rw [List.getElem?_append_left (by omega)] at h2
      exact (h.rdf i v l h1 h2).fm hf (hn (by decide))
    · rw [List.getElem?_append_right (by omega)] at h1 h2
      obtain ⟨k, hk⟩ : ∃ k, i = vs.length + k := ⟨i - vs.length, by omega⟩
      subst hk
      cases k with
      | zero =>
        simp at h1
        rw [← hlen] at h2
        simp at h2
        subst h1 h2
        exact RdI.nil _ _
      | succ k => simp at h1
  · rcases h.fo with ⟨e, _⟩ | ⟨⟨q, e⟩, _⟩ | ⟨g, c, cur, e, hb2, hh, _⟩
    · rw [e] at hr; cases hr
    · rw [e] at hr; cases hr
    · rw [e] at hr; cases hr
      exact ⟨cur, _, _, hh, rfl⟩
end
theorem mpart_calls {w0 : World} {ar : ByteArray} {rows : List (List Part)} {s : Nat} {e : E} {sl a f : Sv} {gs : GS} (H : ar = Mdl.Br → CM rows) (ho : Old w0 B) (hs : Sub w0 w) (h : MI B w g sl a f gs) (hi : GI gs) (hc : gs.1.length + cP (.mk ar rows s) ≤ 128) (hp : RdP w0 (.mk ar rows s) e)
    (hR : EndsM R B w g sl (uP (.mk ar rows s) gs)) :
    Calls Try.prog 72 #[.pointer (some ⟨g, 0, none⟩), .agg #[.string e.a, .slice e.sl.1 e.sl.2.1 e.sl.2.2, .int .u8 (e.s : Int)]] w R := by
  refine ok72 _ _ _ _ _ _ ?_
  unfold F72
  obtain ⟨ea, esl, es⟩ := e
  simp only [RdP] at hp
  obtain ⟨rfl, rfl, hp⟩ := hp
  replace hp : RdC w0 rows esl := hp
  rw [uP_eq] at hR
  obtain ⟨k1, k2⟩ := gi_A ea rows es gs hi
  have hcap : (uA ea rows gs).2.1.length ≤ 128 := by have := k1.2.2; omega
  have hAeq : uA ea rows gs = uA ea rows gs := rfl
  generalize hr : uA ea rows gs = r at hR k1 k2 hcap
  refine al fun g3 w1 hb1 hg3 hge3 => al fun g4 w2 hb2 hg4 hge4 => al fun p w3 hb3 hgp hgep => ?_
  have hb13 : Below w.heap.size w w3 := btr (btr hb1 hb1.size hb2) (Nat.le_trans hb1.size hb2.size) hb3
  have h3 := h.below hb13
  have f3 : Fi B w w3 := .below hb13
  have q3 : Blk w3 g3 #[.string ea, .slice esl.1 esl.2.1 esl.2.2, .int .u8 (es : Int)] 96 := (hg3.keep hb2).keep hb3
  have q4 : Blk w3 g4 (pB (none, 0, 0) (none, 0, 0) false) 80 := hg4.keep hb3
  have qp : Blk w3 p (pB (none, 0, 0) (none, 0, 0) false) 80 := hgp
  have np3 : ¬ g3 = p := by have := (hg3.keep hb2).lt; omega
  have np4 : ¬ g4 = p := by have := hg4.lt; omega
  have hlt3 : w.heap.size ≤ g3 := hge3
  have hlt4 : w.heap.size ≤ g4 := Nat.le_trans hb1.size hge4
  have hltp : w.heap.size ≤ p := Nat.le_trans (Nat.le_trans hb1.size hb2.size) hgep
  clear hb1 hb2 hb3 hg3 hg4 hgp hge3 hge4 hgep h
  refine ⟨fun w' => ∃ (x y a' f' : Sv), MI B w' g sl a' f' r.2 ∧ Blk w' p (pB x y r.1.empty) 80 ∧ RdI B w' x r.1.first ∧ RdI B w' y r.1.last ∧ Blk w' g3 #[.string ea, .slice esl.1 esl.2.1 esl.2.2, .int .u8 (es : Int)] 96 ∧ Blk w' g4 (pB (none, 0, 0) (none, 0, 0) false) 80 ∧ Fi B w w', ?_, ?_⟩
  · rintro w4 ⟨x, y, a', f', h4, qp, rx, ry, q3, q4, f4⟩
    unfold F72_j10
    refine ⟨fun w' => ∃ gs2, gs2 = (r.2.1, if es = 42 ∨ es = 43 then behind r.2.2 r.1.last r.1.first else r.2.2) ∧ MI B w' g sl a' f' gs2 ∧ Blk w' p (pB x y r.1.empty) 80 ∧ RdI B w' x r.1.first ∧ RdI B w' y r.1.last ∧ Blk w' g3 #[.string ea, .slice esl.1 esl.2.1 esl.2.2, .int .u8 (es : Int)] 96 ∧ Blk w' g4 (pB (none, 0, 0) (none, 0, 0) false) 80 ∧ Fi B w w', ?_, ?_⟩
    · rintro w5 ⟨gs2, rfl, h5, qp, rx, ry, q3, q4, f5⟩
      unfold F72_j12
      have put : ∀ (k : Bool), k = (r.1.empty || (es == 42 || es == 63)) → St w5 (Addr.add ⟨p, 0, none⟩ 2) (.bool k) fun w6 => ∃ (x' y' : Sv) (k' : Bool), Blk w6 p (pB x' y' k') 80 ∧ k' = (r.1.empty || (es == 42 || es == 63)) ∧ MI B w6 g sl a' f' (r.2.1, if es = 42 ∨ es = 43 then behind r.2.2 r.1.last r.1.first else r.2.2) ∧ RdI B w6 x' r.1.first ∧ RdI B w6 y' r.1.last ∧ Blk w6 g4 (pB (none, 0, 0) (none, 0, 0) false) 80 ∧ Fi B w w6 := fun k hk =>
        st_blk (g := p) (i := 2) qp (by simp) fun w6 hb6 f6 => ⟨x, y, k, hb6, hk, h5.box qp (by decide) f6, rx.box qp (by decide) f6, ry.box qp (by decide) f6, f6.blk q4 np4, f5.new f6 fun b hb e => by omega⟩
      refine ⟨fun w6 => ∃ (x' y' : Sv) (k' : Bool), Blk w6 p (pB x' y' k') 80 ∧ k' = (r.1.empty || (es == 42 || es == 63)) ∧ MI B w6 g sl a' f' (r.2.1, if es = 42 ∨ es = 43 then behind r.2.2 r.1.last r.1.first else r.2.2) ∧ RdI B w6 x' r.1.first ∧ RdI B w6 y' r.1.last ∧ Blk w6 g4 (pB (none, 0, 0) (none, 0, 0) false) 80 ∧ Fi B w w6, ?_, ?_⟩
      · rintro w6 ⟨x', y', k', qp, rfl, h6, rx, ry, q4, f6⟩
        unfold F72_j13
        refine ldP qp (resP q4 rfl fun w' fw _ => ?_)
        exact hR x' y' a' f' w' (h6.box q4 (by decide) fw) (rx.box q4 (by decide) fw) (ry.box q4 (by decide) fw) (f6.new fw fun b hb e => by omega)
      · refine lB (qp.cell 2) ?_
        refine br (fun he => put true (by rw [he]; rfl)) (fun he => ?_)
        refine lI (q3.cell 2) ?_
        refine bre (fun h42 => put true (by have : es = 42 := by omega
                                            rw [this]; simp)) (fun h42 => ?_)
        refine lI (q3.cell 2) ?_
        refine put _ ?_
        rw [he, Bool.false_or]
        have : (es == 42) = false := by simp; omega
        rw [this, Bool.false_or]
        rw [Bool.eq_iff_iff]; simp; omega
    · have call : (es = 42 ∨ es = 43) → LdSl (w4.cell? (Addr.add ⟨p, 0, none⟩ 1)) fun x59 x59N x59C => LdSl (w4.cell? ⟨p, 0, none⟩) fun x61 x61N x61C =>
          Calls Try.prog 73 #[.pointer (some ⟨g, 0, none⟩), .slice x59 x59N x59C, .slice x61 x61N x61C] w4 (post R fun v w5 => v = .tuple #[] ∧ ∃ gs2, gs2 = (r.2.1, if es = 42 ∨ es = 43 then behind r.2.2 r.1.last r.1.first else r.2.2) ∧ MI B w5 g sl a' f' gs2 ∧ Blk w5 p (pB x y r.1.empty) 80 ∧ RdI B w5 x r.1.first ∧ RdI B w5 y r.1.last ∧ Blk w5 g3 #[.string ea, .slice esl.1 esl.2.1 esl.2.2, .int .u8 (es : Int)] 96 ∧ Blk w5 g4 (pB (none, 0, 0) (none, 0, 0) false) 80 ∧ Fi B w w5) := fun hsg => by
        refine lSl (qp.cell 1) (lSl (qp.cell 0) ?_)
        refine behind_calls h4 k1.1 hcap ry rx k2.2.2 k2.1 (Nat.le_trans k2.2.len hcap) fun w5 h5 f5 => ⟨rfl, _, rfl, ?_⟩
        rw [if_pos hsg]
        exact ⟨h5, f5.blk qp (by decide), rx.fi f5, ry.fi f5, f5.blk q3 (by decide), f5.blk q4 (by decide), f4.trans f5⟩
      refine lI (q3.cell 2) ?_
      refine bre (fun h42 => call (.inl (by omega))) (fun h42 => ?_)
      refine lI (q3.cell 2) ?_
      refine bre (fun h43 => call (.inr (by omega))) (fun h43 => ?_)
      have hns : ¬ (es = 42 ∨ es = 43) := by omega
      exact ⟨_, rfl, by rw [if_neg hns]; exact h4, qp, rx, ry, q3, q4, f4⟩
  · refine lS (q3.cell 0) ?_
    rw [bytes_eq, bytes_eq]
    unfold uA at hr
    refine brd (fun h40 => ?_) (fun h40 => brd (fun h45 => ?_) (fun h45 => ?_))
    · replace h40 : ea = Mdl.Br := h40
      rw [if_pos h40] at hr
      refine lSl (q3.cell 1) ?_
      simp only [cP, if_pos h40] at hc
      refine H h40 w0 B w3 g sl a f gs esl _ ho (f3.sub hs ho.lt) h3 hi (by omega) hp ?_
      rw [hr]
      intro x y a' f' w4 h4 rx ry f4
      refine ⟨_, _, _, _, _, _, _, rfl, ?_⟩
      have qp4 := f4.blk qp (by decide)
      have q34 := f4.blk q3 (by decide)
      have q44 := f4.blk q4 (by decide)
      refine stP qp4 rfl fun w5 f5 hb5 => ?_
      exact ⟨x, y, a', f', h4.box qp4 (by decide) f5, hb5, rx.box qp4 (by decide) f5, ry.box qp4 (by decide) f5, f5.blk q34 np3, f5.blk q44 np4, (f3.trans f4).new f5 fun b hb e => by omega⟩
    · have h40' : ¬ ea = Mdl.Br := h40
      replace h45 : ea = Mi := h45
      rw [if_neg h40', if_pos h45] at hr
      subst hr
      refine st_blk (g := p) (i := 2) qp (by simp) fun w4 hb4 f4 => ?_
      exact ⟨(none, 0, 0), (none, 0, 0), a, f, h3.box qp (by decide) f4, hb4, RdI.nil _ _, RdI.nil _ _, f4.blk q3 np3, f4.blk q4 np4, f3.new f4 fun b hb e => by omega⟩
    · have h40' : ¬ ea = Mdl.Br := h40
      have h45' : ¬ ea = Mi := h45
      rw [if_neg h40', if_neg h45'] at hr
      subst hr
      obtain ⟨vs, o1, o2, o3⟩ := h3.fol
      have hlen : vs.length = gs.2.length := o2
      have hgl := hi.1
      have hBs : B ≤ w3.heap.size := by have := h3.lt; have := h3.ge; omega
      simp only [List.length_append, List.length_singleton] at hcap
      refine ⟨fun w' => ∃ a' f' : Sv, MI B w' g sl a' f' (gs.1 ++ [ea], gs.2 ++ [[]]) ∧ Blk w' p (pB (none, 0, 0) (none, 0, 0) false) 80 ∧ Blk w' g3 #[.string ea, .slice esl.1 esl.2.1 esl.2.2, .int .u8 (es : Int)] 96 ∧ Blk w' g4 (pB (none, 0, 0) (none, 0, 0) false) 80 ∧ Fi B w w', ?_, ?_⟩
      · rintro w4 ⟨a', f', h4, qp, q3, q4, f4⟩
        unfold F72_j4
        rw [NonNil_some]
        refine lSl (h4.blk.cell 1) ?_
        have hn := h4.lens.1
        simp only [List.length_append, List.length_singleton] at hn
        refine ⟨inR_i64 (by omega) (by omega), al fun g35 w5 hb5 hg35 hge35 => ?_⟩
        have hv : ((a'.2.1 : Nat) : Int) - 1 = (gs.1.length : Int) := by omega
        rw [hv] at hg35
        have ho35 : RdI B w5 (some ⟨g35, 0, none⟩, 1, 1) [gs.1.length] := .own (k := B) (Own.lit' (L := LK) (xs := [gs.1.length]) hg35 (by have := h4.lt; have := h4.ge; omega) rfl (by simp [maxLen])) (Nat.le_refl _)
        have qp5 := qp.keep hb5
        refine st_blk (g := p) (i := 0) qp5 (by simp) fun w6 hb6 f6 => st_blk (g := p) (i := 1) hb6 (by simp) fun w7 hb7 f7 => ?_
        have ff := f6.trans f7
        exact ⟨(some ⟨g35, 0, none⟩, 1, 1), (some ⟨g35, 0, none⟩, 1, 1), a', f', (h4.below hb5).box qp5 (by decide) ff, hb7, ho35.box qp5 (by decide) ff, ho35.box qp5 (by decide) ff, ff.blk (q3.keep hb5) np3, ff.blk (q4.keep hb5) np4, (f4.trans (.below hb5)).new ff fun b hb e => by omega⟩
      · have hd : Below w3.heap.size w3 w3.drew := (Below.refl _ _).drew
        have I0 : RI B g sl a f gs.2 [(p, pB (none, 0, 0) (none, 0, 0) false, 80), (g3, #[.string ea, .slice esl.1 esl.2.1 esl.2.2, .int .u8 (es : Int)], 96), (g4, pB (none, 0, 0) (none, 0, 0) false, 80)] w (.slice a.1 a.2.1 a.2.2) (.slice f.1 f.2.1 f.2.2) gs.1 vs w3.drew :=
          RI.below ⟨h3.blk, h3.at_, o1, fun i v l h1 h2 => o3 i v l h1 h2, by
            intro q hq
            simp only [List.mem_cons, List.not_mem_nil, or_false] at hq
            rcases hq with rfl | rfl | rfl
            · exact qp
            · exact q3
            · exact q4, f3⟩ hd
        have S : ∀ {w' : World} {fol : List (List Nat)} {va vf : Value} {xs : List ByteArray} {vs : List Sv}, RI B g sl a f fol [(p, pB (none, 0, 0) (none, 0, 0) false, 80), (g3, #[.string ea, .slice esl.1 esl.2.1 esl.2.2, .int .u8 (es : Int)], 96), (g4, pB (none, 0, 0) (none, 0, 0) false, 80)] w va vf xs vs w' →
            Blk w' g (mB sl a f (none, 0, 0) (none, 0, 0) false) 60 ∧ Blk w' g3 #[.string ea, .slice esl.1 esl.2.1 esl.2.2, .int .u8 (es : Int)] 96 := fun h => ⟨h.blk, h.box (g3, #[.string ea, .slice esl.1 esl.2.1 esl.2.2, .int .u8 (es : Int)], 96) (by simp)⟩
        have hbx1 : ∀ q ∈ [(p, pB (none, 0, 0) (none, 0, 0) false, 80), (g3, #[.string ea, .slice esl.1 esl.2.1 esl.2.2, .int .u8 (es : Int)], 96), (g4, pB (none, 0, 0) (none, 0, 0) false, 80)], Nat.beq q.2.2 9 = false := by
          intro q hq
          simp only [List.mem_cons, List.not_mem_nil, or_false] at hq
          rcases hq with rfl | rfl | rfl <;> rfl
        have hbx2 : ∀ q ∈ [(p, pB (none, 0, 0) (none, 0, 0) false, 80), (g3, #[.string ea, .slice esl.1 esl.2.1 esl.2.2, .int .u8 (es : Int)], 96), (g4, pB (none, 0, 0) (none, 0, 0) false, 80)], Nat.beq q.2.2 56 = false := by
          intro q hq
          simp only [List.mem_cons, List.not_mem_nil, or_false] at hq
          rcases hq with rfl | rfl | rfl <;> rfl
        -- the end of each way
        have fin : ∀ {w' : World} {A A' : Option Addr} {c c' : Nat}, RI B g sl a f (gs.2 ++ [[]]) [(p, pB (none, 0, 0) (none, 0, 0) false, 80), (g3, #[.string ea, .slice esl.1 esl.2.1 esl.2.2, .int .u8 (es : Int)], 96), (g4, pB (none, 0, 0) (none, 0, 0) false, 80)] w (.slice A (gs.1.length + 1) c) (.slice A' (vs.length + 1) c') (gs.1 ++ [ea]) (vs ++ [((none, 0, 0) : Sv)]) w' →
            NonNil (some ⟨g, 0, none⟩) fun p25 => St w' (p25.add 1) (.slice A (gs.1.length + 1) c) fun w1_9 => NonNil (some ⟨g, 0, none⟩) fun p27 => St w1_9 (p27.add 3) (.slice A' (vs.length + 1) c') fun w1_10 =>
              ∃ a' f' : Sv, MI B w1_10 g sl a' f' (gs.1 ++ [ea], gs.2 ++ [[]]) ∧ Blk w1_10 p (pB (none, 0, 0) (none, 0, 0) false) 80 ∧ Blk w1_10 g3 #[.string ea, .slice esl.1 esl.2.1 esl.2.2, .int .u8 (es : Int)] 96 ∧ Blk w1_10 g4 (pB (none, 0, 0) (none, 0, 0) false) 80 ∧ Fi B w w1_10 := by
          intro w' A A' c c' hI
          simp only [NonNil_some, Addr.add_mk, Nat.zero_add]
          refine st_blk hI.blk (by simp) fun w5 hb5 f5 => st_blk hb5 (by simp) fun w6 hb6 f6 => ?_
          have ff := f5.trans f6
          have hn : ∀ {q : TypeId → Bool}, q 60 = false → ∀ b, b = g → ¬ tyAt w' b q := fun hq b e => e ▸ tyAt_blk hI.blk hq
          refine ⟨(A, gs.1.length + 1, c), (A', vs.length + 1, c'), ⟨h3.ge, hb6, hI.at_.fmT ff (hn (by decide)), _, hI.fo.fmT ff (hn (by decide)), by simp [hlen], fun i v l k1 k2 => (hI.rdf i v l k1 k2).fm ff (hn (by decide))⟩, ff.blk (hI.box (p, pB (none, 0, 0) (none, 0, 0) false, 80) (by simp)) ?_, ff.blk (hI.box (g3, #[.string ea, .slice esl.1 esl.2.1 esl.2.2, .int .u8 (es : Int)], 96) (by simp)) ?_, ff.blk (hI.box (g4, pB (none, 0, 0) (none, 0, 0) false, 80) (by simp)) ?_, hI.fi.trans (Fi.of ff fun b hb e => ⟨by rw [e]; exact h3.ge, by rw [e]; exact ⟨_, _, _, hI.blk, by decide⟩⟩)⟩
          · exact fun e => tyAt_blk (p := fun t => Nat.beq t 80) hI.blk (by decide) ⟨_, _, _, e ▸ hI.box (p, pB (none, 0, 0) (none, 0, 0) false, 80) (by simp), rfl⟩
          · exact fun e => tyAt_blk (p := fun t => Nat.beq t 96) hI.blk (by decide) ⟨_, _, _, e ▸ hI.box (g3, #[.string ea, .slice esl.1 esl.2.1 esl.2.2, .int .u8 (es : Int)], 96) (by simp), rfl⟩
          · exact fun e => tyAt_blk (p := fun t => Nat.beq t 80) hI.blk (by decide) ⟨_, _, _, e ▸ hI.box (g4, pB (none, 0, 0) (none, 0, 0) false, 80) (by simp), rfl⟩
        have hBd : ∀ {w' : World}, Below w3.heap.size w3 w' → B ≤ w'.heap.size := fun h => Nat.le_trans hBs h.size
        have hl1 : gs.1.length ≤ 128 := by omega
        have hl2 : vs.length ≤ 128 := by omega
        refine ⟨fun w' => Blk w' g (mB sl a f (none, 0, 0) (none, 0, 0) false) 60 ∧ Blk w' g3 #[.string ea, .slice esl.1 esl.2.1 esl.2.2, .int .u8 (es : Int)] 96, S I0, ?_⟩
        rw [NonNil_some]
        refine ⟨a.1, a.2.1, a.2.2, fun w' h => h.1.cell 1, ea, fun w' h => h.2.cell 0, ?_⟩
        rw [NonNil_some]
        refine ⟨f.1, f.2.1, f.2.2, fun w' h => h.1.cell 3, ?_, ?_⟩
        · refine al fun g17 w5 hb5 hg17 hge17 => ?_
          have I5 := I0.below hb5
          refine ⟨S I5, ?_, ?_⟩
          · refine I5.appA hg17 hbx1 (hBd (btr hd hd.size hb5)) hl1 fun A c w6 I6 f6 => ⟨_, _, _, rfl, S I6, ?_⟩
            refine al fun g23 w7 hb7 hg23 hge23 => ?_
            have I7 := I6.below hb7
            refine ⟨S I7, ?_⟩
            exact I7.appF hg23 hlen hbx2 (by have := h3.ge; have := I7.blk.lt; omega) hl2 fun A' c' w8 I8 => ⟨_, _, _, rfl, fin I8⟩
          · refine al fun g23 w6 hb6 hg23 hge23 => ?_
            have I6 := I5.below hb6
            refine ⟨S I6, ?_⟩
            refine I6.appA (hg17.keep hb6) hbx1 (by have := h3.ge; have := I6.blk.lt; omega) hl1 fun A c w7 I7 f7 => ⟨_, _, _, rfl, S I7, ?_⟩
            exact I7.appF (f7.blk hg23 (fun hr => row_not I6.at_ (p := fun t => Nat.beq t 56) (by decide) _ hr ⟨_, _, _, hg23, by decide⟩)) hlen hbx2 (by have := h3.ge; have := I7.blk.lt; omega) hl2 fun A' c' w8 I8 => ⟨_, _, _, rfl, fin I8⟩
        · refine al fun g23 w5 hb5 hg23 hge23 => ?_
          have I5 := I0.below hb5
          refine ⟨S I5, ?_⟩
          refine al fun g17 w6 hb6 hg17 hge17 => ?_
          have I6 := I5.below hb6
          refine ⟨S I6, ?_⟩
          refine I6.appA hg17 hbx1 (by have := h3.ge; have := I6.blk.lt; omega) hl1 fun A c w7 I7 f7 => ⟨_, _, _, rfl, S I7, ?_⟩
          exact I7.appF (f7.blk (hg23.keep hb6) (fun hr => row_not I6.at_ (p := fun t => Nat.beq t 56) (by decide) _ hr ⟨_, _, _, hg23.keep hb6, by decide⟩)) hlen hbx2 (by have := h3.ge; have := I7.blk.lt; omega) hl2 fun A' c' w8 I8 => ⟨_, _, _, rfl, fin I8⟩
end
end Go.Proofs.Ytkmoeokfgkmlhaa
