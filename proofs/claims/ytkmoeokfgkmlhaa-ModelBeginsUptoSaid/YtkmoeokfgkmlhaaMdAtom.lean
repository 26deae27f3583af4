/- Models: the reader reads an atom, a part, a row, choices. -/
import Derived.Test.YtkmoeokfgkmlhaaMdRead
namespace Go.Proofs.Ytkmoeokfgkmlhaa
open Go.RowKit Go.Vc Go.Mdl
set_option linter.unusedVariables false
set_option linter.unusedSimpArgs false
set_option maxRecDepth 100000
abbrev oops (at_ e : Int) : List PanicEntry := [{ v := .iface 43 (.agg #[.int .i64 at_, .int .i64 e]), recovered := false }]
/-- What a function of the reader ends in. -/
def Ends {α : Type} (R : Ending → World → Prop) (g : Nat) (s : ByteArray) (w : World) (ret : World → α → Value → Prop) : Res α → Prop
  | .ok (x, l, n) => ∀ w' v, RAt w' g s l n → Fm (· = g) w w' → ret (above w.heap.size w') x v → R (.returned v) w'
  | .error (_, e) => ∀ at_ w', Fm (· = g) w w' → R (.panicked (oops at_ (e : Int))) w'
def retP (W : World) (p : Part) (v : Value) : Prop := ∃ e : E, v = .agg #[.string e.a, .slice e.sl.1 e.sl.2.1 e.sl.2.2, .int .u8 (e.s : Int)] ∧ RdP W p e
def retR (W : World) (r : List Part) (v : Value) : Prop := ∃ sl : Sv, v = .slice sl.1 sl.2.1 sl.2.2 ∧ RdW W r sl
def retC (W : World) (r : List (List Part)) (v : Value) : Prop := ∃ sl : Sv, v = .slice sl.1 sl.2.1 sl.2.2 ∧ RdC W r sl
/-- What 'choices' does, up to a depth. -/
def CC (f : Nat) : Prop := ∀ (w : World) (g : Nat) (s : ByteArray) (l : List UInt8) (n : Nat) (R : Ending → World → Prop), RAt w g s l n → s.size ≤ 1024 → l.length < f →
  Ends R g s w retC (choices f l n) → Calls Try.prog 17 #[.pointer (some ⟨g, 0, none⟩)] w R
section
variable {w w1 : World} {R : Ending → World → Prop} {g n : Nat} {s : ByteArray} {l r : List UInt8} {c : UInt8}
theorem nldA (h : RAt w g s l n) {K : Int → Prop} (hk : K ((s.size - l.length : Nat) : Int)) : NonNil (some ⟨g, 0, none⟩) fun p => LdI .i64 (w.cell? (p.add 1)) fun x => K x := by
  simp only [NonNil_some, h.blk.cell, Addr.add_mk, List.getElem?_toArray, List.getElem?_cons_zero, List.getElem?_cons_succ, LdI_some, LdB_some, LdStr_some, LdP_some, LdSl_some, LdM_some, Nat.zero_add, Br_t, Br_f]
  exact hk
theorem nldS (h : RAt w g s l n) {K : ByteArray → Prop} (hk : K s) : NonNil (some ⟨g, 0, none⟩) fun p => LdStr (w.cell? p) fun x => K x := by
  simp only [NonNil_some, h.blk.cell, Addr.add_mk, List.getElem?_toArray, List.getElem?_cons_zero, List.getElem?_cons_succ, LdI_some, LdB_some, LdStr_some, LdP_some, LdSl_some, LdM_some, Nat.zero_add, Br_t, Br_f]
  exact hk
/-- The result's box is written and read. -/
theorem res3 {g2 : Nat} {c0 : Array Value} (hg : Blk w g2 c0 96) (h0 : c0.size = 3) {a : ByteArray} {p : Option Addr} {n c : Nat} {k : Int}
    (h : ∀ w', Fm (· = g2) w w' → Blk w' g2 #[.string a, .slice p n c, .int .u8 k] 96 → R (.returned (.agg #[.string a, .slice p n c, .int .u8 k])) w') :
    St w ⟨g2, 0, none⟩ (.string a) fun w1 => St w1 (Addr.add ⟨g2, 0, none⟩ 1) (.slice p n c) fun w2 => St w2 (Addr.add ⟨g2, 0, none⟩ 2) (.int .u8 k) fun w3 =>
      LdStr (w3.cell? ⟨g2, 0, none⟩) fun a' => LdSl (w3.cell? (Addr.add ⟨g2, 0, none⟩ 1)) fun p' n' c' => LdI .u8 (w3.cell? (Addr.add ⟨g2, 0, none⟩ 2)) fun k' =>
        R (.returned (.agg #[.string a', .slice p' n' c', .int .u8 k'])) w3 := by
  obtain ⟨l⟩ := c0
  obtain ⟨x, y, z, rfl⟩ : ∃ x y z, l = [x, y, z] := by
    match l, h0 with
    | [x, y, z], _ => exact ⟨x, y, z, rfl⟩
  simp only [Addr.add_mk, Nat.zero_add]
  refine st_blk hg (by simp) fun w1 hb1 f1 => st_blk hb1 (by simp) fun w2 hb2 f2 => st_blk hb2 (by simp) fun w3 hb3 f3 => ?_
  have hb : Blk w3 g2 #[.string a, .slice p n c, .int .u8 k] 96 := hb3
  simp only [hb.cell, Addr.add_mk, List.getElem?_toArray, List.getElem?_cons_zero, List.getElem?_cons_succ, LdI_some, LdB_some, LdStr_some, LdP_some, LdSl_some, LdM_some, Nat.zero_add, Br_t, Br_f]
  exact h w3 ((f1.trans f2).trans f3) hb
theorem ld3 {g2 : Nat} {a : ByteArray} {p : Option Addr} {n c : Nat} {k : Int} (hb : Blk w g2 #[.string a, .slice p n c, .int .u8 k] 96) {K : ByteArray → Option Addr → Nat → Nat → Int → Prop} (h : K a p n c k) :
    LdStr (w.cell? ⟨g2, 0, none⟩) fun a' => LdSl (w.cell? (Addr.add ⟨g2, 0, none⟩ 1)) fun p' n' c' => LdI .u8 (w.cell? (Addr.add ⟨g2, 0, none⟩ 2)) fun k' => K a' p' n' c' k' := by
  simp only [hb.cell, Addr.add_mk, List.getElem?_toArray, List.getElem?_cons_zero, List.getElem?_cons_succ, LdI_some, LdB_some, LdStr_some, LdP_some, LdSl_some, LdM_some, Nat.zero_add, Br_t, Br_f]
  exact h
theorem above_nil (W : World) (a : ByteArray) : RdP W (.mk a [] 0) ⟨a, (none, 0, 0), 0⟩ := by
  simp only [RdP, RdL]
  exact ⟨trivial, trivial, [], rfl, Rd.nil _ _, rfl⟩
/-- at = i -/
theorem setAt (h : RAt w g s l n) {k : Nat} (hk : k ≤ l.length) {i : Int} (hi : i = ((s.size - l.length + k : Nat) : Int)) {K : World → Prop} (hK : ∀ w', RAt w' g s (l.drop k) n → Fm (· = g) w w' → K w') :
    NonNil (some ⟨g, 0, none⟩) fun p => St w (p.add 1) (.int .i64 i) fun w2 => K w2 := by
  subst hi
  have h1 := h.len
  simp only [NonNil_some, Addr.add_mk, Nat.zero_add]
  refine st_blk h.blk (by simp) fun w' hb hf => hK w' ⟨by simp; omega, ?_, h.nle, ?_⟩ hf
  · rw [List.length_drop, show s.size - (l.length - k) = (s.size - l.length) + k from by omega, ← List.drop_drop, ← h.rest]
  · rw [List.length_drop, show s.size - (l.length - k) = (s.size - l.length) + k from by omega]
    exact hb
theorem RAt.byte (h : RAt w g s l n) {k : Nat} (hk : k < l.length) : s[s.size - l.length + k]? = some l[k] ∧ s.size - l.length + k < s.size := by
  have h1 := h.len
  have hlt : s.size - l.length + k < s.size := by omega
  refine ⟨?_, hlt⟩
  rw [ba_get hlt, ← ba_list hlt]
  have := congrArg (fun l => l[k]?) h.rest
  simp only [List.getElem?_drop] at this
  rw [← this, List.getElem?_eq_getElem hk]
theorem RAt.cut (h : RAt w g s l n) {k : Nat} (hk : k ≤ l.length) : s.extract (s.size - l.length) (s.size - l.length + k) = ⟨(l.take k).toArray⟩ := by
  have h1 := h.len
  apply ByteArray.ext
  rw [ByteArray.data_extract]
  apply Array.ext'
  rw [Array.toList_extract, List.extract_eq_take_drop]
  have h2 := h.rest
  rw [show s.size - l.length + k - (s.size - l.length) = k from by omega]
  conv => rhs; simp only []
  rw [← h2]
theorem take_len : ∀ (l : List UInt8) (k : Nat), k ≤ l.length → (∀ x ∈ l.take k, inn x = true) → (∀ c r, l.drop k = c :: r → inn c = false) → l.takeWhile inn = l.take k ∧ l.dropWhile inn = l.drop k
  | l, k, hk, h1, h2 => by
    have := name_take h1 h2
    rw [List.take_append_drop] at this
    exact this
theorem isName_take {r : List UInt8} (hb : begins c = true) (h : ∀ x ∈ r, inn x = true) : isName ⟨(c :: r).toArray⟩ = decide ((c :: r).length ≤ maxName) := by
  simp only [isName]
  rw [hb, Bool.and_true, (List.all_eq_true.2 h : r.all inn = true), Bool.and_true]
theorem atom_calls {f : Nat} (hch : CC f) (h : RAt w g s l n) (hs : s.size ≤ 1024) (hl : l.length ≤ f) (hR : Ends R g s w retP (Mdl.atom (choices f) l n)) :
    Calls Try.prog 71 #[.pointer (some ⟨g, 0, none⟩)] w R := by
  refine ok71 _ ?_
  unfold F71
  refine al fun g2 w1 hb1 hg2 hge2 => ?_
  have h1 := h.below hb1
  have hgl := h.blk.lt
  have hne : ¬ (g2 = g) := by omega
  refine peek_calls h1 hs fun w2 h2 hf2 => ⟨_, rfl, ?_⟩
  have F2 : Fm (· = g) w w2 := (Fm.below hb1).trans hf2
  have G2 := hf2.blk hg2 hne
  have hle := skip_len l
  clear h1 hf2 hg2 hb1 h
  unfold Mdl.atom at hR
  have fin : ∀ (p : Part) (e : E) (l' : List UInt8) (n' : Nat) (w4 w' : World), Ends R g s w retP (.ok (p, l', n')) → RAt w4 g s l' n' → Fm (· = g) w w4 → RdP (above w.heap.size w') p e → Fm (· = g2) w4 w' →
      R (.returned (.agg #[.string e.a, .slice e.sl.1 e.sl.2.1 e.sl.2.2, .int .u8 (e.s : Int)])) w' := fun p e l' n' w4 w' hE hA hF hP hF2 =>
    hE w' _ (hA.keep hF2 (Ne.symm hne)) ⟨(hF2.os).trans hF.os, hF2.tape.trans hF.tape, hF2.output.trans hF.output, Nat.le_trans hF.size hF2.size, fun b hb hm => (hF2.block b (Nat.lt_of_lt_of_le hb hF.size) (by omega)).trans (hF.block b hb hm)⟩ ⟨e, rfl, hP⟩
  refine ⟨fun w3 => ∃ r, skip l = 40 :: r ∧ RAt w3 g s (skip l) n ∧ Fm (· = g) w w3 ∧ Blk w3 g2 #[.string (ByteArray.mk #[]), .slice none 0 0, .int .u8 0] 96, ?_, ?_⟩
  · rintro w3 ⟨r, hsk, h3, F3, G3⟩
    unfold F71_j20
    rw [hsk] at hR h3 hle
    dsimp only at hR
    rw [if_neg (by decide), if_neg (by decide), if_neg (by decide)] at hR
    refine nldA h3 ?_
    refine began_calls h3 (fun hn w4 h4 f4 => ⟨rfl, ?_⟩) (fun hn at_ w4 f4 => ?_)
    rotate_left
    · rw [if_pos hn] at hR
      exact hR _ _ (F3.trans f4)
    rw [if_neg (by omega)] at hR
    refine adv h4 hs fun w5 h5 f5 => ?_
    have F5 := (F3.trans f4).trans f5
    have G5 := f5.blk (f4.blk G3 hne) hne
    simp only [List.length_cons] at hle
    refine hch w5 g s r (n + 1) _ h5 hs (by omega) ?_
    clear h3 h4 f4 f5 G3
    cases hc : choices f r (n + 1) with
    | error e =>
      obtain ⟨pos, e⟩ := e
      rw [hc] at hR
      exact fun at_ w' f6 => hR at_ w' (F5.trans f6)
    | ok x =>
      obtain ⟨rows, l1, n1⟩ := x
      rw [hc] at hR
      dsimp only at hR
      rintro w6 _ h6 f6 ⟨sl, rfl, hrd⟩
      refine ⟨_, _, _, rfl, ?_⟩
      have F6 := F5.trans f6
      have G6 := f6.blk G5 hne
      refine al3 fun p w7 hb7 hp hgep => ?_
      have h7 := h6.below hb7
      have F7 := F6.tr hb7
      have G7 := G6.keep hb7
      have hpne : ¬ (p = g) := by have := h6.blk.lt; omega
      have Fq : Fm (· = g) w6 w7 := .below hb7
      refine ⟨fun w8 => ∃ r2, skip l1 = 41 :: r2 ∧ RAt w8 g s (41 :: r2) n1 ∧ Fm (· = g) w w8 ∧ Fm (· = g) w6 w8 ∧ Blk w8 g2 #[.string (ByteArray.mk #[]), .slice none 0 0, .int .u8 0] 96 ∧ Blk w8 p #[.string (ByteArray.mk #[40]), .slice sl.1 sl.2.1 sl.2.2, .int .u8 0] 96, ?_, ?_⟩
      · rintro w8 ⟨r2, hsk1, h8, F8, Fq8, G8, P8⟩
        unfold F71_j28
        rw [hsk1] at hR
        dsimp only at hR
        rw [if_pos rfl] at hR
        refine adv h8 hs fun w9 h9 f9 => ?_
        refine ld3 (f9.blk P8 hpne) ?_
        refine res3 (f9.blk G8 hne) rfl fun w' fw _ => ?_
        refine fin _ ⟨Br, sl, 0⟩ _ _ w9 w' hR h9 (F8.trans f9) ?_ fw
        simp only [RdP]
        refine ⟨trivial, trivial, ?_⟩
        have hsub : Sub (above w5.heap.size w6) (above w.heap.size w') := by
          have a1 : Sub (above w5.heap.size w6) (above w5.heap.size w9) := above_fm (Fq8.trans f9) (Nat.le_refl _) (fun b hb e => by have := h5.blk.lt; omega)
          have a2 : Sub (above w5.heap.size w9) (above w.heap.size w') := above_fm fw F5.size (fun b hb e => by have := G5.lt; omega)
          exact a1.trans a2
        obtain ⟨vs, q1, q2, q3⟩ := RdC.sub hsub hrd
        exact ⟨vs, q1, q2, q3⟩
      · refine ends_calls h7 hs fun w8 h8 f8 => ⟨_, rfl, ?_⟩
        have F8 := F7.trans f8
        have Fq8 := Fq.trans f8
        have G8 := f8.blk G7 hne
        have P8 := f8.blk hp hpne
        cases hsk1 : skip l1 with
        | nil =>
          rw [hsk1] at hR
          simp only [List.isEmpty_nil, Br_t]
          refine ok19 _ _ _ ?_
          unfold F19
          exact hR _ _ F8
        | cons d r2 =>
          rw [hsk1] at hR h8
          simp only [List.isEmpty_cons, Br_f]
          refine dr fun w9 hb9 _ => ?_
          have h9 := h8.below hb9
          refine nldS h9 (nldA h9 ?_)
          obtain ⟨k1, k2⟩ := h9.get
          refine ⟨by omega, d, by simpa using k1, ?_⟩
          refine brn (fun hd => ?_) (fun hd => ?_)
          · have hne41 : d ≠ 41 := by rintro rfl; exact hd rfl
            dsimp only at hR
            rw [if_neg hne41] at hR
            refine nldA h9 ?_
            refine ok19 _ _ _ ?_
            unfold F19
            exact hR _ _ (F8.tr hb9)
          · have : d = 41 := by rw [← UInt8.toNat_inj]; show d.toNat = 41; omega
            subst this
            exact ⟨r2, rfl, h9, F8.tr hb9, Fq8.tr hb9, G8.keep hb9, P8.keep hb9⟩
  · refine dr fun w3 hb3 _ => ?_
    have h3 := h2.below hb3
    have F3 := F2.tr hb3
    have G3 := G2.keep hb3
    refine nldA h3 (nldS h3 ?_)
    cases hsk : skip l with
    | nil =>
      rw [hsk] at hR h3
      rw [h3.size0, Br_t]
      refine nldA h3 ?_
      refine ok19 _ _ _ ?_
      unfold F19
      exact hR _ _ F3
    | cons c r =>
      rw [hsk] at hR h3
      dsimp only at hR
      have e : (((s.size - (c :: r).length : Nat) : Int) == ((s.size : Nat) : Int)) = false := by have := h3.get.2; simp; omega
      rw [e, Br_f]
      refine begins_calls ⟨_, rfl, ?_⟩
      cases hb : begins c with
      | true =>
        rw [hb] at hR
        simp only [if_true] at hR
        rw [Br_t]
        refine nldA h3 ?_
        have hL : s.size - (c :: r).length + (c :: r).length = s.size := by have := h3.len; omega
        generalize hLe : c :: r = L at *
        refine ⟨fun i w4 => ∃ k : Nat, i = ((s.size - L.length + k : Nat) : Int) ∧ k ≤ L.length ∧ L.takeWhile inn = L.take k ∧ L.dropWhile inn = L.drop k ∧ RAt w4 g s L n ∧ Fm (· = g) w w4 ∧ Blk w4 g2 #[.string (ByteArray.mk #[]), .slice none 0 0, .int .u8 0] 96, ?_,
          fun i w4 => ∃ k : Nat, i = ((s.size - L.length + k : Nat) : Int) ∧ k ≤ L.length ∧ (∀ x ∈ L.take k, inn x = true) ∧ RAt w4 g s L n ∧ Fm (· = g) w w4 ∧ Blk w4 g2 #[.string (ByteArray.mk #[]), .slice none 0 0, .int .u8 0] 96, fun i _ => s.size - i.toNat, ⟨0, rfl, by omega, by simp, h3, F3, G3⟩, ?_⟩
        · rintro i w4 ⟨k, rfl, hk, htk, hdr, h4, F4, G4⟩
          unfold F71_j8
          refine dr fun w5 hb5 _ => ?_
          have h5 := h4.below hb5
          have F5 := F4.tr hb5
          have G5 := G4.keep hb5
          refine nldS h5 (nldA h5 ⟨by omega, by omega, by omega, ?_⟩)
          simp only [Int.toNat_natCast, h5.cut hk]
          rw [htk, hdr] at hR
          refine began_calls h5 (fun hn w6 h6 f6 => ⟨rfl, ?_⟩) (fun hn at_ w6 f6 => ?_)
          rotate_left
          · rw [if_pos hn] at hR
            exact hR _ _ (F5.trans f6)
          rw [if_neg (by omega)] at hR
          have F6 := F5.trans f6
          have G6 := f6.blk G5 hne
          have hnm : isName ⟨(L.take k).toArray⟩ = decide ((L.take k).length ≤ maxName) := by
            have hin : ∀ x ∈ L.take k, inn x = true := by rw [← htk]; exact fun x hx => List.all_eq_true.1 List.all_takeWhile x hx
            cases hk0 : k with
            | zero =>
              subst hk0
              rw [← hLe] at htk
              simp [begins_inn hb] at htk
            | succ k' =>
              subst hk0
              rw [← hLe] at hin ⊢
              exact isName_take hb fun x hx => hin x (by simp [hx])
          refine ⟨fun w7 => w7 = w6 ∧ (L.take k).length ≤ maxName, ?_, ?_⟩
          · rintro w7 ⟨rfl, hle2⟩
            unfold F71_j12
            rw [if_neg (by omega)] at hR
            refine setAt h6 hk rfl fun w8 h8 f8 => ?_
            rw [Int.toNat_natCast, Int.toNat_natCast, h6.cut hk]
            refine res3 (f8.blk G6 hne) rfl fun w' fw _ => ?_
            refine fin _ ⟨⟨(L.take k).toArray⟩, (none, 0, 0), 0⟩ _ _ w8 w' hR h8 (F6.trans f8) (above_nil _ _) fw
          · refine name_calls ⟨_, rfl, ?_⟩
            rw [hnm]
            by_cases hle2 : (L.take k).length ≤ maxName
            · rw [decide_eq_true hle2]
              exact ⟨rfl, hle2⟩
            · rw [decide_eq_false hle2]
              rw [if_pos (by omega)] at hR
              rw [Bool.not_false, Br_t]
              refine nldA h6 ?_
              refine ok19 _ _ _ ?_
              unfold F19
              exact hR _ _ F6
        · rintro i w4 ⟨k, rfl, hk, hin, h4, F4, G4⟩
          unfold F71_l6
          refine ⟨fun w5 => ∃ hk2 : k < L.length, inn L[k] = true ∧ w5 = w4, ?_, ?_⟩
          · rintro w5 ⟨hk2, hi2, rfl⟩
            unfold F71_j7
            refine ⟨inR_i64 (by omega) (by omega), ⟨k + 1, by omega, by omega, fun x hx => ?_, h4, F4, G4⟩, by dsimp only; omega⟩
            rw [List.take_add_one, List.getElem?_eq_getElem hk2] at hx
            rcases List.mem_append.1 hx with hx | hx
            · exact hin x hx
            · simp at hx; subst hx; exact hi2
          · have done : (∀ c' r', L.drop k = c' :: r' → inn c' = false) → ∃ k' : Nat, ((s.size - L.length + k : Nat) : Int) = ((s.size - L.length + k' : Nat) : Int) ∧ k' ≤ L.length ∧ L.takeWhile inn = L.take k' ∧ L.dropWhile inn = L.drop k' ∧ RAt w4 g s L n ∧ Fm (· = g) w w4 ∧ Blk w4 g2 #[.string (ByteArray.mk #[]), .slice none 0 0, .int .u8 0] 96 := fun hd =>
              ⟨k, rfl, hk, (take_len L k hk hin hd).1, (take_len L k hk hin hd).2, h4, F4, G4⟩
            refine nldS h4 ?_
            refine brd (fun hlt => ?_) (fun hge => ?_)
            · have hk2 : k < L.length := by omega
              obtain ⟨q1, q2⟩ := h4.byte hk2
              refine nldS h4 ⟨by omega, L[k], by rw [Int.toNat_natCast]; exact q1, ?_⟩
              refine in_calls ⟨_, rfl, ?_⟩
              cases hik : inn L[k] with
              | true => exact ⟨hk2, hik, rfl⟩
              | false =>
                refine done fun c' r' e => ?_
                rw [List.drop_eq_getElem_cons hk2] at e
                cases e
                exact hik
            · refine done fun c' r' e => ?_
              rw [List.drop_of_length_le (by omega)] at e
              cases e
      | false =>
        rw [hb] at hR
        simp only [Bool.false_eq_true, if_false] at hR
        rw [Br_f]
        refine bre (fun h36 => ?a) (fun n36 => bre (fun h46 => ?b) (fun n46 => bre (fun h45 => ?c) (fun n45 => ?d)))
        case a => (
          obtain rfl : c = 36 := (by rw [← UInt8.toNat_inj]; show c.toNat = 36; simp only [hd] at *; omega)
          rw [if_pos (by decide)] at hR
          refine began_calls h3 (fun hn w4 h4 f4 => ⟨rfl, ?_⟩) (fun hn at_ w4 f4 => ?_)
          rotate_left
          · rw [if_pos hn] at hR; exact hR _ _ (F3.trans f4)
          rw [if_neg (by omega)] at hR
          refine adv h4 hs fun w5 h5 f5 => ⟨by simp [hd, InR, IntKind.min, IntKind.max, IntKind.signed, IntKind.bits], ?_⟩
          rw [show ((hd (36 :: r) : Nat) : Int) = ((36 : Nat) : Int) from rfl, (by decide +kernel : Utf8.encode ((36 : Nat) : Int) = (⟨#[36]⟩ : ByteArray))]
          refine res3 (f5.blk (f4.blk G3 hne) hne) rfl fun w' fw _ => ?_
          exact fin _ ⟨⟨#[36]⟩, (none, 0, 0), 0⟩ _ _ w5 w' hR h5 ((F3.trans f4).trans f5) (above_nil _ _) fw)
        case b => (
          obtain rfl : c = 46 := (by rw [← UInt8.toNat_inj]; show c.toNat = 46; simp only [hd] at *; omega)
          rw [if_pos (by decide)] at hR
          refine began_calls h3 (fun hn w4 h4 f4 => ⟨rfl, ?_⟩) (fun hn at_ w4 f4 => ?_)
          rotate_left
          · rw [if_pos hn] at hR; exact hR _ _ (F3.trans f4)
          rw [if_neg (by omega)] at hR
          refine adv h4 hs fun w5 h5 f5 => ⟨by simp [hd, InR, IntKind.min, IntKind.max, IntKind.signed, IntKind.bits], ?_⟩
          rw [show ((hd (46 :: r) : Nat) : Int) = ((46 : Nat) : Int) from rfl, (by decide +kernel : Utf8.encode ((46 : Nat) : Int) = (⟨#[46]⟩ : ByteArray))]
          refine res3 (f5.blk (f4.blk G3 hne) hne) rfl fun w' fw _ => ?_
          exact fin _ ⟨⟨#[46]⟩, (none, 0, 0), 0⟩ _ _ w5 w' hR h5 ((F3.trans f4).trans f5) (above_nil _ _) fw)
        case c => (
          obtain rfl : c = 45 := (by rw [← UInt8.toNat_inj]; show c.toNat = 45; simp only [hd] at *; omega)
          rw [if_pos (by decide)] at hR
          refine began_calls h3 (fun hn w4 h4 f4 => ⟨rfl, ?_⟩) (fun hn at_ w4 f4 => ?_)
          rotate_left
          · rw [if_pos hn] at hR; exact hR _ _ (F3.trans f4)
          rw [if_neg (by omega)] at hR
          refine adv h4 hs fun w5 h5 f5 => ⟨by simp [hd, InR, IntKind.min, IntKind.max, IntKind.signed, IntKind.bits], ?_⟩
          rw [show ((hd (45 :: r) : Nat) : Int) = ((45 : Nat) : Int) from rfl, (by decide +kernel : Utf8.encode ((45 : Nat) : Int) = (⟨#[45]⟩ : ByteArray))]
          refine res3 (f5.blk (f4.blk G3 hne) hne) rfl fun w' fw _ => ?_
          exact fin _ ⟨⟨#[45]⟩, (none, 0, 0), 0⟩ _ _ w5 w' hR h5 ((F3.trans f4).trans f5) (above_nil _ _) fw)
        case d =>
          have c36 : c ≠ 36 := by rintro rfl; exact n36 rfl
          have c46 : c ≠ 46 := by rintro rfl; exact n46 rfl
          have c45 : c ≠ 45 := by rintro rfl; exact n45 rfl
          rw [if_neg (by simp [c36, c46, c45])] at hR
          refine brn (fun h40 => ?_) (fun h40 => ?_)
          · have c40 : c ≠ 40 := by rintro rfl; exact h40 rfl
            rw [if_pos c40] at hR
            refine nldA h3 ?_
            refine ok19 _ _ _ ?_
            unfold F19
            exact hR _ _ F3
          · have c40 : c = 40 := by rw [← UInt8.toNat_inj]; show c.toNat = 40; simp only [hd] at h40; omega
            subst c40
            exact ⟨r, rfl, h3, F3, G3⟩
end
end Go.Proofs.Ytkmoeokfgkmlhaa
