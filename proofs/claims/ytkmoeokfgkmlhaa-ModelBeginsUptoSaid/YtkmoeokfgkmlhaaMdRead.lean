/- Models: the reader's small functions. -/
import Derived.Test.YtkmoeokfgkmlhaaMdRd
import Derived.Test.YtkmoeokfgkmlhaaGMRead
import Derived.Laws.Closers25b
namespace Go.Proofs.Ytkmoeokfgkmlhaa
open Go.RowKit Go.Vc Go.Mdl
set_option linter.unusedVariables false
set_option linter.unusedSimpArgs false
theorem inR_i64 {z : Int} (h0 : -9223372036854775808 ≤ z) (h1 : z ≤ 9223372036854775807) : InR .i64 z := ⟨by simpa [IntKind.min, IntKind.signed, IntKind.bits] using h0, by simpa [IntKind.max, IntKind.signed, IntKind.bits] using h1⟩
theorem bytes_eq (a b : ByteArray) : (a.toList == b.toList) = decide (a = b) := by
  rw [ByteArray.toList_eq, ByteArray.toList_eq]
  by_cases h : a = b
  · subst h; simp
  · rw [decide_eq_false h]
    obtain ⟨⟨a⟩⟩ := a
    obtain ⟨⟨b⟩⟩ := b
    simp only [beq_eq_false_iff_ne, ne_eq]
    intro e
    apply h
    rw [show a = b from e]
/-- A character, by its number. -/
theorem begins_eq (c : UInt8) : begins c = decide ((97 ≤ c.toNat ∧ c.toNat ≤ 122) ∨ (65 ≤ c.toNat ∧ c.toNat ≤ 90) ∨ c.toNat = 95) := by
  rw [Bool.eq_iff_iff]
  simp only [begins, Bool.or_eq_true, Bool.and_eq_true, decide_eq_true_eq, beq_iff_eq, UInt8.le_iff_toNat_le, ← UInt8.toNat_inj, UInt8.reduceToNat, or_assoc]
theorem inn_eq (c : UInt8) : inn c = (begins c || decide ((48 ≤ c.toNat ∧ c.toNat ≤ 57) ∨ c.toNat = 45 ∨ c.toNat = 46)) := by
  rw [Bool.eq_iff_iff]
  simp only [inn, Bool.or_eq_true, Bool.and_eq_true, decide_eq_true_eq, beq_iff_eq, UInt8.le_iff_toNat_le, ← UInt8.toNat_inj, UInt8.reduceToNat, or_assoc]
section
variable {w : World}
theorem lS {a : Addr} {x : ByteArray} {K : ByteArray → Prop} (h : w.cell? a = some (.string x)) (hk : K x) : LdStr (w.cell? a) K := by rw [h, LdStr_some]; exact hk
theorem lSl {a : Addr} {p : Option Addr} {n c : Nat} {K : Option Addr → Nat → Nat → Prop} (h : w.cell? a = some (.slice p n c)) (hk : K p n c) : LdSl (w.cell? a) K := by rw [h, LdSl_some]; exact hk
theorem lI {a : Addr} {k : IntKind} {x : Int} {K : Int → Prop} (h : w.cell? a = some (.int k x)) (hk : K x) : LdI k (w.cell? a) K := by rw [h, LdI_some]; exact hk
theorem lB {a : Addr} {x : Bool} {K : Bool → Prop} (h : w.cell? a = some (.bool x)) (hk : K x) : LdB (w.cell? a) K := by rw [h, LdB_some]; exact hk
end
section
variable {w : World} {R : Ending → World → Prop}
theorem letter_F {c : UInt8} {w : World} {R : Ending → World → Prop} (h : R (.returned (.bool (begins c))) w) : F84 c.toNat w R := by
  unfold F84
  rw [begins_eq] at h
  have t : ((97 ≤ c.toNat ∧ c.toNat ≤ 122) ∨ (65 ≤ c.toNat ∧ c.toNat ≤ 90) ∨ c.toNat = 95) → R (.returned (.bool true)) w := fun k => by rw [decide_eq_true k] at h; exact h
  have f : ¬ ((97 ≤ c.toNat ∧ c.toNat ≤ 122) ∨ (65 ≤ c.toNat ∧ c.toNat ≤ 90)) → R (.returned (.bool ((c.toNat : Int) == 95))) w := fun k => by
    have e : ((c.toNat : Int) == 95) = decide ((97 ≤ c.toNat ∧ c.toNat ≤ 122) ∨ (65 ≤ c.toNat ∧ c.toNat ≤ 90) ∨ c.toNat = 95) := by
      rw [Bool.eq_iff_iff]; simp; omega
    rw [e]; exact h
  repeat' refine brd (fun _ => ?_) (fun _ => ?_)
  all_goals first | exact t (by omega) | exact f (by omega)
theorem begins_calls {c : UInt8} (h : R (.returned (.bool (begins c))) w) : Calls Try.prog 84 #[.int .u8 (c.toNat : Int)] w R := ok84 _ (letter_F h)
theorem letter_calls {c : UInt8} (h : R (.returned (.bool (begins c))) w) : Calls Try.prog 92 #[.int .u8 (c.toNat : Int)] w R := ok92 _ (letter_F h)
theorem in_calls {c : UInt8} (h : R (.returned (.bool (inn c))) w) : Calls Try.prog 85 #[.int .u8 (c.toNat : Int)] w R := by
  refine ok85 _ ?_
  unfold F85
  refine begins_calls ⟨_, rfl, ?_⟩
  rw [inn_eq] at h
  cases hb : begins c with
  | true => rw [hb] at h; exact h
  | false =>
    rw [hb, Bool.false_or] at h
    rw [Br_f]
    have t : ((48 ≤ c.toNat ∧ c.toNat ≤ 57) ∨ c.toNat = 45 ∨ c.toNat = 46) → R (.returned (.bool true)) w := fun k => by rw [decide_eq_true k] at h; exact h
    have f : ¬ ((48 ≤ c.toNat ∧ c.toNat ≤ 57) ∨ c.toNat = 45) → R (.returned (.bool ((c.toNat : Int) == 46))) w := fun k => by
      have e : ((c.toNat : Int) == 46) = decide ((48 ≤ c.toNat ∧ c.toNat ≤ 57) ∨ c.toNat = 45 ∨ c.toNat = 46) := by
        rw [Bool.eq_iff_iff]; simp; omega
      rw [e]; exact h
    repeat' (first | refine brd (fun _ => ?_) (fun _ => ?_) | refine bre (fun _ => ?_) (fun _ => ?_))
    all_goals first | exact t (by omega) | exact f (by omega)
/-- Can this be a name? -/
def isName (a : ByteArray) : Bool := match a.data.toList with
  | [] => false
  | c :: r => decide ((c :: r).length ≤ maxName) && begins c && r.all inn
theorem ba_get {s : ByteArray} {i : Nat} (h : i < s.size) : s[i]? = some s[i] := by
  exact getElem?_pos s i h
theorem ba_list {s : ByteArray} {i : Nat} (h : i < s.size) : s.data.toList[i]? = some s[i] := by
  rw [List.getElem?_eq_getElem (by simpa using h)]
  exact congrArg some (by simp; rfl)
theorem name_calls {s : ByteArray} (h : R (.returned (.bool (isName s))) w) : Calls Try.prog 86 #[.string s] w R := by
  refine ok86 _ ?_
  unfold F86
  have hz : s.data.toList.length = s.size := by simp
  cases hs : s.data.toList with
  | nil =>
    have e : isName s = false := by simp [isName, hs]
    rw [e] at h
    have hsz : s = ByteArray.mk #[] := by
      obtain ⟨⟨l⟩⟩ := s
      have : l = [] := hs
      subst this; rfl
    refine ⟨fun _ => False, fun _ hf => hf.elim, ?_⟩
    rw [bytes_eq, decide_eq_true hsz]
    exact h
  | cons c r =>
    rw [hs] at hz
    have hne : s ≠ ByteArray.mk #[] := by rintro rfl; simp at hs
    have h0 : 0 < s.size := by rw [← hz]; simp
    have hc : s[0] = c := by
      have := ba_list h0
      rw [hs] at this
      simpa using this.symm
    refine ⟨fun w1 => w1 = w ∧ s.size ≤ 32 ∧ begins c = true, ?_, ?_⟩
    · rintro w1 ⟨rfl, h32, hb⟩
      unfold F86_j3
      refine ⟨fun i w1' => ∃ k : Nat, i = k ∧ k ≤ s.size ∧ w1' = w1 ∧ ∀ x ∈ s.data.toList.take k, inn x = true, fun i _ => s.size - i.toNat, ⟨0, rfl, by omega, rfl, by simp⟩, ?_⟩
      rintro i w2 ⟨k, rfl, hk, rfl, hall⟩
      unfold F86_l4
      refine brd (fun hlt => ?_) (fun hge => ?_)
      · have hlt' : k < s.size := by omega
        have next : inn s[k] = true → ∀ x ∈ s.data.toList.take (k + 1), inn x = true := fun hi x hx => by
          rw [List.take_add_one, ba_list hlt'] at hx
          rcases List.mem_append.1 hx with hx | hx
          · exact hall x hx
          · simp at hx; subst hx; exact hi
        refine ⟨fun w3 => w3 = w2 ∧ inn s[k] = true, ?_, ?_⟩
        · rintro w3 ⟨rfl, hi⟩
          unfold F86_j9
          exact ⟨inR_i64 (by omega) (by omega), ⟨k + 1, by simp, by omega, rfl, next hi⟩, by dsimp only; omega⟩
        · refine ⟨by omega, s[k], by simp [ba_get hlt'], ?_⟩
          refine letter_calls ⟨_, rfl, ?_⟩
          have hR : inn s[k] = false → R (.returned (.bool false)) w2 := fun hi => by
            have e : isName s = false := by
              simp only [isName, hs]
              rw [Bool.and_eq_false_iff]
              have hk0 : k ≠ 0 := by rintro rfl; rw [hc, begins_inn hb] at hi; cases hi
              right
              rw [List.all_eq_false]
              refine ⟨s[k], ?_, by simp [hi]⟩
              have h1 := ba_list hlt'
              rw [hs] at h1
              obtain ⟨k', rfl⟩ : ∃ k', k = k' + 1 := ⟨k - 1, by omega⟩
              rw [List.getElem?_cons_succ] at h1
              exact List.mem_of_getElem? h1
            rw [e] at h; exact h
          have hin := inn_eq s[k]
          cases hbk : begins s[k] with
          | true => exact ⟨rfl, begins_inn hbk⟩
          | false =>
            rw [hbk, Bool.false_or] at hin
            rw [Bool.not_false, Br_t]
            have yes : ((48 ≤ s[k].toNat ∧ s[k].toNat ≤ 57) ∨ s[k].toNat = 45 ∨ s[k].toNat = 46) → w2 = w2 ∧ inn s[k] = true := fun hh => ⟨rfl, by rw [hin, decide_eq_true hh]⟩
            have no : ¬ ((48 ≤ s[k].toNat ∧ s[k].toNat ≤ 57) ∨ s[k].toNat = 45 ∨ s[k].toNat = 46) → R (.returned (.bool false)) w2 := fun hh => hR (by rw [hin, decide_eq_false hh])
            repeat' (first | refine brd (fun _ => ?_) (fun _ => ?_) | refine brn (fun _ => ?_) (fun _ => ?_))
            all_goals first | exact yes (by omega) | exact no (by omega)
      · obtain rfl : k = s.size := by omega
        have e : isName s = true := by
          simp only [isName, hs]
          rw [List.take_of_length_le (by rw [hs]; omega), hs] at hall
          simp only [Bool.and_eq_true, decide_eq_true_eq, List.all_eq_true]
          exact ⟨⟨by unfold maxName; omega, hb⟩, fun x hx => hall x (by simp [hx])⟩
        rw [e] at h; exact h
    · rw [bytes_eq, decide_eq_false hne, Br_f]
      refine brd (fun hgt => ?_) (fun hle => ?_)
      · have e : isName s = false := by
          simp only [isName, hs]
          rw [decide_eq_false (by unfold maxName; omega)]; rfl
        rw [e] at h; exact h
      · refine ⟨by omega, s[0], by simp [ba_get h0], ?_⟩
        refine letter_calls ⟨_, rfl, ?_⟩
        rw [hc]
        cases hb : begins c with
        | false =>
          have e : isName s = false := by simp only [isName, hs, hb]; simp
          rw [e] at h; exact h
        | true => exact ⟨rfl, by omega, rfl⟩
end
/-! ### The reader -/
/-- The reader: l is what is left of s, n are begun. -/
structure RAt (w : World) (g : Nat) (s : ByteArray) (l : List UInt8) (n : Nat) : Prop where
  len : l.length ≤ s.size
  rest : l = s.data.toList.drop (s.size - l.length)
  nle : n ≤ maxParts
  blk : Blk w g #[.string s, .int .i64 ((s.size - l.length : Nat) : Int), .int .i64 (n : Int)] 46
def hd : List UInt8 → Nat
  | [] => 0
  | c :: _ => c.toNat
section
variable {w w1 : World} {R : Ending → World → Prop} {g n : Nat} {s : ByteArray} {l r : List UInt8} {c : UInt8}
theorem RAt.keep (h : RAt w g s l n) {M : Nat → Prop} (hf : Fm M w w1) (hm : ¬ M g) : RAt w1 g s l n := ⟨h.len, h.rest, h.nle, hf.blk h.blk hm⟩
theorem RAt.below (h : RAt w g s l n) (hf : Below w.heap.size w w1) : RAt w1 g s l n := h.keep (M := fun _ => False) (.below hf) (fun h => h)
theorem RAt.get (h : RAt w g s (c :: r) n) : s[s.size - (c :: r).length]? = some c ∧ s.size - (c :: r).length < s.size := by
  have h1 := h.len
  have h2 := h.rest
  simp only [List.length_cons] at *
  have hlt : s.size - (r.length + 1) < s.size := by omega
  refine ⟨?_, hlt⟩
  rw [ba_get hlt]
  have h3 := ba_list hlt
  rw [← h3]
  have := congrArg (fun l => l[0]?) h2
  simp only [List.getElem?_cons_zero, List.getElem?_drop, Nat.add_zero] at this
  exact this.symm
theorem RAt.size0 (h : RAt w g s [] n) : (((s.size - ([] : List UInt8).length : Nat) : Int) == ((s.size : Nat) : Int)) = true := by simp
theorem RAt.tail (h : RAt w g s (c :: r) n) : r.length ≤ s.size ∧ r = s.data.toList.drop (s.size - r.length) ∧ s.size - r.length = (s.size - (c :: r).length) + 1 := by
  have h1 := h.len
  have h2 := h.rest
  simp only [List.length_cons] at *
  have h3 : s.size - r.length = (s.size - (r.length + 1)) + 1 := by omega
  refine ⟨by omega, ?_, h3⟩
  have := congrArg List.tail h2
  rw [List.tail_drop] at this
  rw [h3]; exact this
/-- at++ -/
theorem adv (h : RAt w g s (c :: r) n) (hs : s.size ≤ 1024) {K : World → Prop} (hK : ∀ w', RAt w' g s r n → Fm (· = g) w w' → K w') :
    NonNil (some ⟨g, 0, none⟩) fun p => LdI .i64 (w.cell? (p.add 1)) fun x => InR .i64 (x + (1 : Int)) ∧ NonNil (some ⟨g, 0, none⟩) fun p2 => St w (p2.add 1) (.int .i64 (x + (1 : Int))) fun w2 => K w2 := by
  obtain ⟨k1, k2, k3⟩ := h.tail
  simp only [NonNil_some, h.blk.cell, Addr.add_mk, List.getElem?_toArray, List.getElem?_cons_zero, List.getElem?_cons_succ, LdI_some, LdB_some, LdStr_some, LdP_some, LdSl_some, LdM_some, Nat.zero_add, Br_t, Br_f, List.getElem?_toArray]
  refine ⟨inR_i64 (by omega) (by omega), st_blk h.blk (by simp) fun w' hb hf => hK w' ⟨k1, k2, h.nle, ?_⟩ hf⟩
  rw [k3]
  exact hb
theorem began_calls (h : RAt w g s l n) (h1 : n + 1 ≤ maxParts → ∀ w', RAt w' g s l (n + 1) → Fm (· = g) w w' → R (.returned (.tuple #[])) w')
    (h2 : maxParts < n + 1 → ∀ at_ w', Fm (· = g) w w' → R (.panicked [{ v := .iface 43 (.agg #[.int .i64 at_, .int .i64 (eLong : Int)]), recovered := false }]) w') :
    Calls Try.prog 35 #[.pointer (some ⟨g, 0, none⟩)] w R := by
  refine ok35 _ ?_
  unfold F35
  have hn := h.nle
  unfold maxParts at *
  simp only [NonNil_some, h.blk.cell, Addr.add_mk, List.getElem?_toArray, List.getElem?_cons_zero, List.getElem?_cons_succ, LdI_some, LdB_some, LdStr_some, LdP_some, LdSl_some, LdM_some, Nat.zero_add, Br_t, Br_f]
  refine ⟨inR_i64 (by omega) (by omega), st_blk h.blk (by simp) fun w' hb hf => ?_⟩
  simp only [hb.cell]
  simp [LdI_some]
  refine brd (fun hgt => ?_) (fun hle => ?_)
  · refine ok19 _ _ _ ?_
    unfold F19
    exact h2 (by omega) _ w' hf
  · exact h1 (by omega) w' ⟨h.len, h.rest, by unfold maxParts; omega, hb⟩ hf
theorem peek_calls (h : RAt w g s l n) (hs : s.size ≤ 1024) (hR : ∀ w', RAt w' g s (skip l) n → Fm (· = g) w w' → R (.returned (.int .u8 (hd (skip l) : Int))) w') :
    Calls Try.prog 34 #[.pointer (some ⟨g, 0, none⟩)] w R := by
  refine ok34 _ ?_
  unfold F34
  refine ⟨fun w1 => RAt w1 g s (skip l) n ∧ Fm (· = g) w w1, ?_, fun w1 => ∃ l1, RAt w1 g s l1 n ∧ skip l1 = skip l ∧ Fm (· = g) w w1, fun w1 => match w1.cell? ⟨g, 1, none⟩ with | some (.int _ k) => s.size - k.toNat | _ => 0, ⟨l, h, rfl, Fm.refl _ _⟩, ?_⟩
  · rintro w1 ⟨h1, hf⟩
    unfold F34_j3
    refine dr fun w2 hb _ => ?_
    have h2 := h1.below hb
    have hf2 := hf.tr hb
    simp only [NonNil_some, h2.blk.cell, Addr.add_mk, List.getElem?_toArray, List.getElem?_cons_zero, List.getElem?_cons_succ, LdI_some, LdB_some, LdStr_some, LdP_some, LdSl_some, LdM_some, Nat.zero_add, Br_t, Br_f]
    cases hsk : skip l with
    | nil =>
      rw [hsk] at h2
      have e := h2.size0
      rw [hsk] at hR
      rw [e, Br_t]
      exact hR w2 h2 hf2
    | cons c r =>
      rw [hsk] at h2 hR
      obtain ⟨k1, k2⟩ := h2.get
      have e : (((s.size - (c :: r).length : Nat) : Int) == ((s.size : Nat) : Int)) = false := by simp; omega
      rw [e, Br_f]
      refine dr fun w3 hb3 _ => ?_
      have h3 := h2.below hb3
      simp only [NonNil_some, h3.blk.cell, Addr.add_mk, List.getElem?_toArray, List.getElem?_cons_zero, List.getElem?_cons_succ, LdI_some, LdB_some, LdStr_some, LdP_some, LdSl_some, LdM_some, Nat.zero_add, Br_t, Br_f]
      refine ⟨by omega, c, by simpa using k1, hR w3 h3 (hf2.tr hb3)⟩
  · rintro w1 ⟨l1, h1, hsk, hf⟩
    unfold F34_l1
    refine ⟨fun w2 => ∃ r, l1 = 32 :: r ∧ RAt w2 g s l1 n ∧ Fm (· = g) w w2, ?_, ?_⟩
    · rintro w2 ⟨r, rfl, h2, hf2⟩
      unfold F34_j2
      refine adv h2 hs fun w3 h3 hf3 => ⟨⟨r, h3, by rw [← hsk]; rfl, hf2.trans hf3⟩, ?_⟩
      dsimp only
      rw [h3.blk.cell, h1.blk.cell]
      have := h3.len
      have := h2.len
      simp at *; omega
    · refine dr fun w2 hb _ => ?_
      have h2 := h1.below hb
      have hf2 := hf.tr hb
      simp only [NonNil_some, h2.blk.cell, Addr.add_mk, List.getElem?_toArray, List.getElem?_cons_zero, List.getElem?_cons_succ, LdI_some, LdB_some, LdStr_some, LdP_some, LdSl_some, LdM_some, Nat.zero_add, Br_t, Br_f]
      cases l1 with
      | nil =>
        rw [show skip l = [] from hsk.symm]
        refine brd (fun hlt => ?_) (fun _ => ⟨h2, hf2⟩)
        simp at hlt
      | cons c r =>
        obtain ⟨k1, k2⟩ := h2.get
        refine brd (fun _ => ?_) (fun hge => by omega)
        refine ⟨by omega, c, by simpa using k1, ?_⟩
        refine bre (fun he => ?_) (fun hne => ?_)
        · have : c = 32 := by
            rw [← UInt8.toNat_inj]
            have : c.toNat = 32 := by omega
            rw [this]; rfl
          subst this
          exact ⟨r, rfl, h2, hf2⟩
        · have hc : c ≠ 32 := by rintro rfl; exact hne rfl
          rw [skip_cons hc] at hsk
          rw [← hsk]
          exact ⟨h2, hf2⟩
theorem ends_calls (h : RAt w g s l n) (hs : s.size ≤ 1024) (hR : ∀ w', RAt w' g s (skip l) n → Fm (· = g) w w' → R (.returned (.bool (skip l).isEmpty)) w') :
    Calls Try.prog 18 #[.pointer (some ⟨g, 0, none⟩)] w R := by
  refine ok18 _ ?_
  unfold F18
  refine peek_calls h hs fun w1 h1 hf => ⟨_, rfl, ?_⟩
  refine dr fun w2 hb _ => ?_
  have h2 := h1.below hb
  simp only [NonNil_some, h2.blk.cell, Addr.add_mk, List.getElem?_toArray, List.getElem?_cons_zero, List.getElem?_cons_succ, LdI_some, LdB_some, LdStr_some, LdP_some, LdSl_some, LdM_some, Nat.zero_add, Br_t, Br_f]
  cases hsk : skip l with
  | nil =>
    rw [hsk] at h2 hR
    rw [h2.size0]
    exact hR w2 h2 (hf.tr hb)
  | cons c r =>
    rw [hsk] at h2 hR
    have e : (((s.size - (c :: r).length : Nat) : Int) == ((s.size : Nat) : Int)) = false := by have := h2.get.2; simp; omega
    rw [e]
    exact hR w2 h2 (hf.tr hb)
end
end Go.Proofs.Ytkmoeokfgkmlhaa
